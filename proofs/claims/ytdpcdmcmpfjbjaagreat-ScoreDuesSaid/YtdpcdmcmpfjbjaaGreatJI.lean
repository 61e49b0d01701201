/- Plain laws of Go's insertion sort: where the list rises, it is core's mergeSort by the order that breaks ties by the place; Walks: the library's sorts by a comparison: slices.SortFunc, slices.SortStableFunc of at most 20 numbers; Walks: slices.Compare, cmp.Or, at; The plain meaning of championships; comparisons that are orders; Walks: the two comparisons of Champions; What one keeps across writes: rows, own slices; makes; appends, told where the new slice lies; Walks: Champions. -/
import Derived.Sort.LotA
import Derived.Sort.Lot0
import Derived.Shelf.SlSortCmp.Whole1
import Derived.Test.YtdpcdmcmpfjbjaaGreatJA
import Derived.Test.YtdpcdmcmpfjbjaaGreatShelf
import Derived.Sort.OwnSortedInts
import Derived.LoopN
import Derived.Laws.MakeOwn
import Derived.Test.YtdpcdmcmpfjbjaaGreatJB
import Derived.Deep.DeepCutAuto
import Derived.Deep.RegionLaw
/- Plain laws of Go's insertion sort: where the list rises, it is core's mergeSort by the order that breaks ties by the place. -/
namespace Go.Proofs.YtdpcdmcmpfjbjaaGreat
open Go.Sort
set_option linter.unusedVariables false
set_option linter.unusedSimpArgs false

/-- The order that breaks ties by the place. -/
def tie {α : Type} (lt : α → α → Bool) (f : α → Int) (x y : α) : Bool := lt x y || (!lt y x && decide (f x < f y))
theorem tie_swo {α : Type} {lt : α → α → Bool} (h : SWO lt) (f : α → Int) : SWO (tie lt f) := by
  refine ⟨fun x => ?_, fun x y z => ?_, fun x y z => ?_⟩
  · simp [tie, h.irrefl]
  · unfold tie
    have t1 := h.trans x y z
    have n1 := h.ntrans z y x
    have n2 := h.ntrans x z y
    have n3 := h.ntrans y x z
    have t2 := h.trans z x y
    have t3 := h.trans y z x
    cases a : lt x y <;> cases b : lt y z <;> cases c : lt x z <;> cases d : lt y x <;> cases e : lt z y <;> cases g : lt z x <;> simp_all
    all_goals omega
  · unfold tie
    have t1 := h.trans x y z
    have n1 := h.ntrans z y x
    have n2 := h.ntrans x z y
    have n3 := h.ntrans y x z
    have n4 := h.ntrans x y z
    have n5 := h.ntrans y z x
    have n6 := h.ntrans z x y
    have t2 := h.trans z x y
    have t3 := h.trans y z x
    cases a : lt x y <;> cases b : lt y z <;> cases c : lt x z <;> cases d : lt y x <;> cases e : lt z y <;> cases g : lt z x <;> simp_all
    all_goals omega
theorem tie_total {α : Type} {lt : α → α → Bool} (f : α → Int) (hf : ∀ x y, f x = f y → x = y) : ∀ x y, tie lt f x y = false → tie lt f y x = false → x = y := by
  intro x y h1 h2
  unfold tie at h1 h2
  refine hf x y ?_
  cases a : lt x y <;> cases b : lt y x <;> simp_all
  omega

section
variable {α : Type} [Inhabited α]
theorem insInner_alike (lt lt' : α → α → Bool) (f : α → Int) (h : ∀ x y, f y < f x → lt' x y = lt x y) : ∀ (j : Nat) (d : Array α), j < d.size → (∀ t, t < j → f d[t]! < f d[j]!) →
    insInner lt 0 j d = insInner lt' 0 j d ∧ (insInner lt' 0 j d).size = d.size ∧ (∀ s, j < s → (insInner lt' 0 j d)[s]! = d[s]!) ∧ ∀ t, t ≤ j → ∃ t', t' ≤ j ∧ (insInner lt' 0 j d)[t]! = d[t']! := by
  intro j
  induction j with
  | zero => intro d _ _; exact ⟨rfl, rfl, fun _ _ => rfl, fun t ht => ⟨t, ht, rfl⟩⟩
  | succ j ih =>
    intro d hj hr
    have e := h d[j + 1]! d[j]! (hr j (Nat.lt_succ_self _))
    unfold insInner
    rw [e]
    by_cases hc : (decide (j + 1 > 0) && lt d[j + 1]! d[j]!) = true
    · rw [if_pos hc, if_pos hc]
      have hsw := size_swp d (j + 1) j
      have hl : (swp d (j + 1) j)[j + 1]! = d[j]! := swp_left d (j + 1) j hj (by omega)
      have hr2 : (swp d (j + 1) j)[j]! = d[j + 1]! := swp_right d (j + 1) j (by omega)
      obtain ⟨h1, h2, h3, h4⟩ := ih (swp d (j + 1) j) (by rw [hsw]; omega) (fun t ht => by
        rw [swp_other d (j + 1) j t (by omega) (by omega), hr2]
        exact hr t (by omega))
      refine ⟨h1, by rw [h2, hsw], fun s hs => ?_, fun t ht => ?_⟩
      · rw [h3 s (by omega), swp_other d (j + 1) j s (by omega) (by omega)]
      · by_cases ht1 : t = j + 1
        · subst ht1
          exact ⟨j, by omega, by rw [h3 (j + 1) (by omega), hl]⟩
        · obtain ⟨t', ht', e'⟩ := h4 t (by omega)
          by_cases e1 : t' = j
          · exact ⟨j + 1, Nat.le_refl _, by rw [e', e1, hr2]⟩
          · exact ⟨t', by omega, by rw [e', swp_other d (j + 1) j t' (by omega) (by omega)]⟩
    · rw [if_neg hc, if_neg hc]
      exact ⟨rfl, rfl, fun _ _ => rfl, fun t ht => ⟨t, ht, rfl⟩⟩

theorem insOuter_alike (lt lt' : α → α → Bool) (f : α → Int) (h : ∀ x y, f y < f x → lt' x y = lt x y) (b : Nat) : ∀ (n i : Nat) (d : Array α), b - i = n → b ≤ d.size → (∀ t s, t < i → i ≤ s → s < b → f d[t]! < f d[s]!) → (∀ s s', i ≤ s → s < s' → s' < b → f d[s]! < f d[s']!) →
    insOuter lt 0 b i d = insOuter lt' 0 b i d := by
  intro n
  induction n with
  | zero =>
    intro i d hn _ _ _
    unfold insOuter
    rw [if_neg (by omega), if_neg (by omega)]
  | succ n ih =>
    intro i d hn hb h1 h2
    unfold insOuter
    rw [if_pos (by omega), if_pos (by omega)]
    obtain ⟨e, e2, e3, e4⟩ := insInner_alike lt lt' f h i d (by omega) (fun t ht => h1 t i ht (Nat.le_refl _) (by omega))
    rw [e]
    refine ih (i + 1) _ (by omega) (by rw [e2]; exact hb) (fun t s ht hs hsb => ?_) (fun s s' hs hss hsb => ?_)
    · obtain ⟨t', ht', et⟩ := e4 t (by omega)
      rw [et, e3 s (by omega)]
      by_cases c : t' = i
      · rw [c]; exact h2 i s (Nat.le_refl _) (by omega) hsb
      · exact h1 t' s (by omega) (by omega) hsb
    · rw [e3 s (by omega), e3 s' (by omega)]
      exact h2 s s' (by omega) hss hsb

/-- Of a rising list, Go's insertion sort makes what core's mergeSort makes by that order. -/
theorem insertion_stable {lt : α → α → Bool} (h : SWO lt) (f : α → Int) (hf : ∀ x y, f x = f y → x = y) (l : List α) (hl : ∀ i j, i < j → j < l.length → f l.toArray[i]! < f l.toArray[j]!) :
    (insertionSort lt l.toArray 0 l.length).toList = l.mergeSort fun x y => !tie lt f y x := by
  have e : insertionSort lt l.toArray 0 l.length = insertionSort (tie lt f) l.toArray 0 l.length := by
    unfold insertionSort
    refine insOuter_alike lt (tie lt f) f (fun x y hxy => ?_) l.length _ 1 l.toArray rfl (by simp) (fun t s ht hs hsb => hl t s (by omega) hsb) (fun s s' _ hss hsb => hl s s' hss hsb)
    unfold tie
    rw [decide_eq_false (by omega), Bool.and_false, Bool.or_false]
  rw [e]
  obtain ⟨hp, hs⟩ := insertionSort_holds (tie_swo h f) l.toArray 0 l.length (Nat.zero_le _) (by simp)
  have := sorted_unique_holds (tie_swo h f) (tie_total f hf) l.toArray _ (by simpa using hp) (by simpa using hs)
  simpa using this
end
end Go.Proofs.YtdpcdmcmpfjbjaaGreat
/- Walks: the library's sorts by a comparison: slices.SortFunc, slices.SortStableFunc of at most 20 numbers. -/
namespace Go.Proofs.YtdpcdmcmpfjbjaaGreat
open Go.RowKit Go.Sort Go.Lib
set_option linter.unusedVariables false
set_option linter.unusedSimpArgs false
attribute [local go_sem] Later.cell Later.frozen Later.size Later.ne Later.cell1 Later.cell2 Later.cell3 Later.size1 Later.size2 Later.size3 Later.ne1 Later.ne2 Later.ne3

theorem oneCell_ints {α : Type} (f : α → Int) : OneCell (fun x => Value.int .i64 (f x)) := by
  intro x; rfl
section
variable {α : Type} [Inhabited α]
theorem putRow_ints (f : α → Int) (w : World) (blk off : Nat) (d : Array α) : putRow (fun x => Value.int .i64 (f x)) w blk off d = putRow (Value.int .i64) w blk off (d.map f) := by
  unfold putRow
  refine mapBlock_congr w blk _ _ fun c e fr _ => ?_
  unfold putCells
  refine Array.ext_getElem? fun i => ?_
  simp only [Array.getElem?_mapIdx, Array.size_map]
  congr 1
  funext x
  split
  · next h => 
    have hi : i - off < d.size := by omega
    rw [getElem!_pos d (i - off) hi, getElem!_pos (d.map f) (i - off) (by simpa using hi), Array.getElem_map]
  · rfl
theorem sortWorld_ints (f : α → Int) (w : World) (blk off m : Nat) (d : Array α) (os : Array Obj) : sortWorld (fun x => Value.int .i64 (f x)) w blk off m d os = sortWorld (Value.int .i64) w blk off m (d.map f) os := by
  unfold sortWorld; rw [putRow_ints]
theorem holds_ints {f : α → Int} {w : World} {g : Nat} {cur : Array Value} {e : TypeId} {l : List α} (hb : w.heap[g]? = some (.cells cur e (0, 0))) (ht : cur.toList.take l.length = l.map fun x => Value.int .i64 (f x)) : Holds (fun x => Value.int .i64 (f x)) w g 0 l.toArray := by
  intro j hj
  have hj' : j < l.length := by simpa using hj
  refine ⟨?_, by simp [World.frozen?, hb]⟩
  have h1 : (cur.toList.take l.length)[j]? = (l.map fun x => Value.int .i64 (f x))[j]? := by rw [ht]
  rw [List.getElem?_take_of_lt hj'] at h1
  simp only [World.cell?, hb, Nat.zero_add]
  simp only [Option.isSome_none, Bool.false_eq_true, if_false]
  rw [← Array.getElem?_toList, h1]
  simp [hj']

/-- What a comparison owes: in every world that is as w but for the row that is sorted. -/
def CmpOK (P : Program) (g : Nat) (cb : Array Value) (f : α → Int) (cf : α → α → Int) (w : World) (row : Option Nat) : Prop :=
  ∀ W, w.grownBy W row → ∀ x y : α, Calls P g (#[.int .i64 (f x), .int .i64 (f y)] ++ cb) W fun e w' => e = .returned (.int .i64 (cf x y)) ∧ ∃ q os', w' = grow (W.drewN q) os'

theorem CmpOK.lays {P : Program} {g : Nat} {cb : Array Value} {f : α → Int} {cf : α → α → Int} {w : World} {blk n : Nat} (h : CmpOK P g cb f cf w (some blk)) : CmpLays1 P g cb (fun x => Value.int .i64 (f x)) cf blk 0 n w := by
  intro m os dk _ x y
  refine h _ ?_ x y
  rw [sortWorld_ints]
  exact grownBy_sortedI _

theorem c_sortFunc (f : α → Int) (cf : α → α → Int) (hO : SWO (ltOf cf)) (hT : ∀ x y, ltOf cf x y = false → ltOf cf y x = false → x = y) (g : Nat) (cb : Array Value) (eg : ∀ args w, (callFunc g args).run Tryz.prog w = .ok (.enter g args) w)
    (base : Nat) (v : Value) (l : List α) (w : World) (h : OwnI w base v (l.map f)) (hn : l.length ≤ 1000000) (hcmp : CmpOK Tryz.prog g cb f cf w v.ownBlock) :
    Calls Tryz.prog 68 #[v, .func (.func g) #[] cb] w fun e w' => e = .returned (.tuple #[]) ∧ OwnI w' base v ((l.mergeSort fun x y => !ltOf cf y x).map f) ∧ w.grownBy w' v.ownBlock := by
  rcases h.2 with ⟨rfl, hl⟩ | ⟨b, cap, cur, rfl, hb, hg, hc, hm, hs, ht⟩
  · have : l = [] := List.length_eq_zero_iff.1 (by simpa using hl)
    subst this
    refine (Tryz.slices_SortFunc_none (α := α) none 0 _ w).mono fun e w' ⟨he, hw⟩ => ⟨he, by rw [hw]; simpa using OwnI.nil w base, by rw [hw]; exact World.grownBy.refl _ _⟩
  · rw [Nat.mul_one, List.length_map] at ht
    rw [List.map_map] at ht
    have := Tryz.slices_SortFunc_total (fun x => Value.int .i64 (f x)) (oneCell_ints f) cf hO g cb b 0 cap l.toArray w eg hcmp.lays (holds_ints hg ht) (Array.getElem?_eq_some_iff.1 hg).1 (by simp; omega) hT
    rw [List.length_map]
    simp only [List.size_toArray] at this
    refine this.mono ?_
    rintro e w' ⟨he, n, os, rfl⟩
    rw [sortWorld_ints]
    have hlen : ((l.mergeSort fun x y => !ltOf cf y x).map f).length = (l.map f).length := by simp
    have hr := ownsRow_sortedI (w := w) (n := n) (os := os) (e := 3) hlen hb hg hc hm hs
    refine ⟨he, ?_, grownBy_sortedI _⟩
    unfold OwnI
    rw [hlen]
    simpa [sortWorld] using hr

theorem insertion_none (lt : α → α → Bool) (d : Array α) (a : Nat) : insertionSort lt d a a = d := by
  unfold insertionSort insOuter
  rw [if_neg (by omega)]

set_option maxHeartbeats 1000000 in
theorem c_stableRow (f : α → Int) (cf : α → α → Int) (hO : SWO (ltOf cf)) (g : Nat) (cb : Array Value) (eg : ∀ args w, (callFunc g args).run Tryz.prog w = .ok (.enter g args) w)
    (b cap : Nat) (d : Array α) (w : World) (hH : Holds (fun x => Value.int .i64 (f x)) w b 0 d) (hb : b < w.heap.size) (hn : d.size ≤ 20) (h0 : 0 < d.size) (hcmp : CmpOK Tryz.prog g cb f cf w (some b)) :
    Calls Tryz.prog 116 #[.slice (some ⟨b, 0, none⟩) d.size cap, .int .i64 (d.size : Nat), .func (.func g) #[] cb] w fun e w' => e = .returned (.tuple #[]) ∧ SW (fun x => Value.int .i64 (f x)) w b 0 (insertionSort (ltOf cf) d 0 d.size) w' := by
  have R : Row1 (fun x => Value.int .i64 (f x)) w b 0 d := ⟨oneCell_ints f, hH, hb⟩
  have HS := Lib.hid (fun (d' : Array α) (a e : Nat) (W : World) (hd : d'.size = d.size) (S : SW (fun x => Value.int .i64 (f x)) w b 0 d' W) (hae : a ≤ e) (he : e ≤ d.size) => (by
    have := Tryz.insertionSortCmpFunc_s (fun x => Value.int .i64 (f x)) cf g cb b 0 cap a e d d' w W eg hcmp.lays R hd.symm S hae (by rw [hd]; exact he) (by omega)
    rwa [hd] at this :
    Calls Tryz.prog 128 #[.slice (some ⟨b, 0, none⟩) d.size cap, .int .i64 (a : Nat), .int .i64 (e : Nat), .func (.func g) #[] cb] W fun e' w' => e' = .returned (.tuple #[]) ∧ SW (fun x => Value.int .i64 (f x)) w b 0 (insertionSort (ltOf cf) d' a e) w'))
  have S0 := Lib.hid (SW.start hH)
  by_cases h20 : d.size = 20
  · clear hcmp R hH eg
    have H1 := HS.out d 0 20 w rfl S0.out (Nat.zero_le _) (by omega)
    have H2 := HS.out (insertionSort (ltOf cf) d 0 20) 20 20
    generalize hdn : d.size = n at *
    subst h20
    have HDN := Lib.hid hdn
    clear hdn HS
    simp only [Int.natCast_zero, Int.cast_ofNat_Int, insertion_none] at H1 H2
    have H1 := Lib.hid H1
    have H2 := Lib.hid H2
    go_enter Tryz.func116, Tryz.ntmps116
    go_wp2_with fail
    refine wp_loop_rounds 2 ?_
    rw [rounds_succ]
    go_wp2_with fail
    refine H1.out.mono ?_
    rintro e w' ⟨rfl, S1⟩
    have S1 := Lib.hid S1
    go_wp2_with fail
    rw [rounds_succ]
    go_wp2_with fail
    refine (H2.out w' ?_ S1.out (by omega) (by omega)).mono ?_
    · have := (insertionSort_holds hO d 0 20 (by omega) (by rw [HDN.out]; omega)).1.1
      rw [this, HDN.out]
    rintro e w' ⟨rfl, S2⟩
    have S2 := Lib.hid S2
    go_wp2_with fail
    refine wp_loop_rounds 1 ?_
    rw [rounds_succ]
    go_wp2_with fail
    go_end0
    exact ⟨rfl, S2.out⟩
  · have hlt : ¬ (20 : Int) ≤ (d.size : Int) := by omega
    have hlt2 : ¬ (20 : Int) < (d.size : Int) := by omega
    clear hcmp R hH eg h20
    have H1 := HS.out d 0 d.size w rfl S0.out (Nat.zero_le _) (Nat.le_refl _)
    generalize hdn : d.size = n at *
    simp only [Int.natCast_zero] at H1
    have H1 := Lib.hid H1
    clear hdn HS
    go_enter Tryz.func116, Tryz.ntmps116
    go_wp2_with fail
    refine wp_loop_rounds 1 ?_
    rw [rounds_succ]
    go_wp2_with fail
    refine H1.out.mono ?_
    rintro e w' ⟨rfl, S1⟩
    have S1 := Lib.hid S1
    go_wp2_with fail
    refine wp_loop_rounds 1 ?_
    rw [rounds_succ]
    go_wp2_with fail
    go_end0
    exact ⟨rfl, S1.out⟩

set_option maxHeartbeats 1000000 in
/-- slices.SortStableFunc of at most 20 numbers of the call's own, which rise. -/
theorem c_stable (f : α → Int) (hf : ∀ x y, f x = f y → x = y) (cf : α → α → Int) (hO : SWO (ltOf cf)) (g : Nat) (cb : Array Value) (eg : ∀ args w, (callFunc g args).run Tryz.prog w = .ok (.enter g args) w)
    (base : Nat) (v : Value) (l : List α) (hl : ∀ i j, i < j → j < l.length → f l.toArray[i]! < f l.toArray[j]!) (w : World) (h : OwnI w base v (l.map f)) (hn : l.length ≤ 20) (h0 : 0 < l.length) (hcmp : CmpOK Tryz.prog g cb f cf w v.ownBlock) :
    Calls Tryz.prog 76 #[v, .func (.func g) #[] cb] w fun e w' => e = .returned (.tuple #[]) ∧ OwnI w' base v ((l.mergeSort fun x y => !tie (ltOf cf) f y x).map f) ∧ w.grownBy w' v.ownBlock := by
  rcases h.2 with ⟨rfl, hln⟩ | ⟨b, cap, cur, rfl, hb, hg, hc, hm, hs, ht⟩
  · rw [List.length_map] at hln; omega
  · rw [Nat.mul_one, List.length_map] at ht
    rw [List.map_map] at ht
    have hcall := c_stableRow f cf hO g cb eg b cap l.toArray w (holds_ints hg ht) (Array.getElem?_eq_some_iff.1 hg).1 (by simpa using hn) (by simpa using h0) hcmp
    simp only [List.size_toArray] at hcall
    have HC := Lib.hid hcall
    have HR : Hid (∀ w', SW (fun x => Value.int .i64 (f x)) w b 0 (insertionSort (ltOf cf) l.toArray 0 l.length) w' → OwnI w' base (.slice (some ⟨b, 0, none⟩) (l.map f).length cap) ((l.mergeSort fun x y => !tie (ltOf cf) f y x).map f) ∧ w.grownBy w' (some b)) := by
      rintro w' ⟨n, os, rfl⟩
      rw [sortWorld_ints]
      have hlen : ((l.mergeSort fun x y => !tie (ltOf cf) f y x).map f).length = (l.map f).length := by simp
      have hr := ownsRow_sortedI (w := w) (n := n) (os := os) (e := 3) hlen hb hg hc hm hs
      refine ⟨?_, grownBy_sortedI _⟩
      unfold OwnI
      rw [hlen]
      have e : (insertionSort (ltOf cf) l.toArray 0 l.length).map f = ((l.mergeSort fun x y => !tie (ltOf cf) f y x).map f).toArray := by
        rw [← insertion_stable hO f hf l hl, ← Array.toList_map]
      rw [e]
      exact hr
    clear hcall hcmp eg h
    rw [List.length_map]
    rw [List.length_map] at HR
    generalize insertionSort (ltOf cf) l.toArray 0 l.length = D at *
    generalize (l.mergeSort fun x y => !tie (ltOf cf) f y x).map f = M at *
    generalize l.length = n at *
    clear ht hl hf
    go_enter Tryz.func76, Tryz.ntmps76
    go_wp2_with fail
    refine HC.out.mono ?_
    rintro e w' ⟨rfl, S⟩
    have S := Lib.hid S
    go_wp2_with fail
    go_end0
    exact ⟨rfl, HR.out _ S.out⟩
end
end Go.Proofs.YtdpcdmcmpfjbjaaGreat
/- Walks: slices.Compare, cmp.Or, at. -/
namespace Go.Proofs.YtdpcdmcmpfjbjaaGreat
open Go.RowKit
set_option linter.unusedVariables false
set_option linter.unusedSimpArgs false
attribute [local go_sem] Later.cell Later.frozen Later.size Later.ne Later.cell1 Later.cell2 Later.cell3 Later.size1 Later.size2 Later.size3 Later.ne1 Later.ne2 Later.ne3

/-- Two numbers compared: less than 0, 0, greater than 0. -/
def cmpI (x y : Int) : Int := if x < y then -1 else if y < x then 1 else 0
theorem cmpI_lib (x y : Int) : Lib.compareInt x y = cmpI x y := by
  unfold cmpI Lib.compareInt
  repeat' split
  all_goals first | rfl | omega
theorem cmpI_zero {x y : Int} : cmpI x y = 0 ↔ x = y := by
  unfold cmpI; repeat' split
  all_goals omega
/-- Two lists compared, number by number from place k on. -/
def cmpFrom (a b : List Int) : Nat → Nat → Int
  | 0, k => if a.length < b.length then -1 else 0
  | n + 1, k => if b.length ≤ k then 1 else if cmpI (nth a k) (nth b k) = 0 then cmpFrom a b n (k + 1) else cmpI (nth a k) (nth b k)
def cmpL (a b : List Int) : Int := cmpFrom a b a.length 0

set_option maxHeartbeats 1000000 in
theorem c_cmpL (A B : Option Addr) (c d : Nat) (a b : List Int) (w : World) (ha : Ints w A c a) (hb : Ints w B d b) :
    Calls Tryz.prog 74 #[.slice A a.length c, .slice B b.length d] w fun e w' => e = .returned (.int .i64 (cmpL a b)) ∧ w' = w := by
  have HA := Lib.hid ha
  have HB := Lib.hid hb
  have ham := ha.2.1
  have hbm := hb.2.1
  have HC : Hid (∀ x y : Int, ∀ w : World, Calls Tryz.prog 71 #[.int .i64 x, .int .i64 y] w fun e w' => e = .returned (.int .i64 (cmpI x y)) ∧ w' = w) := Lib.hid fun x y w => by
    rw [← cmpI_lib]; exact Tryz.cmp_Compare_int x y w
  have HL := Lib.hid (show cmpL a b = cmpFrom a b a.length 0 from rfl)
  clear ha hb
  generalize cmpL a b = R at *
  go_enter Tryz.func74, Tryz.ntmps74
  go_wp2_with fail
  go_loop [11] (fun t => ∃ k : Nat, t = .int .i64 k ∧ k ≤ a.length ∧ Hid (R = cmpFrom a b (a.length - k) k)) (fun t => a.length - (intOf t).toNat)
  case atStart => exact ⟨0, rfl, Nat.zero_le _, HL⟩
  case round =>
    clear HL
    obtain ⟨k, rfl, hk, HL⟩ := hrel
    by_cases hlt : k < a.length
    · have hlz : (k : Int) < a.length := by omega
      obtain ⟨b1, o1, rfl, hbl1, hc1⟩ := HA.out.at_ k hlt
      have HS : Hid (R = if b.length ≤ k then 1 else if cmpI (nth a k) (nth b k) = 0 then cmpFrom a b (a.length - (k + 1)) (k + 1) else cmpI (nth a k) (nth b k)) := by
        have := HL.out
        rw [show a.length - k = (a.length - (k + 1)) + 1 by omega] at this
        exact Lib.hid this
      by_cases hb : b.length ≤ k
      · have hbz : decide ((b.length : Int) ≤ (k : Int)) = true := by rw [decide_eq_true_iff]; omega
        have HF : Hid (R = 1) := by rw [HS.out, if_pos hb]; exact Lib.hid rfl
        go_wp2_with fail
        go_ret
        exact ⟨ret_int HF.out.symm, rfl⟩
      · have hbz : decide ((b.length : Int) ≤ (k : Int)) = false := by rw [decide_eq_false_iff_not]; omega
        have hbl : k < b.length := by omega
        have hblz : (k : Int) < b.length := by omega
        obtain ⟨b2, o2, rfl, hbl2, hc2⟩ := HB.out.at_ k hbl
        by_cases h0 : cmpI (nth a k) (nth b k) = 0
        · have HF : Hid (R = cmpFrom a b (a.length - (k + 1)) (k + 1)) := by rw [HS.out, if_neg hb, if_pos h0]; exact Lib.hid rfl
          have h0b : (cmpI (nth a k) (nth b k) != 0) = false := by rw [h0]; rfl
          clear h0
          go_wp2_with (first | (go_at_call 71; refine (HC.out _ _ _).mono ?_; rintro e w' ⟨rfl, rfl⟩) | fail)
          go_round
          case rel => exact ⟨k + 1, by go_num, by omega, HF⟩
          case measure => simp [intOf]; omega
        · have HF : Hid (R = cmpI (nth a k) (nth b k)) := by rw [HS.out, if_neg hb, if_neg h0]; exact Lib.hid rfl
          have h0b : (cmpI (nth a k) (nth b k) != 0) = true := by rw [bne_iff_ne]; exact h0
          clear h0
          go_wp2_with (first | (go_at_call 71; refine (HC.out _ _ _).mono ?_; rintro e w' ⟨rfl, rfl⟩) | fail)
          go_ret
          exact ⟨ret_int HF.out.symm, rfl⟩
    · have hke : k = a.length := by omega
      subst hke
      have HF : Hid (R = if a.length < b.length then -1 else 0) := by have := HL.out; rw [Nat.sub_self] at this; exact Lib.hid this
      by_cases hab : a.length < b.length
      · have hz : decide ((a.length : Int) < (b.length : Int)) = true := by rw [decide_eq_true_iff]; omega
        have HG : Hid (R = -1) := by rw [HF.out, if_pos hab]; exact Lib.hid rfl
        go_wp2_with fail
        go_ret
        exact ⟨ret_int HG.out.symm, rfl⟩
      · have hz : decide ((a.length : Int) < (b.length : Int)) = false := by rw [decide_eq_false_iff_not]; omega
        have HG : Hid (R = 0) := by rw [HF.out, if_neg hab]; exact Lib.hid rfl
        go_wp2_with fail
        go_ret
        exact ⟨ret_int HG.out.symm, rfl⟩

/-- cmp.Or of two numbers. -/
def orI (x y : Int) : Int := if x = 0 then y else x
set_option maxHeartbeats 1000000 in
theorem c_or (B : Nat) (x y : Int) (w : World) (h0 : w.cell? ⟨B, 0, none⟩ = some (.int .i64 x)) (h1 : w.cell? ⟨B, 1, none⟩ = some (.int .i64 y)) :
    Calls Tryz.prog 85 #[.slice (some ⟨B, 0, none⟩) 2 2] w fun e w' => e = .returned (.int .i64 (orI x y)) ∧ w' = w := by
  by_cases hx : x = 0
  · have hxb : (x != 0) = false := by rw [hx]; rfl
    rw [show orI x y = y from if_pos hx]
    clear hx
    by_cases hy : y = 0
    · have hyb : (y != 0) = false := by rw [hy]; rfl
      have HY := Lib.hid hy
      clear hy
      go_enter Tryz.func85, Tryz.ntmps85
      go_wp2_with fail
      refine wp_loop_rounds 3 ?_
      rw [rounds_succ]
      go_wp2_with fail
      rw [rounds_succ]
      go_wp2_with fail
      rw [rounds_succ]
      go_wp2_with fail
      go_ret
      exact ⟨ret_int HY.out.symm, rfl⟩
    · have hyb : (y != 0) = true := by rw [bne_iff_ne]; exact hy
      clear hy
      go_enter Tryz.func85, Tryz.ntmps85
      go_wp2_with fail
      refine wp_loop_rounds 2 ?_
      rw [rounds_succ]
      go_wp2_with fail
      rw [rounds_succ]
      go_wp2_with fail
      go_ret
      exact ⟨rfl, rfl⟩
  · have hxb : (x != 0) = true := by rw [bne_iff_ne]; exact hx
    rw [show orI x y = x from if_neg hx]
    clear hx
    go_enter Tryz.func85, Tryz.ntmps85
    go_wp2_with fail
    refine wp_loop_rounds 1 ?_
    rw [rounds_succ]
    go_wp2_with fail
    go_ret
    exact ⟨rfl, rfl⟩

/-- An element of a list, 0 beyond its end. -/
def atP (l : List Int) (i : Nat) : Int := if l.length ≤ i then 0 else nth l i
set_option maxHeartbeats 1000000 in
theorem c_at (A : Option Addr) (c : Nat) (l : List Int) (i : Nat) (w : World) (h : Ints w A c l) :
    Calls Tryz.prog 78 #[.slice A l.length c, .int .i64 (i : Nat)] w fun e w' => e = .returned (.int .i64 (atP l i)) ∧ w' = w := by
  have hm := h.2.1
  by_cases hi : l.length ≤ i
  · rw [show atP l i = 0 from if_pos hi]
    have hz : decide ((l.length : Int) ≤ (i : Int)) = true := by rw [decide_eq_true_iff]; omega
    clear h
    go_enter Tryz.func78, Tryz.ntmps78
    go_wp2_with fail
    go_ret
    exact ⟨rfl, rfl⟩
  · rw [show atP l i = nth l i from if_neg hi]
    have hz : decide ((l.length : Int) ≤ (i : Int)) = false := by rw [decide_eq_false_iff_not]; omega
    have hlt : (i : Int) < l.length := by omega
    obtain ⟨b, o, rfl, hbl, hc⟩ := h.at_ i (by omega)
    clear h
    go_enter Tryz.func78, Tryz.ntmps78
    go_wp2_with fail
    go_ret
    exact ⟨rfl, rfl⟩
end Go.Proofs.YtdpcdmcmpfjbjaaGreat
/- The plain meaning of championships; comparisons that are orders. -/
namespace Go.Proofs.YtdpcdmcmpfjbjaaGreat
open Go.Sort
set_option linter.unusedVariables false
set_option linter.unusedSimpArgs false

/-- A comparison that is an order. -/
structure CmpLaw {α : Type} (c : α → α → Int) : Prop where
  neg : ∀ x y, c x y < 0 ↔ 0 < c y x
  trans : ∀ x y z, c x y ≤ 0 → c y z ≤ 0 → c x z ≤ 0
theorem CmpLaw.swo {α : Type} {c : α → α → Int} (h : CmpLaw c) : SWO (ltOf c) := by
  refine ⟨fun x => ?_, fun x y z => ?_, fun x y z => ?_⟩
  · have := h.neg x x
    unfold ltOf; rw [decide_eq_false_iff_not]; omega
  · unfold ltOf
    rw [decide_eq_true_iff, decide_eq_true_iff, decide_eq_true_iff]
    intro h1 h2
    have a := h.trans x y z (by omega) (by omega)
    have b := h.neg y z
    have d := h.neg z x
    by_cases e : c z x ≤ 0
    · have := h.trans z x y e (by omega)
      omega
    · have := h.neg x z; omega
  · unfold ltOf
    rw [decide_eq_false_iff_not, decide_eq_false_iff_not, decide_eq_false_iff_not]
    intro h1 h2
    have a := h.neg x y
    have b := h.neg y z
    have a' := h.neg y x
    have b' := h.neg z y
    have := h.trans z y x (by omega) (by omega)
    have d := h.neg x z
    omega
theorem CmpLaw.on {α β : Type} {c : β → β → Int} (h : CmpLaw c) (f : α → β) : CmpLaw fun x y => c (f x) (f y) := ⟨fun x y => h.neg _ _, fun x y z => h.trans _ _ _⟩
theorem CmpLaw.flip {α : Type} {c : α → α → Int} (h : CmpLaw c) : CmpLaw fun x y => c y x := ⟨fun x y => h.neg _ _, fun x y z a b => h.trans _ _ _ b a⟩
theorem CmpLaw.or {α : Type} {c d : α → α → Int} (h : CmpLaw c) (k : CmpLaw d) : CmpLaw fun x y => orI (c x y) (d x y) := by
  have hz : ∀ x y, c x y = 0 ↔ c y x = 0 := fun x y => by have := h.neg x y; have := h.neg y x; omega
  refine ⟨fun x y => ?_, fun x y z => ?_⟩
  · unfold orI
    have := h.neg x y; have := h.neg y x; have := k.neg x y; have := hz x y
    split <;> split <;> omega
  · unfold orI
    intro h1 h2
    have t1 := h.trans x y z; have t2 := k.trans x y z
    have t3 := h.trans z x y; have t4 := h.trans y z x
    have n1 := h.neg x y; have n2 := h.neg y x; have n3 := h.neg y z; have n4 := h.neg z y; have n5 := h.neg x z; have n6 := h.neg z x
    split at h1 <;> split at h2 <;> split <;> omega
theorem cmpI_law : CmpLaw cmpI := by
  refine ⟨fun x y => ?_, fun x y z => ?_⟩
  · unfold cmpI; repeat' split
    all_goals omega
  · unfold cmpI; repeat' split
    all_goals omega
/-- Two lists compared. -/
def cmpR : List Int → List Int → Int
  | [], [] => 0
  | [], _ :: _ => -1
  | _ :: _, [] => 1
  | x :: a, y :: b => if cmpI x y = 0 then cmpR a b else cmpI x y
theorem cmpR_law : CmpLaw cmpR := by
  have hn : ∀ a b, cmpR a b < 0 ↔ 0 < cmpR b a := by
    intro a
    induction a with
    | nil => intro b; cases b <;> simp [cmpR]
    | cons x a ih =>
      intro b
      cases b with
      | nil => simp [cmpR]
      | cons y b =>
        have := cmpI_law.neg x y
        have := cmpI_law.neg y x
        have := ih b
        unfold cmpR
        split <;> split <;> omega
  refine ⟨hn, ?_⟩
  intro a
  induction a with
  | nil => intro b c _ _; cases c <;> simp [cmpR]
  | cons x a ih =>
    intro b c
    cases b with
    | nil => intro h _; simp [cmpR] at h
    | cons y b =>
      cases c with
      | nil => intro _ h; simp [cmpR] at h
      | cons z c =>
        have t1 := cmpI_law.trans x y z
        have t3 := cmpI_law.trans z x y
        have t4 := cmpI_law.trans y z x
        have n1 := cmpI_law.neg x y
        have n2 := cmpI_law.neg y x
        have n3 := cmpI_law.neg y z
        have n4 := cmpI_law.neg z y
        have n5 := cmpI_law.neg x z
        have n6 := cmpI_law.neg z x
        have := ih b c
        unfold cmpR
        intro h1 h2
        split at h1 <;> split at h2 <;> split <;> omega
theorem cmpFrom_eq (a b : List Int) : ∀ n k, n + k = a.length → k ≤ b.length → cmpFrom a b n k = cmpR (a.drop k) (b.drop k) := by
  intro n
  induction n with
  | zero =>
    intro k hk hb
    have ha : a.drop k = [] := List.drop_eq_nil_of_le (by omega)
    rw [ha]
    unfold cmpFrom
    by_cases h : a.length < b.length
    · rw [if_pos h, List.drop_eq_getElem_cons (by omega)]
      rfl
    · have hb2 : b.drop k = [] := List.drop_eq_nil_of_le (by omega)
      rw [if_neg h, hb2]; rfl
  | succ n ih =>
    intro k hk hb
    unfold cmpFrom
    rw [List.drop_eq_getElem_cons (by omega : k < a.length)]
    by_cases h : b.length ≤ k
    · have hb2 : b.drop k = [] := List.drop_eq_nil_of_le (by omega)
      rw [if_pos h, hb2]; rfl
    · rw [if_neg h, List.drop_eq_getElem_cons (by omega : k < b.length)]
      rw [nth_eq a k (by omega), nth_eq b k (by omega)]
      show _ = if _ then _ else _
      rw [ih (k + 1) (by omega) (by omega)]
theorem cmpL_eq (a b : List Int) : cmpL a b = cmpR a b := by
  unfold cmpL; rw [cmpFrom_eq a b _ 0 (by omega) (Nat.zero_le _)]; simp

def seasonOK (pts : List (List Int)) (drop : Int) : Prop :=
  pts.length ≤ 500 ∧ 0 ≤ drop ∧ ∀ i, i < pts.length → (nth pts i).length = (nth pts 0).length ∧ drop < (nth pts i).length ∧ ints (nth pts i) 1 40 100000
/-- The points of all rounds, the greatest first. -/
def fallP (l : List Int) : List Int := l.mergeSort fun x y => decide (y ≤ x)
theorem fallP_length (l : List Int) : (fallP l).length = l.length := by simp [fallP]
/-- The total of a competitor. -/
def champT (pts : List (List Int)) (drop i : Nat) : Int := ((fallP (nth pts i)).take ((nth pts i).length - drop)).sum
def champCmp (pts : List (List Int)) (drop a b : Nat) : Int := orI (cmpI (champT pts drop b) (champT pts drop a)) (cmpL (fallP (nth pts b)) (fallP (nth pts a)))
def champLt (pts : List (List Int)) (drop a b : Nat) : Bool := tie (ltOf (champCmp pts drop)) (fun k : Nat => (k : Int)) a b
def champOrder (pts : List (List Int)) (drop : Nat) : List Nat := (List.range pts.length).mergeSort fun x y => !champLt pts drop y x
theorem champ_law (pts : List (List Int)) (drop : Nat) : CmpLaw (champCmp pts drop) := by
  have h1 := (cmpI_law.on (champT pts drop)).flip
  have h2 := (cmpR_law.on (fun i => fallP (nth pts i))).flip
  have := h1.or h2
  have e : champCmp pts drop = fun x y => orI (cmpI (champT pts drop y) (champT pts drop x)) (cmpR (fallP (nth pts y)) (fallP (nth pts x))) := by
    funext x y; unfold champCmp; rw [cmpL_eq]
  rw [e]; exact this
theorem fallP_bd {l : List Int} {m : Int} (h : ∀ i, i < l.length → 0 ≤ nth l i ∧ nth l i ≤ m) (i : Nat) (hi : i < l.length) : 0 ≤ nth (fallP l) i ∧ nth (fallP l) i ≤ m := by
  have hm := nth_mem (fallP l) i (by rw [fallP_length]; exact hi)
  have hm2 : nth (fallP l) i ∈ l := (List.mergeSort_perm _ _).mem_iff.1 hm
  obtain ⟨j, hj, e⟩ := mem_nth hm2
  rw [← e]; exact h j hj
theorem sum_take_succ (l : List Int) (k : Nat) (h : k < l.length) : (l.take (k + 1)).sum = (l.take k).sum + nth l k := by
  rw [take_succ_nth l k h, List.sum_append]; simp
theorem sum_take_bd {l : List Int} {m : Nat} (h : ∀ i, i < l.length → 0 ≤ nth l i ∧ nth l i ≤ m) : ∀ k, k ≤ l.length → 0 ≤ (l.take k).sum ∧ (l.take k).sum ≤ k * m := by
  intro k
  induction k with
  | zero => intro _; simp
  | succ k ih =>
    intro hk
    have h1 := ih (by omega)
    have h2 := h k (by omega)
    rw [sum_take_succ l k (by omega)]
    rw [show (((k + 1 : Nat) : Int) * m) = k * m + m by rw [Int.natCast_add]; simp [Int.add_mul]]
    omega
end Go.Proofs.YtdpcdmcmpfjbjaaGreat
/- Walks: the two comparisons of Champions. -/
namespace Go.Proofs.YtdpcdmcmpfjbjaaGreat
open Go.RowKit Go.Sort
set_option linter.unusedVariables false
set_option linter.unusedSimpArgs false
attribute [local go_sem] Later.cell Later.frozen Later.size Later.ne Later.cell1 Later.cell2 Later.cell3 Later.size1 Later.size2 Later.size3 Later.ne1 Later.ne2 Later.ne3

theorem grow_none (W : World) : W = grow (W.drewN 0) #[] := by rw [grow_empty]; rfl

/-- A number of points. -/
structure Pt where
  val : Int
  bd : 0 ≤ val ∧ val ≤ 100000
theorem Pt.eq {x y : Pt} (h : x.val = y.val) : x = y := by cases x; cases y; cases h; rfl
instance : Inhabited Pt := ⟨⟨0, by omega⟩⟩
def fallCmp (x y : Pt) : Int := y.val - x.val
theorem fallCmp_law : CmpLaw fallCmp := ⟨fun x y => by unfold fallCmp; omega, fun x y z => by unfold fallCmp; omega⟩

set_option maxHeartbeats 400000 in
theorem c_champ1 (x y : Int) (hx : 0 ≤ x ∧ x ≤ 100000) (hy : 0 ≤ y ∧ y ≤ 100000) (w : World) :
    Calls Tryz.prog 83 #[.int .i64 x, .int .i64 y] w fun e w' => e = .returned (.int .i64 (y - x)) ∧ w' = w := by
  have hw : IntKind.i64.wrap (y - x) = y - x := IntWalk.i64_in _ (by omega)
  go_enter Tryz.func83, Tryz.ntmps83
  go_wp2
  go_ret
  exact ⟨rfl, rfl⟩
theorem champ1_ok (w : World) (row : Option Nat) : CmpOK Tryz.prog 83 #[] (fun x : Pt => x.val) fallCmp w row := by
  intro W _ x y
  exact (c_champ1 x.val y.val x.bd y.bd W).mono fun e w' ⟨he, hw⟩ => ⟨he, 0, #[], by rw [hw]; exact grow_none W⟩

/-- A row of rows of numbers, at block F. -/
def RowsF (W : World) (F n : Nat) (G : Nat → List Int) : Prop := ∀ j, j < n → ∃ A c, W.cell? ⟨F, j, none⟩ = some (.slice A (G j).length c) ∧ Ints W A c (G j)
def IntsF (W : World) (T n : Nat) (G : Nat → Int) : Prop := ∀ j, j < n → W.cell? ⟨T, j, none⟩ = some (.int .i64 (G j))

set_option maxHeartbeats 2000000 in
set_option maxRecDepth 100000 in
theorem c_champ2 (pts : List (List Int)) (drop n b9 b10 T F a b : Nat) (W : World) (h9 : W.cell? ⟨b9, 0, none⟩ = some (.slice (some ⟨T, 0, none⟩) n n)) (h10 : W.cell? ⟨b10, 0, none⟩ = some (.slice (some ⟨F, 0, none⟩) n n))
    (hT : IntsF W T n (champT pts drop)) (hF : RowsF W F n fun j => fallP (nth pts j)) (ha : a < n) (hb : b < n) (hn : n ≤ 1000000) :
    Calls Tryz.prog 84 #[.int .i64 (a : Nat), .int .i64 (b : Nat), .pointer (some ⟨b9, 0, none⟩), .pointer (some ⟨b10, 0, none⟩)] W fun e w' => e = .returned (.int .i64 (champCmp pts drop a b)) ∧ ∃ q os', w' = grow (W.drewN q) os' := by
  have ta := hT a ha
  have tb := hT b hb
  obtain ⟨Aa, ca, fa, ia⟩ := hF a ha
  obtain ⟨Ab, cb, fb, ib⟩ := hF b hb
  dsimp only at fa fb ia ib
  have haz : (a : Int) < (n : Int) := by omega
  have hbz : (b : Int) < (n : Int) := by omega
  have HL := Lib.hid (fun (W' : World) (h : Lt W W') => c_cmpL Ab Aa cb ca (fallP (nth pts b)) (fallP (nth pts a)) W' (ib.later h) (ia.later h))
  have HC : Hid (∀ x y : Int, ∀ w : World, Calls Tryz.prog 71 #[.int .i64 x, .int .i64 y] w fun e w' => e = .returned (.int .i64 (cmpI x y)) ∧ w' = w) := Lib.hid fun x y w => by
    rw [← cmpI_lib]; exact Tryz.cmp_Compare_int x y w
  have HR := Lib.hid (show champCmp pts drop a b = orI (cmpI (champT pts drop b) (champT pts drop a)) (cmpL (fallP (nth pts b)) (fallP (nth pts a))) from rfl)
  generalize champCmp pts drop a b = R at *
  generalize champT pts drop a = Ta at *
  generalize champT pts drop b = Tb at *
  generalize fallP (nth pts a) = La at *
  generalize fallP (nth pts b) = Lb at *
  clear hT hF ia ib ha hb
  go_enter Tryz.func84, Tryz.ntmps84
  go_wp2_with fail
  go_region_held3 (fun w1 => w1.cell? ⟨b9, 0, none⟩ = some (.slice (some ⟨T, 0, none⟩) n n) ∧ w1.cell? ⟨b10, 0, none⟩ = some (.slice (some ⟨F, 0, none⟩) n n) ∧ w1.cell? ⟨T, a, none⟩ = some (.int .i64 Ta) ∧ w1.cell? ⟨T, b, none⟩ = some (.int .i64 Tb) ∧ w1.cell? ⟨F, a, none⟩ = some (.slice Aa La.length ca) ∧ w1.cell? ⟨F, b, none⟩ = some (.slice Ab Lb.length cb)) (go_keep)
    (first
      | (go_at_call 71; refine (HC.out _ _ _).mono ?_; rintro e w1 ⟨rfl, rfl⟩)
      | (go_at_call 74; refine (HL.out _ (Lt.refl W).drew).mono ?_; rintro e w1 ⟨rfl, rfl⟩)
      | (go_at_call 85; refine (c_or _ (cmpI Tb Ta) (cmpL Lb La) _ (by simp [go_sem]) (by simp [go_sem])).mono ?_; rintro e w1 ⟨rfl, rfl⟩))
  all_goals
    go_wp2_with fail
    go_ret
    exact ⟨ret_int HR.out.symm, 1, #[_], by rw [alloc_eq_grow]; rfl⟩
end Go.Proofs.YtdpcdmcmpfjbjaaGreat
/- What one keeps across writes: rows, own slices; makes; appends, told where the new slice lies. -/
namespace Go.Proofs.YtdpcdmcmpfjbjaaGreat
open Go.RowKit Go.Sort
set_option linter.unusedVariables false
set_option linter.unusedSimpArgs false
attribute [local go_sem] Later.cell Later.frozen Later.size Later.ne Later.cell1 Later.cell2 Later.cell3 Later.size1 Later.size2 Later.size3 Later.ne1 Later.ne2 Later.ne3

theorem grown_cell {W W' : World} {row : Option Nat} (hg : W.grownBy W' row) {b o : Nat} {v : Value} (h : W.cell? ⟨b, o, none⟩ = some v) (hb : some b ≠ row) : W'.cell? ⟨b, o, none⟩ = some v :=
  (World.cell?_of_block (a := ⟨b, o, none⟩) (hg.block b (World.block_lt_of_cell? W _ h) hb)).trans h
theorem grown_free {W W' : World} {row : Option Nat} (hg : W.grownBy W' row) {b o : Nat} (hl : b < W.heap.size) (h : W.frozen? ⟨b, o, none⟩ = false) (hb : some b ≠ row) : W'.frozen? ⟨b, o, none⟩ = false :=
  (World.frozen?_of_block (a := ⟨b, o, none⟩) (hg.block b hl hb)).trans h
theorem Ints.grown {W W' : World} {row : Option Nat} {A : Option Addr} {c : Nat} {xs : List Int} (h : Ints W A c xs) (hg : W.grownBy W' row) (hne : ∀ b o, A = some ⟨b, o, none⟩ → some b ≠ row) : Ints W' A c xs :=
  ⟨h.1, h.2.1, fun hp => by
    obtain ⟨b, o, e, hl, hc⟩ := h.2.2 hp
    exact ⟨b, o, e, Nat.lt_of_lt_of_le hl hg.size, fun j hj => grown_cell hg (hc j hj) (hne b o e)⟩⟩
theorem IntsF.grown {W W' : World} {row : Option Nat} {T n : Nat} {G : Nat → Int} (h : IntsF W T n G) (hg : W.grownBy W' row) (hne : some T ≠ row) : IntsF W' T n G := fun j hj => grown_cell hg (h j hj) hne
/-- No cell of a row is frozen. -/
def FreeF (W : World) (T n : Nat) : Prop := T < W.heap.size ∧ ∀ j, j < n → W.frozen? ⟨T, j, none⟩ = false
theorem FreeF.grown {W W' : World} {row : Option Nat} {T n : Nat} (h : FreeF W T n) (hg : W.grownBy W' row) (hne : some T ≠ row) : FreeF W' T n := ⟨Nat.lt_of_lt_of_le h.1 hg.size, fun j hj => grown_free hg h.1 (h.2 j hj) hne⟩
theorem FreeF.set {W : World} {T n b o : Nat} {v : Value} (h : FreeF W T n) : FreeF (W.setCell ⟨b, o, none⟩ v) T n := ⟨by simpa using h.1, fun j hj => by rw [World.frozen?_setCell]; exact h.2 j hj⟩
theorem grownBy_setCell (W : World) (b o : Nat) (v : Value) : W.grownBy (W.setCell ⟨b, o, none⟩ v) (some b) :=
  ⟨rfl, rfl, rfl, by simp, fun k hk hne => Below.heap_setCell W ⟨b, o, none⟩ v k (fun e => hne (by rw [e]))⟩
theorem grownBy_lt {W W' : World} (h : Lt W W') (row : Option Nat) : W.grownBy W' row := ⟨h.os, h.tape, h.output, h.size, fun k hk _ => h.block k hk⟩
theorem IntsF.set {W : World} {T n i : Nat} {G : Nat → Int} (h : IntsF W T n G) (x : Int) (hi : i < n) : IntsF (W.setCell ⟨T, i, none⟩ (.int .i64 x)) T n (fun j => if j = i then x else G j) := by
  intro j hj
  dsimp only
  by_cases e : j = i
  · subst e
    rw [if_pos rfl]
    exact World.cell?_setCell_same _ _ _ (h j hj)
  · rw [if_neg e]
    exact (World.cell?_setCell_other _ _ _ _ (by intro e'; simp only [Addr.mk.injEq] at e'; omega)).trans (h j hj)
theorem OwnI.keep {W W' : World} {base : Nat} {v : Value} {xs : List Int} {row : Option Nat} (h : OwnI W base v xs) (hg : W.grownBy W' row) (hne : ∀ k, v.ownBlock = some k → some k ≠ row) : OwnI W' base v xs :=
  h.move fun k hk => hg.block k (h.lt k hk) (hne k hk)
theorem OwnI.block_of {W : World} {base b o n c : Nat} {xs : List Int} (h : OwnI W base (.slice (some ⟨b, o, none⟩) n c) xs) : base ≤ b := h.base_le b rfl

section
variable {ops : Array Oper} {rest : List Oper} {o : Oper} {a : Act} {Q : Exit → Act → World → Prop}
/-- l = append(l, y), l a slice of numbers of the call's own, from block base on; where the new slice lies. -/
theorem wp_appN {W : World} (base : Nat) (hgd : o.guard = none) (s x : Operand)
    (ho : o.op = .call { callee := .builtin .append, args := #[s, x], argTypes := #[23, 23] })
    (v : Value) (xs : List Int) (y : Int) (hs : a.eval s = v) (hx : a.eval x = .slice (some ⟨W.heap.size, 0, none⟩) 1 1)
    (HO : OwnI W base v xs) (hW : base ≤ W.heap.size) (hl : xs.length ≤ 1000000)
    (h : ∀ (v1 : Value) (W1 : World), OwnI W1 base v1 (xs ++ [y]) → W.grownBy W1 v.ownBlock → (∀ b, v1.ownBlock = some b → v.ownBlock = some b ∨ W.heap.size ≤ b) → wpList Tryz.prog ops Q rest (a.put o.dst v1) W1) :
    wpList Tryz.prog ops Q (o :: rest) a (W.alloc (.cells #[.int .i64 y] 3)) := by
  obtain ⟨i0, hi, hzz⟩ := Option.map_eq_some_iff.1 info_int
  simp only [Prod.mk.injEq] at hzz
  obtain ⟨hz0, hz1, hz2⟩ := hzz
  refine wpList_append_own_at (W.alloc (.cells #[.int .i64 y] 3)) hgd s x 23 ho base 3 i0 (.int .i64 0) 1 8 Tryz.underlying23 hi hz0 hz1 hz2 rfl (by decide) v xs.length _ hs (HO.later ((Lt.refl W).alloc _)) ⟨W.heap.size, 0, none⟩ 1 1 [.int .i64 y] hx rfl
    (cell_one_new _ _ _) (by simp [Value.oneCell']) (by unfold maxLen; omega) (by omega) (by rw [World.size_alloc]; exact Nat.le_succ_of_le hW) ?_
  intro v1 w1 hown hg _ hat
  have hg' : W.grownBy w1 v.ownBlock := World.grownBy.trans (World.grownBy_alloc W _ _) hg
  refine h v1 w1 (by unfold OwnI; simpa using hown) hg' (fun b hb => ?_)
  rcases hat with e | e
  · exact .inl (by rw [← e]; exact hb)
  · rw [hb, World.size_alloc] at e
    exact .inr (by have := Option.some.inj e; omega)
end

theorem made_get (v : Value) (n j : Nat) (h : j < n) : (madeCells #[v] n)[j]? = some v := by
  unfold madeCells
  simp [h, Nat.mod_one]
theorem run_makeInts (n : Nat) (hn : n ≤ 1000000) (w : World) : (Instr.makeSlice 23 (.int .i64 (n : Nat)) (.int .i64 (n : Nat))).run Tryz.prog w = .ok (.slice (some ⟨w.heap.size, 0, none⟩) n n) (w.alloc (.cells (madeCells #[.int .i64 0] n) 3)) := by
  obtain ⟨i0, hi, hzz⟩ := Option.map_eq_some_iff.1 info_int
  simp only [Prod.mk.injEq] at hzz
  obtain ⟨hz0, hz1, hz2⟩ := hzz
  have := run_makeSlice (P := Tryz.prog) w 23 3 i0 (.int .i64 0) Tryz.underlying23 hi hz0 .i64 .i64 n n (by omega) (Int.le_refl _) (by rw [hz1]; omega) (by rw [hz2]; omega) (by omega)
  simpa [hz1, Value.cells] using this
theorem info_row : (Tryz.prog.info? 23).map (fun i => (i.zero, i.size, i.bytes)) = some (some (.slice none 0 0), 1, 24) := by kernel_rfl
theorem run_makeRows (n : Nat) (hn : n ≤ 1000000) (w : World) : (Instr.makeSlice 61 (.int .i64 (n : Nat)) (.int .i64 (n : Nat))).run Tryz.prog w = .ok (.slice (some ⟨w.heap.size, 0, none⟩) n n) (w.alloc (.cells (madeCells #[.slice none 0 0] n) 23)) := by
  obtain ⟨i0, hi, hzz⟩ := Option.map_eq_some_iff.1 info_row
  simp only [Prod.mk.injEq] at hzz
  obtain ⟨hz0, hz1, hz2⟩ := hzz
  have := run_makeSlice (P := Tryz.prog) w 61 23 i0 (.slice none 0 0) Tryz.underlying61 hi hz0 .i64 .i64 n n (by omega) (Int.le_refl _) (by rw [hz1]; omega) (by rw [hz2]; omega) (by omega)
  simpa [hz1, Value.cells] using this
end Go.Proofs.YtdpcdmcmpfjbjaaGreat
/- Walks: Champions. -/
namespace Go.Proofs.YtdpcdmcmpfjbjaaGreat
open Go.RowKit Go.Sort
set_option linter.unusedVariables false
set_option linter.unusedSimpArgs false
attribute [local go_sem] Later.cell Later.frozen Later.size Later.ne Later.cell1 Later.cell2 Later.cell3 Later.size1 Later.size2 Later.size3 Later.ne1 Later.ne2 Later.ne3

instance : Inhabited (List Int) := ⟨[]⟩
/-- A row of rows of numbers that came in. -/
def RowAt (w : World) (b o : Nat) (x : List Int) : Prop := ∃ A c, Ints w A c x ∧ w.cell? ⟨b, o, none⟩ = some (.slice A x.length c)
theorem RowAt.below {w w1 : World} (hb : Below w.heap.size w w1) (b o : Nat) (x : List Int) (h : RowAt w b o x) : RowAt w1 b o x := by
  obtain ⟨A, c, h1, h2⟩ := h
  exact ⟨A, c, h1.below hb, Cell.below h2 hb⟩
def Mat (w : World) (A : Option Addr) (c : Nat) (xs : List (List Int)) : Prop := Row RowAt 1 w A c xs
theorem Mat.later {w w1 : World} {A : Option Addr} {c : Nat} {xs : List (List Int)} (h : Mat w A c xs) (hb : Lt w w1) : Mat w1 A c xs := Row.below (RowAt.below hb) h hb
theorem Mat.at_ {w : World} {A : Option Addr} {c : Nat} {xs : List (List Int)} (h : Mat w A c xs) (i : Nat) (hi : i < xs.length) : ∃ b o, A = some ⟨b, o, none⟩ ∧ b < w.heap.size ∧ ∃ A' c', Ints w A' c' (nth xs i) ∧ w.cell? ⟨b, o + i, none⟩ = some (.slice A' (nth xs i).length c') := by
  obtain ⟨b, o, e, hb, hcs⟩ := h.2.2 (by omega)
  obtain ⟨A', c', h1, h2⟩ := hcs i hi
  rw [Nat.mul_one] at h2
  exact ⟨b, o, e, hb, A', c', h1, h2⟩

/-- What one asks of one competitor's points. -/
def rowOK (pts : List (List Int)) (drop : Int) (i : Nat) : Prop := (nth pts i).length = (nth pts 0).length ∧ drop < (nth pts i).length ∧ ints (nth pts i) 1 40 100000

set_option maxHeartbeats 4000000 in
set_option maxRecDepth 100000 in
theorem c_Champions_no (A : Option Addr) (c : Nat) (pts : List (List Int)) (drop : Int) (w : World) (h : Mat w A c pts) (hno : ¬ seasonOK pts drop) :
    Calls Tryz.prog 31 #[.slice A pts.length c, .int .i64 drop] w fun e w' => e = .returned (.tuple #[.slice none 0 0, .slice none 0 0, .int .i64 2]) ∧ ∃ q : Later w, w' = q.world := by
  have hm := h.2.1
  have HM := Lib.hid h
  clear h
  by_cases h5 : pts.length ≤ 500
  · have h5z : decide ((500 : Int) < (pts.length : Int)) = false := by rw [decide_eq_false_iff_not]; omega
    by_cases hd : 0 ≤ drop
    · have hdz : decide (drop < 0) = false := by rw [decide_eq_false_iff_not]; omega
      have HNO := Lib.hid hno
      clear hno
      go_enter Tryz.func31, Tryz.ntmps31
      go_wp2_with fail
      go_loopw [28] (fun t wr => ∃ (k : Nat) (q : Later w), t = .int .i64 k ∧ wr = q.world ∧ k ≤ pts.length ∧ Hid (∀ j, j < k → rowOK pts drop j)) (fun t _ => pts.length - (intOf t).toNat)
      case atStart => exact ⟨0, ⟨w, Lt.refl w⟩, rfl, rfl, Nat.zero_le _, Lib.hid fun j hj => absurd hj (Nat.not_lt_zero _)⟩
      case round =>
        obtain ⟨k, q, rfl, rfl, hk, HK⟩ := hrel
        have hlt : k < pts.length := by
          refine Decidable.byContradiction fun h => HNO.out ⟨h5, hd, fun i hi => HK.out i (by omega)⟩
        have hlz : (k : Int) < pts.length := by omega
        obtain ⟨b, o, rfl, hbl, A1, c1, i1, r1⟩ := HM.out.at_ k hlt
        obtain ⟨b0, o0, e0, -, A0, c0, i0, r0⟩ := HM.out.at_ 0 (by omega)
        cases e0
        rw [Nat.add_zero] at r0
        have hpz : (0 : Int) < pts.length := by omega
        have hm1 := i1.2.1
        have hm0 := i0.2.1
        have HI1 := Lib.hid i1
        clear i1 i0
        by_cases l1 : (nth pts k).length = (nth pts 0).length
        · have l1b : (((nth pts k).length : Int) != ((nth pts 0).length : Int)) = false := by rw [bne_eq_false_iff_eq]; omega
          have l1c : ((nth pts k).length != (nth pts 0).length) = false := by rw [bne_eq_false_iff_eq]; omega
          by_cases l2 : drop < (nth pts k).length
          · have l2b : decide (((nth pts k).length : Int) ≤ drop) = false := by rw [decide_eq_false_iff_not]; omega
            have L1 := Lib.hid l1
            have L2 := Lib.hid l2
            clear l1 l2
            cases ht : timesB (nth pts k) 1 40 100000 with
            | true =>
              have HT := Lib.hid (times_t q.world (HI1.out.later q.lt) ht)
              have HN : Hid (∀ j, j < k + 1 → rowOK pts drop j) := Lib.hid fun j hj => by
                by_cases e : j = k
                · subst e; exact ⟨L1.out, L2.out, (timesB_iff _ 1 40 100000).1 ht⟩
                · exact HK.out j (by omega)
              clear ht
              go_wp2_with fail
              refine (Calls.later (w := w) (R := fun e => e = _) q HT.out).mono ?_
              rintro e w' ⟨rfl, q1, rfl⟩
              go_wp2_with fail
              exact ⟨⟨k + 1, q1, by go_num, rfl, by omega, HN⟩, by simp [intOf]; omega⟩
            | false =>
              have HT := Lib.hid (times_f q.world (HI1.out.later q.lt) ht)
              clear ht
              go_wp2_with fail
              refine (Calls.later (w := w) (R := fun e => e = _) q HT.out).mono ?_
              rintro e w' ⟨rfl, q1, rfl⟩
              go_wp2_with fail
              go_ret3
              exact ⟨rfl, q1, rfl⟩
          · have l2b : decide (((nth pts k).length : Int) ≤ drop) = true := by rw [decide_eq_true_iff]; omega
            clear l1 l2
            go_wp2_with fail
            go_ret3
            exact ⟨rfl, q, rfl⟩
        · have l1b : (((nth pts k).length : Int) != ((nth pts 0).length : Int)) = true := by rw [bne_iff_ne]; omega
          have l1c : ((nth pts k).length != (nth pts 0).length) = true := by rw [bne_iff_ne]; omega
          clear l1
          go_wp2_with fail
          go_ret3
          exact ⟨rfl, q, rfl⟩
    · have hdz : decide (drop < 0) = true := by rw [decide_eq_true_iff]; omega
      clear hno
      go_enter Tryz.func31, Tryz.ntmps31
      go_wp2_with fail
      go_ret3
      exact ⟨rfl, ⟨w, Lt.refl w⟩, rfl⟩
  · have h5z : decide ((500 : Int) < (pts.length : Int)) = true := by rw [decide_eq_true_iff]; omega
    clear hno
    go_enter Tryz.func31, Tryz.ntmps31
    go_wp2_with fail
    go_ret3
    exact ⟨rfl, ⟨w, Lt.refl w⟩, rfl⟩
end Go.Proofs.YtdpcdmcmpfjbjaaGreat
