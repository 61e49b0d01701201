/- Walks: real once more: its slice is the call's own; Walks: Results: the cars that count are put in their order; those of the power stage too; The list of Placings that Results puts together; Walks: Results: what the power stage gives. -/
import Derived.Test.YtdpcdmcmpfjbjaaGreatJD
import Derived.Test.YtdpcdmcmpfjbjaaGreatJN
import Derived.Test.YtdpcdmcmpfjbjaaGreatJK
import Derived.Test.YtdpcdmcmpfjbjaaGreatJG
import Derived.Test.YtdpcdmcmpfjbjaaGreatJL
import Derived.Test.YtdpcdmcmpfjbjaaGreatJI
/- Walks: real once more: its slice is the call's own. -/
namespace Go.Proofs.YtdpcdmcmpfjbjaaGreat
open Go.RowKit
set_option linter.unusedVariables false
set_option linter.unusedSimpArgs false
attribute [local go_sem] Later.cell Later.frozen Later.size Later.ne Later.cell1 Later.cell2 Later.cell3 Later.size1 Later.size2 Later.size3 Later.ne1 Later.ne2 Later.ne3

set_option maxHeartbeats 2000000 in
set_option maxRecDepth 100000 in
theorem c_realO (g : Nat) (em : EvM) (p : Plan) (cards : List Card) (i : Nat) (cls : Int) (w : World) (he : EventIs w g em p cards) (hi : ∀ j, j < cards.length → i < (nth cards j).lines.length) (hn : cards.length ≤ 200) :
    Calls Tryz.prog 64 #[.pointer (some ⟨g, 0, none⟩), .int .i64 i, .int .i64 cls] w fun e w' => ∃ A c, e = .returned (.slice A (realP p cards i cls).length c) ∧ ∃ q : Later w, w' = q.world ∧ OwnI q.world w.heap.size (.slice A (realP p cards i cls).length c) (nums (realP p cards i cls)) ∧ (realP p cards i cls = [] → A = none ∧ c = 0) := by
  have HE := Lib.hid he
  have hgl := he.lt
  obtain ⟨⟨iA, ic, jA, jc, pA, pc, eA, ec⟩, cA, cc, oA, oc⟩ := em
  have e14 := he.c14
  have HI := Lib.hid hi
  clear he hi
  go_enter Tryz.func64, Tryz.ntmps64
  go_wp2_with fail
  go_loopw [7, 15] (fun v t wr => ∃ (k : Nat) (q : Later w) (u : Value), u = v ∧ t = .int .i64 k ∧ wr = q.world ∧ k ≤ cards.length ∧ OwnI q.world w.heap.size u (nums (realTo p cards i cls k)) ∧ (realTo p cards i cls k = [] → u = .slice none 0 0)) (fun _ t _ => cards.length - (intOf t).toNat)
  case atStart => exact ⟨0, ⟨w, Lt.refl w⟩, _, rfl, rfl, rfl, Nat.zero_le _, OwnI.nil _ _, fun _ => rfl⟩
  case round =>
    obtain ⟨k, q, v, rfl, rfl, rfl, hk, HO, hE⟩ := hrel
    by_cases hlt : k < cards.length
    · have hlz : (k : Int) < cards.length := by omega
      obtain ⟨b, o, rfl, hbl, ⟨sA, sc, lA, lc⟩, hci, c0, c1, c2⟩ := HE.out.cars.at_ k hlt
      have hlm := hci.lines.2.1
      have hlen := HI.out k hlt
      have hlez : (i : Int) < (nth cards k).lines.length := by omega
      obtain ⟨lb, lo, rfl, hlbl, l0, l1, l2, l3⟩ := hci.lines.at_ i hlen
      have HR := Lib.hid (realTo_succ p cards i cls k)
      have hlr := realTo_length p cards i cls k
      have isr : isReal p cards i cls k = (decide ((nth (nth cards k).lines i).mark = 0) && (runsP p (nth cards k) i && (decide (cls < 0) || decide ((nth cards k).cls = cls)))) := rfl
      have ISR := Lib.hid isr
      clear isr hci
      have HLN := Lib.hid (show (nums (realTo p cards i cls k)).length ≤ 1000000 by rw [nums_length]; omega)
      have HOO := HO
      by_cases hm : (nth (nth cards k).lines i).mark = 0
      · cases hr : runsP p (nth cards k) i with
        | true =>
          by_cases h1 : cls < 0
          · -- any class
            have HN := Lib.hid (show realTo p cards i cls (k + 1) = realTo p cards i cls k ++ [k] by rw [HR.out, ISR.out]; simp [*])
            go_wp2_with (first | (go_at_call 55; refine (c_runs g _ p cards k i _ (HE.out.later (q.lt.alloc _)) hlt).mono ?_; rintro e w' ⟨rfl, rfl⟩) | (at_builtin; refine wp_app1 (w0 := w) rfl _ _ rfl v (nums (realTo p cards i cls k)) k rfl rfl HO q.lt HLN.out ?_; intro v1 q1 hO1 _))
            exact ⟨⟨k + 1, q1, _, rfl, by go_num, rfl, by omega, by rw [HN.out, nums_append]; exact hO1, fun e => by rw [HN.out] at e; simp at e⟩, by simp [intOf]; omega⟩
          · by_cases h2 : (nth cards k).cls = cls
            · have h2b : ((nth cards k).cls == cls) = true := beq_iff_eq.2 h2
              have HN := Lib.hid (show realTo p cards i cls (k + 1) = realTo p cards i cls k ++ [k] by rw [HR.out, ISR.out]; simp [*])
              clear h2
              go_wp2_with (first | (go_at_call 55; refine (c_runs g _ p cards k i _ (HE.out.later (q.lt.alloc _)) hlt).mono ?_; rintro e w' ⟨rfl, rfl⟩) | (at_builtin; refine wp_app1 (w0 := w) rfl _ _ rfl v (nums (realTo p cards i cls k)) k rfl rfl HO q.lt HLN.out ?_; intro v1 q1 hO1 _))
              exact ⟨⟨k + 1, q1, _, rfl, by go_num, rfl, by omega, by rw [HN.out, nums_append]; exact hO1, fun e => by rw [HN.out] at e; simp at e⟩, by simp [intOf]; omega⟩
            · have h2b : ((nth cards k).cls == cls) = false := beq_eq_false_iff_ne.2 h2
              have HN := Lib.hid (show realTo p cards i cls (k + 1) = realTo p cards i cls k by rw [HR.out, ISR.out]; simp [*])
              go_wp2_with (first | (go_at_call 55; refine (c_runs g _ p cards k i _ (HE.out.later (q.lt.alloc _)) hlt).mono ?_; rintro e w' ⟨rfl, rfl⟩) | fail)
              exact ⟨⟨k + 1, ⟨_, q.lt.alloc _⟩, _, rfl, by go_num, rfl, by omega, by rw [HN.out]; exact HO.later ((Lt.refl _).alloc _), fun e => hE (by rw [HN.out] at e; exact e)⟩, by simp [intOf]; omega⟩
        | false =>
          have HN := Lib.hid (show realTo p cards i cls (k + 1) = realTo p cards i cls k by rw [HR.out, ISR.out]; simp [*])
          go_wp2_with (first | (go_at_call 55; refine (c_runs g _ p cards k i _ (HE.out.later (q.lt.alloc _)) hlt).mono ?_; rintro e w' ⟨rfl, rfl⟩) | fail)
          exact ⟨⟨k + 1, ⟨_, q.lt.alloc _⟩, _, rfl, by go_num, rfl, by omega, by rw [HN.out]; exact HO.later ((Lt.refl _).alloc _), fun e => hE (by rw [HN.out] at e; exact e)⟩, by simp [intOf]; omega⟩
      · have hmb : ((nth (nth cards k).lines i).mark == 0) = false := beq_eq_false_iff_ne.2 hm
        have HN := Lib.hid (show realTo p cards i cls (k + 1) = realTo p cards i cls k by rw [HR.out, ISR.out]; simp [*])
        go_wp2_with (first | (go_at_call 55; refine (c_runs g _ p cards k i _ (HE.out.later (q.lt.alloc _)) hlt).mono ?_; rintro e w' ⟨rfl, rfl⟩) | fail)
        exact ⟨⟨k + 1, ⟨_, q.lt.alloc _⟩, _, rfl, by go_num, rfl, by omega, by rw [HN.out]; exact HO.later ((Lt.refl _).alloc _), fun e => hE (by rw [HN.out] at e; exact e)⟩, by simp [intOf]; omega⟩
    · have hke : k = cards.length := by omega
      subst hke
      have HO' : OwnI q.world w.heap.size v (nums (realP p cards i cls)) := HO
      have hE' : realP p cards i cls = [] → v = .slice none 0 0 := hE
      obtain ⟨A, c, rfl⟩ := HO'.form
      have HE2 := Lib.hid (fun e => by have := hE' e; simp only [Value.slice.injEq] at this; exact (⟨this.1, this.2.2⟩ : A = none ∧ c = 0) : realP p cards i cls = [] → A = none ∧ c = 0)
      clear hE hE'
      have HF := Lib.hid HO'
      have HL := Lib.hid (nums_length (realP p cards i cls))
      clear HO HO'
      go_wp2_with fail
      go_ret
      exact ⟨A, c, ret_slice HL.out, q, rfl, by have h2 := HF.out; rw [HL.out] at h2; exact h2, HE2.out⟩
end Go.Proofs.YtdpcdmcmpfjbjaaGreat
/- Walks: Results: the cars that count are put in their order; those of the power stage too. -/
namespace Go.Proofs.YtdpcdmcmpfjbjaaGreat
open Go.RowKit Go.Sort
set_option linter.unusedVariables false
set_option linter.unusedSimpArgs false

def finPick (n : Nat) (P : Nat → Bool) : List (Fin n) := (List.finRange n).filter fun k => P k.val
theorem finPick_val (n : Nat) (P : Nat → Bool) : (finPick n P).map (fun k : Fin n => k.val) = (List.range n).filter P := by
  unfold finPick
  rw [← fin_range n, List.filter_map]
  rfl
theorem finPick_nums (n : Nat) (P : Nat → Bool) : (finPick n P).map (fun k : Fin n => ((k.val : Nat) : Int)) = nums ((List.range n).filter P) := by
  rw [← finPick_val]; simp [nums]
theorem finPick_length (n : Nat) (P : Nat → Bool) : (finPick n P).length = ((List.range n).filter P).length := by rw [← finPick_val, List.length_map]
theorem finPick_asc (n : Nat) (P : Nat → Bool) (i j : Nat) (hij : i < j) (hj : j < (finPick n P).length) [Inhabited (Fin n)] : (((finPick n P).toArray[i]!.val : Nat) : Int) < ((finPick n P).toArray[j]!.val : Nat) := by
  have h : (finPick n P).Pairwise (fun a b => a.val < b.val) := by
    refine List.Pairwise.filter _ ?_
    have := List.pairwise_lt_range (n := n)
    rw [← fin_range n, List.pairwise_map] at this
    exact this
  have h2 := (List.pairwise_iff_getElem.1 h) i j (by omega) hj hij
  simp only [List.getElem!_toArray, List.getElem!_eq_getElem?_getD, hj, show i < (finPick n P).length by omega, List.getElem?_eq_getElem, Option.getD_some]
  omega

theorem res_fin (p : Plan) (cards : List Card) (n : Nat) (hn : n = cards.length) : ((finPick n (countsB p cards)).mergeSort fun x y => !ltOf (fun a b : Fin n => resCmp p cards a.val b.val) y x).map (fun k : Fin n => ((k.val : Nat) : Int)) = nums (resOrder p cards) := by
  have h : ((finPick n (countsB p cards)).mergeSort fun x y => !ltOf (fun a b : Fin n => resCmp p cards a.val b.val) y x).map (fun k : Fin n => k.val) = ((List.range n).filter (countsB p cards)).mergeSort fun x y => !ltOf (resCmp p cards) y x := by
    rw [← finPick_val]
    exact List.map_mergeSort fun a _ b _ => rfl
  have h2 := congrArg nums h
  unfold resOrder countTo
  rw [← hn, ← h2]
  simp [nums]

theorem c_resSort {w : World} {M : RM} {p : Plan} {cards : List Card} {N1 : Nat} {v8 v9 : Value} {W : World} (n : Nat) (hn : n = cards.length) (hnil : n = 0 → v8 = .slice none 0 0) (hM : M.OK w) (hc : n ≤ 200) (Bl L : Nat)
    (h : RSt w M n N1 n (fun j => if j < n then totalP p cards j else 0) (fun j => if j < n then winsR p cards j else 0) (fun j => if j < n then rowR p cards j else []) v8 v9 (countTo p cards n) (otherTo p cards n) W)
    (hL : N1 ≤ L) (hBl : N1 ≤ Bl) (hl : W.cell? ⟨Bl, 0, none⟩ = some (.slice (some ⟨L, 0, none⟩) 4 4))
    (l0 : W.cell? ⟨L, 0, none⟩ = some (.func (.func 70) #[] #[.pointer (some ⟨M.b10, 0, none⟩)])) (l1 : W.cell? ⟨L, 1, none⟩ = some (.func (.func 72) #[] #[.pointer (some ⟨M.b11, 0, none⟩)]))
    (l2 : W.cell? ⟨L, 2, none⟩ = some (.func (.func 73) #[] #[.pointer (some ⟨M.b12, 0, none⟩)])) (l3 : W.cell? ⟨L, 3, none⟩ = some (.func (.func 75) #[] #[])) :
    Calls Tryz.prog 68 #[v8, .func (.func 114) #[] #[.pointer (some ⟨Bl, 0, none⟩)]] W fun e w' => e = .returned (.tuple #[]) ∧ OwnI w' M.N0 v8 (nums (resOrder p cards)) ∧ W.grownBy w' v8.ownBlock := by
  have hv := h.w8
  have hn0 := h.n0
  have hv0 := h.o8.base_le
  have m1 := hM.h10; have m2 := hM.h11; have m3 := hM.h12; have m4 := hM.hT; have m5 := hM.hW; have m6 := hM.hS
  have ne : ∀ b, b < M.N0 → some b ≠ v8.ownBlock := fun b hb' e => by have := hv0 b e.symm; omega
  have nf : ∀ b, N1 ≤ b → some b ≠ v8.ownBlock := fun b hb' e => by have := hv b e.symm; omega
  have hO : OwnI W M.N0 v8 ((finPick n (countsB p cards)).map fun k : Fin n => ((k.val : Nat) : Int)) := by rw [finPick_nums]; exact h.o8
  by_cases h0 : 0 < n
  · haveI : Inhabited (Fin n) := ⟨⟨0, h0⟩⟩
    have hlen : (finPick n (countsB p cards)).length ≤ 1000000 := by
      rw [finPick_length]
      have := List.length_filter_le (countsB p cards) (List.range n)
      rw [List.length_range] at this; omega
    have hsw := ((res_law p cards).on fun k : Fin n => k.val).swo
    have := c_sortFunc (fun k : Fin n => ((k.val : Nat) : Int)) (fun a b : Fin n => resCmp p cards a.val b.val) hsw (fun x y h1 h2 => Fin.ext (res_total p cards x.val y.val h1 h2)) 114 #[.pointer (some ⟨Bl, 0, none⟩)] (enters_of Tryz.func114 (by kernel_rfl) rfl)
      M.N0 v8 (finPick n (countsB p cards)) W hO hlen ?_
    · rw [res_fin p cards n hn] at this
      exact this
    · intro W' hg x y
      have hcall := c_order1 (totalP p cards) (winsR p cards) (rowR p cards) n M.b10 M.b11 M.b12 M.T M.Wn M.S Bl L x.val y.val W' (grown_cell hg hl (nf _ hBl)) (grown_cell hg l0 (nf _ hL)) (grown_cell hg l1 (nf _ hL)) (grown_cell hg l2 (nf _ hL)) (grown_cell hg l3 (nf _ hL))
        (grown_cell hg h.c10 (ne _ m1.2)) (fun j hj => ?_) (grown_cell hg h.c11 (ne _ m2.2)) (fun j hj => ?_) (grown_cell hg h.c12 (ne _ m3.2)) (fun j hj => ?_) x.isLt y.isLt (by omega)
      · refine hcall.mono fun e w' ⟨he, q, hq⟩ => ⟨he, q, #[], by rw [hq, grow_empty]⟩
      · have := h.tot.grown hg (ne _ m4.2) j hj
        dsimp only at this
        rwa [if_pos hj] at this
      · have := h.win.grown hg (ne _ m5.2) j hj
        dsimp only at this
        rwa [if_pos hj] at this
      · obtain ⟨A, c, h1, h2, h3⟩ := h.rows j hj (by omega)
        try dsimp only at h1 h2
        rw [if_pos hj] at h1 h2
        exact ⟨A, c, grown_cell hg h1 (ne _ m6.2), h2.grown hg (fun b o e e' => (h3 b o e).2.2.1 e'.symm)⟩
  · have e0 : n = 0 := by omega
    have hv2 := hnil e0
    have hc0 : resOrder p cards = [] := by unfold resOrder countTo; rw [← hn, e0]; simp
    rw [hv2, hc0]
    exact (Tryz.slices_SortFunc_none (α := Int) none 0 _ W).mono fun e w' ⟨he, hw⟩ => ⟨he, by rw [hw]; exact OwnI.nil _ _, by rw [hw]; exact World.grownBy.refl _ _⟩

theorem pow_fin (cards : List Card) (i n : Nat) (P : Nat → Bool) : ((finPick n P).mergeSort fun x y => !tie (ltOf fun a b : Fin n => cmpI (tookP cards a.val i) (tookP cards b.val i)) (fun k : Fin n => ((k.val : Nat) : Int)) y x).map (fun k : Fin n => ((k.val : Nat) : Int)) = nums (((List.range n).filter P).mergeSort fun x y => !timeLt cards i y x) := by
  have h : ((finPick n P).mergeSort fun x y => !tie (ltOf fun a b : Fin n => cmpI (tookP cards a.val i) (tookP cards b.val i)) (fun k : Fin n => ((k.val : Nat) : Int)) y x).map (fun k : Fin n => k.val) = ((List.range n).filter P).mergeSort fun x y => !timeLt cards i y x := by
    rw [← finPick_val]
    exact List.map_mergeSort fun a _ b _ => rfl
  have h2 := congrArg nums h
  rw [← h2]
  simp [nums]

theorem c_resPower (We W : World) (g : Nat) (em : EvM) (p : Plan) (cards : List Card) (b6 BP i base n : Nat) (hn : n = cards.length) (v : Value) (he : EventIs We g em p cards) (h6 : We.cell? ⟨b6, 0, none⟩ = some (.pointer (some ⟨g, 0, none⟩))) (hB : PlanAt We BP em.m p) (hi : p.power = (i : Nat)) (hl : Lt We W)
    (hil : ∀ j, j < cards.length → i < (nth cards j).lines.length) (h20 : n ≤ 20) (hb : We.heap.size ≤ base) (hO : OwnI W base v (nums (realP p cards i (-1)))) (hnil : realP p cards i (-1) = [] → v = .slice none 0 0) :
    Calls Tryz.prog 76 #[v, .func (.func 77) #[] #[.pointer (some ⟨b6, 0, none⟩), .pointer (some ⟨BP, 0, none⟩)]] W fun e w' => e = .returned (.tuple #[]) ∧ OwnI w' base v (nums (powerP p cards)) ∧ W.grownBy w' v.ownBlock := by
  have hpw : powerP p cards = (realP p cards i (-1)).mergeSort fun x y => !timeLt cards i y x := by
    unfold powerP
    rw [hi, if_pos (by omega)]
    simp
  rw [hpw]
  by_cases h0 : realP p cards i (-1) = []
  · rw [hnil h0, h0, show (([] : List Nat).mergeSort fun x y => !timeLt cards i y x) = [] from by simp]
    exact (c_stable_nil _ W).mono fun e w' ⟨he, hw⟩ => ⟨he, by rw [hw]; exact OwnI.nil _ _, by rw [hw]; exact World.grownBy.refl _ _⟩
  · have hpos : 0 < (realP p cards i (-1)).length := List.length_pos_iff.2 h0
    have hn0 : 0 < n := by
      obtain ⟨x, hx⟩ := List.exists_mem_of_ne_nil _ h0
      have := (mem_realP.1 hx).1
      omega
    haveI : Inhabited (Fin n) := ⟨⟨0, hn0⟩⟩
    have hre : realP p cards i (-1) = (List.range n).filter (isReal p cards i (-1)) := by rw [hn]; rfl
    rw [hre] at hO hpos ⊢
    have hO2 : OwnI W base v ((finPick n (isReal p cards i (-1))).map fun k : Fin n => ((k.val : Nat) : Int)) := by rw [finPick_nums]; exact hO
    have hlen : (finPick n (isReal p cards i (-1))).length ≤ 20 := by
      rw [finPick_length]
      have := List.length_filter_le (isReal p cards i (-1)) (List.range n)
      rw [List.length_range] at this; omega
    have hsw := (cmpI_law.on fun k : Fin n => tookP cards k.val i).swo
    have := c_stable (fun k : Fin n => ((k.val : Nat) : Int)) (fun x y e => Fin.ext (by omega)) (fun a b : Fin n => cmpI (tookP cards a.val i) (tookP cards b.val i)) hsw 77 #[.pointer (some ⟨b6, 0, none⟩), .pointer (some ⟨BP, 0, none⟩)] (enters_of Tryz.func77 (by kernel_rfl) rfl)
      base v (finPick n (isReal p cards i (-1))) (fun a b hab hb => finPick_asc n _ a b hab hb) W hO2 hlen (by rw [finPick_length]; exact hpos) ?_
    · rw [pow_fin] at this
      exact this
    · intro W' hg x y
      have hl' : Lt We W' := hl.grown hg (fun k e => by have := hO.base_le k e; omega)
      have h11 := hl'.cell hB.c11
      rw [hi] at h11
      exact (c_res5 g em p cards b6 BP x.val y.val We W' (he.later hl') (hl'.cell h6) i h11 hil (by rw [← hn]; exact x.isLt) (by rw [← hn]; exact y.isLt)).mono fun e w' ⟨he, q, hq⟩ => ⟨he, q, #[], by rw [hq, grow_empty]⟩
end Go.Proofs.YtdpcdmcmpfjbjaaGreat
/- The list of Placings that Results puts together. -/
namespace Go.Proofs.YtdpcdmcmpfjbjaaGreat
open Go.RowKit Go.Sort
set_option linter.unusedVariables false
set_option linter.unusedSimpArgs false
attribute [local go_sem] Later.cell Later.frozen Later.size Later.ne Later.cell1 Later.cell2 Later.cell3 Later.size1 Later.size2 Later.size3 Later.ne1 Later.ne2 Later.ne3

def plCells (x : Placing) : List Value := [.int .i64 x.car, .bool x.counts, .int .i64 x.out, .int .i64 x.total, .int .i64 x.place, .int .i64 x.inClass, .int .i64 x.points]
def plsCells (l : List Placing) : List Value := l.flatMap plCells
theorem plsCells_append (l m : List Placing) : plsCells (l ++ m) = plsCells l ++ plsCells m := by simp [plsCells]
theorem plsCells_one (x : Placing) : plsCells [x] = plCells x := by simp [plsCells]
theorem plsCells_length (l : List Placing) : (plsCells l).length = l.length * 7 := by
  induction l with
  | nil => rfl
  | cons a l ih =>
    rw [show a :: l = [a] ++ l from rfl, plsCells_append, plsCells_one, List.length_append, ih]
    simp [plCells]; omega
theorem plsCells_get (l : List Placing) (k j : Nat) (hk : k < l.length) (hj : j < 7) : (plsCells l)[k * 7 + j]? = (plCells (nth l k))[j]? := by
  induction l generalizing k with
  | nil => simp at hk
  | cons a l ih =>
    rw [show a :: l = [a] ++ l from rfl, plsCells_append, plsCells_one]
    have hl : (plCells a).length = 7 := rfl
    cases k with
    | zero =>
      rw [List.getElem?_append_left (by rw [hl]; omega)]
      simp [nth, List.getD]
    | succ k =>
      rw [List.getElem?_append_right (by rw [hl]; omega), hl, show (k + 1) * 7 + j - 7 = k * 7 + j by omega, ih k (by simpa using hk)]
      simp [nth, List.getD]

/-- A slice of Placings of the call's own. -/
def OwnPl (w : World) (base : Nat) (v : Value) (l : List Placing) : Prop := w.ownsRow base 60 7 v l.length (plsCells l)
theorem OwnPl.nil (w : World) (base : Nat) : OwnPl w base (.slice none 0 0) [] := ⟨rfl, .inl ⟨rfl, rfl⟩⟩
theorem OwnPl.base_le {w : World} {base : Nat} {v : Value} {xs : List Placing} (h : OwnPl w base v xs) (k : Nat) (hk : v.ownBlock = some k) : base ≤ k := by
  rcases h.2 with ⟨rfl, _⟩ | ⟨g, cap, cur, rfl, hg, _⟩
  · simp [Value.ownBlock] at hk
  · have : g = k := by simpa [Value.ownBlock] using hk
    omega
theorem OwnPl.lt {w : World} {base : Nat} {v : Value} {xs : List Placing} (h : OwnPl w base v xs) (k : Nat) (hk : v.ownBlock = some k) : k < w.heap.size := by
  rcases h.2 with ⟨rfl, _⟩ | ⟨g, cap, cur, rfl, hg, hh, _⟩
  · simp [Value.ownBlock] at hk
  · have : g = k := by simpa [Value.ownBlock] using hk
    have := (Array.getElem?_eq_some_iff.1 hh).1
    omega
theorem OwnPl.move {w w1 : World} {base : Nat} {v : Value} {xs : List Placing} (h : OwnPl w base v xs) (hm : ∀ k, v.ownBlock = some k → w1.heap[k]? = w.heap[k]?) : OwnPl w1 base v xs := by
  rcases h.2 with ⟨rfl, hn⟩ | ⟨g, cap, cur, rfl, hg, hh, hr⟩
  · exact ⟨h.1, .inl ⟨rfl, hn⟩⟩
  · exact ⟨h.1, .inr ⟨g, cap, cur, rfl, hg, (hm g rfl).trans hh, hr⟩⟩
theorem OwnPl.later {w w1 : World} {base : Nat} {v : Value} {xs : List Placing} (h : OwnPl w base v xs) (hb : Lt w w1) : OwnPl w1 base v xs := h.move fun k hk => hb.block k (h.lt k hk)
theorem OwnPl.keep {w w1 : World} {base : Nat} {v : Value} {xs : List Placing} {row : Option Nat} (h : OwnPl w base v xs) (hg : w.grownBy w1 row) (hne : ∀ b, v.ownBlock = some b → some b ≠ row) : OwnPl w1 base v xs := h.move fun k hk => hg.block k (h.lt k hk) (hne k hk)
/-- Placings in memory. -/
def Places (w : World) (A : Option Addr) (c : Nat) (l : List Placing) : Prop :=
  l.length ≤ c ∧ c ≤ maxLen ∧ (0 < l.length → ∃ b, A = some ⟨b, 0, none⟩ ∧ ∀ j u, (plsCells l)[j]? = some u → w.cell? ⟨b, j, none⟩ = some u)
theorem OwnPl.form {w : World} {base : Nat} {v : Value} {l : List Placing} (h : OwnPl w base v l) : ∃ A c, v = .slice A l.length c ∧ Places w A c l := by
  rcases h.2 with ⟨rfl, hn⟩ | ⟨g, cap, cur, rfl, hg, hh, hn, hm, hs, ht⟩
  · exact ⟨none, 0, by rw [hn], by omega, by unfold maxLen; omega, fun h => by omega⟩
  · refine ⟨some ⟨g, 0, none⟩, cap, rfl, hn, hm, fun hp => ⟨g, rfl, fun j u hj => ?_⟩⟩
    have hjl : j < l.length * 7 := by
      have := (List.getElem?_eq_some_iff.1 hj).1
      rwa [plsCells_length] at this
    rw [← ht, List.getElem?_take, if_pos hjl, Array.getElem?_toList] at hj
    rw [cell_of_row w g j cur 60 (0, 0) hh]
    exact hj
theorem Places.later {w w1 : World} {A : Option Addr} {c : Nat} {l : List Placing} (h : Places w A c l) (hl : Lt w w1) : Places w1 A c l :=
  ⟨h.1, h.2.1, fun hp => by
    obtain ⟨b, e, hc⟩ := h.2.2 hp
    exact ⟨b, e, fun j u hj => hl.cell (hc j u hj)⟩⟩
theorem info_pl : (Tryz.prog.info? 60).map (fun i => (i.zero, i.size, i.bytes)) = some (some (.agg #[.int .i64 0, .bool false, .int .i64 0, .int .i64 0, .int .i64 0, .int .i64 0, .int .i64 0]), 7, 56) := by kernel_rfl
section
variable {ops : Array Oper} {o : Oper} {a : Act} {K : Act → World → Prop} {Q : Exit → Act → World → Prop} {E : Prop}
/-- append of one Placing to an own slice, as a step of a region that draws its order. -/
theorem step_appP {W : World} (b base : Nat) (hgd : o.guard = none) (s x : Operand)
    (ho : o.op = .call { callee := .builtin .append, args := #[s, x], argTypes := #[55, 55] })
    (v : Value) (xs : List Placing) (y : Placing) (hs : a.eval s = v) (hx : a.eval x = .slice (some ⟨b, 0, none⟩) 1 1) (hc : ∀ j u, (plCells y)[j]? = some u → W.cell? ⟨b, j, none⟩ = some u)
    (HO : OwnPl W base v xs) (hW : base ≤ W.heap.size) (hl : xs.length ≤ 1000000)
    (h : ∀ (v1 : Value) (W1 : World), OwnPl W1 base v1 (xs ++ [y]) → W.grownBy W1 v.ownBlock → K (a.put o.dst v1) W1) :
    if Region.wanted o (yielded ops a.tmps) = true then Oper.wp Tryz.prog o a W K Q else E := by
  have hw : Region.wanted o (yielded ops a.tmps) = true := by simp [Region.wanted, hgd]
  rw [if_pos hw]
  obtain ⟨i0, hi, hzz⟩ := Option.map_eq_some_iff.1 info_pl
  simp only [Prod.mk.injEq] at hzz
  obtain ⟨hz0, hz1, hz2⟩ := hzz
  refine wp_append_own W s x 55 ho base 60 i0 _ 7 56 Tryz.underlying55 hi hz0 hz1 hz2 rfl (by decide) v xs.length _ hs HO ⟨b, 0, none⟩ 1 1 (plCells y) hx rfl
    ?_ (by simp [plCells, Value.oneCell']) (by unfold maxLen; omega) (by omega) hW ?_
  · intro j u hj
    rw [show ((⟨b, 0, none⟩ : Addr).add j) = ⟨b, j, none⟩ by simp [Addr.add]; omega]
    exact hc j u hj
  intro v1 w1 hown hg _
  refine h v1 w1 ?_ hg
  unfold OwnPl
  rw [plsCells_append, plsCells_one, List.length_append, List.length_singleton]
  exact hown
theorem pl_new (W : World) (y : Placing) : ∀ j u, (plCells y)[j]? = some u → (W.alloc (.cells #[.int .i64 y.car, .bool y.counts, .int .i64 y.out, .int .i64 y.total, .int .i64 y.place, .int .i64 y.inClass, .int .i64 y.points] 60)).cell? ⟨W.heap.size, j, none⟩ = some u := by
  intro j u hj
  rw [World.cell?_alloc_at _ _ _ _ rfl]
  simpa [plCells] using hj
theorem pl_newd (W : World) (y : Placing) : ∀ j u, (plCells y)[j]? = some u → (W.alloc (.cells #[.int .i64 y.car, .bool y.counts, .int .i64 y.out, .int .i64 y.total, .int .i64 y.place, .int .i64 y.inClass, .int .i64 y.points] 60)).drew.cell? ⟨W.heap.size, j, none⟩ = some u :=
  fun j u hj => (Lt.refl _).drew.cell (pl_new W y j u hj)
end
end Go.Proofs.YtdpcdmcmpfjbjaaGreat
/- Walks: Results: what the power stage gives. -/
namespace Go.Proofs.YtdpcdmcmpfjbjaaGreat
open Go.RowKit Go.Sort
set_option linter.unusedVariables false
set_option linter.unusedSimpArgs false
attribute [local go_sem] Later.cell Later.frozen Later.size Later.ne Later.cell1 Later.cell2 Later.cell3 Later.size1 Later.size2 Later.size3 Later.ne1 Later.ne2 Later.ne3

set_option maxHeartbeats 16000000 in
set_option maxRecDepth 100000 in
theorem c_resExtra (We W0 : World) (m : PlanM) (p : Plan) (cards : List Card) (BP E : Nat) (pA : Option Addr) (pc : Nat)
    (hp : PlanIs We m p) (hB : PlanAt We BP m p) (hl : Lt We W0) (hE : We.heap.size ≤ E) (hP : Ints W0 pA pc (nums (powerP p cards))) (hne : ∀ b o, pA = some ⟨b, o, none⟩ → b ≠ E) (hI : IntsF W0 E cards.length fun _ => 0) (hF : FreeF W0 E cards.length) (h200 : cards.length ≤ 200) (c0 c1 c3 c4 c5 c6 c7 c8 c9 c10 c11 c12 c13 c14 c15 c17 c20 c21 c22 c23 c24 c25 c26 c27 c28 c29 c30 c31 c32 c33 c34 c35 c36 c37 c38 c39 c40 c41 c42 c43 c44 c45 c46 c47 c48 c49 c50 c51 c52 c53 c54 c55 c56 c57 c58 c59 c60 c61 c62 c63 c64 c65 c66 c67 c68 c69 c70 c71 c72 c73 c74 c75 c76 c77 c78 c79 c80 c81 c82 c83 c84 c85 c86 c87 c88 c89 c90 c91 c92 c93 c94 c95 c96 c97 c98 c99 c100 c101 c102 c103 c104 c105 c106 c107 c108 c109 c110 c111 c112 c113 c114 c115 c116 c117 c118 c119 c120 c121 c122 c123 c124 c125 c126 c127 c128 c129 c130 c131 c132 c133 c134 c135 c136 c137 c138 c139 c140 c141 c142 c159 c160 c161 c162 c163 c164 c165 c166 c167 c168 c169 c170 c171 c172 c173 c174 c175 c176 c177 c178 c179 c180 c181 c182 c183 c184 c185 c186 c187 c188 c189 c190 c191 c192 c193 c194 c195 c196 c197 c198 c199 c200 c201 c202 c203 c204 c205 c206 c207 c208 c209 c210 c211 c212 c213 c214 c215 c216 c217 c218 c219 c220 c221 c222 c223 c224 c225 c226 c227 c228 c229 : Value) (u18 u19 u146 u147 u148 u149 u150 u151 u152 u153 u154 u155 u156 u157 u158 : Value)
    (Q : Exit → Act → World → Prop)
    (hex : ∀ (u18 u19 u145 u146 u147 u148 u149 u150 u151 u152 u153 u154 u155 u156 u157 u158 : Value) (W : World), W0.grownBy W (some E) → IntsF W E cards.length (extraP p cards) → FreeF W E cards.length → Q (.exit 4) { tmps := #[c0, c1, (.pointer (some ⟨BP, 0, none⟩)), c3, c4, c5, c6, c7, c8, c9, c10, c11, c12, c13, c14, c15, (.slice (some ⟨E, 0, none⟩) cards.length cards.length), c17, u18, u19, c20, c21, c22, c23, c24, c25, c26, c27, c28, c29, c30, c31, c32, c33, c34, c35, c36, c37, c38, c39, c40, c41, c42, c43, c44, c45, c46, c47, c48, c49, c50, c51, c52, c53, c54, c55, c56, c57, c58, c59, c60, c61, c62, c63, c64, c65, c66, c67, c68, c69, c70, c71, c72, c73, c74, c75, c76, c77, c78, c79, c80, c81, c82, c83, c84, c85, c86, c87, c88, c89, c90, c91, c92, c93, c94, c95, c96, c97, c98, c99, c100, c101, c102, c103, c104, c105, c106, c107, c108, c109, c110, c111, c112, c113, c114, c115, c116, c117, c118, c119, c120, c121, c122, c123, c124, c125, c126, c127, c128, c129, c130, c131, c132, c133, c134, c135, c136, c137, c138, c139, c140, c141, c142, (.slice pA (powerP p cards).length pc), (.int .i64 ((powerP p cards).length : Nat)), u145, u146, u147, u148, u149, u150, u151, u152, u153, u154, u155, u156, u157, u158, c159, c160, c161, c162, c163, c164, c165, c166, c167, c168, c169, c170, c171, c172, c173, c174, c175, c176, c177, c178, c179, c180, c181, c182, c183, c184, c185, c186, c187, c188, c189, c190, c191, c192, c193, c194, c195, c196, c197, c198, c199, c200, c201, c202, c203, c204, c205, c206, c207, c208, c209, c210, c211, c212, c213, c214, c215, c216, c217, c218, c219, c220, c221, c222, c223, c224, c225, c226, c227, c228, c229], defers := [] } W) :
    (resLoop 2).wp Tryz.prog Q { tmps := #[c0, c1, (.pointer (some ⟨BP, 0, none⟩)), c3, c4, c5, c6, c7, c8, c9, c10, c11, c12, c13, c14, c15, (.slice (some ⟨E, 0, none⟩) cards.length cards.length), c17, u18, u19, c20, c21, c22, c23, c24, c25, c26, c27, c28, c29, c30, c31, c32, c33, c34, c35, c36, c37, c38, c39, c40, c41, c42, c43, c44, c45, c46, c47, c48, c49, c50, c51, c52, c53, c54, c55, c56, c57, c58, c59, c60, c61, c62, c63, c64, c65, c66, c67, c68, c69, c70, c71, c72, c73, c74, c75, c76, c77, c78, c79, c80, c81, c82, c83, c84, c85, c86, c87, c88, c89, c90, c91, c92, c93, c94, c95, c96, c97, c98, c99, c100, c101, c102, c103, c104, c105, c106, c107, c108, c109, c110, c111, c112, c113, c114, c115, c116, c117, c118, c119, c120, c121, c122, c123, c124, c125, c126, c127, c128, c129, c130, c131, c132, c133, c134, c135, c136, c137, c138, c139, c140, c141, c142, (.slice pA (powerP p cards).length pc), (.int .i64 ((powerP p cards).length : Nat)), (.int .i64 0), u146, u147, u148, u149, u150, u151, u152, u153, u154, u155, u156, u157, u158, c159, c160, c161, c162, c163, c164, c165, c166, c167, c168, c169, c170, c171, c172, c173, c174, c175, c176, c177, c178, c179, c180, c181, c182, c183, c184, c185, c186, c187, c188, c189, c190, c191, c192, c193, c194, c195, c196, c197, c198, c199, c200, c201, c202, c203, c204, c205, c206, c207, c208, c209, c210, c211, c212, c213, c214, c215, c216, c217, c218, c219, c220, c221, c222, c223, c224, c225, c226, c227, c228, c229], defers := [] } W0 := by
  have HAT := Lib.hid (fun (W : World) (h : Lt We W) (k : Nat) => c_at m.eA m.ec p.extra k W (hp.extra.later h))
  have HH : Hid (IntsF W0 E cards.length (extraTo p cards 0)) := Lib.hid (fun j hj => by rw [hI j hj]; simp [extraTo])
  have HF := Lib.hid hF
  have HP := Lib.hid hP
  have HB := Lib.hid hB
  have HEX := Lib.hid hex
  have HL := Lib.hid hl
  have hPm := hP.2.1
  have hPl : (powerP p cards).length ≤ 1000000 := by
    unfold powerP
    split
    · rw [List.length_mergeSort]
      have := realP_few (p := p) (i := p.power.toNat) (cls := -1) h200
      omega
    · simp
  have hlt4 : ∀ W, W0.grownBy W (some E) → Lt We W := fun W hg => hl.grown hg (fun k e => by have := Option.some.inj e; omega)
  clear hP hB hex hI hF hl
  dsimp only
  conv => arg 2; whnf
  go_loopw [145] (fun t wr => ∃ k : Nat, t = .int .i64 k ∧ k ≤ (powerP p cards).length ∧ W0.grownBy wr (some E) ∧ Hid (IntsF wr E cards.length (extraTo p cards k)) ∧ FreeF wr E cards.length) (fun t _ => (powerP p cards).length - (intOf t).toNat)
  case atStart => exact ⟨0, rfl, Nat.zero_le _, World.grownBy.refl _ _, HH, HF.out⟩
  case round =>
    clear HH
    obtain ⟨k, rfl, hk, hg, HI, hfr⟩ := hrel
    by_cases hlt : k < (powerP p cards).length
    · have hkz : (k : Int) < (powerP p cards).length := by omega
      have hltw := hlt4 _ hg
      have hb13 := hltw.cell HB.out.c13
      obtain ⟨vb, vo, rfl, hvb, hvc⟩ := HP.out.at_ k (by rw [nums_length]; exact hlt)
      rw [nth_nums _ _ hlt] at hvc
      have hvc2 := grown_cell hg hvc (fun e => hne vb vo rfl (Option.some.inj e))
      have hcar := mem_powerP (nth_mem (powerP p cards) k hlt)
      have hcz : ((nth (powerP p cards) k : Nat) : Int) < cards.length := by omega
      have he0 := HI.out _ hcar
      have hef := hfr.2 _ hcar
      have hel := hfr.1
      have HAT1 := Lib.hid (HAT.out wr hltw k)
      have HN : Hid (IntsF (wr.setCell ⟨E, nth (powerP p cards) k, none⟩ (.int .i64 (atP p.extra k))) E cards.length (extraTo p cards (k + 1))) := Lib.hid (by
        have h2 := HI.out.set (atP p.extra k) hcar
        intro j hj
        rw [h2 j hj, extraTo_succ hlt])
      have hg2 : W0.grownBy (wr.setCell ⟨E, nth (powerP p cards) k, none⟩ (.int .i64 (atP p.extra k))) (some E) := World.grownBy.trans hg (grownBy_setCell _ _ _ _)
      have hf2 : FreeF (wr.setCell ⟨E, nth (powerP p cards) k, none⟩ (.int .i64 (atP p.extra k))) E cards.length := hfr.set
      clear HI HAT hvc hltw
      generalize nth (powerP p cards) k = CAR at *
      go_wp2_with (first | (go_at_call 78; refine HAT1.out.mono ?_; rintro e w' ⟨rfl, rfl⟩) | fail)
      exact ⟨⟨k + 1, by go_num, by omega, hg2, HN, hf2⟩, by simp [intOf]; omega⟩
    · have hke : k = (powerP p cards).length := by omega
      subst hke
      go_wp2_with fail
      exact HEX.out _ _ _ _ _ _ _ _ _ _ _ _ _ _ _ _ _ hg HI.out hfr
end Go.Proofs.YtdpcdmcmpfjbjaaGreat
