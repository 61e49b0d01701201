/- Walks: the cars with real times: real, chosen; Walks: the real times in increasing order: sorted; and what is read off them: middle, slowest, before, share; Walks: before. -/
import Derived.Test.YtdpcdmcmpfjbjaaGreatJX
import Derived.Test.YtdpcdmcmpfjbjaaGreatShelf
import Derived.Sort.OwnSortedInts
import Derived.Deep.RegionWith
/- Walks: the cars with real times: real, chosen. -/
namespace Go.Proofs.YtdpcdmcmpfjbjaaGreat
open Go.RowKit
set_option linter.unusedVariables false
set_option linter.unusedSimpArgs false
attribute [local go_sem] Later.cell Later.frozen Later.size Later.ne Later.cell1 Later.cell2 Later.cell3 Later.size1 Later.size2 Later.size3 Later.ne1 Later.ne2 Later.ne3

set_option maxHeartbeats 2000000 in
set_option maxRecDepth 100000 in
theorem c_real (g : Nat) (em : EvM) (p : Plan) (cards : List Card) (i : Nat) (cls : Int) (w : World) (he : EventIs w g em p cards) (hi : ∀ j, j < cards.length → i < (nth cards j).lines.length) (hn : cards.length ≤ 200) :
    Calls Tryz.prog 64 #[.pointer (some ⟨g, 0, none⟩), .int .i64 i, .int .i64 cls] w fun e w' => ∃ A c, e = .returned (.slice A (realP p cards i cls).length c) ∧ ∃ q : Later w, w' = q.world ∧ Ints q.world A c (nums (realP p cards i cls)) := by
  have HE := Lib.hid he
  have hgl := he.lt
  obtain ⟨⟨iA, ic, jA, jc, pA, pc, eA, ec⟩, cA, cc, oA, oc⟩ := em
  have e14 := he.c14
  have HI := Lib.hid hi
  clear he hi
  go_enter Tryz.func64, Tryz.ntmps64
  go_wp2_with fail
  go_loopw [7, 15] (fun v t wr => ∃ (k : Nat) (q : Later w) (u : Value), u = v ∧ t = .int .i64 k ∧ wr = q.world ∧ k ≤ cards.length ∧ OwnI q.world w.heap.size u (nums (realTo p cards i cls k))) (fun _ t _ => cards.length - (intOf t).toNat)
  case atStart => exact ⟨0, ⟨w, Lt.refl w⟩, _, rfl, rfl, rfl, Nat.zero_le _, OwnI.nil _ _⟩
  case round =>
    obtain ⟨k, q, v, rfl, rfl, rfl, hk, HO⟩ := hrel
    by_cases hlt : k < cards.length
    · have hlz : (k : Int) < cards.length := by omega
      obtain ⟨b, o, rfl, hbl, ⟨sA, sc, lA, lc⟩, hci, c0, c1, c2⟩ := HE.out.cars.at_ k hlt
      have hlm := hci.lines.2.1
      have hlen := HI.out k hlt
      have hlez : (i : Int) < (nth cards k).lines.length := by omega
      obtain ⟨lb, lo, rfl, hlbl, l0, l1, l2, l3⟩ := hci.lines.at_ i hlen
      have HR := Lib.hid (realTo_succ p cards i cls k)
      have hlr := realTo_length p cards i cls k
      have isr : isReal p cards i cls k = (decide ((nth (nth cards k).lines i).mark = 0) && (runsP p (nth cards k) i && (decide (cls < 0) || decide ((nth cards k).cls = cls)))) := rfl
      have ISR := Lib.hid isr
      clear isr hci
      have HLN := Lib.hid (show (nums (realTo p cards i cls k)).length ≤ 1000000 by rw [nums_length]; omega)
      have HOO := HO
      by_cases hm : (nth (nth cards k).lines i).mark = 0
      · cases hr : runsP p (nth cards k) i with
        | true =>
          by_cases h1 : cls < 0
          · -- any class
            have HN := Lib.hid (show realTo p cards i cls (k + 1) = realTo p cards i cls k ++ [k] by rw [HR.out, ISR.out]; simp [*])
            go_wp2_with (first | (go_at_call 55; refine (c_runs g _ p cards k i _ (HE.out.later (q.lt.alloc _)) hlt).mono ?_; rintro e w' ⟨rfl, rfl⟩) | (at_builtin; refine wp_app1 (w0 := w) rfl _ _ rfl v (nums (realTo p cards i cls k)) k rfl rfl HO q.lt HLN.out ?_; intro v1 q1 hO1 _))
            exact ⟨⟨k + 1, q1, _, rfl, by go_num, rfl, by omega, by rw [HN.out, nums_append]; exact hO1⟩, by simp [intOf]; omega⟩
          · by_cases h2 : (nth cards k).cls = cls
            · have h2b : ((nth cards k).cls == cls) = true := beq_iff_eq.2 h2
              have HN := Lib.hid (show realTo p cards i cls (k + 1) = realTo p cards i cls k ++ [k] by rw [HR.out, ISR.out]; simp [*])
              clear h2
              go_wp2_with (first | (go_at_call 55; refine (c_runs g _ p cards k i _ (HE.out.later (q.lt.alloc _)) hlt).mono ?_; rintro e w' ⟨rfl, rfl⟩) | (at_builtin; refine wp_app1 (w0 := w) rfl _ _ rfl v (nums (realTo p cards i cls k)) k rfl rfl HO q.lt HLN.out ?_; intro v1 q1 hO1 _))
              exact ⟨⟨k + 1, q1, _, rfl, by go_num, rfl, by omega, by rw [HN.out, nums_append]; exact hO1⟩, by simp [intOf]; omega⟩
            · have h2b : ((nth cards k).cls == cls) = false := beq_eq_false_iff_ne.2 h2
              have HN := Lib.hid (show realTo p cards i cls (k + 1) = realTo p cards i cls k by rw [HR.out, ISR.out]; simp [*])
              go_wp2_with (first | (go_at_call 55; refine (c_runs g _ p cards k i _ (HE.out.later (q.lt.alloc _)) hlt).mono ?_; rintro e w' ⟨rfl, rfl⟩) | fail)
              exact ⟨⟨k + 1, ⟨_, q.lt.alloc _⟩, _, rfl, by go_num, rfl, by omega, by rw [HN.out]; exact HO.later ((Lt.refl _).alloc _)⟩, by simp [intOf]; omega⟩
        | false =>
          have HN := Lib.hid (show realTo p cards i cls (k + 1) = realTo p cards i cls k by rw [HR.out, ISR.out]; simp [*])
          go_wp2_with (first | (go_at_call 55; refine (c_runs g _ p cards k i _ (HE.out.later (q.lt.alloc _)) hlt).mono ?_; rintro e w' ⟨rfl, rfl⟩) | fail)
          exact ⟨⟨k + 1, ⟨_, q.lt.alloc _⟩, _, rfl, by go_num, rfl, by omega, by rw [HN.out]; exact HO.later ((Lt.refl _).alloc _)⟩, by simp [intOf]; omega⟩
      · have hmb : ((nth (nth cards k).lines i).mark == 0) = false := beq_eq_false_iff_ne.2 hm
        have HN := Lib.hid (show realTo p cards i cls (k + 1) = realTo p cards i cls k by rw [HR.out, ISR.out]; simp [*])
        go_wp2_with (first | (go_at_call 55; refine (c_runs g _ p cards k i _ (HE.out.later (q.lt.alloc _)) hlt).mono ?_; rintro e w' ⟨rfl, rfl⟩) | fail)
        exact ⟨⟨k + 1, ⟨_, q.lt.alloc _⟩, _, rfl, by go_num, rfl, by omega, by rw [HN.out]; exact HO.later ((Lt.refl _).alloc _)⟩, by simp [intOf]; omega⟩
    · have hke : k = cards.length := by omega
      subst hke
      have HO' : OwnI q.world w.heap.size v (nums (realP p cards i cls)) := HO
      obtain ⟨A, c, rfl⟩ := HO'.form
      have HF := Lib.hid HO'.ints
      have HL := Lib.hid (nums_length (realP p cards i cls))
      clear HO HO'
      go_wp2_with fail
      go_ret
      exact ⟨A, c, ret_slice HL.out, q, rfl, HF.out⟩

set_option maxHeartbeats 1000000 in
set_option maxRecDepth 100000 in
theorem c_chosen (g : Nat) (em : EvM) (p : Plan) (cards : List Card) (car i : Nat) (w : World) (he : EventIs w g em p cards) (hcar : car < cards.length) (hi : ∀ j, j < cards.length → i < (nth cards j).lines.length) (hn : cards.length ≤ 200) :
    Calls Tryz.prog 103 #[.pointer (some ⟨g, 0, none⟩), .int .i64 car, .int .i64 i] w fun e w' => ∃ A c, e = .returned (.slice A (chosenP p cards car i).length c) ∧ ∃ q : Later w, w' = q.world ∧ Ints q.world A c (nums (chosenP p cards car i)) := by
  have HR := Lib.hid (fun (W : World) (h : Lt w W) (cls : Int) => c_real g em p cards i cls W (he.later h) hi hn)
  have HC := Lib.hid (show chosenP p cards car i = if 0 < (realP p cards i (nth cards car).cls).length then realP p cards i (nth cards car).cls else realP p cards i (-1) from rfl)
  obtain ⟨⟨iA, ic, jA, jc, pA, pc, eA, ec⟩, cA, cc, oA, oc⟩ := em
  have e14 := he.c14
  have hgl := he.lt
  have hcm := he.cars.2.1
  obtain ⟨b, o, rfl, hbl, ⟨sA, sc, lA, lc⟩, hci, c0, c1, c2⟩ := he.cars.at_ car hcar
  clear he hci hi
  generalize chosenP p cards car i = CH at HC ⊢
  go_enter Tryz.func103, Tryz.ntmps103
  go_wp2_with fail
  refine (HR.out w (Lt.refl w) (nth cards car).cls).mono ?_
  rintro e w' ⟨A, c, rfl, q, rfl, hI⟩
  have HI := Lib.hid hI
  clear hI
  by_cases h0 : 0 < (realP p cards i (nth cards car).cls).length
  · have HE : Hid (CH = realP p cards i (nth cards car).cls) := by rw [HC.out, if_pos h0]; rfl
    have h1 : (0 : Int) < ((realP p cards i (nth cards car).cls).length : Int) := by omega
    go_wp2_with fail
    go_ret
    exact ⟨A, c, ret_slice (by rw [HE.out]), q, rfl, by rw [HE.out]; exact HI.out⟩
  · have HE : Hid (CH = realP p cards i (-1)) := by rw [HC.out, if_neg h0]; rfl
    have h1 : ¬ (0 : Int) < ((realP p cards i (nth cards car).cls).length : Int) := by omega
    go_wp2_with fail
    refine (HR.out q.world q.lt (-1)).mono ?_
    rintro e w' ⟨A1, c1, rfl, q1, rfl, hI1⟩
    have HI1 := Lib.hid hI1
    clear hI1
    go_wp2_with fail
    go_ret
    exact ⟨A1, c1, ret_slice (by rw [HE.out]), ⟨q1.world, q1.to q.lt⟩, rfl, by rw [HE.out]; exact HI1.out⟩
end Go.Proofs.YtdpcdmcmpfjbjaaGreat
/- Walks: the real times in increasing order: sorted; and what is read off them: middle, slowest, before, share. -/
namespace Go.Proofs.YtdpcdmcmpfjbjaaGreat
open Go.RowKit
set_option linter.unusedVariables false
set_option linter.unusedSimpArgs false
attribute [local go_sem] Later.cell Later.frozen Later.size Later.ne Later.cell1 Later.cell2 Later.cell3 Later.size1 Later.size2 Later.size3 Later.ne1 Later.ne2 Later.ne3

/-- slices.Sort of a slice of the call's own. -/
theorem c_sort (base : Nat) (v : Value) (xs : List Int) (w : World) (h : OwnI w base v xs) (hl : xs.length < 4611686018427387904) :
    Calls Tryz.prog 96 #[v] w fun e w' => e = .returned (.tuple #[]) ∧ OwnI w' base v (sortP xs) ∧ w.grownBy w' v.ownBlock := by
  rcases h.2 with ⟨rfl, hn⟩ | ⟨g, cap, cur, rfl, hb, hg, hn, hm, hs, ht⟩
  · have : xs = [] := List.length_eq_zero_iff.1 hn
    subst this
    rw [show sortP [] = [] from by simp [sortP]]
    exact (Tryz.slices_Sort_int_none none 0 w).mono fun e w' ⟨he, hw⟩ => ⟨he, by rw [hw]; exact OwnI.nil _ _, by rw [hw]; exact World.grownBy.refl _ _⟩
  · rw [Nat.mul_one] at ht
    refine (Tryz.slices_Sort_int g 0 cap xs w (holds_of_blockI hg ht) (Array.getElem?_eq_some_iff.1 hg).1 hl).mono ?_
    rintro e w' ⟨he, n, os, rfl⟩
    have hlen : (sortP xs).length = xs.length := by simp [sortP]
    have hr := ownsRow_sortedI (w := w) (n := n) (os := os) (e := 3) hlen hb hg hn hm hs
    refine ⟨he, ?_, grownBy_sortedI _⟩
    unfold OwnI
    rw [hlen]
    exact hr

theorem timesOf_take (cards : List Card) (l : List Nat) (i k : Nat) (h : k < l.length) : timesOf cards (l.take (k + 1)) i = timesOf cards (l.take k) i ++ [tookP cards (nth l k) i] := by
  unfold timesOf
  rw [take_succ_nth l k h, List.map_append]
  rfl

set_option maxHeartbeats 2000000 in
set_option maxRecDepth 100000 in
theorem c_sorted (g : Nat) (em : EvM) (p : Plan) (cards : List Card) (A : Option Addr) (c : Nat) (l : List Nat) (i : Nat) (w : World) (he : EventIs w g em p cards) (hI : Ints w A c (nums l))
    (hlt : ∀ j, j ∈ l → j < cards.length) (hi : ∀ j, j < cards.length → i < (nth cards j).lines.length) (hn : l.length ≤ 200) :
    Calls Tryz.prog 67 #[.pointer (some ⟨g, 0, none⟩), .slice A l.length c, .int .i64 i] w fun e w' => ∃ A c, e = .returned (.slice A (sortedP cards l i).length c) ∧ ∃ q : Later w, w' = q.world ∧ Ints q.world A c (sortedP cards l i) := by
  have HT := Lib.hid (fun (W : World) (h : Lt w W) (j : Nat) (hj : j < l.length) => c_took g em p cards (nth l j) i W (he.later h) (hlt _ (nth_mem l j hj)) (hi _ (hlt _ (nth_mem l j hj))))
  have HCEL := Lib.hid (fun (j : Nat) (hj : j < l.length) => (by obtain ⟨b, o, e, hb, hc⟩ := hI.at_ j (by rw [nums_length]; exact hj); rw [nth_nums l j hj] at hc; exact ⟨b, o, e, hb, hc⟩ : ∃ b o, A = some ⟨b, o, none⟩ ∧ b < w.heap.size ∧ w.cell? ⟨b, o + j, none⟩ = some (.int .i64 (nth l j : Nat))))
  clear he hI hlt hi
  go_enter Tryz.func67, Tryz.ntmps67
  go_wp2_with fail
  go_loopw [7, 12] (fun v t wr => ∃ (k : Nat) (q : Later w) (u : Value), u = v ∧ t = .int .i64 k ∧ wr = q.world ∧ k ≤ l.length ∧ OwnI q.world w.heap.size u (timesOf cards (l.take k) i)) (fun _ t _ => l.length - (intOf t).toNat)
  case atStart => exact ⟨0, ⟨w, Lt.refl w⟩, _, rfl, rfl, rfl, Nat.zero_le _, OwnI.nil _ _⟩
  case round =>
    obtain ⟨k, q, v, rfl, rfl, rfl, hk, HO⟩ := hrel
    by_cases hlt : k < l.length
    · have hlz : (k : Int) < l.length := by omega
      obtain ⟨b, o, rfl, hbl, hcel⟩ := HCEL.out k hlt
      have HN := Lib.hid (timesOf_take cards l i k hlt)
      have HLN := Lib.hid (show (timesOf cards (l.take k) i).length ≤ 1000000 by simp [timesOf]; omega)
      go_wp2_with (first
        | (go_at_call 66; refine (HT.out q.world q.lt k hlt).mono ?_; rintro e w' ⟨rfl, rfl⟩)
        | (at_builtin; refine wp_app (w0 := w) rfl _ _ rfl v (timesOf cards (l.take k) i) (tookP cards (nth l k) i) rfl rfl HO q.lt HLN.out ?_; intro v1 q1 hO1 _))
      exact ⟨⟨k + 1, q1, _, rfl, by go_num, rfl, by omega, by rw [HN.out]; exact hO1⟩, by simp [intOf]; omega⟩
    · have hke : k = l.length := by omega
      subst hke
      rw [List.take_length] at HO
      obtain ⟨A1, c1, rfl⟩ := HO.form
      have HS := Lib.hid (c_sort w.heap.size _ (timesOf cards l i) q.world HO (by simp [timesOf]; omega))
      have HLE := Lib.hid (show (timesOf cards l i).length = (sortedP cards l i).length by simp [sortedP, sortP])
      have HB := Lib.hid HO.base_le
      clear HO
      go_wp2_with fail
      refine HS.out.mono ?_
      rintro e w' ⟨rfl, hO2, hg2⟩
      have hO3 : OwnI w' w.heap.size (.slice A1 (sortedP cards l i).length c1) (sortedP cards l i) := by rw [← HLE.out]; exact hO2
      have HF := Lib.hid hO3.ints
      have hlt2 : Lt w w' := q.lt.grown hg2 HB.out
      clear hO2 hO3 hg2
      obtain ⟨q2, rfl⟩ : ∃ q2 : Later w, w' = q2.world := ⟨⟨w', hlt2⟩, rfl⟩
      go_wp2_with fail
      go_ret
      exact ⟨A1, c1, ret_slice HLE.out, q2, rfl, HF.out⟩

set_option maxHeartbeats 1000000 in
set_option maxRecDepth 100000 in
theorem c_middle (g : Nat) (em : EvM) (p : Plan) (cards : List Card) (A : Option Addr) (c : Nat) (l : List Nat) (car i : Nat) (w : World) (he : EventIs w g em p cards) (hI : Ints w A c (nums l)) (hlt : ∀ j, j ∈ l → j < cards.length) (hi : ∀ j, j < cards.length → i < (nth cards j).lines.length) (hn : l.length ≤ 200) (h0 : 0 < l.length) :
    Calls Tryz.prog 104 #[.pointer (some ⟨g, 0, none⟩), .slice A l.length c, .int .i64 car, .int .i64 i] w fun e w' => e = .returned (.int .i64 (nth (sortedP cards l i) ((l.length - 1) / 2))) ∧ ∃ q : Later w, w' = q.world := by
  have HS := Lib.hid (c_sorted g em p cards A c l i w he hI hlt hi hn)
  have HL := sortedP_length cards l i
  clear he hI hlt hi
  generalize sortedP cards l i = S at HS HL ⊢
  go_enter Tryz.func104, Tryz.ntmps104
  go_wp2_with fail
  refine HS.out.mono ?_
  rintro e w' ⟨A1, c1, rfl, q, rfl, hI1⟩
  obtain ⟨b, o, rfl, hbl, hcel⟩ := hI1.at_ ((l.length - 1) / 2) (by omega)
  have hz : (((l.length - 1) / 2 : Nat) : Int) < (S.length : Int) := by omega
  have hz2 : (l.length - 1) / 2 < S.length := by omega
  have HL2 := Lib.hid HL
  clear hI1 HL
  go_wp2_with fail
  go_ret
  exact ⟨rfl, q, rfl⟩

set_option maxHeartbeats 1000000 in
set_option maxRecDepth 100000 in
theorem c_slowest (g : Nat) (em : EvM) (p : Plan) (cards : List Card) (A : Option Addr) (c : Nat) (l : List Nat) (car i : Nat) (w : World) (he : EventIs w g em p cards) (hI : Ints w A c (nums l)) (hlt : ∀ j, j ∈ l → j < cards.length) (hi : ∀ j, j < cards.length → i < (nth cards j).lines.length) (hn : l.length ≤ 200) (h0 : 0 < l.length) :
    Calls Tryz.prog 105 #[.pointer (some ⟨g, 0, none⟩), .slice A l.length c, .int .i64 car, .int .i64 i] w fun e w' => e = .returned (.int .i64 (nth (sortedP cards l i) (l.length - 1))) ∧ ∃ q : Later w, w' = q.world := by
  have HS := Lib.hid (c_sorted g em p cards A c l i w he hI hlt hi hn)
  have HL := sortedP_length cards l i
  clear he hI hlt hi
  generalize sortedP cards l i = S at HS HL ⊢
  go_enter Tryz.func105, Tryz.ntmps105
  go_wp2_with fail
  refine HS.out.mono ?_
  rintro e w' ⟨A1, c1, rfl, q, rfl, hI1⟩
  obtain ⟨b, o, rfl, hbl, hcel⟩ := hI1.at_ (l.length - 1) (by omega)
  have hz : ((l.length - 1 : Nat) : Int) < (S.length : Int) := by omega
  have hz2 : l.length - 1 < S.length := by omega
  have HL2 := Lib.hid HL
  clear hI1 HL
  go_wp2_with fail
  go_ret
  exact ⟨rfl, q, rfl⟩

theorem share_wrap (a p : Int) (ha : 0 ≤ a ∧ a ≤ 36000000) (hp : 100 ≤ p ∧ p ≤ 1000) : IntKind.i64.wrap ((IntKind.i64.wrap (IntKind.i64.wrap (a * p) + 99)).tdiv 100) = (a * p + 99) / 100 := by
  have h0 : 0 ≤ a * p := Int.mul_nonneg ha.1 (by omega)
  have h1 : a * p ≤ 36000000 * 1000 := Int.mul_le_mul ha.2 hp.2 (by omega) (by omega)
  generalize a * p = x at h0 h1 ⊢
  have h2 : IntKind.i64.wrap x = x := IntWalk.i64_in _ (by omega)
  rw [h2]
  have h3 : IntKind.i64.wrap (x + 99) = x + 99 := IntWalk.i64_in _ (by omega)
  rw [h3, Int.tdiv_eq_ediv_of_nonneg (by omega), IntWalk.i64_in _ (by omega)]

set_option maxHeartbeats 1000000 in
set_option maxRecDepth 100000 in
theorem c_share (g : Nat) (em : EvM) (p : Plan) (cards : List Card) (A : Option Addr) (c : Nat) (l : List Nat) (car i : Nat) (w : World) (he : EventIs w g em p cards) (hI : Ints w A c (nums l)) (hlt : ∀ j, j ∈ l → j < cards.length) (hi : ∀ j, j < cards.length → i < (nth cards j).lines.length) (hn : l.length ≤ 200) (h0 : 0 < l.length)
    (hb : ∀ j, j ∈ l → 0 ≤ tookP cards j i ∧ tookP cards j i ≤ 36000000) (hp : 100 ≤ p.percent ∧ p.percent ≤ 1000) :
    Calls Tryz.prog 107 #[.pointer (some ⟨g, 0, none⟩), .slice A l.length c, .int .i64 car, .int .i64 i] w fun e w' => e = .returned (.int .i64 ((nth (sortedP cards l i) 0 * p.percent + 99) / 100)) ∧ ∃ q : Later w, w' = q.world := by
  have HS := Lib.hid (fun (W : World) (h : Lt w W) => c_sorted g em p cards A c l i W (he.later h) (hI.later h) hlt hi hn)
  have HL := sortedP_length cards l i
  have hbd := sortedP_bd hb 0 h0
  have e10 := he.c10
  have hgl := he.lt
  clear he hI hlt hi hb
  have HSH := Lib.hid (share_wrap (nth (sortedP cards l i) 0) p.percent hbd hp)
  generalize sortedP cards l i = S at HS HL hbd HSH ⊢
  have hz3 : 0 < S.length := by omega
  have hz2 : (0 : Int) < (S.length : Int) := by omega
  go_enter Tryz.func107, Tryz.ntmps107
  go_wp2_with fail
  go_region_with (first | (go_at_call 67; refine (HS.out _ (Lt.refl w).drew).mono ?_; rintro e w1 ⟨A1, c1, rfl, q, rfl, hI1⟩; have hq10 := q.lt.cell ((Lt.refl w).drew.cell e10); obtain ⟨b, o, rfl, hbl, hcel⟩ := hI1.at_ 0 hz3; simp only [Nat.add_zero] at hcel; clear hI1))
  all_goals
    go_wp2_with fail
    go_ret
    exact ⟨ret_int HSH.out, ⟨q.world, (Lt.refl w).drew.trans q.lt⟩, rfl⟩
end Go.Proofs.YtdpcdmcmpfjbjaaGreat
/- Walks: before. -/
namespace Go.Proofs.YtdpcdmcmpfjbjaaGreat
open Go.RowKit
set_option linter.unusedVariables false
set_option linter.unusedSimpArgs false
attribute [local go_sem] Later.cell Later.frozen Later.size Later.ne Later.cell1 Later.cell2 Later.cell3 Later.size1 Later.size2 Later.size3 Later.ne1 Later.ne2 Later.ne3

theorem before_take (cards : List Card) (l : List Nat) (i k : Nat) (M : Int) (s : Int × Int) (h : k < l.length) : (l.take (k + 1)).foldl (beforeStep cards i M) s = beforeStep cards i M ((l.take k).foldl (beforeStep cards i M) s) (nth l k) := by
  rw [take_succ_nth l k h, List.foldl_append]
  rfl
theorem before_cases (cards : List Card) (i c : Nat) (M : Int) (s : Int × Int) :
    (¬ (nth (nth cards c).lines i).minute ≤ M ∧ Hid (beforeStep cards i M s c = s)) ∨
    ((nth (nth cards c).lines i).minute ≤ M ∧ s.1 < (nth (nth cards c).lines i).minute ∧ Hid (beforeStep cards i M s c = ((nth (nth cards c).lines i).minute, tookP cards c i))) ∨
    ((nth (nth cards c).lines i).minute ≤ M ∧ ¬ s.1 < (nth (nth cards c).lines i).minute ∧ ((nth (nth cards c).lines i).minute == s.1) = false ∧ Hid (beforeStep cards i M s c = s)) ∨
    ((nth (nth cards c).lines i).minute ≤ M ∧ ¬ s.1 < (nth (nth cards c).lines i).minute ∧ ((nth (nth cards c).lines i).minute == s.1) = true ∧ s.2 < tookP cards c i ∧ Hid (beforeStep cards i M s c = ((nth (nth cards c).lines i).minute, tookP cards c i))) ∨
    ((nth (nth cards c).lines i).minute ≤ M ∧ ¬ s.1 < (nth (nth cards c).lines i).minute ∧ ((nth (nth cards c).lines i).minute == s.1) = true ∧ ¬ s.2 < tookP cards c i ∧ Hid (beforeStep cards i M s c = s)) := by
  unfold beforeStep
  generalize (nth (nth cards c).lines i).minute = m
  generalize tookP cards c i = t
  by_cases h1 : m ≤ M
  · by_cases h2 : s.1 < m
    · right; left
      exact ⟨h1, h2, Lib.hid (if_pos ⟨h1, Or.inl h2⟩)⟩
    · by_cases h3 : m = s.1
      · by_cases h4 : s.2 < t
        · right; right; right; left
          exact ⟨h1, h2, beq_iff_eq.2 h3, h4, Lib.hid (if_pos ⟨h1, Or.inr ⟨h3, h4⟩⟩)⟩
        · right; right; right; right
          refine ⟨h1, h2, beq_iff_eq.2 h3, h4, Lib.hid (if_neg ?_)⟩
          rintro ⟨_, h | ⟨_, h⟩⟩
          · exact h2 h
          · exact h4 h
      · right; right; left
        refine ⟨h1, h2, beq_eq_false_iff_ne.2 h3, Lib.hid (if_neg ?_)⟩
        rintro ⟨_, h | ⟨h, _⟩⟩
        · exact h2 h
        · exact h3 h
  · left
    exact ⟨h1, Lib.hid (if_neg (fun h => h1 h.1))⟩

set_option maxHeartbeats 2000000 in
set_option maxRecDepth 100000 in
theorem c_before (g : Nat) (em : EvM) (p : Plan) (cards : List Card) (A : Option Addr) (c : Nat) (l : List Nat) (car i : Nat) (w : World) (he : EventIs w g em p cards) (hI : Ints w A c (nums l)) (hlt : ∀ j, j ∈ l → j < cards.length) (hi : ∀ j, j < cards.length → i < (nth cards j).lines.length) (hn : l.length ≤ 200) (h0 : 0 < l.length) (hcar : car < cards.length) :
    Calls Tryz.prog 106 #[.pointer (some ⟨g, 0, none⟩), .slice A l.length c, .int .i64 car, .int .i64 i] w fun e w' => e = .returned (.int .i64 (beforeP cards l car i)) ∧ ∃ q : Later w, w' = q.world := by
  have HS := Lib.hid (fun (W : World) (h : Lt w W) => c_sorted g em p cards A c l i W (he.later h) (hI.later h) hlt hi hn)
  have HT := Lib.hid (fun (W : World) (h : Lt w W) (j : Nat) (hj : j < l.length) => c_took g em p cards (nth l j) i W (he.later h) (hlt _ (nth_mem l j hj)) (hi _ (hlt _ (nth_mem l j hj))))
  have HLT := Lib.hid (fun (j : Nat) (hj : j < l.length) => (⟨hlt _ (nth_mem l j hj), hi _ (hlt _ (nth_mem l j hj))⟩ : nth l j < cards.length ∧ i < (nth cards (nth l j)).lines.length))
  have HE := Lib.hid he
  obtain ⟨⟨iA, ic, jA, jc, pA, pc, eA, ec⟩, cA, cc, oA, oc⟩ := em
  have e14 := he.c14
  have hgl := he.lt
  have hcm := he.cars.2.1
  obtain ⟨b, o, rfl, hbl, ⟨sA, sc, lA, lc⟩, hci, -, -, c2⟩ := he.cars.at_ car hcar
  obtain ⟨lb, lo, rfl, hlbl, l0, -, -, -⟩ := hci.lines.at_ i (hi car hcar)
  have hcl := hi car hcar
  have hclz : (i : Int) < (nth cards car).lines.length := by omega
  have hcz : (car : Int) < (cards.length : Int) := by omega
  have hlm := hci.lines.2.1
  have HCEL := Lib.hid (fun (j : Nat) (hj : j < l.length) => (by obtain ⟨b, o, e, hb, hc⟩ := hI.at_ j (by rw [nums_length]; exact hj); rw [nth_nums l j hj] at hc; exact ⟨b, o, e, hb, hc⟩ : ∃ b o, A = some ⟨b, o, none⟩ ∧ b < w.heap.size ∧ w.cell? ⟨b, o + j, none⟩ = some (.int .i64 (nth l j : Nat))))
  have hSL := sortedP_length cards l i
  have HB := Lib.hid (show beforeP cards l car i = (l.foldl (beforeStep cards i (nth (nth cards car).lines i).minute) (-1, nth (sortedP cards l i) 0)).2 from rfl)
  generalize beforeP cards l car i = BB at HB ⊢
  clear he hI hlt hi hci
  generalize hSS : sortedP cards l i = S at HS HB hSL
  have hz3 : 0 < S.length := by omega
  have hz2 : (0 : Int) < (S.length : Int) := by omega
  clear hSS
  generalize (nth (nth cards car).lines i).minute = M at l0 HB
  go_enter Tryz.func106, Tryz.ntmps106
  go_wp2_with fail
  go_region_with (first | (go_at_call 67; refine (HS.out _ (Lt.refl w).drew).mono ?_; rintro e w1 ⟨A1, c1, rfl, q, rfl, hI1⟩; obtain ⟨b1, o1, rfl, hbl1, hcel⟩ := hI1.at_ 0 hz3; simp only [Nat.add_zero] at hcel; clear hI1))
  obtain ⟨q0, hq0⟩ : ∃ q0 : Later w, q.world = q0.world := ⟨⟨q.world, (Lt.refl w).drew.trans q.lt⟩, rfl⟩
  rw [hq0]
  clear hq0 hcel hbl1 q
  go_wp2_with fail
  go_loopw [9, 10, 23] (fun v9 v10 t wr => ∃ (k : Nat) (q : Later w), v9 = .int .i64 ((l.take k).foldl (beforeStep cards i M) (-1, nth S 0)).1 ∧ v10 = .int .i64 ((l.take k).foldl (beforeStep cards i M) (-1, nth S 0)).2 ∧ t = .int .i64 k ∧ wr = q.world ∧ k ≤ l.length) (fun _ _ t _ => l.length - (intOf t).toNat)
  case atStart => exact ⟨0, q0, rfl, rfl, rfl, rfl, Nat.zero_le _⟩
  case round =>
    obtain ⟨k, q, rfl, rfl, rfl, rfl, hk⟩ := hrel
    by_cases hlt : k < l.length
    · have hlz : (k : Int) < l.length := by omega
      obtain ⟨b2, o2, rfl, hbl2, hcel2⟩ := HCEL.out k hlt
      have HN := Lib.hid (before_take cards l i k M (-1, nth S 0) hlt)
      obtain ⟨hjc, hji⟩ := HLT.out k hlt
      have hjcz : ((nth l k : Nat) : Int) < cards.length := by omega
      have hjiz : (i : Int) < (nth cards (nth l k)).lines.length := by omega
      obtain ⟨b3, o3, e3, -, ⟨sA3, sc3, lA3, lc3⟩, hci3, -, -, d2⟩ := HE.out.cars.at_ (nth l k) hjc
      cases e3
      have hlm3 := hci3.lines.2.1
      obtain ⟨lb3, lo3, rfl, hlbl3, k0, -, -, -⟩ := hci3.lines.at_ i hji
      clear hci3
      rcases before_cases cards i (nth l k) M ((l.take k).foldl (beforeStep cards i M) (-1, nth S 0)) with ⟨t1, HC⟩ | ⟨t1, t2, HC⟩ | ⟨t1, t2, t3, HC⟩ | ⟨t1, t2, t3, t4, HC⟩ | ⟨t1, t2, t3, t4, HC⟩
      all_goals
        go_wp2_with fail
        refine wp_region_later follows_ (by kernel_rfl) ?_
        repeat (go_big_quiet_step ((go_at_call 66; exact Calls.quiet_same (HT.out _ (Later.to _ (by first | exact q.lt | exact q.lt.alloc _ | exact (q.lt.alloc _).alloc _ | exact ((q.lt.alloc _).alloc _).alloc _)) k hlt))))
        refine wpQuiet_nil ?_
        rintro _ ⟨q2, rfl⟩
        go_wp2_with fail
        refine ⟨⟨k + 1, ⟨q2.world, Later.to _ (by first | exact q.lt | exact q.lt.alloc _ | exact (q.lt.alloc _).alloc _ | exact ((q.lt.alloc _).alloc _).alloc _)⟩, ?_, ?_, by go_num, rfl, by omega⟩, by simp [intOf]; omega⟩
        all_goals rw [HN.out, HC.out]
    · have hke : k = l.length := by omega
      subst hke
      have HF : Hid (((l.take l.length).foldl (beforeStep cards i M) (-1, nth S 0)).2 = BB) := Lib.hid (by rw [List.take_length, HB.out])
      go_wp2_with fail
      go_ret
      exact ⟨ret_int HF.out, q, rfl⟩
end Go.Proofs.YtdpcdmcmpfjbjaaGreat
