/- Walks: Late, Early, Jump, Time of the reference. -/
import Derived.Test.YtdpcdmcmpfjbjaaGreatJFD
import Derived.Test.YtdpcdmcmpfjbjaaGreatJE
/- Walks: Late, Early, Jump, Time of the reference. -/
namespace Go.Proofs.YtdpcdmcmpfjbjaaGreat
open Go.RowKit
set_option linter.unusedVariables false
set_option linter.unusedSimpArgs false
attribute [local go_sem] Later.cell Later.frozen Later.size Later.ne Later.cell1 Later.cell2 Later.cell3 Later.size1 Later.size2 Later.size3 Later.ne1 Later.ne2 Later.ne3

theorem early_bd2 {p : Plan} {c : Card} {i : Nat} (hP : PlanOK p) (hC : CardOK p c) (hi : i < p.items.length) : 0 ≤ earlyP p c i ∧ earlyP p c i ≤ 101440 := by
  have h1 := by_bd hP hC hi
  have h2 := due_bd hP hC i hi
  have h3 := (hC.line i hi).1
  unfold earlyP
  split
  · omega
  · unfold offP; split <;> omega
/-- The false starts in the lines ahead of item k. -/
def jumpNo (c : Card) : Nat → Nat
  | 0 => 0
  | k + 1 => jumpNo c k + if (nth c.lines k).jump = true then 1 else 0
theorem jumpNo_le (c : Card) : ∀ k, jumpNo c k ≤ k := by
  intro k
  induction k with
  | zero => exact Nat.le_refl _
  | succ k ih => show jumpNo c k + _ ≤ _; split <;> omega
theorem jumpNo_eq (p : Plan) (c : Card) : ∀ k, (∀ j, j < k → runsP p c j = true) → (jumpsTo p c k).length = jumpNo c k := by
  intro k
  induction k with
  | zero => intro _; rfl
  | succ k ih =>
    intro h
    have h1 := ih (fun j hj => h j (by omega))
    rw [jumpsTo_succ]
    show _ = jumpNo c k + _
    unfold isJump
    rw [h k (by omega), Bool.and_true]
    split <;> simp [h1]
theorem jumpP_no {p : Plan} {c : Card} {i : Nat} (hr : runsP p c i = true) (hj : (nth c.lines i).jump = true) (h1 : 1 ≤ p.jumps.length) : jumpP p c i = nth p.jumps (min (jumpNo c i) (p.jumps.length - 1)) := by
  unfold jumpP
  rw [jumpNo_eq p c (i + 1) (fun j hj => runs_down hr (by omega))]
  show nth p.jumps (min (jumpNo c i + if (nth c.lines i).jump = true then 1 else 0) p.jumps.length - 1) = _
  rw [if_pos hj]
  congr 1
  omega

set_option maxHeartbeats 1000000 in
set_option maxRecDepth 100000 in
theorem r_Late (m : PlanM) (p : Plan) (cm : CardM) (c : Card) (i : Nat) (w : World) (hp : PlanIs w m p) (hc : CardIs w cm c) (hP : PlanOK p) (hC : CardOK p c) (hi : i < p.items.length) :
    Calls Tryz.prog 59 #[planV m p, cardV cm c, .int .i64 i] w fun e w' => e = .returned (.int .i64 (lateP p c i * p.late)) ∧ ∃ q : Later w, w' = q.world := by
  have hHL := fun (W : World) (h : Lt w W) => r_late m p cm c i W (hp.later h) (hc.later h) hP hC hi
  have hbd := mul_bd (show 0 ≤ lateP p c i ∧ lateP p c i ≤ 101440 from late_bd2 hP hC hi) hP.late
  have hw : IntKind.i64.wrap (lateP p c i * p.late) = lateP p c i * p.late := IntWalk.i64_in _ (by omega)
  clear hP hC hbd
  obtain ⟨W0, hW0, hB⟩ := boxed w m p cm c
  have HP := Lib.hid (hp.later hB.lt)
  have HC := Lib.hid (hc.later hB.lt)
  have HL0 := Lib.hid hB.lt
  have hbz := hB.sz
  have hbw : w.heap.size < W0.heap.size := by omega
  have p0 := hB.plan.c0
  have p1 := hB.plan.c1
  have p2 := hB.plan.c2
  have p3 := hB.plan.c3
  have p4 := hB.plan.c4
  have p5 := hB.plan.c5
  have p6 := hB.plan.c6
  have p7 := hB.plan.c7
  have p8 := hB.plan.c8
  have p9 := hB.plan.c9
  have p10 := hB.plan.c10
  have p11 := hB.plan.c11
  have p12 := hB.plan.c12
  have p13 := hB.plan.c13
  have d0 := hB.d0
  have d1 := hB.d1
  have d2 := hB.d2
  have him := hp.items.2.1
  have hlm := hc.lines.2.1
  have hsm := hc.starts.2.1
  obtain ⟨iA, ic, jA, jc, pA, pc, eA, ec⟩ := m
  obtain ⟨sA, sc, lA, lc⟩ := cm
  simp only [planV, cardV, planC, cardC] at hW0 hHL ⊢
  have HW0 := Lib.hid hW0
  clear hW0 hB hp hc
  have HL := Lib.hid (fun W (h : Lt W0 W) => hHL W (HL0.out.trans h))
  clear hHL
  generalize lateP p c i = L at *
  go_enter Tryz.func59, Tryz.ntmps59
  go_upto_region 1 with fail
  rw [HW0.out]
  go_wp2_with fail
  refine wp_region_later follows_ (by kernel_rfl) ?_
  repeat (go_big_quiet_step ((go_at_call 90; exact Calls.quiet_later (HL.out _ (Later.lt _)))))
  refine wpQuiet_nil ?_
  rintro _ ⟨q, rfl⟩
  go_wp2_with fail
  go_ret
  exact ⟨rfl, Later.mk_eq (q.to HL0.out)⟩

set_option maxHeartbeats 1000000 in
set_option maxRecDepth 100000 in
theorem r_Early (m : PlanM) (p : Plan) (cm : CardM) (c : Card) (i : Nat) (w : World) (hp : PlanIs w m p) (hc : CardIs w cm c) (hP : PlanOK p) (hC : CardOK p c) (hi : i < p.items.length) :
    Calls Tryz.prog 60 #[planV m p, cardV cm c, .int .i64 i] w fun e w' => e = .returned (.int .i64 (earlyP p c i * p.early)) ∧ ∃ q : Later w, w' = q.world := by
  have hHL := fun (W : World) (h : Lt w W) => r_early m p cm c i W (hp.later h) (hc.later h) hP hC hi
  have hbd := mul_bd (show 0 ≤ earlyP p c i ∧ earlyP p c i ≤ 101440 from early_bd2 hP hC hi) hP.early
  have hw : IntKind.i64.wrap (earlyP p c i * p.early) = earlyP p c i * p.early := IntWalk.i64_in _ (by omega)
  clear hP hC hbd
  obtain ⟨W0, hW0, hB⟩ := boxed w m p cm c
  have HP := Lib.hid (hp.later hB.lt)
  have HC := Lib.hid (hc.later hB.lt)
  have HL0 := Lib.hid hB.lt
  have hbz := hB.sz
  have hbw : w.heap.size < W0.heap.size := by omega
  have p0 := hB.plan.c0
  have p1 := hB.plan.c1
  have p2 := hB.plan.c2
  have p3 := hB.plan.c3
  have p4 := hB.plan.c4
  have p5 := hB.plan.c5
  have p6 := hB.plan.c6
  have p7 := hB.plan.c7
  have p8 := hB.plan.c8
  have p9 := hB.plan.c9
  have p10 := hB.plan.c10
  have p11 := hB.plan.c11
  have p12 := hB.plan.c12
  have p13 := hB.plan.c13
  have d0 := hB.d0
  have d1 := hB.d1
  have d2 := hB.d2
  have him := hp.items.2.1
  have hlm := hc.lines.2.1
  have hsm := hc.starts.2.1
  obtain ⟨iA, ic, jA, jc, pA, pc, eA, ec⟩ := m
  obtain ⟨sA, sc, lA, lc⟩ := cm
  simp only [planV, cardV, planC, cardC] at hW0 hHL ⊢
  have HW0 := Lib.hid hW0
  clear hW0 hB hp hc
  have HL := Lib.hid (fun W (h : Lt W0 W) => hHL W (HL0.out.trans h))
  clear hHL
  generalize earlyP p c i = L at *
  go_enter Tryz.func60, Tryz.ntmps60
  go_upto_region 1 with fail
  rw [HW0.out]
  go_wp2_with fail
  refine wp_region_later follows_ (by kernel_rfl) ?_
  repeat (go_big_quiet_step ((go_at_call 110; exact Calls.quiet_later (HL.out _ (Later.lt _)))))
  refine wpQuiet_nil ?_
  rintro _ ⟨q, rfl⟩
  go_wp2_with fail
  go_ret
  exact ⟨rfl, Later.mk_eq (q.to HL0.out)⟩

set_option maxHeartbeats 2000000 in
set_option maxRecDepth 100000 in
theorem r_Jump (m : PlanM) (p : Plan) (cm : CardM) (c : Card) (i : Nat) (w : World) (hp : PlanIs w m p) (hc : CardIs w cm c) (hP : PlanOK p) (hC : CardOK p c) (hi : i < p.items.length) (hr : runsP p c i = true) :
    Calls Tryz.prog 58 #[planV m p, cardV cm c, .int .i64 i] w fun e w' => e = .returned (.int .i64 (if (nth c.lines i).jump = true then jumpP p c i else 0)) ∧ ∃ q : Later w, w' = q.world := by
  have hjl := hP.jumps.1
  have hjm := hP.jumps.2.1
  have hfew := hP.few
  have hil : i < c.lines.length := by rw [hC.lines]; exact hi
  have hilz : (i : Int) < c.lines.length := by omega
  have HJP := Lib.hid (fun hj => jumpP_no (p := p) (c := c) hr hj hjl)
  have hjlim := hp.jumps.2.1
  clear hP hC hr
  obtain ⟨W0, hW0, hB⟩ := boxed w m p cm c
  have HP := Lib.hid (hp.later hB.lt)
  have HC := Lib.hid (hc.later hB.lt)
  have HL0 := Lib.hid hB.lt
  have hbz := hB.sz
  have hbw : w.heap.size < W0.heap.size := by omega
  have p0 := hB.plan.c0
  have p1 := hB.plan.c1
  have p2 := hB.plan.c2
  have p3 := hB.plan.c3
  have p4 := hB.plan.c4
  have p5 := hB.plan.c5
  have p6 := hB.plan.c6
  have p7 := hB.plan.c7
  have p8 := hB.plan.c8
  have p9 := hB.plan.c9
  have p10 := hB.plan.c10
  have p11 := hB.plan.c11
  have p12 := hB.plan.c12
  have p13 := hB.plan.c13
  have d0 := hB.d0
  have d1 := hB.d1
  have d2 := hB.d2
  have him := hp.items.2.1
  have hlm := hc.lines.2.1
  have hsm := hc.starts.2.1
  obtain ⟨iA, ic, jA, jc, pA, pc, eA, ec⟩ := m
  obtain ⟨sA, sc, lA, lc⟩ := cm
  simp only [planV, cardV, planC, cardC] at hW0 ⊢
  have HW0 := Lib.hid hW0
  clear hW0 hB hp hc
  obtain ⟨lb, lo, rfl, hlbl, hline⟩ := HC.out.lines.2.2 (by omega)
  have HLN := Lib.hid hline
  clear hline
  obtain ⟨l0, l1, l2, l3⟩ := HLN.out i hil
  by_cases hj : (nth c.lines i).jump = true
  rotate_left
  · have hjf : (nth c.lines i).jump = false := by rwa [Bool.not_eq_true] at hj
    rw [if_neg hj]
    rw [hjf] at l2
    clear hj hjf
    go_enter Tryz.func58, Tryz.ntmps58
    go_upto_region 1 with fail
    rw [HW0.out]
    go_wp2_with fail
    go_ret
    exact ⟨rfl, Later.mk_eq (HL0.out)⟩
  rw [if_pos hj, HJP.out hj]
  obtain ⟨J, hJ⟩ : ∃ J, min (jumpNo c i) (p.jumps.length - 1) = J := ⟨_, rfl⟩
  have hJl : J < p.jumps.length := by omega
  have hJz : (J : Int) < p.jumps.length := by omega
  obtain ⟨jb, jo, rfl, hjb, hjc⟩ := HP.out.jumps.at_ J hJl
  have hmin : min ((jumpNo c i : Nat) : Int) ((p.jumps.length : Int) - 1) = (J : Int) := by omega
  have HMIN := Lib.hid hmin
  rw [hJ]
  have hni := jumpNo_le c i
  rw [hj] at l2
  clear hJ hmin hj
  go_enter Tryz.func58, Tryz.ntmps58
  go_upto_region 1 with fail
  rw [HW0.out]
  go_wp2_with fail
  go_loop [7, 8] (fun n t => ∃ k : Nat, t = .int .i64 k ∧ n = .int .i64 ((jumpNo c k : Nat) : Int) ∧ k ≤ i) (fun _ t => i - (intOf t).toNat)
  case atStart => exact ⟨0, rfl, rfl, Nat.zero_le _⟩
  case round =>
    obtain ⟨k, rfl, rfl, hk⟩ := hrel
    by_cases hlt : k < i
    · have hkz : (k : Int) < (i : Int) := by omega
      have hkl : k < c.lines.length := by omega
      have hklz : (k : Int) < c.lines.length := by omega
      obtain ⟨k0, k1, k2, k3⟩ := HLN.out k hkl
      have hnk := jumpNo_le c k
      have hst : jumpNo c (k + 1) = jumpNo c k + if (nth c.lines k).jump = true then 1 else 0 := rfl
      by_cases hj : (nth c.lines k).jump = true
      · rw [if_pos hj] at hst
        rw [hj] at k2
        have HST := Lib.hid hst
        clear hst hj
        generalize jumpNo c k = NK at *
        go_wp2_with fail
        exact ⟨⟨k + 1, by go_num, by rw [HST.out]; go_num, by omega⟩, by simp [intOf]; omega⟩
      · have hjf : (nth c.lines k).jump = false := by rwa [Bool.not_eq_true] at hj
        rw [if_neg hj, Nat.add_zero] at hst
        rw [hjf] at k2
        have HST := Lib.hid hst
        clear hst hj hjf
        generalize jumpNo c k = NK at *
        go_wp2_with fail
        exact ⟨⟨k + 1, by go_num, by rw [HST.out]; simp, by omega⟩, by simp [intOf]; omega⟩
    · have hke : k = i := by omega
      subst hke
      generalize jumpNo c k = NK at *
      have hmin := HMIN.out
      have hJ0 : (0 : Int) ≤ (J : Int) := by omega
      go_wp2_with fail
      go_ret
      exact ⟨rfl, Later.mk_eq HL0.out⟩

set_option maxHeartbeats 4000000 in
set_option maxRecDepth 100000 in
theorem r_Time (m : PlanM) (p : Plan) (A : Option Addr) (c : Nat) (cards : List Card) (k i : Nat) (w : World) (hp : PlanIs w m p) (hc : Cards w A c cards) (hP : PlanOK p) (hO : cardsOK p cards) (hi : i < p.items.length) (hk : k < cards.length) :
    Calls Tryz.prog 27 #[planV m p, .slice A cards.length c, .int .i64 k, .int .i64 i] w fun e w' => e = .returned (.int .i64 (timeP p cards k i)) ∧ ∃ q : Later w, w' = q.world := by
  have hHB := fun (W : World) (h : Lt w W) => r_Basis m p A c cards i k W (hp.later h) (hc.later h) hP hO hi hk
  have hHN := fun (W : World) (h : Lt w W) => r_notional m p A c cards k i W (hp.later h) (hc.later h) hP hO hi hk
  have hil : ∀ j, j < cards.length → i < (nth cards j).lines.length := fun j hj => by rw [(hO.2 j hj).lines]; exact hi
  have hch : ∀ j, j < (chosenP p cards k i).length → nth (chosenP p cards k i) j < cards.length := fun j hj => chosen_lt (nth_mem _ j hj)
  have hfew : (chosenP p cards k i).length ≤ 200 := chosen_few hO.1
  have HSB := Lib.hid (fun (h0 : 0 < (chosenP p cards k i).length) => sortedP_bd (cards := cards) (i := i) (fun j hj => chosen_bd hO hi hj) 0 h0)
  have hSL := sortedP_length cards (chosenP p cards k i) i
  have hmark := ((hO.2 k hk).line i hi).2.2
  have hms := hP.missed
  have hcm := hc.2.1
  obtain ⟨W0, hW0, hB⟩ := boxed1 w m p
  have HL0 := Lib.hid hB.lt
  have HS := Lib.hid (fun (W : World) (h : Lt W0 W) (B : Option Addr) (d : Nat) (hI : Ints W B d (nums (chosenP p cards k i))) => r_sorted A c cards i B d (chosenP p cards k i) W (hc.later (hB.lt.trans h)) hI (fun j hj => ⟨hch j hj, hil _ (hch j hj)⟩) (by omega))
  have hbw := hB.sz
  have p0 := hB.plan.c0
  have p1 := hB.plan.c1
  have p2 := hB.plan.c2
  have p3 := hB.plan.c3
  have p4 := hB.plan.c4
  have p5 := hB.plan.c5
  have p6 := hB.plan.c6
  have p7 := hB.plan.c7
  have p8 := hB.plan.c8
  have p9 := hB.plan.c9
  have p10 := hB.plan.c10
  have p11 := hB.plan.c11
  have p12 := hB.plan.c12
  have p13 := hB.plan.c13
  have hkz : (k : Int) < cards.length := by omega
  obtain ⟨b, o, rfl, hbl, cm, hcm2, -, -, x2⟩ := (hc.later hB.lt).at_ k hk
  obtain ⟨lb, lo, hlA, hlb, l0, l1, l2, l3⟩ := hcm2.lines.at_ i (hil k hk)
  have hilk := hil k hk
  have hilz : (i : Int) < (nth cards k).lines.length := by omega
  rw [hlA] at x2
  have TP := Lib.hid (@timeP_plain p cards k i)
  have TM0 := Lib.hid (@timeP_missed0 p cards k i)
  have TM := Lib.hid (@timeP_missed p cards k i)
  have TN : Hid ((nth (nth cards k).lines i).mark = 1 → timeP p cards k i = notionalR p cards k i) := Lib.hid fun h => by
    unfold notionalR
    by_cases h0 : (chosenP p cards k i).length = 0
    · rw [if_pos h0, timeP_0 h h0]
    · rw [if_neg h0, timeP_n h h0]
  obtain ⟨iA, ic, jA, jc, pA, pc, eA, ec⟩ := m
  simp only [planV, planC] at hW0 hHB hHN ⊢
  have HBA := Lib.hid (fun W (h : Lt W0 W) => hHB W (HL0.out.trans h))
  have HNO := Lib.hid (fun W (h : Lt W0 W) => hHN W (HL0.out.trans h))
  have HW0 := Lib.hid hW0
  clear hW0 hB hp hc hHB hHN hP hO hcm2 hlA hil hch
  rw [show tookP cards k i = (nth (nth cards k).lines i).time from rfl] at TP
  generalize notionalR p cards k i = RR at *
  generalize timeP p cards k i = TT at *
  generalize sortedP cards (chosenP p cards k i) i = S at *
  generalize chosenP p cards k i = L at *
  have HSL := Lib.hid hSL
  clear hSL
  by_cases m0 : (nth (nth cards k).lines i).mark = 0
  · have m0b : ((nth (nth cards k).lines i).mark == 0) = true := beq_iff_eq.2 m0
    have HE := Lib.hid (TP.out m0)
    clear m0 hmark
    go_enter Tryz.func27, Tryz.ntmps27
    go_upto_region 1 with fail
    rw [HW0.out]
    go_wp2_with fail
    go_ret
    exact ⟨ret_int HE.out.symm, ⟨_, HL0.out.alloc _⟩, rfl⟩
  have m0b : ((nth (nth cards k).lines i).mark == 0) = false := beq_eq_false_iff_ne.2 m0
  by_cases m1 : (nth (nth cards k).lines i).mark = 1
  · have m1b : ((nth (nth cards k).lines i).mark == 1) = true := beq_iff_eq.2 m1
    have HE := Lib.hid (TN.out m1)
    clear m0 m1 hmark
    go_enter Tryz.func27, Tryz.ntmps27
    go_upto_region 1 with fail
    rw [HW0.out]
    go_wp2_with fail
    refine (HNO.out _ ((Lt.refl _).alloc _)).mono ?_
    rintro e w' ⟨rfl, q, rfl⟩
    go_wp2_with fail
    go_ret
    exact ⟨ret_int HE.out.symm, ⟨_, q.to (HL0.out.alloc _)⟩, rfl⟩
  have m1b : ((nth (nth cards k).lines i).mark == 1) = false := beq_eq_false_iff_ne.2 m1
  have m2 : (nth (nth cards k).lines i).mark = 2 := by omega
  have HE0 := Lib.hid (TM0.out m2)
  have HE1 := Lib.hid (TM.out m2)
  clear m0 m1 m2 hmark
  go_enter Tryz.func27, Tryz.ntmps27
  go_upto_region 1 with fail
  rw [HW0.out]
  go_wp2_with fail
  refine (HBA.out _ ((Lt.refl _).alloc _)).mono ?_
  rintro e w' ⟨B1, c1, rfl, q1, rfl, hI1⟩
  obtain ⟨q2, hq2⟩ : ∃ q2 : Later W0, q1.world = q2.world := ⟨⟨_, q1.to ((Lt.refl _).alloc _)⟩, rfl⟩
  rw [hq2] at hI1 ⊢
  have HI1 := Lib.hid hI1
  have hB1m := hI1.2.1
  clear hI1 hq2 q1
  have hwm : IntKind.i64.wrap p.missed = p.missed := IntWalk.i64_in _ (by omega)
  by_cases h0 : L.length = 0
  · have h0b : decide ((0 : Int) < (L.length : Int)) = false := by rw [decide_eq_false_iff_not]; omega
    have h0n : decide (0 < L.length) = false := by rw [decide_eq_false_iff_not]; omega
    have h0m : ¬ 0 < L.length := by omega
    have HE := Lib.hid (HE0.out h0)
    clear h0
    go_wp2_with fail
    go_ret
    exact ⟨ret_int HE.out.symm, ⟨q2.world, q2.to HL0.out⟩, rfl⟩
  · have h0b : decide ((0 : Int) < (L.length : Int)) = true := by rw [decide_eq_true_iff]; omega
    have HE := Lib.hid (HE1.out h0)
    have hsb := HSB.out (by omega)
    have hL0 : 0 < L.length := by omega
    have hL0z : (0 : Int) < L.length := by omega
    have hw2 : IntKind.i64.wrap (nth S 0 + p.missed) = nth S 0 + p.missed := IntWalk.i64_in _ (by omega)
    clear h0
    go_wp2_with fail
    refine (HS.out _ q2.lt _ _ HI1.out).mono ?_
    rintro e w' ⟨B2, c2, rfl, q3, rfl, hI2⟩
    obtain ⟨q4, hq4⟩ : ∃ q4 : Later W0, q3.world = q4.world := ⟨⟨_, q3.to q2.lt⟩, rfl⟩
    rw [hq4] at hI2 ⊢
    obtain ⟨vb, vo, rfl, hvb, hvc⟩ := hI2.at_ 0 (by rw [HSL.out]; exact hL0)
    rw [Nat.add_zero] at hvc
    clear hI2 hq4 q3
    go_wp2_with fail
    go_ret
    exact ⟨ret_int HE.out.symm, ⟨q4.world, q4.to HL0.out⟩, rfl⟩
end Go.Proofs.YtdpcdmcmpfjbjaaGreat
