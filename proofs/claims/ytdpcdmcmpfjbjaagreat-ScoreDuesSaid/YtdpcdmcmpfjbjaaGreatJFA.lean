/- Walks: Due, late, early of the reference; Walks: Out, In of the reference. -/
import Derived.Test.YtdpcdmcmpfjbjaaGreatJU
import Derived.Test.YtdpcdmcmpfjbjaaGreatJX
import Derived.Test.YtdpcdmcmpfjbjaaGreatJF
/- Walks: Due, late, early of the reference. -/
namespace Go.Proofs.YtdpcdmcmpfjbjaaGreat
open Go.RowKit
set_option linter.unusedVariables false
set_option linter.unusedSimpArgs false
attribute [local go_sem] Later.cell Later.frozen Later.size Later.ne Later.cell1 Later.cell2 Later.cell3 Later.size1 Later.size2 Later.size3 Later.ne1 Later.ne2 Later.ne3

/-- A plan and a card in two new blocks. -/
structure Boxed (w W0 : World) (m : PlanM) (p : Plan) (cm : CardM) (c : Card) : Prop where
  lt : Lt w W0
  sz : w.heap.size + 1 < W0.heap.size
  plan : PlanAt W0 w.heap.size m p
  d0 : W0.cell? ⟨w.heap.size + 1, 0, none⟩ = some (.int .i64 c.cls)
  d1 : W0.cell? ⟨w.heap.size + 1, 1, none⟩ = some (.slice cm.sA c.starts.length cm.sc)
  d2 : W0.cell? ⟨w.heap.size + 1, 2, none⟩ = some (.slice cm.lA c.lines.length cm.lc)
theorem boxed (w : World) (m : PlanM) (p : Plan) (cm : CardM) (c : Card) : ∃ W0, (w.alloc (.cells (planC m p) 28)).alloc (.cells (cardC cm c) 31) = W0 ∧ Boxed w W0 m p cm c :=
  ⟨_, rfl, ((Lt.refl w).alloc _).alloc _, by simp, PlanAt.new.later ((Lt.refl _).alloc _), by simp [cardC], by simp [cardC], by simp [cardC]⟩

set_option maxHeartbeats 1000000 in
set_option maxRecDepth 100000 in
theorem r_Due (m : PlanM) (p : Plan) (cm : CardM) (c : Card) (i : Nat) (w : World) (hp : PlanIs w m p) (hc : CardIs w cm c)
    (hP : PlanOK p) (hC : CardOK p c) (hi : i < p.items.length) :
    Calls Tryz.prog 38 #[planV m p, cardV cm c, .int .i64 i] w fun e w' => e = .returned (.int .i64 (dueP p c i)) ∧ ∃ q : Later w, w' = q.world := by
  have hl := hC.lines
  have hs := leg_starts hP hC i hi
  have hleg := (hP.leg i hi).1
  have t0 := target_bd hP i hi
  have t1 := hC.starts.2.2 _ hs
  have t2 := (hC.line (i - 1) (by omega)).1
  clear hP hC
  obtain ⟨W0, hW0, hB⟩ := boxed w m p cm c
  have HP := Lib.hid (hp.later hB.lt)
  have HC := Lib.hid (hc.later hB.lt)
  have HL0 := Lib.hid hB.lt
  have hbz := hB.sz
  have hbw : w.heap.size < W0.heap.size := by omega
  have p0 := hB.plan.c0
  have p1 := hB.plan.c1
  have p2 := hB.plan.c2
  have p3 := hB.plan.c3
  have p4 := hB.plan.c4
  have p5 := hB.plan.c5
  have p6 := hB.plan.c6
  have p7 := hB.plan.c7
  have p8 := hB.plan.c8
  have p9 := hB.plan.c9
  have p10 := hB.plan.c10
  have p11 := hB.plan.c11
  have p12 := hB.plan.c12
  have p13 := hB.plan.c13
  have d0 := hB.d0
  have d1 := hB.d1
  have d2 := hB.d2
  have him := hp.items.2.1
  have hlm := hc.lines.2.1
  have hsm := hc.starts.2.1
  obtain ⟨iA, ic, jA, jc, pA, pc, eA, ec⟩ := m
  obtain ⟨sA, sc, lA, lc⟩ := cm
  simp only [planV, cardV, planC, cardC] at hW0 ⊢
  have HW0 := Lib.hid hW0
  clear hW0 hB hp hc
  obtain ⟨b, o, rfl, hbl, hitem⟩ := HP.out.items.2.2 (by omega)
  obtain ⟨lb, lo, rfl, hlbl, hline⟩ := HC.out.lines.2.2 (by omega)
  obtain ⟨sb, so, rfl, hsbl, hstart⟩ := HC.out.starts.2.2 (by omega)
  obtain ⟨a0, a1, a2, a3⟩ := hitem i hi
  have s0 := hstart _ hs
  unfold IntAt at s0
  rw [Nat.mul_one] at s0
  obtain ⟨lg, hlg⟩ : ∃ lg : Nat, (nth p.items i).leg = lg := ⟨_, (Int.toNat_of_nonneg hleg).symm⟩
  have dP : dueP p c i = if 0 < i ∧ (nth p.items (i - 1)).leg = lg then (nth c.lines (i - 1)).minute + (nth p.items i).target else nth c.starts lg + (nth p.items i).target := by unfold dueP; rw [hlg]; rfl
  have DP := Lib.hid dP
  clear dP
  rw [hlg] at a1
  rw [hlg, Int.toNat_natCast] at s0 hs t1
  have hleq := Lib.hid hl
  clear hl hlg hleg
  rw [DP.out]
  have hiz0 : (i : Int) < (p.items.length : Int) := by omega
  have hsz : (lg : Int) < (c.starts.length : Int) := by omega
  by_cases h0 : 0 < i
  · obtain ⟨k, rfl⟩ : ∃ k, i = k + 1 := ⟨i - 1, by omega⟩
    rw [Nat.add_sub_cancel] at DP t2 ⊢
    obtain ⟨b0, b1, b2, b3⟩ := hitem k (by omega)
    obtain ⟨l0, l1, l2, l3⟩ := hline k (by rw [hleq.out]; omega)
    have hll : k < c.lines.length := by rw [hleq.out]; omega
    have hlz : (k : Int) < (c.lines.length : Int) := by omega
    have hiz : (k : Int) + 1 < (p.items.length : Int) := by omega
    have k0 : (0 : Int) ≤ (k : Int) + 1 := by omega
    have k1 : ((k : Int) + 1).toNat = k + 1 := by omega
    have w1 : IntKind.i64.wrap (k : Int) = k := IntWalk.i64_in _ (by omega)
    have w2 : IntKind.i64.wrap ((nth c.lines k).minute + (nth p.items (k + 1)).target) = (nth c.lines k).minute + (nth p.items (k + 1)).target := IntWalk.i64_in _ (by omega)
    have w3 : IntKind.i64.wrap (nth c.starts lg + (nth p.items (k + 1)).target) = nth c.starts lg + (nth p.items (k + 1)).target := IntWalk.i64_in _ (by omega)
    clear hitem hline hstart
    by_cases hsame : (nth p.items k).leg = lg
    · have hsb : ((nth p.items k).leg == (lg : Int)) = true := beq_iff_eq.2 hsame
      rw [if_pos ⟨h0, hsame⟩]
      clear hsame DP
      go_enter Tryz.func38, Tryz.ntmps38
      go_upto_region 1 with fail
      rw [HW0.out]
      go_wp2_with fail
      refine wp_region_later follows_ (by kernel_rfl) ?_
      repeat (go_big_quiet_step (fail))
      refine wpQuiet_nil ?_
      rintro _ ⟨q, rfl⟩
      go_wp2_with fail
      refine wp_region_laterB q follows_ (by kernel_rfl) ?_
      repeat (go_big_quiet_step (fail))
      refine wpQuiet_nil ?_
      rintro _ ⟨r, rfl⟩
      go_wp2_with fail
      go_ret
      exact ⟨rfl, Later.mk_eq (r.to (HL0.out.alloc _))⟩
    · have hsb : ((nth p.items k).leg == (lg : Int)) = false := beq_eq_false_iff_ne.2 hsame
      rw [if_neg (fun h => hsame h.2)]
      clear hsame DP
      go_enter Tryz.func38, Tryz.ntmps38
      go_upto_region 1 with fail
      rw [HW0.out]
      go_wp2_with fail
      refine wp_region_later follows_ (by kernel_rfl) ?_
      repeat (go_big_quiet_step (fail))
      refine wpQuiet_nil ?_
      rintro _ ⟨q, rfl⟩
      go_wp2_with fail
      refine wp_region_laterB q follows_ (by kernel_rfl) ?_
      repeat (go_big_quiet_step (fail))
      refine wpQuiet_nil ?_
      rintro _ ⟨r, rfl⟩
      go_wp2_with fail
      go_ret
      exact ⟨rfl, Later.mk_eq (r.to (HL0.out.alloc _))⟩
  · obtain rfl : i = 0 := by omega
    rw [if_neg (fun h => h0 h.1)]
    simp only [Nat.zero_mul, Nat.add_zero] at a0 a1 a2 a3
    have w3 : IntKind.i64.wrap (nth c.starts lg + (nth p.items 0).target) = nth c.starts lg + (nth p.items 0).target := IntWalk.i64_in _ (by omega)
    clear hitem hline hstart
    go_enter Tryz.func38, Tryz.ntmps38
    go_upto_region 1 with fail
    rw [HW0.out]
    go_wp2_with fail
    refine wp_region_later follows_ (by kernel_rfl) ?_
    repeat (go_big_quiet_step (fail))
    refine wpQuiet_nil ?_
    rintro _ ⟨q, rfl⟩
    go_wp2_with fail
    refine wp_region_laterB q follows_ (by kernel_rfl) ?_
    repeat (go_big_quiet_step (fail))
    refine wpQuiet_nil ?_
    rintro _ ⟨r, rfl⟩
    go_wp2_with fail
    go_ret
    exact ⟨rfl, Later.mk_eq (r.to (HL0.out.alloc _))⟩

set_option maxHeartbeats 1000000 in
set_option maxRecDepth 100000 in
theorem r_late (m : PlanM) (p : Plan) (cm : CardM) (c : Card) (i : Nat) (w : World) (hp : PlanIs w m p) (hc : CardIs w cm c)
    (hP : PlanOK p) (hC : CardOK p c) (hi : i < p.items.length) :
    Calls Tryz.prog 90 #[planV m p, cardV cm c, .int .i64 i] w fun e w' => e = .returned (.int .i64 (lateP p c i)) ∧ ∃ q : Later w, w' = q.world := by
  have hHD := fun (W : World) (h : Lt w W) => r_Due m p cm c i W (hp.later h) (hc.later h) hP hC hi
  have hdb := due_bd hP hC i hi
  have hlb := (hC.line i hi).1
  have hl := hC.lines
  have hiz : (i : Int) < p.items.length := by omega
  have hil : i < c.lines.length := by omega
  have hilz : (i : Int) < c.lines.length := by omega
  clear hP hC hl
  obtain ⟨W0, hW0, hB⟩ := boxed w m p cm c
  have HP := Lib.hid (hp.later hB.lt)
  have HC := Lib.hid (hc.later hB.lt)
  have HL0 := Lib.hid hB.lt
  have hbz := hB.sz
  have hbw : w.heap.size < W0.heap.size := by omega
  have p0 := hB.plan.c0
  have p1 := hB.plan.c1
  have p2 := hB.plan.c2
  have p3 := hB.plan.c3
  have p4 := hB.plan.c4
  have p5 := hB.plan.c5
  have p6 := hB.plan.c6
  have p7 := hB.plan.c7
  have p8 := hB.plan.c8
  have p9 := hB.plan.c9
  have p10 := hB.plan.c10
  have p11 := hB.plan.c11
  have p12 := hB.plan.c12
  have p13 := hB.plan.c13
  have d0 := hB.d0
  have d1 := hB.d1
  have d2 := hB.d2
  have him := hp.items.2.1
  have hlm := hc.lines.2.1
  have hsm := hc.starts.2.1
  obtain ⟨iA, ic, jA, jc, pA, pc, eA, ec⟩ := m
  obtain ⟨sA, sc, lA, lc⟩ := cm
  simp only [planV, cardV, planC, cardC] at hW0 hHD ⊢
  have HW0 := Lib.hid hW0
  clear hW0 hB hp hc
  have HD := Lib.hid (fun W (h : Lt W0 W) => hHD W (HL0.out.trans h))
  clear hHD
  obtain ⟨b, o, rfl, hbl, a0, a1, a2, a3⟩ := HP.out.items.at_ i hi
  obtain ⟨lb, lo, rfl, hlbl, l0, l1, l2, l3⟩ := HC.out.lines.at_ i hil
  by_cases hk : (nth p.items i).kind = 1
  rotate_left
  · have hkb : ((nth p.items i).kind != 1) = true := by rw [bne_iff_ne]; exact hk
    have hz : offP p c i = 0 := if_pos (.inl hk)
    rw [show lateP p c i = 0 by unfold lateP; rw [hz]; simp]
    clear hk hz HD
    go_enter Tryz.func90, Tryz.ntmps90
    go_upto_region 1 with fail
    rw [HW0.out]
    go_wp2_with fail
    go_ret
    exact ⟨rfl, Later.mk_eq (HL0.out)⟩
  have hkb : ((nth p.items i).kind != 1) = false := by rw [bne_eq_false_iff_eq]; exact hk
  by_cases hmk : (nth c.lines i).mark = 2
  rotate_left
  · have hmb : ((nth c.lines i).mark == 2) = false := beq_eq_false_iff_ne.2 hmk
    have ho : offP p c i = (nth c.lines i).minute - dueP p c i := if_neg (by simp [hk, hmk])
    have HE := Lib.hid (show lateP p c i = max 0 ((nth c.lines i).minute - dueP p c i) by unfold lateP; rw [ho])
    generalize dueP p c i = D at *
    generalize lateP p c i = L at *
    clear hk hmk ho
    go_enter Tryz.func90, Tryz.ntmps90
    go_upto_region 1 with fail
    rw [HW0.out]
    go_wp2_with fail
    refine wp_region_later follows_ (by kernel_rfl) ?_
    repeat (go_big_quiet_step ((go_at_call 38; exact Calls.quiet_later (HD.out _ (Later.lt _)))))
    refine wpQuiet_nil ?_
    rintro _ ⟨q, rfl⟩
    go_wp2_with fail
    go_ret
    exact ⟨ret_int HE.out.symm, Later.mk_eq (q.to HL0.out)⟩
  have hmb : ((nth c.lines i).mark == 2) = true := beq_iff_eq.2 hmk
  have hz : offP p c i = 0 := if_pos (.inr hmk)
  rw [show lateP p c i = 0 by unfold lateP; rw [hz]; simp]
  clear hk hmk hz HD
  go_enter Tryz.func90, Tryz.ntmps90
  go_upto_region 1 with fail
  rw [HW0.out]
  go_wp2_with fail
  go_ret
  exact ⟨rfl, Later.mk_eq (HL0.out)⟩

set_option maxHeartbeats 1000000 in
set_option maxRecDepth 100000 in
theorem r_early (m : PlanM) (p : Plan) (cm : CardM) (c : Card) (i : Nat) (w : World) (hp : PlanIs w m p) (hc : CardIs w cm c)
    (hP : PlanOK p) (hC : CardOK p c) (hi : i < p.items.length) :
    Calls Tryz.prog 110 #[planV m p, cardV cm c, .int .i64 i] w fun e w' => e = .returned (.int .i64 (earlyP p c i)) ∧ ∃ q : Later w, w' = q.world := by
  have hHD := fun (W : World) (h : Lt w W) => r_Due m p cm c i W (hp.later h) (hc.later h) hP hC hi
  have hdb := due_bd hP hC i hi
  have hlb := (hC.line i hi).1
  have hl := hC.lines
  have hiz : (i : Int) < p.items.length := by omega
  have hil : i < c.lines.length := by omega
  have hilz : (i : Int) < c.lines.length := by omega
  clear hP hC hl
  obtain ⟨W0, hW0, hB⟩ := boxed w m p cm c
  have HP := Lib.hid (hp.later hB.lt)
  have HC := Lib.hid (hc.later hB.lt)
  have HL0 := Lib.hid hB.lt
  have hbz := hB.sz
  have hbw : w.heap.size < W0.heap.size := by omega
  have p0 := hB.plan.c0
  have p1 := hB.plan.c1
  have p2 := hB.plan.c2
  have p3 := hB.plan.c3
  have p4 := hB.plan.c4
  have p5 := hB.plan.c5
  have p6 := hB.plan.c6
  have p7 := hB.plan.c7
  have p8 := hB.plan.c8
  have p9 := hB.plan.c9
  have p10 := hB.plan.c10
  have p11 := hB.plan.c11
  have p12 := hB.plan.c12
  have p13 := hB.plan.c13
  have d0 := hB.d0
  have d1 := hB.d1
  have d2 := hB.d2
  have him := hp.items.2.1
  have hlm := hc.lines.2.1
  have hsm := hc.starts.2.1
  obtain ⟨iA, ic, jA, jc, pA, pc, eA, ec⟩ := m
  obtain ⟨sA, sc, lA, lc⟩ := cm
  simp only [planV, cardV, planC, cardC] at hW0 hHD ⊢
  have HW0 := Lib.hid hW0
  clear hW0 hB hp hc
  have HD := Lib.hid (fun W (h : Lt W0 W) => hHD W (HL0.out.trans h))
  clear hHD
  obtain ⟨b, o, rfl, hbl, a0, a1, a2, a3⟩ := HP.out.items.at_ i hi
  obtain ⟨lb, lo, rfl, hlbl, l0, l1, l2, l3⟩ := HC.out.lines.at_ i hil
  by_cases hk : (nth p.items i).kind = 1
  rotate_left
  · have hkb : ((nth p.items i).kind != 1) = true := by rw [bne_iff_ne]; exact hk
    have hz : offP p c i = 0 := if_pos (.inl hk)
    rw [show earlyP p c i = 0 by unfold earlyP; rw [hz]; simp]
    clear hk hz HD
    go_enter Tryz.func110, Tryz.ntmps110
    go_upto_region 1 with fail
    rw [HW0.out]
    go_wp2_with fail
    go_ret
    exact ⟨rfl, Later.mk_eq (HL0.out)⟩
  have hkb : ((nth p.items i).kind != 1) = false := by rw [bne_eq_false_iff_eq]; exact hk
  cases hf : (nth p.items i).free with
  | true =>
    rw [show earlyP p c i = 0 by unfold earlyP; rw [hf]; rfl]
    rw [hf] at a3
    clear hk HD hf
    go_enter Tryz.func110, Tryz.ntmps110
    go_upto_region 1 with fail
    rw [HW0.out]
    go_wp2_with fail
    go_ret
    exact ⟨rfl, Later.mk_eq (HL0.out)⟩
  | false =>
    rw [hf] at a3
    by_cases hmk : (nth c.lines i).mark = 2
    rotate_left
    · have hmb : ((nth c.lines i).mark == 2) = false := beq_eq_false_iff_ne.2 hmk
      have ho : offP p c i = (nth c.lines i).minute - dueP p c i := if_neg (by simp [hk, hmk])
      have HE := Lib.hid (show earlyP p c i = max 0 (dueP p c i - (nth c.lines i).minute) by unfold earlyP; rw [ho, hf]; simp; congr 1; omega)
      generalize dueP p c i = D at *
      generalize earlyP p c i = L at *
      clear hk hmk ho hf
      go_enter Tryz.func110, Tryz.ntmps110
      go_upto_region 1 with fail
      rw [HW0.out]
      go_wp2_with fail
      refine wp_region_later follows_ (by kernel_rfl) ?_
      repeat (go_big_quiet_step ((go_at_call 38; exact Calls.quiet_later (HD.out _ (Later.lt _)))))
      refine wpQuiet_nil ?_
      rintro _ ⟨q, rfl⟩
      go_wp2_with fail
      go_ret
      exact ⟨ret_int HE.out.symm, Later.mk_eq (q.to HL0.out)⟩
    have hmb : ((nth c.lines i).mark == 2) = true := beq_iff_eq.2 hmk
    have hz : offP p c i = 0 := if_pos (.inr hmk)
    rw [show earlyP p c i = 0 by unfold earlyP; rw [hz]; simp]
    clear hk hmk hz HD hf
    go_enter Tryz.func110, Tryz.ntmps110
    go_upto_region 1 with fail
    rw [HW0.out]
    go_wp2_with fail
    go_ret
    exact ⟨rfl, Later.mk_eq (HL0.out)⟩
end Go.Proofs.YtdpcdmcmpfjbjaaGreat
/- Walks: Out, In of the reference. -/
namespace Go.Proofs.YtdpcdmcmpfjbjaaGreat
open Go.RowKit
set_option linter.unusedVariables false
set_option linter.unusedSimpArgs false
attribute [local go_sem] Later.cell Later.frozen Later.size Later.ne Later.cell1 Later.cell2 Later.cell3 Later.size1 Later.size2 Later.size3 Later.ne1 Later.ne2 Later.ne3

theorem late_bd2 {p : Plan} {c : Card} {i : Nat} (hP : PlanOK p) (hC : CardOK p c) (hi : i < p.items.length) : 0 ≤ lateP p c i ∧ lateP p c i ≤ 101440 :=
  ⟨by unfold lateP; omega, late_bd hP hC hi⟩
theorem legSum_bd {p : Plan} {c : Card} (h : ∀ k, k < p.items.length → 0 ≤ lateP p c k ∧ lateP p c k ≤ 101440) (n : Int) : ∀ k, k ≤ p.items.length → 0 ≤ legSum p c n k ∧ legSum p c n k ≤ k * 101440 := by
  intro k
  induction k with
  | zero => intro _; simp [legSum]
  | succ k ih =>
    intro hk
    have h1 := ih (by omega)
    have h2 := h k (by omega)
    show 0 ≤ legSum p c n k + (if (nth p.items k).leg = n then lateP p c k else 0) ∧ legSum p c n k + (if (nth p.items k).leg = n then lateP p c k else 0) ≤ _
    split <;> omega

set_option maxHeartbeats 16000000 in
set_option maxRecDepth 100000 in
theorem r_Out (m : PlanM) (p : Plan) (cm : CardM) (c : Card) (w : World) (hp : PlanIs w m p) (hc : CardIs w cm c) (hP : PlanOK p) (hC : CardOK p c) :
    Calls Tryz.prog 37 #[planV m p, cardV cm c] w fun e w' => e = .returned (.int .i64 (outP p c)) ∧ ∃ q : Later w, w' = q.world := by
  have hHL := fun (W : World) (h : Lt w W) (i : Nat) (hi : i < p.items.length) => r_late m p cm c i W (hp.later h) (hc.later h) hP hC hi
  have hRL := fun (W : World) (h : Lt w W) => r_Legs m p W (hp.later h) hP
  have hlb := legs_bd hP
  have hpos := hP.pos
  have hfew := hP.few
  have HLEG := Lib.hid (fun i hi => hP.leg i hi)
  have HLINES := Lib.hid hC.lines
  have HLBD := Lib.hid (fun i (hi : i < p.items.length) => late_bd2 hP hC hi)
  have hml := hP.maxLate
  have hll := hP.legLate
  clear hP hC
  obtain ⟨W0, hW0, hB⟩ := boxed w m p cm c
  have HP := Lib.hid (hp.later hB.lt)
  have HC := Lib.hid (hc.later hB.lt)
  have HL0 := Lib.hid hB.lt
  have hbz := hB.sz
  have hbw : w.heap.size < W0.heap.size := by omega
  have p0 := hB.plan.c0
  have p1 := hB.plan.c1
  have p2 := hB.plan.c2
  have p3 := hB.plan.c3
  have p4 := hB.plan.c4
  have p5 := hB.plan.c5
  have p6 := hB.plan.c6
  have p7 := hB.plan.c7
  have p8 := hB.plan.c8
  have p9 := hB.plan.c9
  have p10 := hB.plan.c10
  have p11 := hB.plan.c11
  have p12 := hB.plan.c12
  have p13 := hB.plan.c13
  have d0 := hB.d0
  have d1 := hB.d1
  have d2 := hB.d2
  have him := hp.items.2.1
  have hlm := hc.lines.2.1
  have hsm := hc.starts.2.1
  obtain ⟨iA, ic, jA, jc, pA, pc, eA, ec⟩ := m
  obtain ⟨sA, sc, lA, lc⟩ := cm
  simp only [planV, cardV, planC, cardC] at hW0 hHL hRL ⊢
  have HW0 := Lib.hid hW0
  clear hW0 hB hp hc
  have HLT := Lib.hid (fun W (h : Lt W0 W) => hHL W (HL0.out.trans h))
  have RLG := Lib.hid (fun W (h : Lt W0 W) => hRL W (HL0.out.trans h))
  clear hHL hRL
  obtain ⟨b, o, rfl, hbl, hitem⟩ := HP.out.items.2.2 (by omega)
  obtain ⟨lb, lo, rfl, hlbl, hline⟩ := HC.out.lines.2.2 (by rw [HLINES.out]; omega)
  have HI := Lib.hid hitem
  have HLN := Lib.hid hline
  clear hitem hline
  go_enter Tryz.func37, Tryz.ntmps37
  go_upto_region 1 with fail
  rw [HW0.out]
  go_wp2_with fail
  go_loopw [5] (fun t wr => ∃ (i : Nat) (q : Later W0), t = .int .i64 i ∧ wr = q.world ∧ i ≤ p.items.length ∧ Hid (∀ j, j < i → ¬ OutAt p c j)) (fun t _ => p.items.length - (intOf t).toNat)
  case atStart => exact ⟨0, ⟨W0, Lt.refl W0⟩, rfl, rfl, Nat.zero_le _, fun j hj => absurd hj (Nat.not_lt_zero _)⟩
  case round =>
    obtain ⟨i, q, rfl, rfl, hi, HK⟩ := hrel
    by_cases hlt : i < p.items.length
    · have hiz : (i : Int) < p.items.length := by omega
      have hil : i < c.lines.length := by rw [HLINES.out]; exact hlt
      have hilz : (i : Int) < c.lines.length := by omega
      obtain ⟨a0, a1, a2, a3⟩ := HI.out i hlt
      obtain ⟨l0, l1, l2, l3⟩ := HLN.out i hil
      have HNX := Lib.hid (fun (h : ¬ OutAt p c i) (j : Nat) (hj : j < i + 1) => (if e : j = i then e ▸ h else HK.out j (by omega) : ¬ OutAt p c j))
      have HHIT := Lib.hid (fun (h : OutAt p c i) => outP_hit p c i hlt HK.out h)
      have hlgi := HLEG.out i hlt
      go_wp2_with fail
      go_loopw [6, 7] (fun s k wr => ∃ (j : Nat) (q2 : Later W0), k = .int .i64 j ∧ s = .int .i64 (legSum p c (nth p.items i).leg j) ∧ wr = q2.world ∧ j ≤ i + 1) (fun _ k _ => i + 1 - (intOf k).toNat)
      case atStart => exact ⟨0, q, rfl, rfl, rfl, Nat.zero_le _⟩
      case round =>
        obtain ⟨j, q2, rfl, rfl, rfl, hj⟩ := hrel
        by_cases hjl : j < i + 1
        · have hjz : (j : Int) ≤ (i : Int) := by omega
          have hjp : j < p.items.length := by omega
          have hjpz : (j : Int) < p.items.length := by omega
          obtain ⟨j0, j1, j2, j3⟩ := HI.out j hjp
          have hsb := legSum_bd (fun k hk => HLBD.out k hk) (nth p.items i).leg j (by omega)
          have hlb := HLBD.out j hjp
          have hstep : legSum p c (nth p.items i).leg (j + 1) = legSum p c (nth p.items i).leg j + if (nth p.items j).leg = (nth p.items i).leg then lateP p c j else 0 := rfl
          have HLJ := Lib.hid (fun W (h : Lt W0 W) => HLT.out W h j hjp)
          by_cases he : (nth p.items j).leg = (nth p.items i).leg
          · have heb : ((nth p.items j).leg == (nth p.items i).leg) = true := beq_iff_eq.2 he
            rw [if_pos he] at hstep
            have HST := Lib.hid hstep
            have hw : IntKind.i64.wrap (legSum p c (nth p.items i).leg j + lateP p c j) = legSum p c (nth p.items i).leg j + lateP p c j := IntWalk.i64_in _ (by omega)
            clear he hstep
            generalize legSum p c (nth p.items i).leg j = S at *
            generalize lateP p c j = L at *
            go_wp2_with fail
            refine wp_region_laterB q2 follows_ (by kernel_rfl) ?_
            repeat (go_big_quiet_step (fail))
            refine wpQuiet_nil ?_
            rintro _ ⟨q3, rfl⟩
            go_wp2_with fail
            refine (Calls.later (w := W0) (R := fun e => e = _) q3 (HLJ.out _ q3.lt)).mono ?_
            rintro e w' ⟨rfl, q4, rfl⟩
            go_wp2_with fail
            exact ⟨⟨j + 1, q4, by go_num, by rw [HST.out], rfl, by omega⟩, by simp [intOf]; omega⟩
          · have heb : ((nth p.items j).leg == (nth p.items i).leg) = false := beq_eq_false_iff_ne.2 he
            rw [if_neg he, Int.add_zero] at hstep
            have HST := Lib.hid hstep
            clear he hstep
            generalize legSum p c (nth p.items i).leg j = S at *
            go_wp2_with fail
            refine wp_region_laterB q2 follows_ (by kernel_rfl) ?_
            repeat (go_big_quiet_step (fail))
            refine wpQuiet_nil ?_
            rintro _ ⟨q3, rfl⟩
            go_wp2_with fail
            exact ⟨⟨j + 1, q3, by go_num, by rw [HST.out], rfl, by omega⟩, by simp [intOf]; omega⟩
        · have hje : j = i + 1 := by omega
          subst hje
          have hsb := legSum_bd (fun k hk => HLBD.out k hk) (nth p.items i).leg (i + 1) (by omega)
          have hlb2 := HLBD.out i hlt
          have HLI := Lib.hid (fun W (h : Lt W0 W) => HLT.out W h i hlt)
          have HOA : Hid (OutAt p c i ↔ p.maxLate < lateP p c i ∨ 0 < lateP p c i ∧ p.legLate < legSum p c (nth p.items i).leg (i + 1) ∨ (nth c.lines i).mark = 2 ∧ (p.ret = false ∨ (nth p.items i).leg = legs p - 1)) := Lib.hid Iff.rfl
          generalize legSum p c (nth p.items i).leg (i + 1) = S at *
          generalize lateP p c i = L at *
          go_wp2_with fail
          refine (Calls.later (w := W0) (R := fun e => e = _) q2 (HLI.out _ q2.lt)).mono ?_
          rintro e w' ⟨rfl, q4, rfl⟩
          by_cases h1 : p.maxLate < L
          · have HE := Lib.hid (HHIT.out (HOA.out.2 (.inl h1)))
            go_wp2_with fail
            go_ret
            exact ⟨ret_int HE.out.symm, Later.mk_eq (q4.to HL0.out)⟩
          have h1b : decide (p.maxLate < L) = false := by rw [decide_eq_false_iff_not]; exact h1
          by_cases h2 : 0 < L ∧ p.legLate < S
          · obtain ⟨h2a, h2b⟩ := h2
            have HE := Lib.hid (HHIT.out (HOA.out.2 (.inr (.inl ⟨h2a, h2b⟩))))
            go_wp2_with fail
            go_ret
            exact ⟨ret_int HE.out.symm, Later.mk_eq (q4.to HL0.out)⟩
          have hlate : ¬ (p.maxLate < L ∨ 0 < L ∧ p.legLate < S) := fun h => h.elim h1 h2
          by_cases hmk : (nth c.lines i).mark = 2
          rotate_left
          · have hmb : ((nth c.lines i).mark == 2) = false := beq_eq_false_iff_ne.2 hmk
            have HN := Lib.hid (HNX.out (fun h => (HOA.out.1 h).elim h1 fun h => h.elim h2 fun h => hmk h.1))
            clear hmk hlate
            by_cases h0 : 0 < L
            · have h3 : ¬ p.legLate < S := fun h => h2 ⟨h0, h⟩
              clear h2
              go_wp2_with fail
              refine wp_region_laterB q4 follows_ (by kernel_rfl) ?_
              repeat (go_big_quiet_step (fail))
              refine wpQuiet_nil ?_
              rintro _ ⟨q5, rfl⟩
              go_wp2_with fail
              exact ⟨⟨i + 1, q5, by go_num, rfl, by omega, HN⟩, by simp [intOf]; omega⟩
            · clear h2
              go_wp2_with fail
              refine wp_region_laterB q4 follows_ (by kernel_rfl) ?_
              repeat (go_big_quiet_step (fail))
              refine wpQuiet_nil ?_
              rintro _ ⟨q5, rfl⟩
              go_wp2_with fail
              exact ⟨⟨i + 1, q5, by go_num, rfl, by omega, HN⟩, by simp [intOf]; omega⟩
          have hmb : ((nth c.lines i).mark == 2) = true := beq_iff_eq.2 hmk
          have hlw : IntKind.i64.wrap (legs p - 1) = legs p - 1 := IntWalk.i64_in _ (by omega)
          by_cases hrt : p.ret = true
          rotate_left
          · have hr : p.ret = false := by rwa [Bool.not_eq_true] at hrt
            have HE := Lib.hid (HHIT.out (HOA.out.2 (.inr (.inr ⟨hmk, .inl hr⟩))))
            rw [hr] at p7
            clear hmk hlate hr hrt
            by_cases h0 : 0 < L
            · have h3 : ¬ p.legLate < S := fun h => h2 ⟨h0, h⟩
              clear h2
              go_wp2_with fail
              refine wp_region_laterB q4 follows_ (by kernel_rfl) ?_
              repeat (go_big_quiet_step (fail))
              refine wpQuiet_nil ?_
              rintro _ ⟨q5, rfl⟩
              go_wp2_with fail
              go_ret
              exact ⟨ret_int HE.out.symm, Later.mk_eq (q5.to HL0.out)⟩
            · clear h2
              go_wp2_with fail
              refine wp_region_laterB q4 follows_ (by kernel_rfl) ?_
              repeat (go_big_quiet_step (fail))
              refine wpQuiet_nil ?_
              rintro _ ⟨q5, rfl⟩
              go_wp2_with fail
              go_ret
              exact ⟨ret_int HE.out.symm, Later.mk_eq (q5.to HL0.out)⟩
          · have hr := hrt
            rw [hr] at p7
            simp only [hr] at RLG
            by_cases hlg : (nth p.items i).leg = legs p - 1
            · have hgb : ((nth p.items i).leg == legs p - 1) = true := beq_iff_eq.2 hlg
              have HE := Lib.hid (HHIT.out (HOA.out.2 (.inr (.inr ⟨hmk, .inr hlg⟩))))
              clear hmk hlate hr hlg hrt
              by_cases h0 : 0 < L
              · have h3 : ¬ p.legLate < S := fun h => h2 ⟨h0, h⟩
                clear h2
                go_wp2_with fail
                refine wp_region_laterB q4 follows_ (by kernel_rfl) ?_
                repeat (go_big_quiet_step ((go_at_call 51; exact Calls.quiet_later (RLG.out _ (Later.lt _)))))
                refine wpQuiet_nil ?_
                rintro _ ⟨q5, rfl⟩
                go_wp2_with fail
                go_ret
                exact ⟨ret_int HE.out.symm, Later.mk_eq (q5.to HL0.out)⟩
              · clear h2
                go_wp2_with fail
                refine wp_region_laterB q4 follows_ (by kernel_rfl) ?_
                repeat (go_big_quiet_step ((go_at_call 51; exact Calls.quiet_later (RLG.out _ (Later.lt _)))))
                refine wpQuiet_nil ?_
                rintro _ ⟨q5, rfl⟩
                go_wp2_with fail
                go_ret
                exact ⟨ret_int HE.out.symm, Later.mk_eq (q5.to HL0.out)⟩
            · have hgb : ((nth p.items i).leg == legs p - 1) = false := beq_eq_false_iff_ne.2 hlg
              have HN := Lib.hid (HNX.out (fun h => by
                rcases HOA.out.1 h with h | h | h
                · exact h1 h
                · exact h2 h
                · rcases h.2 with h | h
                  · rw [hr] at h; cases h
                  · exact hlg h))
              clear hmk hlate hr hlg hrt
              by_cases h0 : 0 < L
              · have h3 : ¬ p.legLate < S := fun h => h2 ⟨h0, h⟩
                clear h2
                go_wp2_with fail
                refine wp_region_laterB q4 follows_ (by kernel_rfl) ?_
                repeat (go_big_quiet_step ((go_at_call 51; exact Calls.quiet_later (RLG.out _ (Later.lt _)))))
                refine wpQuiet_nil ?_
                rintro _ ⟨q5, rfl⟩
                go_wp2_with fail
                exact ⟨⟨i + 1, q5, by go_num, rfl, by omega, HN⟩, by simp [intOf]; omega⟩
              · clear h2
                go_wp2_with fail
                refine wp_region_laterB q4 follows_ (by kernel_rfl) ?_
                repeat (go_big_quiet_step ((go_at_call 51; exact Calls.quiet_later (RLG.out _ (Later.lt _)))))
                refine wpQuiet_nil ?_
                rintro _ ⟨q5, rfl⟩
                go_wp2_with fail
                exact ⟨⟨i + 1, q5, by go_num, rfl, by omega, HN⟩, by simp [intOf]; omega⟩
    · have hie : i = p.items.length := by omega
      subst hie
      have HE := Lib.hid (outP_none p c HK.out)
      go_wp2_with fail
      go_ret
      exact ⟨ret_int HE.out.symm, Later.mk_eq (q.to HL0.out)⟩

set_option maxHeartbeats 1000000 in
set_option maxRecDepth 100000 in
theorem r_In (m : PlanM) (p : Plan) (cm : CardM) (c : Card) (i : Nat) (w : World) (hp : PlanIs w m p) (hc : CardIs w cm c) (hP : PlanOK p) (hC : CardOK p c) :
    Calls Tryz.prog 26 #[planV m p, cardV cm c, .int .i64 i] w fun e w' => e = .returned (.bool (runsP p c i)) ∧ ∃ q : Later w, w' = q.world := by
  have hHO := fun (W : World) (h : Lt w W) => r_Out m p cm c W (hp.later h) (hc.later h) hP hC
  have hR : runsP p c i = decide (outP p c < 0 ∨ (i : Int) < outP p c) := rfl
  clear hP hC
  obtain ⟨W0, hW0, hB⟩ := boxed w m p cm c
  have HP := Lib.hid (hp.later hB.lt)
  have HC := Lib.hid (hc.later hB.lt)
  have HL0 := Lib.hid hB.lt
  have hbz := hB.sz
  have hbw : w.heap.size < W0.heap.size := by omega
  have p0 := hB.plan.c0
  have p1 := hB.plan.c1
  have p2 := hB.plan.c2
  have p3 := hB.plan.c3
  have p4 := hB.plan.c4
  have p5 := hB.plan.c5
  have p6 := hB.plan.c6
  have p7 := hB.plan.c7
  have p8 := hB.plan.c8
  have p9 := hB.plan.c9
  have p10 := hB.plan.c10
  have p11 := hB.plan.c11
  have p12 := hB.plan.c12
  have p13 := hB.plan.c13
  have d0 := hB.d0
  have d1 := hB.d1
  have d2 := hB.d2
  have him := hp.items.2.1
  have hlm := hc.lines.2.1
  have hsm := hc.starts.2.1
  obtain ⟨iA, ic, jA, jc, pA, pc, eA, ec⟩ := m
  obtain ⟨sA, sc, lA, lc⟩ := cm
  simp only [planV, cardV, planC, cardC] at hW0 hHO ⊢
  have HW0 := Lib.hid hW0
  clear hW0 hB hp hc
  have HO := Lib.hid (fun W (h : Lt W0 W) => hHO W (HL0.out.trans h))
  clear hHO
  rw [hR]
  clear hR
  generalize outP p c = O at *
  by_cases h1 : O < 0
  · rw [show decide (O < 0 ∨ (i : Int) < O) = true by rw [decide_eq_true_iff]; exact .inl h1]
    have h1b : decide (O < 0) = true := by rw [decide_eq_true_iff]; exact h1
    go_enter Tryz.func26, Tryz.ntmps26
    go_upto_region 1 with fail
    rw [HW0.out]
    go_wp2_with fail
    refine (HO.out _ (Lt.refl _)).mono ?_
    rintro e w' ⟨rfl, q, rfl⟩
    go_wp2_with fail
    go_ret
    exact ⟨rfl, Later.mk_eq (q.to HL0.out)⟩
  · have h1b : decide (O < 0) = false := by rw [decide_eq_false_iff_not]; exact h1
    by_cases h2 : (i : Int) < O
    · rw [show decide (O < 0 ∨ (i : Int) < O) = true by rw [decide_eq_true_iff]; exact .inr h2]
      have h2b : decide ((i : Int) < O) = true := by rw [decide_eq_true_iff]; exact h2
      go_enter Tryz.func26, Tryz.ntmps26
      go_upto_region 1 with fail
      rw [HW0.out]
      go_wp2_with fail
      refine (HO.out _ (Lt.refl _)).mono ?_
      rintro e w' ⟨rfl, q, rfl⟩
      go_wp2_with fail
      go_ret
      exact ⟨rfl, Later.mk_eq (q.to HL0.out)⟩
    · rw [show decide (O < 0 ∨ (i : Int) < O) = false by rw [decide_eq_false_iff_not]; omega]
      have h2b : decide ((i : Int) < O) = false := by rw [decide_eq_false_iff_not]; exact h2
      go_enter Tryz.func26, Tryz.ntmps26
      go_upto_region 1 with fail
      rw [HW0.out]
      go_wp2_with fail
      refine (HO.out _ (Lt.refl _)).mono ?_
      rintro e w' ⟨rfl, q, rfl⟩
      go_wp2_with fail
      go_ret
      exact ⟨rfl, Later.mk_eq (q.to HL0.out)⟩
end Go.Proofs.YtdpcdmcmpfjbjaaGreat
