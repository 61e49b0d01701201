/- ScoreDues: whatever plan, card and item come in, the statement's function returns true, and the plan and the card read as before. No condition. -/
import Derived.Test.YtdpcdmcmpfjbjaaGreatJV
import Derived.Test.YtdpcdmcmpfjbjaaGreatJS
import Derived.Test.YtdpcdmcmpfjbjaaGreatJFA
import Derived.Test.YtdpcdmcmpfjbjaaGreatRows
import Derived.Test.YtdpcdmcmpfjbjaaGreatJW
import Derived.WalkKit
import Derived.ProofKit
import Derived.OpenShut
import Derived.ChangeOld
import Derived.Below
import Derived.SizedLaws
import Derived.Carry
/- Walks: ScoreDues. -/
namespace Go.Proofs.YtdpcdmcmpfjbjaaGreat
open Go.RowKit
set_option linter.unusedVariables false
set_option linter.unusedSimpArgs false
attribute [local go_sem] Later.cell Later.frozen Later.size Later.ne Later.cell1 Later.cell2 Later.cell3 Later.size1 Later.size2 Later.size3 Later.ne1 Later.ne2 Later.ne3

theorem Cards.new1c {w : World} {T : TypeId} (m : CardM) (x : Card) (h : CardIs w m x) : Cards (w.alloc (.cells (cardC m x) T)) (some ⟨w.heap.size, 0, none⟩) 1 [x] := by
  refine ⟨Nat.le_refl _, by simp, fun _ => ⟨_, _, rfl, by simp, fun j hj => ?_⟩⟩
  match j, hj with
  | 0, _ => exact ⟨m, h.later ((Lt.refl w).alloc _), by simp [nth, cardC], by simp [nth, cardC], by simp [nth, cardC]⟩

set_option maxHeartbeats 4000000 in
set_option maxRecDepth 100000 in
theorem lD_large (m : PlanM) (p : Plan) (cm : CardM) (c : Card) (item : Int) (w : World) (hp : PlanIs w m p) (wf : PlanWf p) (hc : CardIs w cm c) (hsP : ¬ smallP p) :
    Calls Tryz.prog 9 #[planV m p, cardV cm c, .int .i64 item] w fun e w' => e = .returned (.bool true) ∧ ∃ q : Later w, w' = q.world := by
  obtain ⟨W0, hW0, hB⟩ := boxed w m p cm c
  have him := hp.items.2.1
  have hsm := hc.starts.2.1
  have hlm := hc.lines.2.1
  have HL0 := Lib.hid hB.lt
  have hbz := hB.sz
  have hbw : w.heap.size < W0.heap.size := by omega
  have HIt := Lib.hid (hp.items.later hB.lt)
  have HLn := Lib.hid (hc.lines.later hB.lt)
  have p0 := hB.plan.c0
  have p1 := hB.plan.c1
  have p2 := hB.plan.c2
  have p3 := hB.plan.c3
  have p4 := hB.plan.c4
  have p5 := hB.plan.c5
  have p6 := hB.plan.c6
  have p7 := hB.plan.c7
  have p8 := hB.plan.c8
  have p9 := hB.plan.c9
  have p10 := hB.plan.c10
  have p11 := hB.plan.c11
  have p12 := hB.plan.c12
  have p13 := hB.plan.c13
  have d0 := hB.d0
  have d1 := hB.d1
  have d2 := hB.d2
  have hHS := fun (W : World) (h : Lt W0 W) => c_small m p W (hp.later (hB.lt.trans h))
  obtain ⟨iA, ic, jA, jc, pA, pc, eA, ec⟩ := m
  obtain ⟨sA, sc, lA, lc⟩ := cm
  simp only [planV, planC, cardV, cardC, List.length_cons, List.length_nil, Nat.zero_add] at hW0 hHS ⊢
  have HW0 := Lib.hid hW0
  have HS := Lib.hid hHS
  clear hW0 hB hp hc hHS
  have hs : smallB p = false := by rw [← Bool.not_eq_true, smallB_iff]; exact hsP
  clear hsP
  go_enter Tryz.func9, Tryz.ntmps9
  go_upto_region 1 with fail
  rw [HW0.out]
  go_wp2_with fail
  refine (Calls.later (w := W0) (R := fun e => e = _) (⟨W0, Lt.refl W0⟩ : Later W0) (HS.out _ (⟨W0, Lt.refl W0⟩ : Later W0).lt)).mono ?_
  rw [hs]
  rintro e w' ⟨rfl, q1, rfl⟩
  go_wp2_with fail
  refine (Calls.later (w := W0) (R := fun e => e = _) q1 (c_known _)).mono ?_
  rintro e w' ⟨rfl, qk, rfl⟩
  go_wp2_with fail
  go_ret
  exact ⟨rfl, ⟨_, qk.to HL0.out⟩, rfl⟩

set_option maxHeartbeats 4000000 in
set_option maxRecDepth 100000 in
theorem lD_long (m : PlanM) (p : Plan) (cm : CardM) (c : Card) (item : Int) (w : World) (hp : PlanIs w m p) (wf : PlanWf p) (hc : CardIs w cm c) (hsP : smallP p) (hshP : ¬ shortP [c] 1) :
    Calls Tryz.prog 9 #[planV m p, cardV cm c, .int .i64 item] w fun e w' => e = .returned (.bool true) ∧ ∃ q : Later w, w' = q.world := by
  obtain ⟨W0, hW0, hB⟩ := boxed w m p cm c
  have him := hp.items.2.1
  have hsm := hc.starts.2.1
  have hlm := hc.lines.2.1
  have HL0 := Lib.hid hB.lt
  have hbz := hB.sz
  have hbw : w.heap.size < W0.heap.size := by omega
  have HIt := Lib.hid (hp.items.later hB.lt)
  have HLn := Lib.hid (hc.lines.later hB.lt)
  have p0 := hB.plan.c0
  have p1 := hB.plan.c1
  have p2 := hB.plan.c2
  have p3 := hB.plan.c3
  have p4 := hB.plan.c4
  have p5 := hB.plan.c5
  have p6 := hB.plan.c6
  have p7 := hB.plan.c7
  have p8 := hB.plan.c8
  have p9 := hB.plan.c9
  have p10 := hB.plan.c10
  have p11 := hB.plan.c11
  have p12 := hB.plan.c12
  have p13 := hB.plan.c13
  have d0 := hB.d0
  have d1 := hB.d1
  have d2 := hB.d2
  have hHS := fun (W : World) (h : Lt W0 W) => c_small m p W (hp.later (hB.lt.trans h))
  have hHSH := fun (W : World) (h : Lt W0 W) => c_short (some ⟨W.heap.size, 0, none⟩) 1 [c] 1 (W.alloc (.cells (cardC cm c) 31)) (Cards.new1c cm c (hc.later (hB.lt.trans h)))
  obtain ⟨iA, ic, jA, jc, pA, pc, eA, ec⟩ := m
  obtain ⟨sA, sc, lA, lc⟩ := cm
  simp only [planV, planC, cardV, cardC, List.length_cons, List.length_nil, Nat.zero_add] at hW0 hHS hHSH ⊢
  have HW0 := Lib.hid hW0
  have HS := Lib.hid hHS
  have HSH := Lib.hid hHSH
  clear hW0 hB hp hc hHS hHSH
  have hs : smallB p = true := smallB_iff.2 hsP
  have hsh : shortB [c] 1 = false := shortB_no hshP
  clear hsP hshP
  go_enter Tryz.func9, Tryz.ntmps9
  go_upto_region 1 with fail
  rw [HW0.out]
  go_wp2_with fail
  refine (Calls.later (w := W0) (R := fun e => e = _) (⟨W0, Lt.refl W0⟩ : Later W0) (HS.out _ (⟨W0, Lt.refl W0⟩ : Later W0).lt)).mono ?_
  rw [hs]
  rintro e w' ⟨rfl, q1, rfl⟩
  go_wp2_with fail
  refine (HSH.out _ q1.lt).mono ?_
  rw [hsh]
  rintro e w' ⟨rfl, qs, rfl⟩
  obtain ⟨q2, hq2⟩ : ∃ q2 : Later W0, qs.world = q2.world := ⟨⟨_, qs.to (q1.lt.alloc _)⟩, rfl⟩
  rw [hq2]
  clear hq2 qs
  go_wp2_with fail
  refine (Calls.later (w := W0) (R := fun e => e = _) q2 (c_known _)).mono ?_
  rintro e w' ⟨rfl, qk, rfl⟩
  go_wp2_with fail
  go_ret
  exact ⟨rfl, ⟨_, qk.to HL0.out⟩, rfl⟩

set_option maxHeartbeats 4000000 in
set_option maxRecDepth 100000 in
theorem lD_noPlan (m : PlanM) (p : Plan) (cm : CardM) (c : Card) (item : Int) (w : World) (hp : PlanIs w m p) (wf : PlanWf p) (hc : CardIs w cm c) (hsP : smallP p) (hshP : shortP [c] 1) (hno : ¬ (PlanOK p ∧ CardOK p c)) (hP : ¬ PlanOK p) :
    Calls Tryz.prog 9 #[planV m p, cardV cm c, .int .i64 item] w fun e w' => e = .returned (.bool true) ∧ ∃ q : Later w, w' = q.world := by
  obtain ⟨W0, hW0, hB⟩ := boxed w m p cm c
  have him := hp.items.2.1
  have hsm := hc.starts.2.1
  have hlm := hc.lines.2.1
  have HL0 := Lib.hid hB.lt
  have hbz := hB.sz
  have hbw : w.heap.size < W0.heap.size := by omega
  have HIt := Lib.hid (hp.items.later hB.lt)
  have HLn := Lib.hid (hc.lines.later hB.lt)
  have p0 := hB.plan.c0
  have p1 := hB.plan.c1
  have p2 := hB.plan.c2
  have p3 := hB.plan.c3
  have p4 := hB.plan.c4
  have p5 := hB.plan.c5
  have p6 := hB.plan.c6
  have p7 := hB.plan.c7
  have p8 := hB.plan.c8
  have p9 := hB.plan.c9
  have p10 := hB.plan.c10
  have p11 := hB.plan.c11
  have p12 := hB.plan.c12
  have p13 := hB.plan.c13
  have d0 := hB.d0
  have d1 := hB.d1
  have d2 := hB.d2
  have hHS := fun (W : World) (h : Lt W0 W) => c_small m p W (hp.later (hB.lt.trans h))
  have hHSH := fun (W : World) (h : Lt W0 W) => c_short (some ⟨W.heap.size, 0, none⟩) 1 [c] 1 (W.alloc (.cells (cardC cm c) 31)) (Cards.new1c cm c (hc.later (hB.lt.trans h)))
  have hCD := fun (W : World) (h : Lt W0 W) => c_Due m p cm c item W (hp.later (hB.lt.trans h)) wf (hc.later (hB.lt.trans h))
  have hCO := fun (W : World) (h : Lt W0 W) => c_Out m p cm c W (hp.later (hB.lt.trans h)) wf (hc.later (hB.lt.trans h))
  have hRP := fun (W : World) (h : Lt W0 W) => r_Plan m p W (hp.later (hB.lt.trans h)) wf
  have hRC := fun (W : World) (h : Lt W0 W) => fun (hP : PlanOK p) => r_Card m p cm c W (hp.later (hB.lt.trans h)) (hc.later (hB.lt.trans h)) hP
  obtain ⟨iA, ic, jA, jc, pA, pc, eA, ec⟩ := m
  obtain ⟨sA, sc, lA, lc⟩ := cm
  simp only [planV, planC, cardV, cardC, List.length_cons, List.length_nil, Nat.zero_add] at hW0 hHS hHSH hCD hCO hRP hRC ⊢
  have HW0 := Lib.hid hW0
  have HS := Lib.hid hHS
  have HSH := Lib.hid hHSH
  have CD := Lib.hid hCD
  have CO := Lib.hid hCO
  have RP := Lib.hid hRP
  have RC := Lib.hid hRC
  clear hW0 hB hp hc hHS hHSH hCD hCO hRP hRC
  have hs : smallB p = true := smallB_iff.2 hsP
  have hsh : shortB [c] 1 = true := shortB_yes hshP
  have hTD : DueR p c item = (0, 2) := if_neg fun g => hno g.1
  have hTO : OutR p c = (0, 2) := if_neg hno
  have hb : prb (PlanOK p) = false := prb_no hP
  clear hP hno hsP hshP
  go_enter Tryz.func9, Tryz.ntmps9
  go_upto_region 1 with fail
  rw [HW0.out]
  go_wp2_with fail
  refine (Calls.later (w := W0) (R := fun e => e = _) (⟨W0, Lt.refl W0⟩ : Later W0) (HS.out _ (⟨W0, Lt.refl W0⟩ : Later W0).lt)).mono ?_
  rw [hs]
  rintro e w' ⟨rfl, q1, rfl⟩
  go_wp2_with fail
  refine (HSH.out _ q1.lt).mono ?_
  rw [hsh]
  rintro e w' ⟨rfl, qs, rfl⟩
  obtain ⟨q2, hq2⟩ : ∃ q2 : Later W0, qs.world = q2.world := ⟨⟨_, qs.to (q1.lt.alloc _)⟩, rfl⟩
  rw [hq2]
  clear hq2 qs
  go_wp2_with fail
  refine (Calls.later (w := W0) (R := fun e => e = _) q2 (CD.out _ q2.lt)).mono ?_
  rw [hTD]
  rintro e w' ⟨rfl, q3, rfl⟩
  go_wp2_with fail
  refine (Calls.later (w := W0) (R := fun e => e = _) q3 (CO.out _ q3.lt)).mono ?_
  rw [hTO]
  rintro e w' ⟨rfl, q4, rfl⟩
  go_wp2_with fail
  refine (Calls.later (w := W0) (R := fun e => e = _) q4 (RP.out _ q4.lt)).mono ?_
  rw [hb]
  rintro e w' ⟨rfl, q5, rfl⟩
  go_wp2_with fail
  refine (Calls.later (w := W0) (R := fun e => e = _) q5 (c_known _)).mono ?_
  rintro e w' ⟨rfl, qk, rfl⟩
  go_wp2_with fail
  go_ret
  exact ⟨rfl, ⟨_, qk.to HL0.out⟩, rfl⟩

set_option maxHeartbeats 4000000 in
set_option maxRecDepth 100000 in
theorem lD_noCard (m : PlanM) (p : Plan) (cm : CardM) (c : Card) (item : Int) (w : World) (hp : PlanIs w m p) (wf : PlanWf p) (hc : CardIs w cm c) (hsP : smallP p) (hshP : shortP [c] 1) (hno : ¬ (PlanOK p ∧ CardOK p c)) (hP : PlanOK p) (hC : ¬ CardOK p c) :
    Calls Tryz.prog 9 #[planV m p, cardV cm c, .int .i64 item] w fun e w' => e = .returned (.bool true) ∧ ∃ q : Later w, w' = q.world := by
  obtain ⟨W0, hW0, hB⟩ := boxed w m p cm c
  have him := hp.items.2.1
  have hsm := hc.starts.2.1
  have hlm := hc.lines.2.1
  have HL0 := Lib.hid hB.lt
  have hbz := hB.sz
  have hbw : w.heap.size < W0.heap.size := by omega
  have HIt := Lib.hid (hp.items.later hB.lt)
  have HLn := Lib.hid (hc.lines.later hB.lt)
  have p0 := hB.plan.c0
  have p1 := hB.plan.c1
  have p2 := hB.plan.c2
  have p3 := hB.plan.c3
  have p4 := hB.plan.c4
  have p5 := hB.plan.c5
  have p6 := hB.plan.c6
  have p7 := hB.plan.c7
  have p8 := hB.plan.c8
  have p9 := hB.plan.c9
  have p10 := hB.plan.c10
  have p11 := hB.plan.c11
  have p12 := hB.plan.c12
  have p13 := hB.plan.c13
  have d0 := hB.d0
  have d1 := hB.d1
  have d2 := hB.d2
  have hHS := fun (W : World) (h : Lt W0 W) => c_small m p W (hp.later (hB.lt.trans h))
  have hHSH := fun (W : World) (h : Lt W0 W) => c_short (some ⟨W.heap.size, 0, none⟩) 1 [c] 1 (W.alloc (.cells (cardC cm c) 31)) (Cards.new1c cm c (hc.later (hB.lt.trans h)))
  have hCD := fun (W : World) (h : Lt W0 W) => c_Due m p cm c item W (hp.later (hB.lt.trans h)) wf (hc.later (hB.lt.trans h))
  have hCO := fun (W : World) (h : Lt W0 W) => c_Out m p cm c W (hp.later (hB.lt.trans h)) wf (hc.later (hB.lt.trans h))
  have hRP := fun (W : World) (h : Lt W0 W) => r_Plan m p W (hp.later (hB.lt.trans h)) wf
  have hRC := fun (W : World) (h : Lt W0 W) => fun (hP : PlanOK p) => r_Card m p cm c W (hp.later (hB.lt.trans h)) (hc.later (hB.lt.trans h)) hP
  obtain ⟨iA, ic, jA, jc, pA, pc, eA, ec⟩ := m
  obtain ⟨sA, sc, lA, lc⟩ := cm
  simp only [planV, planC, cardV, cardC, List.length_cons, List.length_nil, Nat.zero_add] at hW0 hHS hHSH hCD hCO hRP hRC ⊢
  have HW0 := Lib.hid hW0
  have HS := Lib.hid hHS
  have HSH := Lib.hid hHSH
  have CD := Lib.hid hCD
  have CO := Lib.hid hCO
  have RP := Lib.hid hRP
  have RC := Lib.hid hRC
  clear hW0 hB hp hc hHS hHSH hCD hCO hRP hRC
  have hs : smallB p = true := smallB_iff.2 hsP
  have hsh : shortB [c] 1 = true := shortB_yes hshP
  have hTD : DueR p c item = (0, 2) := if_neg fun g => hno g.1
  have hTO : OutR p c = (0, 2) := if_neg hno
  have hb : prb (PlanOK p) = true := prb_yes hP
  have HPO := Lib.hid hP
  have hb2 : prb (CardOK p c) = false := prb_no hC
  clear hP hC hno hsP hshP
  go_enter Tryz.func9, Tryz.ntmps9
  go_upto_region 1 with fail
  rw [HW0.out]
  go_wp2_with fail
  refine (Calls.later (w := W0) (R := fun e => e = _) (⟨W0, Lt.refl W0⟩ : Later W0) (HS.out _ (⟨W0, Lt.refl W0⟩ : Later W0).lt)).mono ?_
  rw [hs]
  rintro e w' ⟨rfl, q1, rfl⟩
  go_wp2_with fail
  refine (HSH.out _ q1.lt).mono ?_
  rw [hsh]
  rintro e w' ⟨rfl, qs, rfl⟩
  obtain ⟨q2, hq2⟩ : ∃ q2 : Later W0, qs.world = q2.world := ⟨⟨_, qs.to (q1.lt.alloc _)⟩, rfl⟩
  rw [hq2]
  clear hq2 qs
  go_wp2_with fail
  refine (Calls.later (w := W0) (R := fun e => e = _) q2 (CD.out _ q2.lt)).mono ?_
  rw [hTD]
  rintro e w' ⟨rfl, q3, rfl⟩
  go_wp2_with fail
  refine (Calls.later (w := W0) (R := fun e => e = _) q3 (CO.out _ q3.lt)).mono ?_
  rw [hTO]
  rintro e w' ⟨rfl, q4, rfl⟩
  go_wp2_with fail
  refine (Calls.later (w := W0) (R := fun e => e = _) q4 (RP.out _ q4.lt)).mono ?_
  rw [hb]
  rintro e w' ⟨rfl, q5, rfl⟩
  go_wp2_with fail
  refine (Calls.later (w := W0) (R := fun e => e = _) q5 (RC.out _ q5.lt HPO.out)).mono ?_
  rw [hb2]
  rintro e w' ⟨rfl, q6, rfl⟩
  go_wp2_with fail
  refine (Calls.later (w := W0) (R := fun e => e = _) q6 (c_known _)).mono ?_
  rintro e w' ⟨rfl, qk, rfl⟩
  go_wp2_with fail
  go_ret
  exact ⟨rfl, ⟨_, qk.to HL0.out⟩, rfl⟩

set_option maxHeartbeats 4000000 in
set_option maxRecDepth 100000 in
theorem lD_item0 (m : PlanM) (p : Plan) (cm : CardM) (c : Card) (item : Int) (w : World) (hp : PlanIs w m p) (wf : PlanWf p) (hc : CardIs w cm c) (hsP : smallP p) (hshP : shortP [c] 1) (hP : PlanOK p) (hC : CardOK p c) (hi0 : item < 0) :
    Calls Tryz.prog 9 #[planV m p, cardV cm c, .int .i64 item] w fun e w' => e = .returned (.bool true) ∧ ∃ q : Later w, w' = q.world := by
  obtain ⟨W0, hW0, hB⟩ := boxed w m p cm c
  have him := hp.items.2.1
  have hsm := hc.starts.2.1
  have hlm := hc.lines.2.1
  have HL0 := Lib.hid hB.lt
  have hbz := hB.sz
  have hbw : w.heap.size < W0.heap.size := by omega
  have HIt := Lib.hid (hp.items.later hB.lt)
  have HLn := Lib.hid (hc.lines.later hB.lt)
  have p0 := hB.plan.c0
  have p1 := hB.plan.c1
  have p2 := hB.plan.c2
  have p3 := hB.plan.c3
  have p4 := hB.plan.c4
  have p5 := hB.plan.c5
  have p6 := hB.plan.c6
  have p7 := hB.plan.c7
  have p8 := hB.plan.c8
  have p9 := hB.plan.c9
  have p10 := hB.plan.c10
  have p11 := hB.plan.c11
  have p12 := hB.plan.c12
  have p13 := hB.plan.c13
  have d0 := hB.d0
  have d1 := hB.d1
  have d2 := hB.d2
  have hHS := fun (W : World) (h : Lt W0 W) => c_small m p W (hp.later (hB.lt.trans h))
  have hHSH := fun (W : World) (h : Lt W0 W) => c_short (some ⟨W.heap.size, 0, none⟩) 1 [c] 1 (W.alloc (.cells (cardC cm c) 31)) (Cards.new1c cm c (hc.later (hB.lt.trans h)))
  have hCD := fun (W : World) (h : Lt W0 W) => c_Due m p cm c item W (hp.later (hB.lt.trans h)) wf (hc.later (hB.lt.trans h))
  have hCO := fun (W : World) (h : Lt W0 W) => c_Out m p cm c W (hp.later (hB.lt.trans h)) wf (hc.later (hB.lt.trans h))
  have hRP := fun (W : World) (h : Lt W0 W) => r_Plan m p W (hp.later (hB.lt.trans h)) wf
  have hRC := fun (W : World) (h : Lt W0 W) => fun (hP : PlanOK p) => r_Card m p cm c W (hp.later (hB.lt.trans h)) (hc.later (hB.lt.trans h)) hP
  have hRO := fun (W : World) (h : Lt W0 W) => fun (hP : PlanOK p) (hC : CardOK p c) => r_Out m p cm c W (hp.later (hB.lt.trans h)) (hc.later (hB.lt.trans h)) hP hC
  obtain ⟨iA, ic, jA, jc, pA, pc, eA, ec⟩ := m
  obtain ⟨sA, sc, lA, lc⟩ := cm
  simp only [planV, planC, cardV, cardC, List.length_cons, List.length_nil, Nat.zero_add] at hW0 hHS hHSH hCD hCO hRP hRC hRO ⊢
  have HW0 := Lib.hid hW0
  have HS := Lib.hid hHS
  have HSH := Lib.hid hHSH
  have CD := Lib.hid hCD
  have CO := Lib.hid hCO
  have RP := Lib.hid hRP
  have RC := Lib.hid hRC
  have RO := Lib.hid hRO
  clear hW0 hB hp hc hHS hHSH hCD hCO hRP hRC hRO
  have hs : smallB p = true := smallB_iff.2 hsP
  have hsh : shortB [c] 1 = true := shortB_yes hshP
  have hb : prb (PlanOK p) = true := prb_yes hP
  have HPO := Lib.hid hP
  have hb2 : prb (CardOK p c) = true := prb_yes hC
  have hTO : OutR p c = (outP p c, 0) := if_pos ⟨hP, hC⟩
  have HRO := Lib.hid (fun W (h : Lt W0 W) => RO.out W h hP hC)
  have hTD0 : ¬ ((0 ≤ item ∧ item < p.items.length) ∧ (nth p.items item.toNat).kind = 1) → DueR p c item = (0, 2) := fun h => if_neg fun g => h g.2
  generalize outP p c = OO at *
  have hTD := hTD0 fun h => by omega
  have hib : decide (item < 0) = true := decide_eq_true hi0
  clear hP hC hTD0 hi0 hsP hshP
  go_enter Tryz.func9, Tryz.ntmps9
  go_upto_region 1 with fail
  rw [HW0.out]
  go_wp2_with fail
  refine (Calls.later (w := W0) (R := fun e => e = _) (⟨W0, Lt.refl W0⟩ : Later W0) (HS.out _ (⟨W0, Lt.refl W0⟩ : Later W0).lt)).mono ?_
  rw [hs]
  rintro e w' ⟨rfl, q1, rfl⟩
  go_wp2_with fail
  refine (HSH.out _ q1.lt).mono ?_
  rw [hsh]
  rintro e w' ⟨rfl, qs, rfl⟩
  obtain ⟨q2, hq2⟩ : ∃ q2 : Later W0, qs.world = q2.world := ⟨⟨_, qs.to (q1.lt.alloc _)⟩, rfl⟩
  rw [hq2]
  clear hq2 qs
  go_wp2_with fail
  refine (Calls.later (w := W0) (R := fun e => e = _) q2 (CD.out _ q2.lt)).mono ?_
  rw [hTD]
  rintro e w' ⟨rfl, q3, rfl⟩
  go_wp2_with fail
  refine (Calls.later (w := W0) (R := fun e => e = _) q3 (CO.out _ q3.lt)).mono ?_
  rw [hTO]
  rintro e w' ⟨rfl, q4, rfl⟩
  go_wp2_with fail
  refine (Calls.later (w := W0) (R := fun e => e = _) q4 (RP.out _ q4.lt)).mono ?_
  rw [hb]
  rintro e w' ⟨rfl, q5, rfl⟩
  go_wp2_with fail
  refine (Calls.later (w := W0) (R := fun e => e = _) q5 (RC.out _ q5.lt HPO.out)).mono ?_
  rw [hb2]
  rintro e w' ⟨rfl, q6, rfl⟩
  go_wp2_with fail
  refine (Calls.later (w := W0) (R := fun e => e = _) q6 (HRO.out _ q6.lt)).mono ?_
  rintro e w' ⟨rfl, q7, rfl⟩
  go_wp2_with fail
  refine (Calls.later (w := W0) (R := fun e => e = _) q7 (c_known _)).mono ?_
  rintro e w' ⟨rfl, qk, rfl⟩
  go_wp2_with fail
  go_ret
  exact ⟨rfl, ⟨_, qk.to HL0.out⟩, rfl⟩

set_option maxHeartbeats 4000000 in
set_option maxRecDepth 100000 in
theorem lD_item1 (m : PlanM) (p : Plan) (cm : CardM) (c : Card) (item : Int) (w : World) (hp : PlanIs w m p) (wf : PlanWf p) (hc : CardIs w cm c) (hsP : smallP p) (hshP : shortP [c] 1) (hP : PlanOK p) (hC : CardOK p c) (hi0 : ¬ item < 0) (hi1 : (p.items.length : Int) ≤ item) :
    Calls Tryz.prog 9 #[planV m p, cardV cm c, .int .i64 item] w fun e w' => e = .returned (.bool true) ∧ ∃ q : Later w, w' = q.world := by
  obtain ⟨W0, hW0, hB⟩ := boxed w m p cm c
  have him := hp.items.2.1
  have hsm := hc.starts.2.1
  have hlm := hc.lines.2.1
  have HL0 := Lib.hid hB.lt
  have hbz := hB.sz
  have hbw : w.heap.size < W0.heap.size := by omega
  have HIt := Lib.hid (hp.items.later hB.lt)
  have HLn := Lib.hid (hc.lines.later hB.lt)
  have p0 := hB.plan.c0
  have p1 := hB.plan.c1
  have p2 := hB.plan.c2
  have p3 := hB.plan.c3
  have p4 := hB.plan.c4
  have p5 := hB.plan.c5
  have p6 := hB.plan.c6
  have p7 := hB.plan.c7
  have p8 := hB.plan.c8
  have p9 := hB.plan.c9
  have p10 := hB.plan.c10
  have p11 := hB.plan.c11
  have p12 := hB.plan.c12
  have p13 := hB.plan.c13
  have d0 := hB.d0
  have d1 := hB.d1
  have d2 := hB.d2
  have hHS := fun (W : World) (h : Lt W0 W) => c_small m p W (hp.later (hB.lt.trans h))
  have hHSH := fun (W : World) (h : Lt W0 W) => c_short (some ⟨W.heap.size, 0, none⟩) 1 [c] 1 (W.alloc (.cells (cardC cm c) 31)) (Cards.new1c cm c (hc.later (hB.lt.trans h)))
  have hCD := fun (W : World) (h : Lt W0 W) => c_Due m p cm c item W (hp.later (hB.lt.trans h)) wf (hc.later (hB.lt.trans h))
  have hCO := fun (W : World) (h : Lt W0 W) => c_Out m p cm c W (hp.later (hB.lt.trans h)) wf (hc.later (hB.lt.trans h))
  have hRP := fun (W : World) (h : Lt W0 W) => r_Plan m p W (hp.later (hB.lt.trans h)) wf
  have hRC := fun (W : World) (h : Lt W0 W) => fun (hP : PlanOK p) => r_Card m p cm c W (hp.later (hB.lt.trans h)) (hc.later (hB.lt.trans h)) hP
  have hRO := fun (W : World) (h : Lt W0 W) => fun (hP : PlanOK p) (hC : CardOK p c) => r_Out m p cm c W (hp.later (hB.lt.trans h)) (hc.later (hB.lt.trans h)) hP hC
  obtain ⟨iA, ic, jA, jc, pA, pc, eA, ec⟩ := m
  obtain ⟨sA, sc, lA, lc⟩ := cm
  simp only [planV, planC, cardV, cardC, List.length_cons, List.length_nil, Nat.zero_add] at hW0 hHS hHSH hCD hCO hRP hRC hRO ⊢
  have HW0 := Lib.hid hW0
  have HS := Lib.hid hHS
  have HSH := Lib.hid hHSH
  have CD := Lib.hid hCD
  have CO := Lib.hid hCO
  have RP := Lib.hid hRP
  have RC := Lib.hid hRC
  have RO := Lib.hid hRO
  clear hW0 hB hp hc hHS hHSH hCD hCO hRP hRC hRO
  have hs : smallB p = true := smallB_iff.2 hsP
  have hsh : shortB [c] 1 = true := shortB_yes hshP
  have hb : prb (PlanOK p) = true := prb_yes hP
  have HPO := Lib.hid hP
  have hb2 : prb (CardOK p c) = true := prb_yes hC
  have hTO : OutR p c = (outP p c, 0) := if_pos ⟨hP, hC⟩
  have HRO := Lib.hid (fun W (h : Lt W0 W) => RO.out W h hP hC)
  have hTD0 : ¬ ((0 ≤ item ∧ item < p.items.length) ∧ (nth p.items item.toNat).kind = 1) → DueR p c item = (0, 2) := fun h => if_neg fun g => h g.2
  generalize outP p c = OO at *
  have hTD := hTD0 fun h => by omega
  have hib : decide (item < 0) = false := decide_eq_false hi0
  have hib2 : decide ((p.items.length : Int) ≤ item) = true := decide_eq_true hi1
  clear hP hC hTD0 hsP hshP
  go_enter Tryz.func9, Tryz.ntmps9
  go_upto_region 1 with fail
  rw [HW0.out]
  go_wp2_with fail
  refine (Calls.later (w := W0) (R := fun e => e = _) (⟨W0, Lt.refl W0⟩ : Later W0) (HS.out _ (⟨W0, Lt.refl W0⟩ : Later W0).lt)).mono ?_
  rw [hs]
  rintro e w' ⟨rfl, q1, rfl⟩
  go_wp2_with fail
  refine (HSH.out _ q1.lt).mono ?_
  rw [hsh]
  rintro e w' ⟨rfl, qs, rfl⟩
  obtain ⟨q2, hq2⟩ : ∃ q2 : Later W0, qs.world = q2.world := ⟨⟨_, qs.to (q1.lt.alloc _)⟩, rfl⟩
  rw [hq2]
  clear hq2 qs
  go_wp2_with fail
  refine (Calls.later (w := W0) (R := fun e => e = _) q2 (CD.out _ q2.lt)).mono ?_
  rw [hTD]
  rintro e w' ⟨rfl, q3, rfl⟩
  go_wp2_with fail
  refine (Calls.later (w := W0) (R := fun e => e = _) q3 (CO.out _ q3.lt)).mono ?_
  rw [hTO]
  rintro e w' ⟨rfl, q4, rfl⟩
  go_wp2_with fail
  refine (Calls.later (w := W0) (R := fun e => e = _) q4 (RP.out _ q4.lt)).mono ?_
  rw [hb]
  rintro e w' ⟨rfl, q5, rfl⟩
  go_wp2_with fail
  refine (Calls.later (w := W0) (R := fun e => e = _) q5 (RC.out _ q5.lt HPO.out)).mono ?_
  rw [hb2]
  rintro e w' ⟨rfl, q6, rfl⟩
  go_wp2_with fail
  refine (Calls.later (w := W0) (R := fun e => e = _) q6 (HRO.out _ q6.lt)).mono ?_
  rintro e w' ⟨rfl, q7, rfl⟩
  go_wp2_with fail
  refine (Calls.later (w := W0) (R := fun e => e = _) q7 (c_known _)).mono ?_
  rintro e w' ⟨rfl, qk, rfl⟩
  go_wp2_with fail
  go_ret
  exact ⟨rfl, ⟨_, qk.to HL0.out⟩, rfl⟩

set_option maxHeartbeats 4000000 in
set_option maxRecDepth 100000 in
theorem lD_stage (m : PlanM) (p : Plan) (cm : CardM) (c : Card) (item : Int) (w : World) (hp : PlanIs w m p) (wf : PlanWf p) (hc : CardIs w cm c) (hsP : smallP p) (hshP : shortP [c] 1) (hP : PlanOK p) (hC : CardOK p c) (i : Nat) (hii : item = (i : Int)) (hi : i < p.items.length) (hkd : (nth p.items i).kind ≠ 1) :
    Calls Tryz.prog 9 #[planV m p, cardV cm c, .int .i64 item] w fun e w' => e = .returned (.bool true) ∧ ∃ q : Later w, w' = q.world := by
  obtain ⟨W0, hW0, hB⟩ := boxed w m p cm c
  have him := hp.items.2.1
  have hsm := hc.starts.2.1
  have hlm := hc.lines.2.1
  have HL0 := Lib.hid hB.lt
  have hbz := hB.sz
  have hbw : w.heap.size < W0.heap.size := by omega
  have HIt := Lib.hid (hp.items.later hB.lt)
  have HLn := Lib.hid (hc.lines.later hB.lt)
  have p0 := hB.plan.c0
  have p1 := hB.plan.c1
  have p2 := hB.plan.c2
  have p3 := hB.plan.c3
  have p4 := hB.plan.c4
  have p5 := hB.plan.c5
  have p6 := hB.plan.c6
  have p7 := hB.plan.c7
  have p8 := hB.plan.c8
  have p9 := hB.plan.c9
  have p10 := hB.plan.c10
  have p11 := hB.plan.c11
  have p12 := hB.plan.c12
  have p13 := hB.plan.c13
  have d0 := hB.d0
  have d1 := hB.d1
  have d2 := hB.d2
  have hHS := fun (W : World) (h : Lt W0 W) => c_small m p W (hp.later (hB.lt.trans h))
  have hHSH := fun (W : World) (h : Lt W0 W) => c_short (some ⟨W.heap.size, 0, none⟩) 1 [c] 1 (W.alloc (.cells (cardC cm c) 31)) (Cards.new1c cm c (hc.later (hB.lt.trans h)))
  have hCD := fun (W : World) (h : Lt W0 W) => c_Due m p cm c item W (hp.later (hB.lt.trans h)) wf (hc.later (hB.lt.trans h))
  have hCO := fun (W : World) (h : Lt W0 W) => c_Out m p cm c W (hp.later (hB.lt.trans h)) wf (hc.later (hB.lt.trans h))
  have hRP := fun (W : World) (h : Lt W0 W) => r_Plan m p W (hp.later (hB.lt.trans h)) wf
  have hRC := fun (W : World) (h : Lt W0 W) => fun (hP : PlanOK p) => r_Card m p cm c W (hp.later (hB.lt.trans h)) (hc.later (hB.lt.trans h)) hP
  have hRO := fun (W : World) (h : Lt W0 W) => fun (hP : PlanOK p) (hC : CardOK p c) => r_Out m p cm c W (hp.later (hB.lt.trans h)) (hc.later (hB.lt.trans h)) hP hC
  obtain ⟨iA, ic, jA, jc, pA, pc, eA, ec⟩ := m
  obtain ⟨sA, sc, lA, lc⟩ := cm
  simp only [planV, planC, cardV, cardC, List.length_cons, List.length_nil, Nat.zero_add] at hW0 hHS hHSH hCD hCO hRP hRC hRO ⊢
  have HW0 := Lib.hid hW0
  have HS := Lib.hid hHS
  have HSH := Lib.hid hHSH
  have CD := Lib.hid hCD
  have CO := Lib.hid hCO
  have RP := Lib.hid hRP
  have RC := Lib.hid hRC
  have RO := Lib.hid hRO
  clear hW0 hB hp hc hHS hHSH hCD hCO hRP hRC hRO
  have hs : smallB p = true := smallB_iff.2 hsP
  have hsh : shortB [c] 1 = true := shortB_yes hshP
  have hb : prb (PlanOK p) = true := prb_yes hP
  have HPO := Lib.hid hP
  have hb2 : prb (CardOK p c) = true := prb_yes hC
  have hTO : OutR p c = (outP p c, 0) := if_pos ⟨hP, hC⟩
  have HRO := Lib.hid (fun W (h : Lt W0 W) => RO.out W h hP hC)
  have hTD0 : ¬ ((0 ≤ item ∧ item < p.items.length) ∧ (nth p.items item.toNat).kind = 1) → DueR p c item = (0, 2) := fun h => if_neg fun g => h g.2
  generalize outP p c = OO at *
  subst hii
  have hib : decide ((i : Int) < 0) = false := by rw [decide_eq_false_iff_not]; omega
  have hib2 : decide ((p.items.length : Int) ≤ (i : Int)) = false := by rw [decide_eq_false_iff_not]; omega
  have hib3 : decide (p.items.length ≤ i) = false := by rw [decide_eq_false_iff_not]; omega
  obtain ⟨ib, io, rfl, hibl, i0, i1, i2, i3⟩ := HIt.out.at_ i hi
  have hil : i < c.lines.length := by rw [hC.lines]; exact hi
  have hilz : (i : Int) < c.lines.length := by omega
  obtain ⟨lb, lo, rfl, hlbl, l0, l1, l2, l3⟩ := HLn.out.at_ i hil
  rw [Int.toNat_natCast] at hTD0
  have hTD := hTD0 fun h => hkd h.2
  have hkb : ((nth p.items i).kind != 1) = true := by rw [bne_iff_ne]; exact hkd
  clear hP hC hTD0 hkd hsP hshP
  go_enter Tryz.func9, Tryz.ntmps9
  go_upto_region 1 with fail
  rw [HW0.out]
  go_wp2_with fail
  refine (Calls.later (w := W0) (R := fun e => e = _) (⟨W0, Lt.refl W0⟩ : Later W0) (HS.out _ (⟨W0, Lt.refl W0⟩ : Later W0).lt)).mono ?_
  rw [hs]
  rintro e w' ⟨rfl, q1, rfl⟩
  go_wp2_with fail
  refine (HSH.out _ q1.lt).mono ?_
  rw [hsh]
  rintro e w' ⟨rfl, qs, rfl⟩
  obtain ⟨q2, hq2⟩ : ∃ q2 : Later W0, qs.world = q2.world := ⟨⟨_, qs.to (q1.lt.alloc _)⟩, rfl⟩
  rw [hq2]
  clear hq2 qs
  go_wp2_with fail
  refine (Calls.later (w := W0) (R := fun e => e = _) q2 (CD.out _ q2.lt)).mono ?_
  rw [hTD]
  rintro e w' ⟨rfl, q3, rfl⟩
  go_wp2_with fail
  refine (Calls.later (w := W0) (R := fun e => e = _) q3 (CO.out _ q3.lt)).mono ?_
  rw [hTO]
  rintro e w' ⟨rfl, q4, rfl⟩
  go_wp2_with fail
  refine (Calls.later (w := W0) (R := fun e => e = _) q4 (RP.out _ q4.lt)).mono ?_
  rw [hb]
  rintro e w' ⟨rfl, q5, rfl⟩
  go_wp2_with fail
  refine (Calls.later (w := W0) (R := fun e => e = _) q5 (RC.out _ q5.lt HPO.out)).mono ?_
  rw [hb2]
  rintro e w' ⟨rfl, q6, rfl⟩
  go_wp2_with fail
  refine (Calls.later (w := W0) (R := fun e => e = _) q6 (HRO.out _ q6.lt)).mono ?_
  rintro e w' ⟨rfl, q7, rfl⟩
  go_wp2_with fail
  refine (Calls.later (w := W0) (R := fun e => e = _) q7 (c_known _)).mono ?_
  rintro e w' ⟨rfl, qk, rfl⟩
  go_wp2_with fail
  go_ret
  exact ⟨rfl, ⟨_, qk.to HL0.out⟩, rfl⟩

set_option maxHeartbeats 4000000 in
set_option maxRecDepth 100000 in
theorem lD_missed (m : PlanM) (p : Plan) (cm : CardM) (c : Card) (item : Int) (w : World) (hp : PlanIs w m p) (wf : PlanWf p) (hc : CardIs w cm c) (hsP : smallP p) (hshP : shortP [c] 1) (hP : PlanOK p) (hC : CardOK p c) (i : Nat) (hii : item = (i : Int)) (hi : i < p.items.length) (hkd : (nth p.items i).kind = 1) (hmk : (nth c.lines i).mark = 2) :
    Calls Tryz.prog 9 #[planV m p, cardV cm c, .int .i64 item] w fun e w' => e = .returned (.bool true) ∧ ∃ q : Later w, w' = q.world := by
  obtain ⟨W0, hW0, hB⟩ := boxed w m p cm c
  have him := hp.items.2.1
  have hsm := hc.starts.2.1
  have hlm := hc.lines.2.1
  have HL0 := Lib.hid hB.lt
  have hbz := hB.sz
  have hbw : w.heap.size < W0.heap.size := by omega
  have HIt := Lib.hid (hp.items.later hB.lt)
  have HLn := Lib.hid (hc.lines.later hB.lt)
  have p0 := hB.plan.c0
  have p1 := hB.plan.c1
  have p2 := hB.plan.c2
  have p3 := hB.plan.c3
  have p4 := hB.plan.c4
  have p5 := hB.plan.c5
  have p6 := hB.plan.c6
  have p7 := hB.plan.c7
  have p8 := hB.plan.c8
  have p9 := hB.plan.c9
  have p10 := hB.plan.c10
  have p11 := hB.plan.c11
  have p12 := hB.plan.c12
  have p13 := hB.plan.c13
  have d0 := hB.d0
  have d1 := hB.d1
  have d2 := hB.d2
  have hHS := fun (W : World) (h : Lt W0 W) => c_small m p W (hp.later (hB.lt.trans h))
  have hHSH := fun (W : World) (h : Lt W0 W) => c_short (some ⟨W.heap.size, 0, none⟩) 1 [c] 1 (W.alloc (.cells (cardC cm c) 31)) (Cards.new1c cm c (hc.later (hB.lt.trans h)))
  have hCD := fun (W : World) (h : Lt W0 W) => c_Due m p cm c item W (hp.later (hB.lt.trans h)) wf (hc.later (hB.lt.trans h))
  have hCO := fun (W : World) (h : Lt W0 W) => c_Out m p cm c W (hp.later (hB.lt.trans h)) wf (hc.later (hB.lt.trans h))
  have hRP := fun (W : World) (h : Lt W0 W) => r_Plan m p W (hp.later (hB.lt.trans h)) wf
  have hRC := fun (W : World) (h : Lt W0 W) => fun (hP : PlanOK p) => r_Card m p cm c W (hp.later (hB.lt.trans h)) (hc.later (hB.lt.trans h)) hP
  have hRO := fun (W : World) (h : Lt W0 W) => fun (hP : PlanOK p) (hC : CardOK p c) => r_Out m p cm c W (hp.later (hB.lt.trans h)) (hc.later (hB.lt.trans h)) hP hC
  obtain ⟨iA, ic, jA, jc, pA, pc, eA, ec⟩ := m
  obtain ⟨sA, sc, lA, lc⟩ := cm
  simp only [planV, planC, cardV, cardC, List.length_cons, List.length_nil, Nat.zero_add] at hW0 hHS hHSH hCD hCO hRP hRC hRO ⊢
  have HW0 := Lib.hid hW0
  have HS := Lib.hid hHS
  have HSH := Lib.hid hHSH
  have CD := Lib.hid hCD
  have CO := Lib.hid hCO
  have RP := Lib.hid hRP
  have RC := Lib.hid hRC
  have RO := Lib.hid hRO
  clear hW0 hB hp hc hHS hHSH hCD hCO hRP hRC hRO
  have hs : smallB p = true := smallB_iff.2 hsP
  have hsh : shortB [c] 1 = true := shortB_yes hshP
  have hb : prb (PlanOK p) = true := prb_yes hP
  have HPO := Lib.hid hP
  have hb2 : prb (CardOK p c) = true := prb_yes hC
  have hTO : OutR p c = (outP p c, 0) := if_pos ⟨hP, hC⟩
  have HRO := Lib.hid (fun W (h : Lt W0 W) => RO.out W h hP hC)
  have hTD0 : ¬ ((0 ≤ item ∧ item < p.items.length) ∧ (nth p.items item.toNat).kind = 1) → DueR p c item = (0, 2) := fun h => if_neg fun g => h g.2
  generalize outP p c = OO at *
  subst hii
  have hib : decide ((i : Int) < 0) = false := by rw [decide_eq_false_iff_not]; omega
  have hib2 : decide ((p.items.length : Int) ≤ (i : Int)) = false := by rw [decide_eq_false_iff_not]; omega
  have hib3 : decide (p.items.length ≤ i) = false := by rw [decide_eq_false_iff_not]; omega
  obtain ⟨ib, io, rfl, hibl, i0, i1, i2, i3⟩ := HIt.out.at_ i hi
  have hil : i < c.lines.length := by rw [hC.lines]; exact hi
  have hilz : (i : Int) < c.lines.length := by omega
  obtain ⟨lb, lo, rfl, hlbl, l0, l1, l2, l3⟩ := HLn.out.at_ i hil
  rw [Int.toNat_natCast] at hTD0
  have hkb : ((nth p.items i).kind != 1) = false := by rw [bne_eq_false_iff_eq]; exact hkd
  have hTD1 : DueR p c i = if (nth c.lines i).mark = 2 then (0, 5) else (dueP p c i, 0) := by
    unfold DueR
    rw [if_pos ⟨⟨hP, hC⟩, ⟨by omega, by omega⟩, by rw [Int.toNat_natCast]; exact hkd⟩, Int.toNat_natCast]
  have hTD := hTD1.trans (if_pos hmk)
  have hmb : ((nth c.lines i).mark == 2) = true := beq_iff_eq.2 hmk
  clear hP hC hTD0 hTD1 hkd hmk hsP hshP
  go_enter Tryz.func9, Tryz.ntmps9
  go_upto_region 1 with fail
  rw [HW0.out]
  go_wp2_with fail
  refine (Calls.later (w := W0) (R := fun e => e = _) (⟨W0, Lt.refl W0⟩ : Later W0) (HS.out _ (⟨W0, Lt.refl W0⟩ : Later W0).lt)).mono ?_
  rw [hs]
  rintro e w' ⟨rfl, q1, rfl⟩
  go_wp2_with fail
  refine (HSH.out _ q1.lt).mono ?_
  rw [hsh]
  rintro e w' ⟨rfl, qs, rfl⟩
  obtain ⟨q2, hq2⟩ : ∃ q2 : Later W0, qs.world = q2.world := ⟨⟨_, qs.to (q1.lt.alloc _)⟩, rfl⟩
  rw [hq2]
  clear hq2 qs
  go_wp2_with fail
  refine (Calls.later (w := W0) (R := fun e => e = _) q2 (CD.out _ q2.lt)).mono ?_
  rw [hTD]
  rintro e w' ⟨rfl, q3, rfl⟩
  go_wp2_with fail
  refine (Calls.later (w := W0) (R := fun e => e = _) q3 (CO.out _ q3.lt)).mono ?_
  rw [hTO]
  rintro e w' ⟨rfl, q4, rfl⟩
  go_wp2_with fail
  refine (Calls.later (w := W0) (R := fun e => e = _) q4 (RP.out _ q4.lt)).mono ?_
  rw [hb]
  rintro e w' ⟨rfl, q5, rfl⟩
  go_wp2_with fail
  refine (Calls.later (w := W0) (R := fun e => e = _) q5 (RC.out _ q5.lt HPO.out)).mono ?_
  rw [hb2]
  rintro e w' ⟨rfl, q6, rfl⟩
  go_wp2_with fail
  refine (Calls.later (w := W0) (R := fun e => e = _) q6 (HRO.out _ q6.lt)).mono ?_
  rintro e w' ⟨rfl, q7, rfl⟩
  go_wp2_with fail
  refine (Calls.later (w := W0) (R := fun e => e = _) q7 (c_known _)).mono ?_
  rintro e w' ⟨rfl, qk, rfl⟩
  go_wp2_with fail
  go_ret
  exact ⟨rfl, ⟨_, qk.to HL0.out⟩, rfl⟩

set_option maxHeartbeats 4000000 in
set_option maxRecDepth 100000 in
theorem lD_due (m : PlanM) (p : Plan) (cm : CardM) (c : Card) (item : Int) (w : World) (hp : PlanIs w m p) (wf : PlanWf p) (hc : CardIs w cm c) (hsP : smallP p) (hshP : shortP [c] 1) (hP : PlanOK p) (hC : CardOK p c) (i : Nat) (hii : item = (i : Int)) (hi : i < p.items.length) (hkd : (nth p.items i).kind = 1) (hmk : (nth c.lines i).mark ≠ 2) :
    Calls Tryz.prog 9 #[planV m p, cardV cm c, .int .i64 item] w fun e w' => e = .returned (.bool true) ∧ ∃ q : Later w, w' = q.world := by
  obtain ⟨W0, hW0, hB⟩ := boxed w m p cm c
  have him := hp.items.2.1
  have hsm := hc.starts.2.1
  have hlm := hc.lines.2.1
  have HL0 := Lib.hid hB.lt
  have hbz := hB.sz
  have hbw : w.heap.size < W0.heap.size := by omega
  have HIt := Lib.hid (hp.items.later hB.lt)
  have HLn := Lib.hid (hc.lines.later hB.lt)
  have p0 := hB.plan.c0
  have p1 := hB.plan.c1
  have p2 := hB.plan.c2
  have p3 := hB.plan.c3
  have p4 := hB.plan.c4
  have p5 := hB.plan.c5
  have p6 := hB.plan.c6
  have p7 := hB.plan.c7
  have p8 := hB.plan.c8
  have p9 := hB.plan.c9
  have p10 := hB.plan.c10
  have p11 := hB.plan.c11
  have p12 := hB.plan.c12
  have p13 := hB.plan.c13
  have d0 := hB.d0
  have d1 := hB.d1
  have d2 := hB.d2
  have hHS := fun (W : World) (h : Lt W0 W) => c_small m p W (hp.later (hB.lt.trans h))
  have hHSH := fun (W : World) (h : Lt W0 W) => c_short (some ⟨W.heap.size, 0, none⟩) 1 [c] 1 (W.alloc (.cells (cardC cm c) 31)) (Cards.new1c cm c (hc.later (hB.lt.trans h)))
  have hCD := fun (W : World) (h : Lt W0 W) => c_Due m p cm c item W (hp.later (hB.lt.trans h)) wf (hc.later (hB.lt.trans h))
  have hCO := fun (W : World) (h : Lt W0 W) => c_Out m p cm c W (hp.later (hB.lt.trans h)) wf (hc.later (hB.lt.trans h))
  have hRP := fun (W : World) (h : Lt W0 W) => r_Plan m p W (hp.later (hB.lt.trans h)) wf
  have hRC := fun (W : World) (h : Lt W0 W) => fun (hP : PlanOK p) => r_Card m p cm c W (hp.later (hB.lt.trans h)) (hc.later (hB.lt.trans h)) hP
  have hRO := fun (W : World) (h : Lt W0 W) => fun (hP : PlanOK p) (hC : CardOK p c) => r_Out m p cm c W (hp.later (hB.lt.trans h)) (hc.later (hB.lt.trans h)) hP hC
  have hRD := fun (W : World) (h : Lt W0 W) => fun (i : Nat) (hP : PlanOK p) (hC : CardOK p c) (hi : i < p.items.length) => r_Due m p cm c i W (hp.later (hB.lt.trans h)) (hc.later (hB.lt.trans h)) hP hC hi
  obtain ⟨iA, ic, jA, jc, pA, pc, eA, ec⟩ := m
  obtain ⟨sA, sc, lA, lc⟩ := cm
  simp only [planV, planC, cardV, cardC, List.length_cons, List.length_nil, Nat.zero_add] at hW0 hHS hHSH hCD hCO hRP hRC hRO hRD ⊢
  have HW0 := Lib.hid hW0
  have HS := Lib.hid hHS
  have HSH := Lib.hid hHSH
  have CD := Lib.hid hCD
  have CO := Lib.hid hCO
  have RP := Lib.hid hRP
  have RC := Lib.hid hRC
  have RO := Lib.hid hRO
  have RD := Lib.hid hRD
  clear hW0 hB hp hc hHS hHSH hCD hCO hRP hRC hRO hRD
  have hs : smallB p = true := smallB_iff.2 hsP
  have hsh : shortB [c] 1 = true := shortB_yes hshP
  have hb : prb (PlanOK p) = true := prb_yes hP
  have HPO := Lib.hid hP
  have hb2 : prb (CardOK p c) = true := prb_yes hC
  have hTO : OutR p c = (outP p c, 0) := if_pos ⟨hP, hC⟩
  have HRO := Lib.hid (fun W (h : Lt W0 W) => RO.out W h hP hC)
  have hTD0 : ¬ ((0 ≤ item ∧ item < p.items.length) ∧ (nth p.items item.toNat).kind = 1) → DueR p c item = (0, 2) := fun h => if_neg fun g => h g.2
  generalize outP p c = OO at *
  subst hii
  have hib : decide ((i : Int) < 0) = false := by rw [decide_eq_false_iff_not]; omega
  have hib2 : decide ((p.items.length : Int) ≤ (i : Int)) = false := by rw [decide_eq_false_iff_not]; omega
  have hib3 : decide (p.items.length ≤ i) = false := by rw [decide_eq_false_iff_not]; omega
  obtain ⟨ib, io, rfl, hibl, i0, i1, i2, i3⟩ := HIt.out.at_ i hi
  have hil : i < c.lines.length := by rw [hC.lines]; exact hi
  have hilz : (i : Int) < c.lines.length := by omega
  obtain ⟨lb, lo, rfl, hlbl, l0, l1, l2, l3⟩ := HLn.out.at_ i hil
  rw [Int.toNat_natCast] at hTD0
  have hkb : ((nth p.items i).kind != 1) = false := by rw [bne_eq_false_iff_eq]; exact hkd
  have hTD1 : DueR p c i = if (nth c.lines i).mark = 2 then (0, 5) else (dueP p c i, 0) := by
    unfold DueR
    rw [if_pos ⟨⟨hP, hC⟩, ⟨by omega, by omega⟩, by rw [Int.toNat_natCast]; exact hkd⟩, Int.toNat_natCast]
  have hTD := hTD1.trans (if_neg hmk)
  have hmb : ((nth c.lines i).mark == 2) = false := beq_eq_false_iff_ne.2 hmk
  have HRD := Lib.hid (fun W (h : Lt W0 W) => RD.out W h i hP hC hi)
  generalize dueP p c i = DD at *
  clear hP hC hTD0 hTD1 hkd hmk hsP hshP
  go_enter Tryz.func9, Tryz.ntmps9
  go_upto_region 1 with fail
  rw [HW0.out]
  go_wp2_with fail
  refine (Calls.later (w := W0) (R := fun e => e = _) (⟨W0, Lt.refl W0⟩ : Later W0) (HS.out _ (⟨W0, Lt.refl W0⟩ : Later W0).lt)).mono ?_
  rw [hs]
  rintro e w' ⟨rfl, q1, rfl⟩
  go_wp2_with fail
  refine (HSH.out _ q1.lt).mono ?_
  rw [hsh]
  rintro e w' ⟨rfl, qs, rfl⟩
  obtain ⟨q2, hq2⟩ : ∃ q2 : Later W0, qs.world = q2.world := ⟨⟨_, qs.to (q1.lt.alloc _)⟩, rfl⟩
  rw [hq2]
  clear hq2 qs
  go_wp2_with fail
  refine (Calls.later (w := W0) (R := fun e => e = _) q2 (CD.out _ q2.lt)).mono ?_
  rw [hTD]
  rintro e w' ⟨rfl, q3, rfl⟩
  go_wp2_with fail
  refine (Calls.later (w := W0) (R := fun e => e = _) q3 (CO.out _ q3.lt)).mono ?_
  rw [hTO]
  rintro e w' ⟨rfl, q4, rfl⟩
  go_wp2_with fail
  refine (Calls.later (w := W0) (R := fun e => e = _) q4 (RP.out _ q4.lt)).mono ?_
  rw [hb]
  rintro e w' ⟨rfl, q5, rfl⟩
  go_wp2_with fail
  refine (Calls.later (w := W0) (R := fun e => e = _) q5 (RC.out _ q5.lt HPO.out)).mono ?_
  rw [hb2]
  rintro e w' ⟨rfl, q6, rfl⟩
  go_wp2_with fail
  refine (Calls.later (w := W0) (R := fun e => e = _) q6 (HRO.out _ q6.lt)).mono ?_
  rintro e w' ⟨rfl, q7, rfl⟩
  go_wp2_with fail
  refine (Calls.later (w := W0) (R := fun e => e = _) q7 (HRD.out _ q7.lt)).mono ?_
  rintro e w' ⟨rfl, q8, rfl⟩
  go_wp2_with fail
  refine (Calls.later (w := W0) (R := fun e => e = _) q8 (c_known _)).mono ?_
  rintro e w' ⟨rfl, qk, rfl⟩
  go_wp2_with fail
  go_ret
  exact ⟨rfl, ⟨_, qk.to HL0.out⟩, rfl⟩

theorem l_ScoreDues (m : PlanM) (p : Plan) (cm : CardM) (c : Card) (item : Int) (w : World) (hp : PlanIs w m p) (wf : PlanWf p) (hc : CardIs w cm c) :
    Calls Tryz.prog 9 #[planV m p, cardV cm c, .int .i64 item] w fun e w' => e = .returned (.bool true) ∧ ∃ q : Later w, w' = q.world := by
  by_cases hsP : smallP p
  rotate_left
  · exact lD_large m p cm c item w hp wf hc hsP
  by_cases hshP : shortP [c] 1
  rotate_left
  · exact lD_long m p cm c item w hp wf hc hsP hshP
  by_cases hP : PlanOK p
  rotate_left
  · exact lD_noPlan m p cm c item w hp wf hc hsP hshP (fun h => hP h.1) hP
  by_cases hC : CardOK p c
  rotate_left
  · exact lD_noCard m p cm c item w hp wf hc hsP hshP (fun h => hC h.2) hP hC
  by_cases hi0 : item < 0
  · exact lD_item0 m p cm c item w hp wf hc hsP hshP hP hC hi0
  by_cases hi1 : (p.items.length : Int) ≤ item
  · exact lD_item1 m p cm c item w hp wf hc hsP hshP hP hC hi0 hi1
  obtain ⟨i, hii⟩ := Int.eq_ofNat_of_zero_le (show 0 ≤ item by omega)
  have hi : i < p.items.length := by omega
  by_cases hkd : (nth p.items i).kind = 1
  rotate_left
  · exact lD_stage m p cm c item w hp wf hc hsP hshP hP hC i hii hi hkd
  by_cases hmk : (nth c.lines i).mark = 2
  · exact lD_missed m p cm c item w hp wf hc hsP hshP hP hC i hii hi hkd hmk
  · exact lD_due m p cm c item w hp wf hc hsP hshP hP hC i hii hi hkd hmk
end Go.Proofs.YtdpcdmcmpfjbjaaGreat
namespace Go.Proofs.YtdpcdmcmpfjbjaaGreat.scoreDues
open Go.ChangeShapes Go.WideShapes Go.ChangeAt Go.RowKit
set_option linter.unusedVariables false
theorem own : ownKnob Tryz.prog.godebug = none := by kernel_rfl
theorem laidOut : laidOutB Tryz.prog = true := by kernel_rfl
set_option maxRecDepth 100000 in
theorem lifted (os : Os) (started : os.Started) (H : Type) (enc : TypeId × Value → H) :
    ReturnsInHanded {} Tryz.checked os 9 .any (Rows.scoreDuesSpec.pre6 enc Tryz.prog Tryz.f9 Rows.scoreDuesRow.domain false) (Rows.scoreDuesSpec.post enc Tryz.prog Tryz.f9 false true false false) := by
  refine returnsInHanded_of_change_sized (C := Tryz.checked) own started (by kernel_rfl) Tryz.func9
    (ChangeSpec.witness6 (enc := enc) (C := Tryz.checked) false ⟨#[], #[.agg #[.slice none 0 0, .int .i64 0, .int .i64 0, .int .i64 0, .int .i64 0, .int .i64 0, .slice none 0 0, .bool false, .int .i64 0, .int .i64 0, .int .i64 0, .int .i64 0, .slice none 0 0, .slice none 0 0], .agg #[.int .i64 0, .slice none 0 0, .slice none 0 0], .int .i64 0], []⟩ 8 (by kernel_rfl) (by kernel_rfl) (by kernel_rfl) (by kernel_rfl)) ?_
  intro W base args ds gs before hval0 hW hcnd hsz0 _
  have hval : ∀ (j : Nat) t v, Tryz.f9.params[j]? = some t → args[j]? = some v → Value.okWide Tryz.prog W .any base t v := hval0
  have hW' := hW
  obtain ⟨p, q, hA0, hV, rfl, hfz, hnd⟩ := hW
  have hA : DataW.TrodAll enc Tryz.prog W 0 (fun _ => true) true Tryz.f9.params.toList args.toList ds p := hA0
  rw [Tryz.params9] at hA hval
  obtain ⟨v0, vs0, d0, ds0, p0, q0, hargs, rfl, rfl, h0, r0⟩ := trodAll_cons hA
  obtain ⟨v1, vs1, d1, ds1, p1, q1, rfl, rfl, rfl, h1, r1⟩ := trodAll_cons r0
  obtain ⟨v2, vs2, d2, ds2, p2, q2, rfl, rfl, rfl, h2, r2⟩ := trodAll_cons r1
  obtain ⟨rfl, rfl, rfl⟩ := trodAll_nil r2
  obtain rfl : args = #[v0, v1, v2] := by cases args; simp_all
  obtain ⟨rfl, rfl⟩ := trodVars_none hV
  have lt0 : ∀ x ∈ p0, x.block < W.heap.size := by obtain ⟨m, hm⟩ := h0; exact DataW.trod_lt m _ _ _ hm
  have k0 := h0
  obtain ⟨cs0, rfl, hc0⟩ := okWide_struct Tryz.underlying28 (hval 0 28 v0 rfl rfl)
  obtain ⟨f0, t0⟩ := h0
  obtain ⟨m0, x0, e0, hx0, wf0⟩ := rd_plan (enc := enc) (W := W) (cs := cs0.toList) ⟨f0, _, t0⟩
  obtain rfl := Array.ext' e0
  have lt1 : ∀ x ∈ p1, x.block < W.heap.size := by obtain ⟨m, hm⟩ := h1; exact DataW.trod_lt m _ _ _ hm
  have k1 := h1
  obtain ⟨cs1, rfl, hc1⟩ := okWide_struct Tryz.underlying31 (hval 1 31 v1 rfl rfl)
  obtain ⟨f1, t1⟩ := h1
  obtain ⟨m1, x1, e1, hx1, wf1⟩ := rd_card (enc := enc) (W := W) (cs := cs1.toList) ⟨f1, _, t1⟩
  obtain rfl := Array.ext' e1
  obtain ⟨a2, rfl, rfl, rfl, w2⟩ := open_int Tryz.underlying3 (hval 2 3 v2 rfl rfl) h2
  clear hA0 hval0 hsz0
  refine (l_ScoreDues m0 x0 m1 x1 a2 W hx0 wf0 hx1).mono fun e W' ⟨he, bq, hb⟩ => ?_
  have bel : Below W.heap.size W W' := by rw [hb]; exact bq.lt
  subst he
  exact ⟨_, rfl, _, _, _, [], _, [], hW', trodAll_mk1 (shut_bool Tryz.underlying4 _), (trodAll_cons_mk (Below.trod laidOut (by kernel_rfl) (of_decide_eq_true (by kernel_rfl)) k0 bel lt0) (trodAll_cons_mk (Below.trod laidOut (by kernel_rfl) (of_decide_eq_true (by kernel_rfl)) k1 bel lt1) (trodAll_cons_mk (shut_int Tryz.underlying3 w2) trodAll_mk0))), rfl, bel.frame _, fun h => by cases h⟩
theorem over : Rows.scoreDuesRow.holds Tryz.pinned (OpenSpec.ofChange Rows.scoreDuesSpec) :=
  OpenClaim.holds_of_wide 9 Tryz.f9 rfl rfl rfl rfl rfl rfl rfl ⟨rfl, rfl, rfl, rfl, rfl⟩ rfl rfl rfl rfl rfl (by kernel_rfl) Tryz.func9 (by kernel_rfl)
    (of_decide_eq_true (by kernel_rfl)) (by unfold Func.isWrapper; first | (rw [if_pos (by decide +kernel)]; kernel_rfl) | (rw [if_neg (by decide +kernel)]; exact ⟨rfl, rfl⟩))
    (fun os started H enc _ => lifted os started H enc)
end Go.Proofs.YtdpcdmcmpfjbjaaGreat.scoreDues
namespace Go.Proofs.YtdpcdmcmpfjbjaaGreat
theorem scoreDues_holds : Rows.ScoreDuesSaid := scoreDues.over
#print axioms scoreDues_holds
end Go.Proofs.YtdpcdmcmpfjbjaaGreat
