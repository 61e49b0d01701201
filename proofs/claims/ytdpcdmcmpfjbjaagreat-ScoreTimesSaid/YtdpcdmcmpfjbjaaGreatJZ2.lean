/- ScoreTimes: whatever plan, cards, car and item come in, the statement's function returns true, and the plan and the cards read as before. No condition. -/
import Derived.Test.YtdpcdmcmpfjbjaaGreatJV
import Derived.Test.YtdpcdmcmpfjbjaaGreatJS
import Derived.Test.YtdpcdmcmpfjbjaaGreatJFF
import Derived.Test.YtdpcdmcmpfjbjaaGreatRows
import Derived.Test.YtdpcdmcmpfjbjaaGreatJW
import Derived.WalkKit
import Derived.ProofKit
import Derived.OpenShut
import Derived.ChangeOld
import Derived.Below
import Derived.SizedLaws
import Derived.Carry
/- Walks: ScoreTimes. -/
namespace Go.Proofs.YtdpcdmcmpfjbjaaGreat
open Go.RowKit
set_option linter.unusedVariables false
set_option linter.unusedSimpArgs false
attribute [local go_sem] Later.cell Later.frozen Later.size Later.ne Later.cell1 Later.cell2 Later.cell3 Later.size1 Later.size2 Later.size3 Later.ne1 Later.ne2 Later.ne3

set_option maxHeartbeats 4000000 in
set_option maxRecDepth 100000 in
theorem lT_large (m : PlanM) (p : Plan) (A : Option Addr) (c : Nat) (cards : List Card) (car : Int) (item : Int) (w : World) (hp : PlanIs w m p) (wf : PlanWf p) (hc : Cards w A c cards) (hsP : ¬ smallP p) :
    Calls Tryz.prog 4 #[planV m p, .slice A cards.length c, .int .i64 car, .int .i64 item] w fun e w' => e = .returned (.bool true) ∧ ∃ q : Later w, w' = q.world := by
  obtain ⟨W0, hW0, hB⟩ := boxed1 w m p
  have hcm := hc.2.1
  have him := hp.items.2.1
  have HL0 := Lib.hid hB.lt
  have hbw := hB.sz
  have HC := Lib.hid (hc.later hB.lt)
  have HIt := Lib.hid (hp.items.later hB.lt)
  have p0 := hB.plan.c0
  have p1 := hB.plan.c1
  have p2 := hB.plan.c2
  have p3 := hB.plan.c3
  have p4 := hB.plan.c4
  have p5 := hB.plan.c5
  have p6 := hB.plan.c6
  have p7 := hB.plan.c7
  have p8 := hB.plan.c8
  have p9 := hB.plan.c9
  have p10 := hB.plan.c10
  have p11 := hB.plan.c11
  have p12 := hB.plan.c12
  have p13 := hB.plan.c13
  have hHS := fun (W : World) (h : Lt W0 W) => c_small m p W (hp.later (hB.lt.trans h))
  obtain ⟨iA, ic, jA, jc, pA, pc, eA, ec⟩ := m
  simp only [planV, planC, cardV, cardC] at hW0 hHS ⊢
  have HW0 := Lib.hid hW0
  have HS := Lib.hid hHS
  clear hW0 hB hp hc hHS
  have hs : smallB p = false := by rw [← Bool.not_eq_true, smallB_iff]; exact hsP
  clear hsP
  go_enter Tryz.func4, Tryz.ntmps4
  go_upto_region 1 with fail
  rw [HW0.out]
  go_wp2_with fail
  refine (Calls.later (w := W0) (R := fun e => e = _) (⟨W0, Lt.refl W0⟩ : Later W0) (HS.out _ (⟨W0, Lt.refl W0⟩ : Later W0).lt)).mono ?_
  rw [hs]
  rintro e w' ⟨rfl, q1, rfl⟩
  go_wp2_with fail
  refine (Calls.later (w := W0) (R := fun e => e = _) q1 (c_known _)).mono ?_
  rintro e w' ⟨rfl, qk, rfl⟩
  go_wp2_with fail
  go_ret
  exact ⟨rfl, ⟨_, qk.to HL0.out⟩, rfl⟩

set_option maxHeartbeats 4000000 in
set_option maxRecDepth 100000 in
theorem lT_long (m : PlanM) (p : Plan) (A : Option Addr) (c : Nat) (cards : List Card) (car : Int) (item : Int) (w : World) (hp : PlanIs w m p) (wf : PlanWf p) (hc : Cards w A c cards) (hsP : smallP p) (hshP : ¬ shortP cards 10) :
    Calls Tryz.prog 4 #[planV m p, .slice A cards.length c, .int .i64 car, .int .i64 item] w fun e w' => e = .returned (.bool true) ∧ ∃ q : Later w, w' = q.world := by
  obtain ⟨W0, hW0, hB⟩ := boxed1 w m p
  have hcm := hc.2.1
  have him := hp.items.2.1
  have HL0 := Lib.hid hB.lt
  have hbw := hB.sz
  have HC := Lib.hid (hc.later hB.lt)
  have HIt := Lib.hid (hp.items.later hB.lt)
  have p0 := hB.plan.c0
  have p1 := hB.plan.c1
  have p2 := hB.plan.c2
  have p3 := hB.plan.c3
  have p4 := hB.plan.c4
  have p5 := hB.plan.c5
  have p6 := hB.plan.c6
  have p7 := hB.plan.c7
  have p8 := hB.plan.c8
  have p9 := hB.plan.c9
  have p10 := hB.plan.c10
  have p11 := hB.plan.c11
  have p12 := hB.plan.c12
  have p13 := hB.plan.c13
  have hHS := fun (W : World) (h : Lt W0 W) => c_small m p W (hp.later (hB.lt.trans h))
  have hHSH := fun (W : World) (h : Lt W0 W) => c_short A c cards 10 W (hc.later (hB.lt.trans h))
  obtain ⟨iA, ic, jA, jc, pA, pc, eA, ec⟩ := m
  simp only [planV, planC, cardV, cardC] at hW0 hHS hHSH ⊢
  have HW0 := Lib.hid hW0
  have HS := Lib.hid hHS
  have HSH := Lib.hid hHSH
  clear hW0 hB hp hc hHS hHSH
  have hs : smallB p = true := smallB_iff.2 hsP
  have hsh : shortB cards 10 = false := shortB_no hshP
  clear hsP hshP
  go_enter Tryz.func4, Tryz.ntmps4
  go_upto_region 1 with fail
  rw [HW0.out]
  go_wp2_with fail
  refine (Calls.later (w := W0) (R := fun e => e = _) (⟨W0, Lt.refl W0⟩ : Later W0) (HS.out _ (⟨W0, Lt.refl W0⟩ : Later W0).lt)).mono ?_
  rw [hs]
  rintro e w' ⟨rfl, q1, rfl⟩
  go_wp2_with fail
  refine (Calls.later (w := W0) (R := fun e => e = _) q1 (HSH.out _ q1.lt)).mono ?_
  rw [hsh]
  rintro e w' ⟨rfl, q2, rfl⟩
  go_wp2_with fail
  refine (Calls.later (w := W0) (R := fun e => e = _) q2 (c_known _)).mono ?_
  rintro e w' ⟨rfl, qk, rfl⟩
  go_wp2_with fail
  go_ret
  exact ⟨rfl, ⟨_, qk.to HL0.out⟩, rfl⟩

set_option maxHeartbeats 4000000 in
set_option maxRecDepth 100000 in
theorem lT_noPlan (m : PlanM) (p : Plan) (A : Option Addr) (c : Nat) (cards : List Card) (car : Int) (item : Int) (w : World) (hp : PlanIs w m p) (wf : PlanWf p) (hc : Cards w A c cards) (hsP : smallP p) (hshP : shortP cards 10) (hno : ¬ ((PlanOK p ∧ cardsOK p cards) ∧ 0 ≤ car ∧ car < cards.length)) (hP : ¬ PlanOK p) :
    Calls Tryz.prog 4 #[planV m p, .slice A cards.length c, .int .i64 car, .int .i64 item] w fun e w' => e = .returned (.bool true) ∧ ∃ q : Later w, w' = q.world := by
  obtain ⟨W0, hW0, hB⟩ := boxed1 w m p
  have hcm := hc.2.1
  have him := hp.items.2.1
  have HL0 := Lib.hid hB.lt
  have hbw := hB.sz
  have HC := Lib.hid (hc.later hB.lt)
  have HIt := Lib.hid (hp.items.later hB.lt)
  have p0 := hB.plan.c0
  have p1 := hB.plan.c1
  have p2 := hB.plan.c2
  have p3 := hB.plan.c3
  have p4 := hB.plan.c4
  have p5 := hB.plan.c5
  have p6 := hB.plan.c6
  have p7 := hB.plan.c7
  have p8 := hB.plan.c8
  have p9 := hB.plan.c9
  have p10 := hB.plan.c10
  have p11 := hB.plan.c11
  have p12 := hB.plan.c12
  have p13 := hB.plan.c13
  have hHS := fun (W : World) (h : Lt W0 W) => c_small m p W (hp.later (hB.lt.trans h))
  have hHSH := fun (W : World) (h : Lt W0 W) => c_short A c cards 10 W (hc.later (hB.lt.trans h))
  have hCT := fun (W : World) (h : Lt W0 W) => c_Time m p A c cards car item W (hp.later (hB.lt.trans h)) wf (hc.later (hB.lt.trans h))
  have hCTot := fun (W : World) (h : Lt W0 W) => c_Total m p A c cards car W (hp.later (hB.lt.trans h)) wf (hc.later (hB.lt.trans h))
  have hRP := fun (W : World) (h : Lt W0 W) => r_Plan m p W (hp.later (hB.lt.trans h)) wf
  have hRCs := fun (W : World) (h : Lt W0 W) => fun (hP : PlanOK p) => r_Cards m p A c cards W (hp.later (hB.lt.trans h)) (hc.later (hB.lt.trans h)) hP
  obtain ⟨iA, ic, jA, jc, pA, pc, eA, ec⟩ := m
  simp only [planV, planC, cardV, cardC] at hW0 hHS hHSH hCT hCTot hRP hRCs ⊢
  have HW0 := Lib.hid hW0
  have HS := Lib.hid hHS
  have HSH := Lib.hid hHSH
  have CT := Lib.hid hCT
  have CTot := Lib.hid hCTot
  have RP := Lib.hid hRP
  have RCs := Lib.hid hRCs
  clear hW0 hB hp hc hHS hHSH hCT hCTot hRP hRCs
  have hs : smallB p = true := smallB_iff.2 hsP
  have hsh : shortB cards 10 = true := shortB_yes hshP
  have hTT : TotalR p cards car = (0, 2) := if_neg hno
  have hTR : TimeR p cards car item = (0, 2) := if_neg fun g => hno ⟨g.1, g.2.1⟩
  have hb : prb (PlanOK p) = false := prb_no hP
  clear hP hno hsP hshP
  go_enter Tryz.func4, Tryz.ntmps4
  go_upto_region 1 with fail
  rw [HW0.out]
  go_wp2_with fail
  refine (Calls.later (w := W0) (R := fun e => e = _) (⟨W0, Lt.refl W0⟩ : Later W0) (HS.out _ (⟨W0, Lt.refl W0⟩ : Later W0).lt)).mono ?_
  rw [hs]
  rintro e w' ⟨rfl, q1, rfl⟩
  go_wp2_with fail
  refine (Calls.later (w := W0) (R := fun e => e = _) q1 (HSH.out _ q1.lt)).mono ?_
  rw [hsh]
  rintro e w' ⟨rfl, q2, rfl⟩
  go_wp2_with fail
  refine (Calls.later (w := W0) (R := fun e => e = _) q2 (CT.out _ q2.lt)).mono ?_
  rw [hTR]
  rintro e w' ⟨rfl, q3, rfl⟩
  go_wp2_with fail
  refine (Calls.later (w := W0) (R := fun e => e = _) q3 (CTot.out _ q3.lt)).mono ?_
  rw [hTT]
  rintro e w' ⟨rfl, q4, rfl⟩
  go_wp2_with fail
  refine (Calls.later (w := W0) (R := fun e => e = _) q4 (RP.out _ q4.lt)).mono ?_
  rw [hb]
  rintro e w' ⟨rfl, q5, rfl⟩
  go_wp2_with fail
  refine (Calls.later (w := W0) (R := fun e => e = _) q5 (c_known _)).mono ?_
  rintro e w' ⟨rfl, qk, rfl⟩
  go_wp2_with fail
  go_ret
  exact ⟨rfl, ⟨_, qk.to HL0.out⟩, rfl⟩

set_option maxHeartbeats 4000000 in
set_option maxRecDepth 100000 in
theorem lT_noCards (m : PlanM) (p : Plan) (A : Option Addr) (c : Nat) (cards : List Card) (car : Int) (item : Int) (w : World) (hp : PlanIs w m p) (wf : PlanWf p) (hc : Cards w A c cards) (hsP : smallP p) (hshP : shortP cards 10) (hno : ¬ ((PlanOK p ∧ cardsOK p cards) ∧ 0 ≤ car ∧ car < cards.length)) (hP : PlanOK p) (hO : ¬ cardsOK p cards) :
    Calls Tryz.prog 4 #[planV m p, .slice A cards.length c, .int .i64 car, .int .i64 item] w fun e w' => e = .returned (.bool true) ∧ ∃ q : Later w, w' = q.world := by
  obtain ⟨W0, hW0, hB⟩ := boxed1 w m p
  have hcm := hc.2.1
  have him := hp.items.2.1
  have HL0 := Lib.hid hB.lt
  have hbw := hB.sz
  have HC := Lib.hid (hc.later hB.lt)
  have HIt := Lib.hid (hp.items.later hB.lt)
  have p0 := hB.plan.c0
  have p1 := hB.plan.c1
  have p2 := hB.plan.c2
  have p3 := hB.plan.c3
  have p4 := hB.plan.c4
  have p5 := hB.plan.c5
  have p6 := hB.plan.c6
  have p7 := hB.plan.c7
  have p8 := hB.plan.c8
  have p9 := hB.plan.c9
  have p10 := hB.plan.c10
  have p11 := hB.plan.c11
  have p12 := hB.plan.c12
  have p13 := hB.plan.c13
  have hHS := fun (W : World) (h : Lt W0 W) => c_small m p W (hp.later (hB.lt.trans h))
  have hHSH := fun (W : World) (h : Lt W0 W) => c_short A c cards 10 W (hc.later (hB.lt.trans h))
  have hCT := fun (W : World) (h : Lt W0 W) => c_Time m p A c cards car item W (hp.later (hB.lt.trans h)) wf (hc.later (hB.lt.trans h))
  have hCTot := fun (W : World) (h : Lt W0 W) => c_Total m p A c cards car W (hp.later (hB.lt.trans h)) wf (hc.later (hB.lt.trans h))
  have hRP := fun (W : World) (h : Lt W0 W) => r_Plan m p W (hp.later (hB.lt.trans h)) wf
  have hRCs := fun (W : World) (h : Lt W0 W) => fun (hP : PlanOK p) => r_Cards m p A c cards W (hp.later (hB.lt.trans h)) (hc.later (hB.lt.trans h)) hP
  obtain ⟨iA, ic, jA, jc, pA, pc, eA, ec⟩ := m
  simp only [planV, planC, cardV, cardC] at hW0 hHS hHSH hCT hCTot hRP hRCs ⊢
  have HW0 := Lib.hid hW0
  have HS := Lib.hid hHS
  have HSH := Lib.hid hHSH
  have CT := Lib.hid hCT
  have CTot := Lib.hid hCTot
  have RP := Lib.hid hRP
  have RCs := Lib.hid hRCs
  clear hW0 hB hp hc hHS hHSH hCT hCTot hRP hRCs
  have hs : smallB p = true := smallB_iff.2 hsP
  have hsh : shortB cards 10 = true := shortB_yes hshP
  have hTT : TotalR p cards car = (0, 2) := if_neg hno
  have hTR : TimeR p cards car item = (0, 2) := if_neg fun g => hno ⟨g.1, g.2.1⟩
  have hb : prb (PlanOK p) = true := prb_yes hP
  have HPO := Lib.hid hP
  have hb2 : prb (cardsOK p cards) = false := prb_no hO
  clear hP hO hno hsP hshP
  go_enter Tryz.func4, Tryz.ntmps4
  go_upto_region 1 with fail
  rw [HW0.out]
  go_wp2_with fail
  refine (Calls.later (w := W0) (R := fun e => e = _) (⟨W0, Lt.refl W0⟩ : Later W0) (HS.out _ (⟨W0, Lt.refl W0⟩ : Later W0).lt)).mono ?_
  rw [hs]
  rintro e w' ⟨rfl, q1, rfl⟩
  go_wp2_with fail
  refine (Calls.later (w := W0) (R := fun e => e = _) q1 (HSH.out _ q1.lt)).mono ?_
  rw [hsh]
  rintro e w' ⟨rfl, q2, rfl⟩
  go_wp2_with fail
  refine (Calls.later (w := W0) (R := fun e => e = _) q2 (CT.out _ q2.lt)).mono ?_
  rw [hTR]
  rintro e w' ⟨rfl, q3, rfl⟩
  go_wp2_with fail
  refine (Calls.later (w := W0) (R := fun e => e = _) q3 (CTot.out _ q3.lt)).mono ?_
  rw [hTT]
  rintro e w' ⟨rfl, q4, rfl⟩
  go_wp2_with fail
  refine (Calls.later (w := W0) (R := fun e => e = _) q4 (RP.out _ q4.lt)).mono ?_
  rw [hb]
  rintro e w' ⟨rfl, q5, rfl⟩
  go_wp2_with fail
  refine (Calls.later (w := W0) (R := fun e => e = _) q5 (RCs.out _ q5.lt HPO.out)).mono ?_
  rw [hb2]
  rintro e w' ⟨rfl, q6, rfl⟩
  go_wp2_with fail
  refine (Calls.later (w := W0) (R := fun e => e = _) q6 (c_known _)).mono ?_
  rintro e w' ⟨rfl, qk, rfl⟩
  go_wp2_with fail
  go_ret
  exact ⟨rfl, ⟨_, qk.to HL0.out⟩, rfl⟩

set_option maxHeartbeats 4000000 in
set_option maxRecDepth 100000 in
theorem lT_neg (m : PlanM) (p : Plan) (A : Option Addr) (c : Nat) (cards : List Card) (car : Int) (item : Int) (w : World) (hp : PlanIs w m p) (wf : PlanWf p) (hc : Cards w A c cards) (hsP : smallP p) (hshP : shortP cards 10) (hno : ¬ ((PlanOK p ∧ cardsOK p cards) ∧ 0 ≤ car ∧ car < cards.length)) (hP : PlanOK p) (hO : cardsOK p cards) (hc0 : car < 0) :
    Calls Tryz.prog 4 #[planV m p, .slice A cards.length c, .int .i64 car, .int .i64 item] w fun e w' => e = .returned (.bool true) ∧ ∃ q : Later w, w' = q.world := by
  obtain ⟨W0, hW0, hB⟩ := boxed1 w m p
  have hcm := hc.2.1
  have him := hp.items.2.1
  have HL0 := Lib.hid hB.lt
  have hbw := hB.sz
  have HC := Lib.hid (hc.later hB.lt)
  have HIt := Lib.hid (hp.items.later hB.lt)
  have p0 := hB.plan.c0
  have p1 := hB.plan.c1
  have p2 := hB.plan.c2
  have p3 := hB.plan.c3
  have p4 := hB.plan.c4
  have p5 := hB.plan.c5
  have p6 := hB.plan.c6
  have p7 := hB.plan.c7
  have p8 := hB.plan.c8
  have p9 := hB.plan.c9
  have p10 := hB.plan.c10
  have p11 := hB.plan.c11
  have p12 := hB.plan.c12
  have p13 := hB.plan.c13
  have hHS := fun (W : World) (h : Lt W0 W) => c_small m p W (hp.later (hB.lt.trans h))
  have hHSH := fun (W : World) (h : Lt W0 W) => c_short A c cards 10 W (hc.later (hB.lt.trans h))
  have hCT := fun (W : World) (h : Lt W0 W) => c_Time m p A c cards car item W (hp.later (hB.lt.trans h)) wf (hc.later (hB.lt.trans h))
  have hCTot := fun (W : World) (h : Lt W0 W) => c_Total m p A c cards car W (hp.later (hB.lt.trans h)) wf (hc.later (hB.lt.trans h))
  have hRP := fun (W : World) (h : Lt W0 W) => r_Plan m p W (hp.later (hB.lt.trans h)) wf
  have hRCs := fun (W : World) (h : Lt W0 W) => fun (hP : PlanOK p) => r_Cards m p A c cards W (hp.later (hB.lt.trans h)) (hc.later (hB.lt.trans h)) hP
  obtain ⟨iA, ic, jA, jc, pA, pc, eA, ec⟩ := m
  simp only [planV, planC, cardV, cardC] at hW0 hHS hHSH hCT hCTot hRP hRCs ⊢
  have HW0 := Lib.hid hW0
  have HS := Lib.hid hHS
  have HSH := Lib.hid hHSH
  have CT := Lib.hid hCT
  have CTot := Lib.hid hCTot
  have RP := Lib.hid hRP
  have RCs := Lib.hid hRCs
  clear hW0 hB hp hc hHS hHSH hCT hCTot hRP hRCs
  have hs : smallB p = true := smallB_iff.2 hsP
  have hsh : shortB cards 10 = true := shortB_yes hshP
  have hTT : TotalR p cards car = (0, 2) := if_neg hno
  have hTR : TimeR p cards car item = (0, 2) := if_neg fun g => hno ⟨g.1, g.2.1⟩
  have hb : prb (PlanOK p) = true := prb_yes hP
  have HPO := Lib.hid hP
  have hb2 : prb (cardsOK p cards) = true := prb_yes hO
  have hcb : decide (car < 0) = true := decide_eq_true hc0
  clear hP hO hno hsP hshP hc0
  go_enter Tryz.func4, Tryz.ntmps4
  go_upto_region 1 with fail
  rw [HW0.out]
  go_wp2_with fail
  refine (Calls.later (w := W0) (R := fun e => e = _) (⟨W0, Lt.refl W0⟩ : Later W0) (HS.out _ (⟨W0, Lt.refl W0⟩ : Later W0).lt)).mono ?_
  rw [hs]
  rintro e w' ⟨rfl, q1, rfl⟩
  go_wp2_with fail
  refine (Calls.later (w := W0) (R := fun e => e = _) q1 (HSH.out _ q1.lt)).mono ?_
  rw [hsh]
  rintro e w' ⟨rfl, q2, rfl⟩
  go_wp2_with fail
  refine (Calls.later (w := W0) (R := fun e => e = _) q2 (CT.out _ q2.lt)).mono ?_
  rw [hTR]
  rintro e w' ⟨rfl, q3, rfl⟩
  go_wp2_with fail
  refine (Calls.later (w := W0) (R := fun e => e = _) q3 (CTot.out _ q3.lt)).mono ?_
  rw [hTT]
  rintro e w' ⟨rfl, q4, rfl⟩
  go_wp2_with fail
  refine (Calls.later (w := W0) (R := fun e => e = _) q4 (RP.out _ q4.lt)).mono ?_
  rw [hb]
  rintro e w' ⟨rfl, q5, rfl⟩
  go_wp2_with fail
  refine (Calls.later (w := W0) (R := fun e => e = _) q5 (RCs.out _ q5.lt HPO.out)).mono ?_
  rw [hb2]
  rintro e w' ⟨rfl, q6, rfl⟩
  go_wp2_with fail
  refine (Calls.later (w := W0) (R := fun e => e = _) q6 (c_known _)).mono ?_
  rintro e w' ⟨rfl, qk, rfl⟩
  go_wp2_with fail
  go_ret
  exact ⟨rfl, ⟨_, qk.to HL0.out⟩, rfl⟩

set_option maxHeartbeats 4000000 in
set_option maxRecDepth 100000 in
theorem lT_big (m : PlanM) (p : Plan) (A : Option Addr) (c : Nat) (cards : List Card) (car : Int) (item : Int) (w : World) (hp : PlanIs w m p) (wf : PlanWf p) (hc : Cards w A c cards) (hsP : smallP p) (hshP : shortP cards 10) (hno : ¬ ((PlanOK p ∧ cardsOK p cards) ∧ 0 ≤ car ∧ car < cards.length)) (hP : PlanOK p) (hO : cardsOK p cards) (hc0 : ¬ car < 0) (hc1 : (cards.length : Int) ≤ car) :
    Calls Tryz.prog 4 #[planV m p, .slice A cards.length c, .int .i64 car, .int .i64 item] w fun e w' => e = .returned (.bool true) ∧ ∃ q : Later w, w' = q.world := by
  obtain ⟨W0, hW0, hB⟩ := boxed1 w m p
  have hcm := hc.2.1
  have him := hp.items.2.1
  have HL0 := Lib.hid hB.lt
  have hbw := hB.sz
  have HC := Lib.hid (hc.later hB.lt)
  have HIt := Lib.hid (hp.items.later hB.lt)
  have p0 := hB.plan.c0
  have p1 := hB.plan.c1
  have p2 := hB.plan.c2
  have p3 := hB.plan.c3
  have p4 := hB.plan.c4
  have p5 := hB.plan.c5
  have p6 := hB.plan.c6
  have p7 := hB.plan.c7
  have p8 := hB.plan.c8
  have p9 := hB.plan.c9
  have p10 := hB.plan.c10
  have p11 := hB.plan.c11
  have p12 := hB.plan.c12
  have p13 := hB.plan.c13
  have hHS := fun (W : World) (h : Lt W0 W) => c_small m p W (hp.later (hB.lt.trans h))
  have hHSH := fun (W : World) (h : Lt W0 W) => c_short A c cards 10 W (hc.later (hB.lt.trans h))
  have hCT := fun (W : World) (h : Lt W0 W) => c_Time m p A c cards car item W (hp.later (hB.lt.trans h)) wf (hc.later (hB.lt.trans h))
  have hCTot := fun (W : World) (h : Lt W0 W) => c_Total m p A c cards car W (hp.later (hB.lt.trans h)) wf (hc.later (hB.lt.trans h))
  have hRP := fun (W : World) (h : Lt W0 W) => r_Plan m p W (hp.later (hB.lt.trans h)) wf
  have hRCs := fun (W : World) (h : Lt W0 W) => fun (hP : PlanOK p) => r_Cards m p A c cards W (hp.later (hB.lt.trans h)) (hc.later (hB.lt.trans h)) hP
  obtain ⟨iA, ic, jA, jc, pA, pc, eA, ec⟩ := m
  simp only [planV, planC, cardV, cardC] at hW0 hHS hHSH hCT hCTot hRP hRCs ⊢
  have HW0 := Lib.hid hW0
  have HS := Lib.hid hHS
  have HSH := Lib.hid hHSH
  have CT := Lib.hid hCT
  have CTot := Lib.hid hCTot
  have RP := Lib.hid hRP
  have RCs := Lib.hid hRCs
  clear hW0 hB hp hc hHS hHSH hCT hCTot hRP hRCs
  have hs : smallB p = true := smallB_iff.2 hsP
  have hsh : shortB cards 10 = true := shortB_yes hshP
  have hTT : TotalR p cards car = (0, 2) := if_neg hno
  have hTR : TimeR p cards car item = (0, 2) := if_neg fun g => hno ⟨g.1, g.2.1⟩
  have hb : prb (PlanOK p) = true := prb_yes hP
  have HPO := Lib.hid hP
  have hb2 : prb (cardsOK p cards) = true := prb_yes hO
  have hcb : decide (car < 0) = false := decide_eq_false hc0
  have hcb2 : decide ((cards.length : Int) ≤ car) = true := decide_eq_true hc1
  clear hP hO hno hsP hshP
  go_enter Tryz.func4, Tryz.ntmps4
  go_upto_region 1 with fail
  rw [HW0.out]
  go_wp2_with fail
  refine (Calls.later (w := W0) (R := fun e => e = _) (⟨W0, Lt.refl W0⟩ : Later W0) (HS.out _ (⟨W0, Lt.refl W0⟩ : Later W0).lt)).mono ?_
  rw [hs]
  rintro e w' ⟨rfl, q1, rfl⟩
  go_wp2_with fail
  refine (Calls.later (w := W0) (R := fun e => e = _) q1 (HSH.out _ q1.lt)).mono ?_
  rw [hsh]
  rintro e w' ⟨rfl, q2, rfl⟩
  go_wp2_with fail
  refine (Calls.later (w := W0) (R := fun e => e = _) q2 (CT.out _ q2.lt)).mono ?_
  rw [hTR]
  rintro e w' ⟨rfl, q3, rfl⟩
  go_wp2_with fail
  refine (Calls.later (w := W0) (R := fun e => e = _) q3 (CTot.out _ q3.lt)).mono ?_
  rw [hTT]
  rintro e w' ⟨rfl, q4, rfl⟩
  go_wp2_with fail
  refine (Calls.later (w := W0) (R := fun e => e = _) q4 (RP.out _ q4.lt)).mono ?_
  rw [hb]
  rintro e w' ⟨rfl, q5, rfl⟩
  go_wp2_with fail
  refine (Calls.later (w := W0) (R := fun e => e = _) q5 (RCs.out _ q5.lt HPO.out)).mono ?_
  rw [hb2]
  rintro e w' ⟨rfl, q6, rfl⟩
  go_wp2_with fail
  refine (Calls.later (w := W0) (R := fun e => e = _) q6 (c_known _)).mono ?_
  rintro e w' ⟨rfl, qk, rfl⟩
  go_wp2_with fail
  go_ret
  exact ⟨rfl, ⟨_, qk.to HL0.out⟩, rfl⟩

set_option maxHeartbeats 4000000 in
set_option maxRecDepth 100000 in
theorem lT_item0 (m : PlanM) (p : Plan) (A : Option Addr) (c : Nat) (cards : List Card) (car : Int) (item : Int) (w : World) (hp : PlanIs w m p) (wf : PlanWf p) (hc : Cards w A c cards) (hsP : smallP p) (hshP : shortP cards 10) (hP : PlanOK p) (hO : cardsOK p cards) (hc0 : 0 ≤ car) (hc1 : car < cards.length) (hi0 : item < 0) :
    Calls Tryz.prog 4 #[planV m p, .slice A cards.length c, .int .i64 car, .int .i64 item] w fun e w' => e = .returned (.bool true) ∧ ∃ q : Later w, w' = q.world := by
  obtain ⟨W0, hW0, hB⟩ := boxed1 w m p
  have hcm := hc.2.1
  have him := hp.items.2.1
  have HL0 := Lib.hid hB.lt
  have hbw := hB.sz
  have HC := Lib.hid (hc.later hB.lt)
  have HIt := Lib.hid (hp.items.later hB.lt)
  have p0 := hB.plan.c0
  have p1 := hB.plan.c1
  have p2 := hB.plan.c2
  have p3 := hB.plan.c3
  have p4 := hB.plan.c4
  have p5 := hB.plan.c5
  have p6 := hB.plan.c6
  have p7 := hB.plan.c7
  have p8 := hB.plan.c8
  have p9 := hB.plan.c9
  have p10 := hB.plan.c10
  have p11 := hB.plan.c11
  have p12 := hB.plan.c12
  have p13 := hB.plan.c13
  have hHS := fun (W : World) (h : Lt W0 W) => c_small m p W (hp.later (hB.lt.trans h))
  have hHSH := fun (W : World) (h : Lt W0 W) => c_short A c cards 10 W (hc.later (hB.lt.trans h))
  have hCT := fun (W : World) (h : Lt W0 W) => c_Time m p A c cards car item W (hp.later (hB.lt.trans h)) wf (hc.later (hB.lt.trans h))
  have hCTot := fun (W : World) (h : Lt W0 W) => c_Total m p A c cards car W (hp.later (hB.lt.trans h)) wf (hc.later (hB.lt.trans h))
  have hRP := fun (W : World) (h : Lt W0 W) => r_Plan m p W (hp.later (hB.lt.trans h)) wf
  have hRCs := fun (W : World) (h : Lt W0 W) => fun (hP : PlanOK p) => r_Cards m p A c cards W (hp.later (hB.lt.trans h)) (hc.later (hB.lt.trans h)) hP
  have hRTot := fun (W : World) (h : Lt W0 W) => fun (k : Nat) (hP : PlanOK p) (hO : cardsOK p cards) (hk : k < cards.length) => r_Total m p A c cards k W (hp.later (hB.lt.trans h)) (hc.later (hB.lt.trans h)) hP hO hk
  have hRTm := fun (W : World) (h : Lt W0 W) => fun (k i : Nat) (hP : PlanOK p) (hO : cardsOK p cards) (hk : k < cards.length) (hi : i < p.items.length) => r_Time m p A c cards k i W (hp.later (hB.lt.trans h)) (hc.later (hB.lt.trans h)) hP hO hi hk
  have hRIn := fun (W : World) (h : Lt W0 W) => fun (cm : CardM) (k i : Nat) (hx : CardIs W cm (nth cards k)) (hP : PlanOK p) (hO : cardsOK p cards) (hk : k < cards.length) => r_In m p cm (nth cards k) i W (hp.later (hB.lt.trans h)) hx hP (hO.2 k hk)
  obtain ⟨iA, ic, jA, jc, pA, pc, eA, ec⟩ := m
  simp only [planV, planC, cardV, cardC] at hW0 hHS hHSH hCT hCTot hRP hRCs hRTot hRTm hRIn ⊢
  have HW0 := Lib.hid hW0
  have HS := Lib.hid hHS
  have HSH := Lib.hid hHSH
  have CT := Lib.hid hCT
  have CTot := Lib.hid hCTot
  have RP := Lib.hid hRP
  have RCs := Lib.hid hRCs
  have RTot := Lib.hid hRTot
  have RTm := Lib.hid hRTm
  have RIn := Lib.hid hRIn
  clear hW0 hB hp hc hHS hHSH hCT hCTot hRP hRCs hRTot hRTm hRIn
  have hs : smallB p = true := smallB_iff.2 hsP
  have hsh : shortB cards 10 = true := shortB_yes hshP
  have hb : prb (PlanOK p) = true := prb_yes hP
  have HPO := Lib.hid hP
  have hb2 : prb (cardsOK p cards) = true := prb_yes hO
  obtain ⟨k, rfl⟩ := Int.eq_ofNat_of_zero_le hc0
  have hk : k < cards.length := by omega
  have hcb : decide ((k : Int) < 0) = false := by rw [decide_eq_false_iff_not]; omega
  have hcb2 : decide ((cards.length : Int) ≤ (k : Int)) = false := by rw [decide_eq_false_iff_not]; omega
  have hcb3 : decide (cards.length ≤ k) = false := by rw [decide_eq_false_iff_not]; omega
  have hTT : TotalR p cards k = (totalP p cards k, 0) := by unfold TotalR; rw [if_pos ⟨⟨hP, hO⟩, hc0, hc1⟩, Int.toNat_natCast]
  have HTOT := Lib.hid (fun W (h : Lt W0 W) => RTot.out W h k hP hO hk)
  have hTR0 : ¬ ((0 ≤ item ∧ item < p.items.length) ∧ (nth p.items item.toNat).kind = 2) → TimeR p cards k item = (0, 2) := fun h => if_neg fun g => h g.2.2
  generalize totalP p cards k = TT at *
  have hTR := hTR0 fun h => by omega
  have hib : decide (item < 0) = true := decide_eq_true hi0
  clear hP hO hTR0 hi0 hsP hshP
  go_enter Tryz.func4, Tryz.ntmps4
  go_upto_region 1 with fail
  rw [HW0.out]
  go_wp2_with fail
  refine (Calls.later (w := W0) (R := fun e => e = _) (⟨W0, Lt.refl W0⟩ : Later W0) (HS.out _ (⟨W0, Lt.refl W0⟩ : Later W0).lt)).mono ?_
  rw [hs]
  rintro e w' ⟨rfl, q1, rfl⟩
  go_wp2_with fail
  refine (Calls.later (w := W0) (R := fun e => e = _) q1 (HSH.out _ q1.lt)).mono ?_
  rw [hsh]
  rintro e w' ⟨rfl, q2, rfl⟩
  go_wp2_with fail
  refine (Calls.later (w := W0) (R := fun e => e = _) q2 (CT.out _ q2.lt)).mono ?_
  rw [hTR]
  rintro e w' ⟨rfl, q3, rfl⟩
  go_wp2_with fail
  refine (Calls.later (w := W0) (R := fun e => e = _) q3 (CTot.out _ q3.lt)).mono ?_
  rw [hTT]
  rintro e w' ⟨rfl, q4, rfl⟩
  go_wp2_with fail
  refine (Calls.later (w := W0) (R := fun e => e = _) q4 (RP.out _ q4.lt)).mono ?_
  rw [hb]
  rintro e w' ⟨rfl, q5, rfl⟩
  go_wp2_with fail
  refine (Calls.later (w := W0) (R := fun e => e = _) q5 (RCs.out _ q5.lt HPO.out)).mono ?_
  rw [hb2]
  rintro e w' ⟨rfl, q6, rfl⟩
  go_wp2_with fail
  refine (Calls.later (w := W0) (R := fun e => e = _) q6 (HTOT.out _ q6.lt)).mono ?_
  rintro e w' ⟨rfl, q7, rfl⟩
  go_wp2_with fail
  refine (Calls.later (w := W0) (R := fun e => e = _) q7 (c_known _)).mono ?_
  rintro e w' ⟨rfl, qk, rfl⟩
  go_wp2_with fail
  go_ret
  exact ⟨rfl, ⟨_, qk.to HL0.out⟩, rfl⟩

set_option maxHeartbeats 4000000 in
set_option maxRecDepth 100000 in
theorem lT_item1 (m : PlanM) (p : Plan) (A : Option Addr) (c : Nat) (cards : List Card) (car : Int) (item : Int) (w : World) (hp : PlanIs w m p) (wf : PlanWf p) (hc : Cards w A c cards) (hsP : smallP p) (hshP : shortP cards 10) (hP : PlanOK p) (hO : cardsOK p cards) (hc0 : 0 ≤ car) (hc1 : car < cards.length) (hi0 : ¬ item < 0) (hi1 : (p.items.length : Int) ≤ item) :
    Calls Tryz.prog 4 #[planV m p, .slice A cards.length c, .int .i64 car, .int .i64 item] w fun e w' => e = .returned (.bool true) ∧ ∃ q : Later w, w' = q.world := by
  obtain ⟨W0, hW0, hB⟩ := boxed1 w m p
  have hcm := hc.2.1
  have him := hp.items.2.1
  have HL0 := Lib.hid hB.lt
  have hbw := hB.sz
  have HC := Lib.hid (hc.later hB.lt)
  have HIt := Lib.hid (hp.items.later hB.lt)
  have p0 := hB.plan.c0
  have p1 := hB.plan.c1
  have p2 := hB.plan.c2
  have p3 := hB.plan.c3
  have p4 := hB.plan.c4
  have p5 := hB.plan.c5
  have p6 := hB.plan.c6
  have p7 := hB.plan.c7
  have p8 := hB.plan.c8
  have p9 := hB.plan.c9
  have p10 := hB.plan.c10
  have p11 := hB.plan.c11
  have p12 := hB.plan.c12
  have p13 := hB.plan.c13
  have hHS := fun (W : World) (h : Lt W0 W) => c_small m p W (hp.later (hB.lt.trans h))
  have hHSH := fun (W : World) (h : Lt W0 W) => c_short A c cards 10 W (hc.later (hB.lt.trans h))
  have hCT := fun (W : World) (h : Lt W0 W) => c_Time m p A c cards car item W (hp.later (hB.lt.trans h)) wf (hc.later (hB.lt.trans h))
  have hCTot := fun (W : World) (h : Lt W0 W) => c_Total m p A c cards car W (hp.later (hB.lt.trans h)) wf (hc.later (hB.lt.trans h))
  have hRP := fun (W : World) (h : Lt W0 W) => r_Plan m p W (hp.later (hB.lt.trans h)) wf
  have hRCs := fun (W : World) (h : Lt W0 W) => fun (hP : PlanOK p) => r_Cards m p A c cards W (hp.later (hB.lt.trans h)) (hc.later (hB.lt.trans h)) hP
  have hRTot := fun (W : World) (h : Lt W0 W) => fun (k : Nat) (hP : PlanOK p) (hO : cardsOK p cards) (hk : k < cards.length) => r_Total m p A c cards k W (hp.later (hB.lt.trans h)) (hc.later (hB.lt.trans h)) hP hO hk
  have hRTm := fun (W : World) (h : Lt W0 W) => fun (k i : Nat) (hP : PlanOK p) (hO : cardsOK p cards) (hk : k < cards.length) (hi : i < p.items.length) => r_Time m p A c cards k i W (hp.later (hB.lt.trans h)) (hc.later (hB.lt.trans h)) hP hO hi hk
  have hRIn := fun (W : World) (h : Lt W0 W) => fun (cm : CardM) (k i : Nat) (hx : CardIs W cm (nth cards k)) (hP : PlanOK p) (hO : cardsOK p cards) (hk : k < cards.length) => r_In m p cm (nth cards k) i W (hp.later (hB.lt.trans h)) hx hP (hO.2 k hk)
  obtain ⟨iA, ic, jA, jc, pA, pc, eA, ec⟩ := m
  simp only [planV, planC, cardV, cardC] at hW0 hHS hHSH hCT hCTot hRP hRCs hRTot hRTm hRIn ⊢
  have HW0 := Lib.hid hW0
  have HS := Lib.hid hHS
  have HSH := Lib.hid hHSH
  have CT := Lib.hid hCT
  have CTot := Lib.hid hCTot
  have RP := Lib.hid hRP
  have RCs := Lib.hid hRCs
  have RTot := Lib.hid hRTot
  have RTm := Lib.hid hRTm
  have RIn := Lib.hid hRIn
  clear hW0 hB hp hc hHS hHSH hCT hCTot hRP hRCs hRTot hRTm hRIn
  have hs : smallB p = true := smallB_iff.2 hsP
  have hsh : shortB cards 10 = true := shortB_yes hshP
  have hb : prb (PlanOK p) = true := prb_yes hP
  have HPO := Lib.hid hP
  have hb2 : prb (cardsOK p cards) = true := prb_yes hO
  obtain ⟨k, rfl⟩ := Int.eq_ofNat_of_zero_le hc0
  have hk : k < cards.length := by omega
  have hcb : decide ((k : Int) < 0) = false := by rw [decide_eq_false_iff_not]; omega
  have hcb2 : decide ((cards.length : Int) ≤ (k : Int)) = false := by rw [decide_eq_false_iff_not]; omega
  have hcb3 : decide (cards.length ≤ k) = false := by rw [decide_eq_false_iff_not]; omega
  have hTT : TotalR p cards k = (totalP p cards k, 0) := by unfold TotalR; rw [if_pos ⟨⟨hP, hO⟩, hc0, hc1⟩, Int.toNat_natCast]
  have HTOT := Lib.hid (fun W (h : Lt W0 W) => RTot.out W h k hP hO hk)
  have hTR0 : ¬ ((0 ≤ item ∧ item < p.items.length) ∧ (nth p.items item.toNat).kind = 2) → TimeR p cards k item = (0, 2) := fun h => if_neg fun g => h g.2.2
  generalize totalP p cards k = TT at *
  have hTR := hTR0 fun h => by omega
  have hib : decide (item < 0) = false := decide_eq_false hi0
  have hib2 : decide ((p.items.length : Int) ≤ item) = true := decide_eq_true hi1
  clear hP hO hTR0 hsP hshP
  go_enter Tryz.func4, Tryz.ntmps4
  go_upto_region 1 with fail
  rw [HW0.out]
  go_wp2_with fail
  refine (Calls.later (w := W0) (R := fun e => e = _) (⟨W0, Lt.refl W0⟩ : Later W0) (HS.out _ (⟨W0, Lt.refl W0⟩ : Later W0).lt)).mono ?_
  rw [hs]
  rintro e w' ⟨rfl, q1, rfl⟩
  go_wp2_with fail
  refine (Calls.later (w := W0) (R := fun e => e = _) q1 (HSH.out _ q1.lt)).mono ?_
  rw [hsh]
  rintro e w' ⟨rfl, q2, rfl⟩
  go_wp2_with fail
  refine (Calls.later (w := W0) (R := fun e => e = _) q2 (CT.out _ q2.lt)).mono ?_
  rw [hTR]
  rintro e w' ⟨rfl, q3, rfl⟩
  go_wp2_with fail
  refine (Calls.later (w := W0) (R := fun e => e = _) q3 (CTot.out _ q3.lt)).mono ?_
  rw [hTT]
  rintro e w' ⟨rfl, q4, rfl⟩
  go_wp2_with fail
  refine (Calls.later (w := W0) (R := fun e => e = _) q4 (RP.out _ q4.lt)).mono ?_
  rw [hb]
  rintro e w' ⟨rfl, q5, rfl⟩
  go_wp2_with fail
  refine (Calls.later (w := W0) (R := fun e => e = _) q5 (RCs.out _ q5.lt HPO.out)).mono ?_
  rw [hb2]
  rintro e w' ⟨rfl, q6, rfl⟩
  go_wp2_with fail
  refine (Calls.later (w := W0) (R := fun e => e = _) q6 (HTOT.out _ q6.lt)).mono ?_
  rintro e w' ⟨rfl, q7, rfl⟩
  go_wp2_with fail
  refine (Calls.later (w := W0) (R := fun e => e = _) q7 (c_known _)).mono ?_
  rintro e w' ⟨rfl, qk, rfl⟩
  go_wp2_with fail
  go_ret
  exact ⟨rfl, ⟨_, qk.to HL0.out⟩, rfl⟩

set_option maxHeartbeats 4000000 in
set_option maxRecDepth 100000 in
theorem lT_control (m : PlanM) (p : Plan) (A : Option Addr) (c : Nat) (cards : List Card) (car : Int) (item : Int) (w : World) (hp : PlanIs w m p) (wf : PlanWf p) (hc : Cards w A c cards) (hsP : smallP p) (hshP : shortP cards 10) (hP : PlanOK p) (hO : cardsOK p cards) (hc0 : 0 ≤ car) (hc1 : car < cards.length) (i : Nat) (hii : item = (i : Int)) (hi : i < p.items.length) (hkd : (nth p.items i).kind ≠ 2) :
    Calls Tryz.prog 4 #[planV m p, .slice A cards.length c, .int .i64 car, .int .i64 item] w fun e w' => e = .returned (.bool true) ∧ ∃ q : Later w, w' = q.world := by
  obtain ⟨W0, hW0, hB⟩ := boxed1 w m p
  have hcm := hc.2.1
  have him := hp.items.2.1
  have HL0 := Lib.hid hB.lt
  have hbw := hB.sz
  have HC := Lib.hid (hc.later hB.lt)
  have HIt := Lib.hid (hp.items.later hB.lt)
  have p0 := hB.plan.c0
  have p1 := hB.plan.c1
  have p2 := hB.plan.c2
  have p3 := hB.plan.c3
  have p4 := hB.plan.c4
  have p5 := hB.plan.c5
  have p6 := hB.plan.c6
  have p7 := hB.plan.c7
  have p8 := hB.plan.c8
  have p9 := hB.plan.c9
  have p10 := hB.plan.c10
  have p11 := hB.plan.c11
  have p12 := hB.plan.c12
  have p13 := hB.plan.c13
  have hHS := fun (W : World) (h : Lt W0 W) => c_small m p W (hp.later (hB.lt.trans h))
  have hHSH := fun (W : World) (h : Lt W0 W) => c_short A c cards 10 W (hc.later (hB.lt.trans h))
  have hCT := fun (W : World) (h : Lt W0 W) => c_Time m p A c cards car item W (hp.later (hB.lt.trans h)) wf (hc.later (hB.lt.trans h))
  have hCTot := fun (W : World) (h : Lt W0 W) => c_Total m p A c cards car W (hp.later (hB.lt.trans h)) wf (hc.later (hB.lt.trans h))
  have hRP := fun (W : World) (h : Lt W0 W) => r_Plan m p W (hp.later (hB.lt.trans h)) wf
  have hRCs := fun (W : World) (h : Lt W0 W) => fun (hP : PlanOK p) => r_Cards m p A c cards W (hp.later (hB.lt.trans h)) (hc.later (hB.lt.trans h)) hP
  have hRTot := fun (W : World) (h : Lt W0 W) => fun (k : Nat) (hP : PlanOK p) (hO : cardsOK p cards) (hk : k < cards.length) => r_Total m p A c cards k W (hp.later (hB.lt.trans h)) (hc.later (hB.lt.trans h)) hP hO hk
  have hRTm := fun (W : World) (h : Lt W0 W) => fun (k i : Nat) (hP : PlanOK p) (hO : cardsOK p cards) (hk : k < cards.length) (hi : i < p.items.length) => r_Time m p A c cards k i W (hp.later (hB.lt.trans h)) (hc.later (hB.lt.trans h)) hP hO hi hk
  have hRIn := fun (W : World) (h : Lt W0 W) => fun (cm : CardM) (k i : Nat) (hx : CardIs W cm (nth cards k)) (hP : PlanOK p) (hO : cardsOK p cards) (hk : k < cards.length) => r_In m p cm (nth cards k) i W (hp.later (hB.lt.trans h)) hx hP (hO.2 k hk)
  obtain ⟨iA, ic, jA, jc, pA, pc, eA, ec⟩ := m
  simp only [planV, planC, cardV, cardC] at hW0 hHS hHSH hCT hCTot hRP hRCs hRTot hRTm hRIn ⊢
  have HW0 := Lib.hid hW0
  have HS := Lib.hid hHS
  have HSH := Lib.hid hHSH
  have CT := Lib.hid hCT
  have CTot := Lib.hid hCTot
  have RP := Lib.hid hRP
  have RCs := Lib.hid hRCs
  have RTot := Lib.hid hRTot
  have RTm := Lib.hid hRTm
  have RIn := Lib.hid hRIn
  clear hW0 hB hp hc hHS hHSH hCT hCTot hRP hRCs hRTot hRTm hRIn
  have hs : smallB p = true := smallB_iff.2 hsP
  have hsh : shortB cards 10 = true := shortB_yes hshP
  have hb : prb (PlanOK p) = true := prb_yes hP
  have HPO := Lib.hid hP
  have hb2 : prb (cardsOK p cards) = true := prb_yes hO
  obtain ⟨k, rfl⟩ := Int.eq_ofNat_of_zero_le hc0
  have hk : k < cards.length := by omega
  have hcb : decide ((k : Int) < 0) = false := by rw [decide_eq_false_iff_not]; omega
  have hcb2 : decide ((cards.length : Int) ≤ (k : Int)) = false := by rw [decide_eq_false_iff_not]; omega
  have hcb3 : decide (cards.length ≤ k) = false := by rw [decide_eq_false_iff_not]; omega
  have hTT : TotalR p cards k = (totalP p cards k, 0) := by unfold TotalR; rw [if_pos ⟨⟨hP, hO⟩, hc0, hc1⟩, Int.toNat_natCast]
  have HTOT := Lib.hid (fun W (h : Lt W0 W) => RTot.out W h k hP hO hk)
  have hTR0 : ¬ ((0 ≤ item ∧ item < p.items.length) ∧ (nth p.items item.toNat).kind = 2) → TimeR p cards k item = (0, 2) := fun h => if_neg fun g => h g.2.2
  generalize totalP p cards k = TT at *
  subst hii
  have hib : decide ((i : Int) < 0) = false := by rw [decide_eq_false_iff_not]; omega
  have hib2 : decide ((p.items.length : Int) ≤ (i : Int)) = false := by rw [decide_eq_false_iff_not]; omega
  have hib3 : decide (p.items.length ≤ i) = false := by rw [decide_eq_false_iff_not]; omega
  obtain ⟨ib, io, rfl, hibl, i0, i1, i2, i3⟩ := HIt.out.at_ i hi
  rw [Int.toNat_natCast] at hTR0
  obtain ⟨b, o, rfl, hbl, cm, hcm2, x0, x1, x2⟩ := HC.out.at_ k hk
  have HCM := Lib.hid hcm2
  clear hcm2
  have hTR := hTR0 fun h => hkd h.2
  have hkb : ((nth p.items i).kind != 2) = true := by rw [bne_iff_ne]; exact hkd
  clear hP hO hTR0 hkd hsP hshP
  go_enter Tryz.func4, Tryz.ntmps4
  go_upto_region 1 with fail
  rw [HW0.out]
  go_wp2_with fail
  refine (Calls.later (w := W0) (R := fun e => e = _) (⟨W0, Lt.refl W0⟩ : Later W0) (HS.out _ (⟨W0, Lt.refl W0⟩ : Later W0).lt)).mono ?_
  rw [hs]
  rintro e w' ⟨rfl, q1, rfl⟩
  go_wp2_with fail
  refine (Calls.later (w := W0) (R := fun e => e = _) q1 (HSH.out _ q1.lt)).mono ?_
  rw [hsh]
  rintro e w' ⟨rfl, q2, rfl⟩
  go_wp2_with fail
  refine (Calls.later (w := W0) (R := fun e => e = _) q2 (CT.out _ q2.lt)).mono ?_
  rw [hTR]
  rintro e w' ⟨rfl, q3, rfl⟩
  go_wp2_with fail
  refine (Calls.later (w := W0) (R := fun e => e = _) q3 (CTot.out _ q3.lt)).mono ?_
  rw [hTT]
  rintro e w' ⟨rfl, q4, rfl⟩
  go_wp2_with fail
  refine (Calls.later (w := W0) (R := fun e => e = _) q4 (RP.out _ q4.lt)).mono ?_
  rw [hb]
  rintro e w' ⟨rfl, q5, rfl⟩
  go_wp2_with fail
  refine (Calls.later (w := W0) (R := fun e => e = _) q5 (RCs.out _ q5.lt HPO.out)).mono ?_
  rw [hb2]
  rintro e w' ⟨rfl, q6, rfl⟩
  go_wp2_with fail
  refine (Calls.later (w := W0) (R := fun e => e = _) q6 (HTOT.out _ q6.lt)).mono ?_
  rintro e w' ⟨rfl, q7, rfl⟩
  go_wp2_with fail
  refine (Calls.later (w := W0) (R := fun e => e = _) q7 (c_known _)).mono ?_
  rintro e w' ⟨rfl, qk, rfl⟩
  go_wp2_with fail
  go_ret
  exact ⟨rfl, ⟨_, qk.to HL0.out⟩, rfl⟩

set_option maxHeartbeats 4000000 in
set_option maxRecDepth 100000 in
theorem lT_out (m : PlanM) (p : Plan) (A : Option Addr) (c : Nat) (cards : List Card) (car : Int) (item : Int) (w : World) (hp : PlanIs w m p) (wf : PlanWf p) (hc : Cards w A c cards) (hsP : smallP p) (hshP : shortP cards 10) (hP : PlanOK p) (hO : cardsOK p cards) (hc0 : 0 ≤ car) (hc1 : car < cards.length) (i : Nat) (hii : item = (i : Int)) (hi : i < p.items.length) (hkd : (nth p.items i).kind = 2) (hr : ∀ k : Nat, car = k → runsP p (nth cards k) i = false) :
    Calls Tryz.prog 4 #[planV m p, .slice A cards.length c, .int .i64 car, .int .i64 item] w fun e w' => e = .returned (.bool true) ∧ ∃ q : Later w, w' = q.world := by
  obtain ⟨W0, hW0, hB⟩ := boxed1 w m p
  have hcm := hc.2.1
  have him := hp.items.2.1
  have HL0 := Lib.hid hB.lt
  have hbw := hB.sz
  have HC := Lib.hid (hc.later hB.lt)
  have HIt := Lib.hid (hp.items.later hB.lt)
  have p0 := hB.plan.c0
  have p1 := hB.plan.c1
  have p2 := hB.plan.c2
  have p3 := hB.plan.c3
  have p4 := hB.plan.c4
  have p5 := hB.plan.c5
  have p6 := hB.plan.c6
  have p7 := hB.plan.c7
  have p8 := hB.plan.c8
  have p9 := hB.plan.c9
  have p10 := hB.plan.c10
  have p11 := hB.plan.c11
  have p12 := hB.plan.c12
  have p13 := hB.plan.c13
  have hHS := fun (W : World) (h : Lt W0 W) => c_small m p W (hp.later (hB.lt.trans h))
  have hHSH := fun (W : World) (h : Lt W0 W) => c_short A c cards 10 W (hc.later (hB.lt.trans h))
  have hCT := fun (W : World) (h : Lt W0 W) => c_Time m p A c cards car item W (hp.later (hB.lt.trans h)) wf (hc.later (hB.lt.trans h))
  have hCTot := fun (W : World) (h : Lt W0 W) => c_Total m p A c cards car W (hp.later (hB.lt.trans h)) wf (hc.later (hB.lt.trans h))
  have hRP := fun (W : World) (h : Lt W0 W) => r_Plan m p W (hp.later (hB.lt.trans h)) wf
  have hRCs := fun (W : World) (h : Lt W0 W) => fun (hP : PlanOK p) => r_Cards m p A c cards W (hp.later (hB.lt.trans h)) (hc.later (hB.lt.trans h)) hP
  have hRTot := fun (W : World) (h : Lt W0 W) => fun (k : Nat) (hP : PlanOK p) (hO : cardsOK p cards) (hk : k < cards.length) => r_Total m p A c cards k W (hp.later (hB.lt.trans h)) (hc.later (hB.lt.trans h)) hP hO hk
  have hRTm := fun (W : World) (h : Lt W0 W) => fun (k i : Nat) (hP : PlanOK p) (hO : cardsOK p cards) (hk : k < cards.length) (hi : i < p.items.length) => r_Time m p A c cards k i W (hp.later (hB.lt.trans h)) (hc.later (hB.lt.trans h)) hP hO hi hk
  have hRIn := fun (W : World) (h : Lt W0 W) => fun (cm : CardM) (k i : Nat) (hx : CardIs W cm (nth cards k)) (hP : PlanOK p) (hO : cardsOK p cards) (hk : k < cards.length) => r_In m p cm (nth cards k) i W (hp.later (hB.lt.trans h)) hx hP (hO.2 k hk)
  obtain ⟨iA, ic, jA, jc, pA, pc, eA, ec⟩ := m
  simp only [planV, planC, cardV, cardC] at hW0 hHS hHSH hCT hCTot hRP hRCs hRTot hRTm hRIn ⊢
  have HW0 := Lib.hid hW0
  have HS := Lib.hid hHS
  have HSH := Lib.hid hHSH
  have CT := Lib.hid hCT
  have CTot := Lib.hid hCTot
  have RP := Lib.hid hRP
  have RCs := Lib.hid hRCs
  have RTot := Lib.hid hRTot
  have RTm := Lib.hid hRTm
  have RIn := Lib.hid hRIn
  clear hW0 hB hp hc hHS hHSH hCT hCTot hRP hRCs hRTot hRTm hRIn
  have hs : smallB p = true := smallB_iff.2 hsP
  have hsh : shortB cards 10 = true := shortB_yes hshP
  have hb : prb (PlanOK p) = true := prb_yes hP
  have HPO := Lib.hid hP
  have hb2 : prb (cardsOK p cards) = true := prb_yes hO
  obtain ⟨k, rfl⟩ := Int.eq_ofNat_of_zero_le hc0
  have hk : k < cards.length := by omega
  have hcb : decide ((k : Int) < 0) = false := by rw [decide_eq_false_iff_not]; omega
  have hcb2 : decide ((cards.length : Int) ≤ (k : Int)) = false := by rw [decide_eq_false_iff_not]; omega
  have hcb3 : decide (cards.length ≤ k) = false := by rw [decide_eq_false_iff_not]; omega
  have hTT : TotalR p cards k = (totalP p cards k, 0) := by unfold TotalR; rw [if_pos ⟨⟨hP, hO⟩, hc0, hc1⟩, Int.toNat_natCast]
  have HTOT := Lib.hid (fun W (h : Lt W0 W) => RTot.out W h k hP hO hk)
  have hTR0 : ¬ ((0 ≤ item ∧ item < p.items.length) ∧ (nth p.items item.toNat).kind = 2) → TimeR p cards k item = (0, 2) := fun h => if_neg fun g => h g.2.2
  generalize totalP p cards k = TT at *
  subst hii
  have hib : decide ((i : Int) < 0) = false := by rw [decide_eq_false_iff_not]; omega
  have hib2 : decide ((p.items.length : Int) ≤ (i : Int)) = false := by rw [decide_eq_false_iff_not]; omega
  have hib3 : decide (p.items.length ≤ i) = false := by rw [decide_eq_false_iff_not]; omega
  obtain ⟨ib, io, rfl, hibl, i0, i1, i2, i3⟩ := HIt.out.at_ i hi
  rw [Int.toNat_natCast] at hTR0
  obtain ⟨b, o, rfl, hbl, cm, hcm2, x0, x1, x2⟩ := HC.out.at_ k hk
  have HCM := Lib.hid hcm2
  clear hcm2
  have hkb : ((nth p.items i).kind != 2) = false := by rw [bne_eq_false_iff_eq]; exact hkd
  have HIN := Lib.hid (fun W (h : Lt W0 W) => RIn.out W h cm k i (HCM.out.later h) hP hO hk)
  have HTM := Lib.hid (fun W (h : Lt W0 W) => RTm.out W h k i hP hO hk hi)
  have hTR1 : TimeR p cards k i = if runsP p (nth cards k) i = true then (timeP p cards k i, 0) else (0, 5) := by
    unfold TimeR
    rw [if_pos ⟨⟨hP, hO⟩, ⟨hc0, hc1⟩, ⟨by omega, by omega⟩, by rw [Int.toNat_natCast]; exact hkd⟩, Int.toNat_natCast, Int.toNat_natCast]
  generalize timeP p cards k i = TI at *
  have hrf := hr k rfl
  have hTR := hTR1.trans (if_neg (by rw [hrf]; decide))
  clear hP hO hTR0 hTR1 hkd hr hsP hshP
  go_enter Tryz.func4, Tryz.ntmps4
  go_upto_region 1 with fail
  rw [HW0.out]
  go_wp2_with fail
  refine (Calls.later (w := W0) (R := fun e => e = _) (⟨W0, Lt.refl W0⟩ : Later W0) (HS.out _ (⟨W0, Lt.refl W0⟩ : Later W0).lt)).mono ?_
  rw [hs]
  rintro e w' ⟨rfl, q1, rfl⟩
  go_wp2_with fail
  refine (Calls.later (w := W0) (R := fun e => e = _) q1 (HSH.out _ q1.lt)).mono ?_
  rw [hsh]
  rintro e w' ⟨rfl, q2, rfl⟩
  go_wp2_with fail
  refine (Calls.later (w := W0) (R := fun e => e = _) q2 (CT.out _ q2.lt)).mono ?_
  rw [hTR]
  rintro e w' ⟨rfl, q3, rfl⟩
  go_wp2_with fail
  refine (Calls.later (w := W0) (R := fun e => e = _) q3 (CTot.out _ q3.lt)).mono ?_
  rw [hTT]
  rintro e w' ⟨rfl, q4, rfl⟩
  go_wp2_with fail
  refine (Calls.later (w := W0) (R := fun e => e = _) q4 (RP.out _ q4.lt)).mono ?_
  rw [hb]
  rintro e w' ⟨rfl, q5, rfl⟩
  go_wp2_with fail
  refine (Calls.later (w := W0) (R := fun e => e = _) q5 (RCs.out _ q5.lt HPO.out)).mono ?_
  rw [hb2]
  rintro e w' ⟨rfl, q6, rfl⟩
  go_wp2_with fail
  refine (Calls.later (w := W0) (R := fun e => e = _) q6 (HTOT.out _ q6.lt)).mono ?_
  rintro e w' ⟨rfl, q7, rfl⟩
  go_wp2_with fail
  refine wp_region_laterB q7 follows_ (by kernel_rfl) ?_
  repeat (go_big_quiet_step ((go_at_call 26; exact Calls.quiet_later (HIN.out _ (Later.lt _)))))
  refine wpQuiet_nil ?_
  rintro _ ⟨q8, rfl⟩
  go_wp2_with fail
  refine (Calls.later (w := W0) (R := fun e => e = _) q8 (c_known _)).mono ?_
  rintro e w' ⟨rfl, qk, rfl⟩
  go_wp2_with fail
  go_ret
  exact ⟨rfl, ⟨_, qk.to HL0.out⟩, rfl⟩

set_option maxHeartbeats 4000000 in
set_option maxRecDepth 100000 in
theorem lT_runs (m : PlanM) (p : Plan) (A : Option Addr) (c : Nat) (cards : List Card) (car : Int) (item : Int) (w : World) (hp : PlanIs w m p) (wf : PlanWf p) (hc : Cards w A c cards) (hsP : smallP p) (hshP : shortP cards 10) (hP : PlanOK p) (hO : cardsOK p cards) (hc0 : 0 ≤ car) (hc1 : car < cards.length) (i : Nat) (hii : item = (i : Int)) (hi : i < p.items.length) (hkd : (nth p.items i).kind = 2) (hr : ∀ k : Nat, car = k → runsP p (nth cards k) i = true) :
    Calls Tryz.prog 4 #[planV m p, .slice A cards.length c, .int .i64 car, .int .i64 item] w fun e w' => e = .returned (.bool true) ∧ ∃ q : Later w, w' = q.world := by
  obtain ⟨W0, hW0, hB⟩ := boxed1 w m p
  have hcm := hc.2.1
  have him := hp.items.2.1
  have HL0 := Lib.hid hB.lt
  have hbw := hB.sz
  have HC := Lib.hid (hc.later hB.lt)
  have HIt := Lib.hid (hp.items.later hB.lt)
  have p0 := hB.plan.c0
  have p1 := hB.plan.c1
  have p2 := hB.plan.c2
  have p3 := hB.plan.c3
  have p4 := hB.plan.c4
  have p5 := hB.plan.c5
  have p6 := hB.plan.c6
  have p7 := hB.plan.c7
  have p8 := hB.plan.c8
  have p9 := hB.plan.c9
  have p10 := hB.plan.c10
  have p11 := hB.plan.c11
  have p12 := hB.plan.c12
  have p13 := hB.plan.c13
  have hHS := fun (W : World) (h : Lt W0 W) => c_small m p W (hp.later (hB.lt.trans h))
  have hHSH := fun (W : World) (h : Lt W0 W) => c_short A c cards 10 W (hc.later (hB.lt.trans h))
  have hCT := fun (W : World) (h : Lt W0 W) => c_Time m p A c cards car item W (hp.later (hB.lt.trans h)) wf (hc.later (hB.lt.trans h))
  have hCTot := fun (W : World) (h : Lt W0 W) => c_Total m p A c cards car W (hp.later (hB.lt.trans h)) wf (hc.later (hB.lt.trans h))
  have hRP := fun (W : World) (h : Lt W0 W) => r_Plan m p W (hp.later (hB.lt.trans h)) wf
  have hRCs := fun (W : World) (h : Lt W0 W) => fun (hP : PlanOK p) => r_Cards m p A c cards W (hp.later (hB.lt.trans h)) (hc.later (hB.lt.trans h)) hP
  have hRTot := fun (W : World) (h : Lt W0 W) => fun (k : Nat) (hP : PlanOK p) (hO : cardsOK p cards) (hk : k < cards.length) => r_Total m p A c cards k W (hp.later (hB.lt.trans h)) (hc.later (hB.lt.trans h)) hP hO hk
  have hRTm := fun (W : World) (h : Lt W0 W) => fun (k i : Nat) (hP : PlanOK p) (hO : cardsOK p cards) (hk : k < cards.length) (hi : i < p.items.length) => r_Time m p A c cards k i W (hp.later (hB.lt.trans h)) (hc.later (hB.lt.trans h)) hP hO hi hk
  have hRIn := fun (W : World) (h : Lt W0 W) => fun (cm : CardM) (k i : Nat) (hx : CardIs W cm (nth cards k)) (hP : PlanOK p) (hO : cardsOK p cards) (hk : k < cards.length) => r_In m p cm (nth cards k) i W (hp.later (hB.lt.trans h)) hx hP (hO.2 k hk)
  obtain ⟨iA, ic, jA, jc, pA, pc, eA, ec⟩ := m
  simp only [planV, planC, cardV, cardC] at hW0 hHS hHSH hCT hCTot hRP hRCs hRTot hRTm hRIn ⊢
  have HW0 := Lib.hid hW0
  have HS := Lib.hid hHS
  have HSH := Lib.hid hHSH
  have CT := Lib.hid hCT
  have CTot := Lib.hid hCTot
  have RP := Lib.hid hRP
  have RCs := Lib.hid hRCs
  have RTot := Lib.hid hRTot
  have RTm := Lib.hid hRTm
  have RIn := Lib.hid hRIn
  clear hW0 hB hp hc hHS hHSH hCT hCTot hRP hRCs hRTot hRTm hRIn
  have hs : smallB p = true := smallB_iff.2 hsP
  have hsh : shortB cards 10 = true := shortB_yes hshP
  have hb : prb (PlanOK p) = true := prb_yes hP
  have HPO := Lib.hid hP
  have hb2 : prb (cardsOK p cards) = true := prb_yes hO
  obtain ⟨k, rfl⟩ := Int.eq_ofNat_of_zero_le hc0
  have hk : k < cards.length := by omega
  have hcb : decide ((k : Int) < 0) = false := by rw [decide_eq_false_iff_not]; omega
  have hcb2 : decide ((cards.length : Int) ≤ (k : Int)) = false := by rw [decide_eq_false_iff_not]; omega
  have hcb3 : decide (cards.length ≤ k) = false := by rw [decide_eq_false_iff_not]; omega
  have hTT : TotalR p cards k = (totalP p cards k, 0) := by unfold TotalR; rw [if_pos ⟨⟨hP, hO⟩, hc0, hc1⟩, Int.toNat_natCast]
  have HTOT := Lib.hid (fun W (h : Lt W0 W) => RTot.out W h k hP hO hk)
  have hTR0 : ¬ ((0 ≤ item ∧ item < p.items.length) ∧ (nth p.items item.toNat).kind = 2) → TimeR p cards k item = (0, 2) := fun h => if_neg fun g => h g.2.2
  generalize totalP p cards k = TT at *
  subst hii
  have hib : decide ((i : Int) < 0) = false := by rw [decide_eq_false_iff_not]; omega
  have hib2 : decide ((p.items.length : Int) ≤ (i : Int)) = false := by rw [decide_eq_false_iff_not]; omega
  have hib3 : decide (p.items.length ≤ i) = false := by rw [decide_eq_false_iff_not]; omega
  obtain ⟨ib, io, rfl, hibl, i0, i1, i2, i3⟩ := HIt.out.at_ i hi
  rw [Int.toNat_natCast] at hTR0
  obtain ⟨b, o, rfl, hbl, cm, hcm2, x0, x1, x2⟩ := HC.out.at_ k hk
  have HCM := Lib.hid hcm2
  clear hcm2
  have hkb : ((nth p.items i).kind != 2) = false := by rw [bne_eq_false_iff_eq]; exact hkd
  have HIN := Lib.hid (fun W (h : Lt W0 W) => RIn.out W h cm k i (HCM.out.later h) hP hO hk)
  have HTM := Lib.hid (fun W (h : Lt W0 W) => RTm.out W h k i hP hO hk hi)
  have hTR1 : TimeR p cards k i = if runsP p (nth cards k) i = true then (timeP p cards k i, 0) else (0, 5) := by
    unfold TimeR
    rw [if_pos ⟨⟨hP, hO⟩, ⟨hc0, hc1⟩, ⟨by omega, by omega⟩, by rw [Int.toNat_natCast]; exact hkd⟩, Int.toNat_natCast, Int.toNat_natCast]
  generalize timeP p cards k i = TI at *
  have hrt := hr k rfl
  have hTR := hTR1.trans (if_pos hrt)
  clear hP hO hTR0 hTR1 hkd hr hsP hshP
  go_enter Tryz.func4, Tryz.ntmps4
  go_upto_region 1 with fail
  rw [HW0.out]
  go_wp2_with fail
  refine (Calls.later (w := W0) (R := fun e => e = _) (⟨W0, Lt.refl W0⟩ : Later W0) (HS.out _ (⟨W0, Lt.refl W0⟩ : Later W0).lt)).mono ?_
  rw [hs]
  rintro e w' ⟨rfl, q1, rfl⟩
  go_wp2_with fail
  refine (Calls.later (w := W0) (R := fun e => e = _) q1 (HSH.out _ q1.lt)).mono ?_
  rw [hsh]
  rintro e w' ⟨rfl, q2, rfl⟩
  go_wp2_with fail
  refine (Calls.later (w := W0) (R := fun e => e = _) q2 (CT.out _ q2.lt)).mono ?_
  rw [hTR]
  rintro e w' ⟨rfl, q3, rfl⟩
  go_wp2_with fail
  refine (Calls.later (w := W0) (R := fun e => e = _) q3 (CTot.out _ q3.lt)).mono ?_
  rw [hTT]
  rintro e w' ⟨rfl, q4, rfl⟩
  go_wp2_with fail
  refine (Calls.later (w := W0) (R := fun e => e = _) q4 (RP.out _ q4.lt)).mono ?_
  rw [hb]
  rintro e w' ⟨rfl, q5, rfl⟩
  go_wp2_with fail
  refine (Calls.later (w := W0) (R := fun e => e = _) q5 (RCs.out _ q5.lt HPO.out)).mono ?_
  rw [hb2]
  rintro e w' ⟨rfl, q6, rfl⟩
  go_wp2_with fail
  refine (Calls.later (w := W0) (R := fun e => e = _) q6 (HTOT.out _ q6.lt)).mono ?_
  rintro e w' ⟨rfl, q7, rfl⟩
  go_wp2_with fail
  refine wp_region_laterB q7 follows_ (by kernel_rfl) ?_
  repeat (go_big_quiet_step ((go_at_call 26; exact Calls.quiet_later (HIN.out _ (Later.lt _)))))
  refine wpQuiet_nil ?_
  rintro _ ⟨q8, rfl⟩
  go_wp2_with fail
  refine (Calls.later (w := W0) (R := fun e => e = _) q8 (HTM.out _ q8.lt)).mono ?_
  rintro e w' ⟨rfl, q9, rfl⟩
  go_wp2_with fail
  refine (Calls.later (w := W0) (R := fun e => e = _) q9 (c_known _)).mono ?_
  rintro e w' ⟨rfl, qk, rfl⟩
  go_wp2_with fail
  go_ret
  exact ⟨rfl, ⟨_, qk.to HL0.out⟩, rfl⟩

theorem l_ScoreTimes (m : PlanM) (p : Plan) (A : Option Addr) (c : Nat) (cards : List Card) (car item : Int) (w : World) (hp : PlanIs w m p) (wf : PlanWf p) (hc : Cards w A c cards) :
    Calls Tryz.prog 4 #[planV m p, .slice A cards.length c, .int .i64 car, .int .i64 item] w fun e w' => e = .returned (.bool true) ∧ ∃ q : Later w, w' = q.world := by
  by_cases hsP : smallP p
  rotate_left
  · exact lT_large m p A c cards car item w hp wf hc hsP
  by_cases hshP : shortP cards 10
  rotate_left
  · exact lT_long m p A c cards car item w hp wf hc hsP hshP
  by_cases hP : PlanOK p
  rotate_left
  · exact lT_noPlan m p A c cards car item w hp wf hc hsP hshP (fun h => hP h.1.1) hP
  by_cases hO : cardsOK p cards
  rotate_left
  · exact lT_noCards m p A c cards car item w hp wf hc hsP hshP (fun h => hO h.1.2) hP hO
  by_cases hc0 : car < 0
  · exact lT_neg m p A c cards car item w hp wf hc hsP hshP (fun h => by omega) hP hO hc0
  by_cases hc1 : (cards.length : Int) ≤ car
  · exact lT_big m p A c cards car item w hp wf hc hsP hshP (fun h => by omega) hP hO hc0 hc1
  by_cases hi0 : item < 0
  · exact lT_item0 m p A c cards car item w hp wf hc hsP hshP hP hO (by omega) (by omega) hi0
  by_cases hi1 : (p.items.length : Int) ≤ item
  · exact lT_item1 m p A c cards car item w hp wf hc hsP hshP hP hO (by omega) (by omega) hi0 hi1
  obtain ⟨i, hii⟩ := Int.eq_ofNat_of_zero_le (show 0 ≤ item by omega)
  have hi : i < p.items.length := by omega
  by_cases hkd : (nth p.items i).kind = 2
  rotate_left
  · exact lT_control m p A c cards car item w hp wf hc hsP hshP hP hO (by omega) (by omega) i hii hi hkd
  cases hr : runsP p (nth cards car.toNat) i with
  | false => exact lT_out m p A c cards car item w hp wf hc hsP hshP hP hO (by omega) (by omega) i hii hi hkd (fun k hk => by rw [hk, Int.toNat_natCast] at hr; exact hr)
  | true => exact lT_runs m p A c cards car item w hp wf hc hsP hshP hP hO (by omega) (by omega) i hii hi hkd (fun k hk => by rw [hk, Int.toNat_natCast] at hr; exact hr)
end Go.Proofs.YtdpcdmcmpfjbjaaGreat
namespace Go.Proofs.YtdpcdmcmpfjbjaaGreat.scoreTimes
open Go.ChangeShapes Go.WideShapes Go.ChangeAt Go.RowKit
set_option linter.unusedVariables false
theorem own : ownKnob Tryz.prog.godebug = none := by kernel_rfl
theorem laidOut : laidOutB Tryz.prog = true := by kernel_rfl
set_option maxRecDepth 100000 in
theorem lifted (os : Os) (started : os.Started) (H : Type) (enc : TypeId × Value → H) :
    ReturnsInHanded {} Tryz.checked os 4 .any (Rows.scoreTimesSpec.pre6 enc Tryz.prog Tryz.f4 Rows.scoreTimesRow.domain false) (Rows.scoreTimesSpec.post enc Tryz.prog Tryz.f4 false true false false) := by
  refine returnsInHanded_of_change_sized (C := Tryz.checked) own started (by kernel_rfl) Tryz.func4
    (ChangeSpec.witness6 (enc := enc) (C := Tryz.checked) false ⟨#[], #[.agg #[.slice none 0 0, .int .i64 0, .int .i64 0, .int .i64 0, .int .i64 0, .int .i64 0, .slice none 0 0, .bool false, .int .i64 0, .int .i64 0, .int .i64 0, .int .i64 0, .slice none 0 0, .slice none 0 0], .slice none 0 0, .int .i64 0, .int .i64 0], []⟩ 8 (by kernel_rfl) (by kernel_rfl) (by kernel_rfl) (by kernel_rfl)) ?_
  intro W base args ds gs before hval0 hW hcnd hsz0 _
  have hval : ∀ (j : Nat) t v, Tryz.f4.params[j]? = some t → args[j]? = some v → Value.okWide Tryz.prog W .any base t v := hval0
  have hW' := hW
  obtain ⟨p, q, hA0, hV, rfl, hfz, hnd⟩ := hW
  have hA : DataW.TrodAll enc Tryz.prog W 0 (fun _ => true) true Tryz.f4.params.toList args.toList ds p := hA0
  rw [Tryz.params4] at hA hval
  obtain ⟨v0, vs0, d0, ds0, p0, q0, hargs, rfl, rfl, h0, r0⟩ := trodAll_cons hA
  obtain ⟨v1, vs1, d1, ds1, p1, q1, rfl, rfl, rfl, h1, r1⟩ := trodAll_cons r0
  obtain ⟨v2, vs2, d2, ds2, p2, q2, rfl, rfl, rfl, h2, r2⟩ := trodAll_cons r1
  obtain ⟨v3, vs3, d3, ds3, p3, q3, rfl, rfl, rfl, h3, r3⟩ := trodAll_cons r2
  obtain ⟨rfl, rfl, rfl⟩ := trodAll_nil r3
  obtain rfl : args = #[v0, v1, v2, v3] := by cases args; simp_all
  obtain ⟨rfl, rfl⟩ := trodVars_none hV
  have lt0 : ∀ x ∈ p0, x.block < W.heap.size := by obtain ⟨m, hm⟩ := h0; exact DataW.trod_lt m _ _ _ hm
  have k0 := h0
  obtain ⟨cs0, rfl, hc0⟩ := okWide_struct Tryz.underlying28 (hval 0 28 v0 rfl rfl)
  obtain ⟨f0, t0⟩ := h0
  obtain ⟨m0, x0, e0, hx0, wf0⟩ := rd_plan (enc := enc) (W := W) (cs := cs0.toList) ⟨f0, _, t0⟩
  obtain rfl := Array.ext' e0
  have lt1 : ∀ x ∈ p1, x.block < W.heap.size := by obtain ⟨m, hm⟩ := h1; exact DataW.trod_lt m _ _ _ hm
  have k1 := h1
  obtain ⟨A1, n1, c1, rfl⟩ := okWide_slice Tryz.underlying34 (hval 1 34 v1 rfl rfl)
  obtain ⟨f1, t1⟩ := h1
  obtain ⟨B1, b1, x1, e1, hx1, wf1⟩ := rd_cards (enc := enc) (W := W) (cs := [.slice A1 n1 c1]) ⟨f1, _, t1⟩
  simp at e1
  obtain ⟨rfl, rfl, rfl⟩ := e1
  obtain ⟨a2, rfl, rfl, rfl, w2⟩ := open_int Tryz.underlying3 (hval 2 3 v2 rfl rfl) h2
  obtain ⟨a3, rfl, rfl, rfl, w3⟩ := open_int Tryz.underlying3 (hval 3 3 v3 rfl rfl) h3
  clear hA0 hval0 hsz0
  refine (l_ScoreTimes m0 x0 A1 c1 x1 a2 a3 W hx0 wf0 hx1).mono fun e W' ⟨he, bq, hb⟩ => ?_
  have bel : Below W.heap.size W W' := by rw [hb]; exact bq.lt
  subst he
  exact ⟨_, rfl, _, _, _, [], _, [], hW', trodAll_mk1 (shut_bool Tryz.underlying4 _), (trodAll_cons_mk (Below.trod laidOut (by kernel_rfl) (of_decide_eq_true (by kernel_rfl)) k0 bel lt0) (trodAll_cons_mk (Below.trod laidOut (by kernel_rfl) (of_decide_eq_true (by kernel_rfl)) k1 bel lt1) (trodAll_cons_mk (shut_int Tryz.underlying3 w2) (trodAll_cons_mk (shut_int Tryz.underlying3 w3) trodAll_mk0)))), rfl, bel.frame _, fun h => by cases h⟩
theorem over : Rows.scoreTimesRow.holds Tryz.pinned (OpenSpec.ofChange Rows.scoreTimesSpec) :=
  OpenClaim.holds_of_wide 4 Tryz.f4 rfl rfl rfl rfl rfl rfl rfl ⟨rfl, rfl, rfl, rfl, rfl⟩ rfl rfl rfl rfl rfl (by kernel_rfl) Tryz.func4 (by kernel_rfl)
    (of_decide_eq_true (by kernel_rfl)) (by unfold Func.isWrapper; first | (rw [if_pos (by decide +kernel)]; kernel_rfl) | (rw [if_neg (by decide +kernel)]; exact ⟨rfl, rfl⟩))
    (fun os started H enc _ => lifted os started H enc)
end Go.Proofs.YtdpcdmcmpfjbjaaGreat.scoreTimes
namespace Go.Proofs.YtdpcdmcmpfjbjaaGreat
theorem scoreTimes_holds : Rows.ScoreTimesSaid := scoreTimes.over
#print axioms scoreTimes_holds
end Go.Proofs.YtdpcdmcmpfjbjaaGreat
