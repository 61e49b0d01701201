/- Walks: the rows of the chapter's examples, which every statement asks. -/
import Derived.Test.YtdpcdmcmpfjbjaaGreatJS
import Derived.Test.YtdpcdmcmpfjbjaaGreatJH
import Derived.Test.YtdpcdmcmpfjbjaaGreatJR
import Derived.Test.YtdpcdmcmpfjbjaaGreatJK
/- Walks: the rows of the chapter's examples, which every statement asks. -/
namespace Go.Proofs.YtdpcdmcmpfjbjaaGreat
open Go.RowKit
set_option linter.unusedVariables false
set_option linter.unusedSimpArgs false
attribute [local go_sem] Later.cell Later.frozen Later.size Later.ne Later.cell1 Later.cell2 Later.cell3 Later.size1 Later.size2 Later.size3 Later.ne1 Later.ne2 Later.ne3

theorem Mat.new2 {w W : World} {T1 T2 T3 : TypeId} (x1 x2 x3 y1 y2 y3 : Int) (B : Nat) (hB : w.heap.size = B)
    (h : Lt (((w.alloc (.cells #[.int .i64 x1, .int .i64 x2, .int .i64 x3] T1)).alloc (.cells #[.int .i64 y1, .int .i64 y2, .int .i64 y3] T2)).alloc (.cells #[.slice (some ⟨B, 0, none⟩) 3 3, .slice (some ⟨B + 1, 0, none⟩) 3 3] T3)) W) :
    Mat W (some ⟨B + 1 + 1, 0, none⟩) 2 [[x1, x2, x3], [y1, y2, y3]] := by
  subst hB
  refine Mat.later ⟨Nat.le_refl _, by simp, fun _ => ⟨_, _, rfl, by simp, fun j hj => ?_⟩⟩ h
  match j, hj with
  | 0, _ => exact ⟨_, _, (Ints.new3 x1 x2 x3).later (((Lt.refl _).alloc _).alloc _), (World.cell?_alloc_at _ _ _ _ (by simp)).trans (by simp [nth])⟩
  | 1, _ => exact ⟨_, _, (Ints.new3' y1 y2 y3).later ((Lt.refl _).alloc _), (World.cell?_alloc_at _ _ _ _ (by simp)).trans (by simp [nth])⟩
def exR : List Placing := [⟨2, true, -1, 300000, 1, 1, 10⟩, ⟨0, true, -1, 310000, 2, 2, 9⟩, ⟨1, true, -1, 400000, 3, 3, 0⟩]

set_option maxHeartbeats 4000000 in
set_option maxRecDepth 100000 in
theorem c_known (w : World) :
    Calls Tryz.prog 17 #[] w fun e w' => e = .returned (.bool true) ∧ ∃ q : Later w, w' = q.world := by
  go_enter Tryz.func17, Tryz.ntmps17
  go_wp2_with fail
  refine (c_Example _).mono ?_
  rintro e w' ⟨m, rfl, q1, rfl, hp⟩
  have HP0 := Lib.hid hp
  clear hp
  go_wp2_with fail
  refine (c_cards _).mono ?_
  rintro e w' ⟨cA, rfl, q2, rfl, hc⟩
  obtain ⟨W0, hW0⟩ : ∃ W0, q2.world.alloc (.cells (planC m exP) 28) = W0 := ⟨_, rfl⟩
  have hl0 : Lt w W0 := by rw [← hW0]; exact (q2.to q1.lt).alloc _
  have h20 : Lt q2.world W0 := by rw [← hW0]; exact (Lt.refl _).alloc _
  have HP := Lib.hid (HP0.out.later (q2.lt.trans h20))
  have HC := Lib.hid (hc.later h20)
  have hbz : q2.world.heap.size < W0.heap.size := by rw [← hW0]; simp
  have HPN : Hid (PlanAt W0 q2.world.heap.size m exP) := Lib.hid (by rw [← hW0]; exact PlanAt.new)
  obtain ⟨b, o, hA, hb, cm, hcm, x0, x1, x2⟩ := (hc.later h20).at_ 0 (by decide)
  subst hA
  simp only [Nat.zero_mul, Nat.add_zero] at x0 x1 x2
  rw [show nth exL 0 = exA from rfl] at x0 x1 x2 hcm
  have hHD := fun W (h : Lt W0 W) => c_Due m exP cm exA 2 W (HP.out.later h) ex_wf (hcm.later h)
  have hHT0 := fun W (h : Lt W0 W) => c_Total m exP (some ⟨b, o, none⟩) 3 exL ((0 : Nat) : Int) W (HP.out.later h) ex_wf (HC.out.later h)
  have hHT1 := fun W (h : Lt W0 W) => c_Total m exP (some ⟨b, o, none⟩) 3 exL ((1 : Nat) : Int) W (HP.out.later h) ex_wf (HC.out.later h)
  have hHM := fun W (h : Lt W0 W) => c_Time m exP (some ⟨b, o, none⟩) 3 exL 2 1 W (HP.out.later h) ex_wf (HC.out.later h)
  have hHR := fun W (h : Lt W0 W) => c_Results_yes m exP (some ⟨b, o, none⟩) 3 exL W (HP.out.later h) ex_wf (HC.out.later h) exP_ok exL_ok (by decide)
  rw [ex_due] at hHD
  rw [ex_TotalR 0 (by omega) _ ex_total0] at hHT0
  rw [ex_TotalR 1 (by omega) _ ex_total1] at hHT1
  rw [ex_TimeR] at hHM
  rw [show resultsP exP exL = exR from ex_results] at hHR
  obtain ⟨iA, ic, jA, jc, pA, pc, eA, ec⟩ := m
  simp only [planV, planC, cardV, cardC] at hHD hHT0 hHT1 hHM hHR hW0 ⊢
  have HD := Lib.hid hHD
  have HT0 := Lib.hid hHT0
  have HT1 := Lib.hid hHT1
  have HM := Lib.hid hHM
  have HR := Lib.hid hHR
  have HW0 := Lib.hid hW0
  have HL0 := Lib.hid hl0
  have hx1 : (0 : Int) < (exL.length : Int) := by decide
  have hx2 : 0 < exL.length := by decide
  have p0 := HPN.out.c0
  have p1 := HPN.out.c1
  have p2 := HPN.out.c2
  have p3 := HPN.out.c3
  have p4 := HPN.out.c4
  have p5 := HPN.out.c5
  have p6 := HPN.out.c6
  have p7 := HPN.out.c7
  have p8 := HPN.out.c8
  have p9 := HPN.out.c9
  have p10 := HPN.out.c10
  have p11 := HPN.out.c11
  have p12 := HPN.out.c12
  have p13 := HPN.out.c13
  clear hHD hHT0 hHT1 hHM hHR hW0 hl0 h20 hc hcm HC HP HP0 HPN
  go_wp2_with fail
  rw [HW0.out]
  refine wp_region_later follows_ (by kernel_rfl) ?_
  repeat (go_big_quiet_step ((go_at_call 35; exact Calls.quiet_later (HD.out _ (Later.lt _)))))
  refine wpQuiet_nil ?_
  rintro _ ⟨q3, rfl⟩
  go_wp2_with fail
  refine (Calls.later (w := W0) (R := fun e => e = _) q3 (HT0.out _ q3.lt)).mono ?_
  rintro e w' ⟨rfl, q4, rfl⟩
  go_wp2_with fail
  refine (Calls.later (w := W0) (R := fun e => e = _) q4 (HT1.out _ q4.lt)).mono ?_
  rintro e w' ⟨rfl, q5, rfl⟩
  go_wp2_with fail
  refine (Calls.later (w := W0) (R := fun e => e = _) q5 (HM.out _ q5.lt)).mono ?_
  rintro e w' ⟨rfl, q6, rfl⟩
  go_wp2_with fail
  refine (HR.out _ q6.lt).mono ?_
  rintro e w' ⟨B, cap, rfl, q7, rfl, hPl⟩
  have HPl := Lib.hid hPl
  have hl7 := q7.to q6.lt
  have HL7 := Lib.hid (HL0.out.trans hl7)
  have hcap : exR.length ≤ cap := hPl.1
  have hcm := hPl.2.1
  unfold maxLen at hcm
  obtain ⟨rb, hB, hcl⟩ := hPl.2.2 (by decide)
  subst hB
  have HCL := Lib.hid hcl
  clear hPl hcl p0 p1 p2 p3 p4 p5 p6 p7 p8 p9 p10 p11 p12 p13 x0 x1 x2 HD HT0 HT1 HM HR hb hx1 hx2 hl7
  generalize q7.world = W7 at *
  clear q7
  go_wp2_with fail
  obtain ⟨W8, hW8⟩ : ∃ W8, ((W7.alloc (.cells #[.int .i64 10, .int .i64 6, .int .i64 0] 3)).alloc (.cells #[.int .i64 8, .int .i64 8, .int .i64 4] 3)).alloc (.cells #[.slice (some ⟨W7.heap.size, 0, none⟩) 3 3, .slice (some ⟨W7.heap.size + 1, 0, none⟩) 3 3] 23) = W8 := ⟨_, rfl⟩
  have HMT : Hid (Mat W8 (some ⟨W7.heap.size + 1 + 1, 0, none⟩) 2 exPts) := Lib.hid (Mat.new2 10 6 0 8 8 4 _ rfl (by rw [← hW8]; exact Lt.refl _))
  have h78 : Lt W7 W8 := by rw [← hW8]; exact (((Lt.refl _).alloc _).alloc _).alloc _
  rw [hW8]
  refine (show Calls Tryz.prog 31 #[.slice (some ⟨W7.heap.size + 1 + 1, 0, none⟩) 2 2, .int .i64 1] W8 _ from c_Champions _ 2 exPts 1 W8 HMT.out exPts_ok (by decide)).mono ?_
  rintro e w' ⟨oA, oc, sA, sc, rfl, q9, rfl, hoI, hsI⟩
  rw [ex_sums] at hsI
  rw [ex_champ] at hoI
  have HOI := Lib.hid hoI
  have HSI := Lib.hid hsI
  have hl9 := h78.trans q9.lt
  have c0 := hl9.cell (HCL.out 0 (.int .i64 2) rfl)
  have c6 := hl9.cell (HCL.out 6 (.int .i64 10) rfl)
  have c7 := hl9.cell (HCL.out 7 (.int .i64 0) rfl)
  have c13 := hl9.cell (HCL.out 13 (.int .i64 9) rfl)
  have c14 := hl9.cell (HCL.out 14 (.int .i64 1) rfl)
  have c20 := hl9.cell (HCL.out 20 (.int .i64 0) rfl)
  have hrb := World.block_lt_of_cell? _ _ c0
  have hr3 : (exR.length : Int) = 3 := rfl
  have hr3n : exR.length = 3 := rfl
  have hp2 : exPts.length = 2 := rfl
  have HL9 := Lib.hid (HL7.out.trans hl9)
  clear hoI hsI HCL HMT hW8 h78 hl9
  generalize q9.world = W9 at *
  clear q9
  go_wp2_with fail
  refine (show Calls Tryz.prog 34 #[.slice oA 2 oc, .slice (some ⟨W9.heap.size, 0, none⟩) 2 2] _ _ from r_Same oA (some ⟨W9.heap.size, 0, none⟩) oc 2 [0, 1] [0, 1] _ (Ints.later HOI.out ((Lt.refl _).alloc _)) (Ints.new2 0 1)).mono ?_
  rintro e w' ⟨rfl, q10, rfl⟩
  have hl10 := q10.to ((Lt.refl W9).alloc _)
  have HSI2 := Lib.hid (HSI.out.later hl10)
  have HL10 := Lib.hid (HL9.out.trans hl10)
  have d0 := hl10.cell c0
  clear hl10 HSI HL9
  generalize q10.world = W10 at *
  clear q10
  go_wp2_with fail
  refine (show Calls Tryz.prog 34 #[.slice sA 2 sc, .slice (some ⟨W10.heap.size, 0, none⟩) 2 2] _ _ from r_Same sA (some ⟨W10.heap.size, 0, none⟩) sc 2 [16, 16] [16, 16] _ (Ints.later HSI2.out ((Lt.refl _).alloc _)) (Ints.new2 16 16)).mono ?_
  rintro e w' ⟨rfl, q11, rfl⟩
  go_wp2_with fail
  go_ret
  exact ⟨rfl, ⟨q11.world, q11.to (HL10.out.alloc _)⟩, rfl⟩
end Go.Proofs.YtdpcdmcmpfjbjaaGreat
