/- ScoreChecks: whatever plan and card come in, the statement's function returns true, and both read as before. No condition. -/
import Derived.Test.YtdpcdmcmpfjbjaaGreatJV
import Derived.Test.YtdpcdmcmpfjbjaaGreatJS
import Derived.Test.YtdpcdmcmpfjbjaaGreatJU
import Derived.Test.YtdpcdmcmpfjbjaaGreatRows
import Derived.Test.YtdpcdmcmpfjbjaaGreatJW
import Derived.WalkKit
import Derived.ProofKit
import Derived.OpenShut
import Derived.ChangeOld
import Derived.Below
import Derived.SizedLaws
import Derived.Carry
/- Walks: ScoreChecks. -/
namespace Go.Proofs.YtdpcdmcmpfjbjaaGreat
open Go.RowKit
set_option linter.unusedVariables false
set_option linter.unusedSimpArgs false
attribute [local go_sem] Later.cell Later.frozen Later.size Later.ne Later.cell1 Later.cell2 Later.cell3 Later.size1 Later.size2 Later.size3 Later.ne1 Later.ne2 Later.ne3

theorem Cards.new1 {w : World} {T : TypeId} (m : CardM) (x : Card) (h : CardIs w m x) : Cards (w.alloc (.cells (cardC m x) T)) (some ⟨w.heap.size, 0, none⟩) 1 [x] := by
  refine ⟨Nat.le_refl _, by simp, fun _ => ⟨_, _, rfl, by simp, fun j hj => ?_⟩⟩
  match j, hj with
  | 0, _ => exact ⟨m, h.later ((Lt.refl w).alloc _), by simp [nth, cardC], by simp [nth, cardC], by simp [nth, cardC]⟩

set_option maxHeartbeats 4000000 in
set_option maxRecDepth 100000 in
theorem l_ScoreChecks (m : PlanM) (p : Plan) (cm : CardM) (c : Card) (w : World) (hp : PlanIs w m p) (wf : PlanWf p) (hc : CardIs w cm c) :
    Calls Tryz.prog 3 #[planV m p, cardV cm c] w fun e w' => e = .returned (.bool true) ∧ ∃ q : Later w, w' = q.world := by
  have him := hp.items.2.1
  have hjm := hp.jumps.2.1
  have hpm := hp.points.2.1
  have hem := hp.extra.2.1
  have hsm := hc.starts.2.1
  have hlm := hc.lines.2.1
  obtain ⟨W0, hW0⟩ : ∃ W0, (w.alloc (.cells (planC m p) 28)).alloc (.cells (cardC cm c) 31) = W0 := ⟨_, rfl⟩
  have hl0 : Lt w W0 := by rw [← hW0]; exact ((Lt.refl w).alloc _).alloc _
  have hbz : w.heap.size + 1 < W0.heap.size := by rw [← hW0]; simp
  have hbw : w.heap.size < W0.heap.size := by omega
  have HPN : Hid (PlanAt W0 w.heap.size m p) := Lib.hid (by rw [← hW0]; exact PlanAt.new.later ((Lt.refl _).alloc _))
  have d0 : W0.cell? ⟨w.heap.size + 1, 0, none⟩ = some (.int .i64 c.cls) := by rw [← hW0]; simp [cardC]
  have d1 : W0.cell? ⟨w.heap.size + 1, 1, none⟩ = some (.slice cm.sA c.starts.length cm.sc) := by rw [← hW0]; simp [cardC]
  have d2 : W0.cell? ⟨w.heap.size + 1, 2, none⟩ = some (.slice cm.lA c.lines.length cm.lc) := by rw [← hW0]; simp [cardC]
  have HP := Lib.hid (hp.later hl0)
  have HCA := Lib.hid (hc.later hl0)
  have hHS := fun W (h : Lt W0 W) => c_small m p W (HP.out.later h)
  have hHSH := fun W (h : Lt W0 W) => c_short (some ⟨W.heap.size, 0, none⟩) 1 [c] 1 (W.alloc (.cells (cardC cm c) 31)) (Cards.new1 cm c (HCA.out.later h))
  have hHK := fun W (h : Lt W0 W) => c_check m p W (HP.out.later h) wf
  have hHC := fun W (h : Lt W0 W) => c_card m p cm c W (HP.out.later h) wf (HCA.out.later h)
  have hRP := fun W (h : Lt W0 W) => r_Plan m p W (HP.out.later h) wf
  have hRC := fun W (h : Lt W0 W) (hP : PlanOK p) => r_Card m p cm c W (HP.out.later h) (HCA.out.later h) hP
  have p0 := HPN.out.c0
  have p1 := HPN.out.c1
  have p2 := HPN.out.c2
  have p3 := HPN.out.c3
  have p4 := HPN.out.c4
  have p5 := HPN.out.c5
  have p6 := HPN.out.c6
  have p7 := HPN.out.c7
  have p8 := HPN.out.c8
  have p9 := HPN.out.c9
  have p10 := HPN.out.c10
  have p11 := HPN.out.c11
  have p12 := HPN.out.c12
  have p13 := HPN.out.c13
  have HL0 := Lib.hid hl0
  clear HPN hp hc hl0 HP HCA
  obtain ⟨iA, ic, jA, jc, pA, pc, eA, ec⟩ := m
  obtain ⟨sA, sc, lA, lc⟩ := cm
  simp only [planV, planC, cardV, cardC, List.length_cons, List.length_nil, Nat.zero_add] at hHS hHSH hHK hHC hRP hRC hW0 ⊢
  have HS := Lib.hid hHS
  have HSH := Lib.hid hHSH
  have HK := Lib.hid hHK
  have HC := Lib.hid hHC
  have RP := Lib.hid hRP
  have RC := Lib.hid hRC
  have HW0 := Lib.hid hW0
  clear hHS hHSH hHK hHC hRP hRC hW0
  go_enter Tryz.func3, Tryz.ntmps3
  by_cases hsP : smallP p
  · have hs : smallB p = true := smallB_iff.2 hsP
    obtain ⟨s1, s2, s3, s4⟩ := hsP
    have g1 : decide ((300 : Int) < (p.items.length : Int)) = false := by rw [decide_eq_false_iff_not]; omega
    have g2 : decide ((200 : Int) < (p.jumps.length : Int) + (p.points.length : Int) + (p.extra.length : Int)) = false := by rw [decide_eq_false_iff_not]; omega
    by_cases hshP : shortP [c] 1
    · have hsh : shortB [c] 1 = true := shortB_yes hshP
      clear hshP
      go_wp2_with fail
      rw [HW0.out]
      refine (HS.out _ (Lt.refl _)).mono ?_
      rw [hs]
      rintro e w' ⟨rfl, q, rfl⟩
      go_wp2_with fail
      refine (HSH.out _ q.lt).mono ?_
      rw [hsh]
      rintro e w' ⟨rfl, q2, rfl⟩
      obtain ⟨q3, hq3⟩ : ∃ q3 : Later W0, q2.world = q3.world := ⟨⟨_, q2.to (q.lt.alloc _)⟩, rfl⟩
      rw [hq3]
      clear hq3 q2
      by_cases hP : PlanOK p
      rotate_left
      · have e1 : (errP (PlanOK p) == 2) = true := by rw [errP_no hP]; rfl
        have hb : prb (PlanOK p) = false := prb_no hP
        have e2 : (errP (PlanOK p ∧ CardOK p c) == 2) = true := by rw [errP_no (fun h => hP h.1)]; rfl
        clear hP
        go_wp2_with fail
        refine wp_region_laterB q3 follows_ (by kernel_rfl) ?_
        repeat (go_big_quiet_step ((first | (go_at_call 18; exact Calls.quiet_later (HK.out _ (Later.lt _))) | (go_at_call 19; exact Calls.quiet_later (HC.out _ (Later.lt _))))))
        refine wpQuiet_nil ?_
        rintro _ ⟨q4, rfl⟩
        go_wp2_with fail
        refine (Calls.later (w := W0) (R := fun e => e = _) q4 (RP.out _ q4.lt)).mono ?_
        rw [hb]
        rintro e w' ⟨rfl, q5, rfl⟩
        go_wp2_with fail
        refine (Calls.later (w := W0) (R := fun e => e = _) q5 (c_known _)).mono ?_
        rintro e w' ⟨rfl, qk, rfl⟩
        go_wp2_with fail
        go_ret
        exact ⟨rfl, ⟨_, qk.to HL0.out⟩, rfl⟩
      have HPO := Lib.hid hP
      by_cases hC : CardOK p c
      · have e1 : (errP (PlanOK p) == 0) = true := by rw [errP_yes hP]; rfl
        have hb : prb (PlanOK p) = true := prb_yes hP
        have e2 : (errP (PlanOK p ∧ CardOK p c) == 0) = true := by rw [errP_yes ⟨hP, hC⟩]; rfl
        have hb2 : prb (CardOK p c) = true := prb_yes hC
        clear hP hC
        go_wp2_with fail
        refine wp_region_laterB q3 follows_ (by kernel_rfl) ?_
        repeat (go_big_quiet_step ((first | (go_at_call 18; exact Calls.quiet_later (HK.out _ (Later.lt _))) | (go_at_call 19; exact Calls.quiet_later (HC.out _ (Later.lt _))))))
        refine wpQuiet_nil ?_
        rintro _ ⟨q4, rfl⟩
        go_wp2_with fail
        refine (Calls.later (w := W0) (R := fun e => e = _) q4 (RP.out _ q4.lt)).mono ?_
        rw [hb]
        rintro e w' ⟨rfl, q5, rfl⟩
        go_wp2_with fail
        refine (Calls.later (w := W0) (R := fun e => e = _) q5 (RC.out _ q5.lt HPO.out)).mono ?_
        rw [hb2]
        rintro e w' ⟨rfl, q6, rfl⟩
        go_wp2_with fail
        refine (Calls.later (w := W0) (R := fun e => e = _) q6 (c_known _)).mono ?_
        rintro e w' ⟨rfl, qk, rfl⟩
        go_wp2_with fail
        go_ret
        exact ⟨rfl, ⟨_, qk.to HL0.out⟩, rfl⟩
      · have e1 : (errP (PlanOK p) == 0) = true := by rw [errP_yes hP]; rfl
        have hb : prb (PlanOK p) = true := prb_yes hP
        have e2 : (errP (PlanOK p ∧ CardOK p c) == 2) = true := by rw [errP_no (fun h => hC h.2)]; rfl
        have hb2 : prb (CardOK p c) = false := prb_no hC
        clear hP hC
        go_wp2_with fail
        refine wp_region_laterB q3 follows_ (by kernel_rfl) ?_
        repeat (go_big_quiet_step ((first | (go_at_call 18; exact Calls.quiet_later (HK.out _ (Later.lt _))) | (go_at_call 19; exact Calls.quiet_later (HC.out _ (Later.lt _))))))
        refine wpQuiet_nil ?_
        rintro _ ⟨q4, rfl⟩
        go_wp2_with fail
        refine (Calls.later (w := W0) (R := fun e => e = _) q4 (RP.out _ q4.lt)).mono ?_
        rw [hb]
        rintro e w' ⟨rfl, q5, rfl⟩
        go_wp2_with fail
        refine (Calls.later (w := W0) (R := fun e => e = _) q5 (RC.out _ q5.lt HPO.out)).mono ?_
        rw [hb2]
        rintro e w' ⟨rfl, q6, rfl⟩
        go_wp2_with fail
        refine (Calls.later (w := W0) (R := fun e => e = _) q6 (c_known _)).mono ?_
        rintro e w' ⟨rfl, qk, rfl⟩
        go_wp2_with fail
        go_ret
        exact ⟨rfl, ⟨_, qk.to HL0.out⟩, rfl⟩
    · have hsh : shortB [c] 1 = false := shortB_no hshP
      clear hshP
      go_wp2_with fail
      rw [HW0.out]
      refine (HS.out _ (Lt.refl _)).mono ?_
      rw [hs]
      rintro e w' ⟨rfl, q, rfl⟩
      go_wp2_with fail
      refine (HSH.out _ q.lt).mono ?_
      rw [hsh]
      rintro e w' ⟨rfl, q2, rfl⟩
      obtain ⟨q3, hq3⟩ : ∃ q3 : Later W0, q2.world = q3.world := ⟨⟨_, q2.to (q.lt.alloc _)⟩, rfl⟩
      rw [hq3]
      clear hq3 q2
      go_wp2_with fail
      refine (Calls.later (w := W0) (R := fun e => e = _) q3 (c_known _)).mono ?_
      rintro e w' ⟨rfl, qk, rfl⟩
      go_wp2_with fail
      go_ret
      exact ⟨rfl, ⟨_, qk.to HL0.out⟩, rfl⟩
  · have hs : smallB p = false := by rw [← Bool.not_eq_true, smallB_iff]; exact hsP
    clear hsP
    by_cases h1 : p.items.length ≤ 100
    · have g0 : decide ((p.items.length : Int) ≤ 100) = true := by rw [decide_eq_true_iff]; omega
      go_wp2_with fail
      rw [HW0.out]
      refine (HS.out _ (Lt.refl _)).mono ?_
      rw [hs]
      rintro e w' ⟨rfl, q, rfl⟩
      go_wp2_with fail
      refine (Calls.later (w := W0) (R := fun e => e = _) q (c_known _)).mono ?_
      rintro e w' ⟨rfl, qk, rfl⟩
      go_wp2_with fail
      go_ret
      exact ⟨rfl, ⟨_, qk.to HL0.out⟩, rfl⟩
    have g0 : decide ((p.items.length : Int) ≤ 100) = false := by rw [decide_eq_false_iff_not]; omega
    have hP : ¬ PlanOK p := fun h => h1 h.few
    by_cases h3 : 300 < p.items.length
    · have g1 : decide ((300 : Int) < (p.items.length : Int)) = true := by rw [decide_eq_true_iff]; omega
      go_wp2_with fail
      rw [HW0.out]
      refine (HS.out _ (Lt.refl _)).mono ?_
      rw [hs]
      rintro e w' ⟨rfl, q, rfl⟩
      go_wp2_with fail
      refine (Calls.later (w := W0) (R := fun e => e = _) q (c_known _)).mono ?_
      rintro e w' ⟨rfl, qk, rfl⟩
      go_wp2_with fail
      go_ret
      exact ⟨rfl, ⟨_, qk.to HL0.out⟩, rfl⟩
    have g1 : decide ((300 : Int) < (p.items.length : Int)) = false := by rw [decide_eq_false_iff_not]; omega
    cases hd : decide ((200 : Int) < wrap64 (wrap64 ((p.jumps.length : Int) + (p.points.length : Int)) + (p.extra.length : Int))) with
    | true =>
      go_wp2_with fail
      rw [HW0.out]
      refine (HS.out _ (Lt.refl _)).mono ?_
      rw [hs]
      rintro e w' ⟨rfl, q, rfl⟩
      go_wp2_with fail
      refine (Calls.later (w := W0) (R := fun e => e = _) q (c_known _)).mono ?_
      rintro e w' ⟨rfl, qk, rfl⟩
      go_wp2_with fail
      go_ret
      exact ⟨rfl, ⟨_, qk.to HL0.out⟩, rfl⟩
    | false =>
      by_cases hshP : shortP [c] 1
      · have hsh : shortB [c] 1 = true := shortB_yes hshP
        clear hshP
        go_wp2_with fail
        rw [HW0.out]
        refine (HS.out _ (Lt.refl _)).mono ?_
        rw [hs]
        rintro e w' ⟨rfl, q, rfl⟩
        go_wp2_with fail
        refine (HSH.out _ q.lt).mono ?_
        rw [hsh]
        rintro e w' ⟨rfl, q2, rfl⟩
        obtain ⟨q3, hq3⟩ : ∃ q3 : Later W0, q2.world = q3.world := ⟨⟨_, q2.to (q.lt.alloc _)⟩, rfl⟩
        rw [hq3]
        clear hq3 q2
        have e1 : (errP (PlanOK p) == 2) = true := by rw [errP_no hP]; rfl
        have hb : prb (PlanOK p) = false := prb_no hP
        have e2 : (errP (PlanOK p ∧ CardOK p c) == 2) = true := by rw [errP_no (fun h => hP h.1)]; rfl
        clear hP
        go_wp2_with fail
        refine wp_region_laterB q3 follows_ (by kernel_rfl) ?_
        repeat (go_big_quiet_step ((first | (go_at_call 18; exact Calls.quiet_later (HK.out _ (Later.lt _))) | (go_at_call 19; exact Calls.quiet_later (HC.out _ (Later.lt _))))))
        refine wpQuiet_nil ?_
        rintro _ ⟨q4, rfl⟩
        go_wp2_with fail
        refine (Calls.later (w := W0) (R := fun e => e = _) q4 (RP.out _ q4.lt)).mono ?_
        rw [hb]
        rintro e w' ⟨rfl, q5, rfl⟩
        go_wp2_with fail
        refine (Calls.later (w := W0) (R := fun e => e = _) q5 (c_known _)).mono ?_
        rintro e w' ⟨rfl, qk, rfl⟩
        go_wp2_with fail
        go_ret
        exact ⟨rfl, ⟨_, qk.to HL0.out⟩, rfl⟩
      · have hsh : shortB [c] 1 = false := shortB_no hshP
        clear hshP hP
        go_wp2_with fail
        rw [HW0.out]
        refine (HS.out _ (Lt.refl _)).mono ?_
        rw [hs]
        rintro e w' ⟨rfl, q, rfl⟩
        go_wp2_with fail
        refine (HSH.out _ q.lt).mono ?_
        rw [hsh]
        rintro e w' ⟨rfl, q2, rfl⟩
        obtain ⟨q3, hq3⟩ : ∃ q3 : Later W0, q2.world = q3.world := ⟨⟨_, q2.to (q.lt.alloc _)⟩, rfl⟩
        rw [hq3]
        clear hq3 q2
        go_wp2_with fail
        refine (Calls.later (w := W0) (R := fun e => e = _) q3 (c_known _)).mono ?_
        rintro e w' ⟨rfl, qk, rfl⟩
        go_wp2_with fail
        go_ret
        exact ⟨rfl, ⟨_, qk.to HL0.out⟩, rfl⟩
end Go.Proofs.YtdpcdmcmpfjbjaaGreat
namespace Go.Proofs.YtdpcdmcmpfjbjaaGreat.scoreChecks
open Go.ChangeShapes Go.WideShapes Go.ChangeAt Go.RowKit
set_option linter.unusedVariables false
theorem own : ownKnob Tryz.prog.godebug = none := by kernel_rfl
theorem laidOut : laidOutB Tryz.prog = true := by kernel_rfl
set_option maxRecDepth 100000 in
theorem lifted (os : Os) (started : os.Started) (H : Type) (enc : TypeId × Value → H) :
    ReturnsInHanded {} Tryz.checked os 3 .any (Rows.scoreChecksSpec.pre6 enc Tryz.prog Tryz.f3 Rows.scoreChecksRow.domain false) (Rows.scoreChecksSpec.post enc Tryz.prog Tryz.f3 false true false false) := by
  refine returnsInHanded_of_change_sized (C := Tryz.checked) own started (by kernel_rfl) Tryz.func3
    (ChangeSpec.witness6 (enc := enc) (C := Tryz.checked) false ⟨#[], #[.agg #[.slice none 0 0, .int .i64 0, .int .i64 0, .int .i64 0, .int .i64 0, .int .i64 0, .slice none 0 0, .bool false, .int .i64 0, .int .i64 0, .int .i64 0, .int .i64 0, .slice none 0 0, .slice none 0 0], .agg #[.int .i64 0, .slice none 0 0, .slice none 0 0]], []⟩ 8 (by kernel_rfl) (by kernel_rfl) (by kernel_rfl) (by kernel_rfl)) ?_
  intro W base args ds gs before hval0 hW hcnd hsz0 _
  have hval : ∀ (j : Nat) t v, Tryz.f3.params[j]? = some t → args[j]? = some v → Value.okWide Tryz.prog W .any base t v := hval0
  have hW' := hW
  obtain ⟨p, q, hA0, hV, rfl, hfz, hnd⟩ := hW
  have hA : DataW.TrodAll enc Tryz.prog W 0 (fun _ => true) true Tryz.f3.params.toList args.toList ds p := hA0
  rw [Tryz.params3] at hA hval
  obtain ⟨v0, vs0, d0, ds0, p0, q0, hargs, rfl, rfl, h0, r0⟩ := trodAll_cons hA
  obtain ⟨v1, vs1, d1, ds1, p1, q1, rfl, rfl, rfl, h1, r1⟩ := trodAll_cons r0
  obtain ⟨rfl, rfl, rfl⟩ := trodAll_nil r1
  obtain rfl : args = #[v0, v1] := by cases args; simp_all
  obtain ⟨rfl, rfl⟩ := trodVars_none hV
  have lt0 : ∀ x ∈ p0, x.block < W.heap.size := by obtain ⟨m, hm⟩ := h0; exact DataW.trod_lt m _ _ _ hm
  have lt1 : ∀ x ∈ p1, x.block < W.heap.size := by obtain ⟨m, hm⟩ := h1; exact DataW.trod_lt m _ _ _ hm
  obtain ⟨cs0, rfl, hc0⟩ := okWide_struct Tryz.underlying28 (hval 0 28 v0 rfl rfl)
  obtain ⟨cs1, rfl, hc1⟩ := okWide_struct Tryz.underlying31 (hval 1 31 v1 rfl rfl)
  have k0 := h0
  have k1 := h1
  obtain ⟨f0, t0⟩ := h0
  obtain ⟨f1, t1⟩ := h1
  obtain ⟨pm, pp, e0, hp, wf⟩ := rd_plan (enc := enc) (W := W) (cs := cs0.toList) ⟨f0, _, t0⟩
  obtain ⟨cm, cc, e1, hc, wc⟩ := rd_card (enc := enc) (W := W) (cs := cs1.toList) ⟨f1, _, t1⟩
  obtain rfl := Array.ext' e0
  obtain rfl := Array.ext' e1
  clear hA0 hval0 hsz0 t0 t1
  refine (l_ScoreChecks pm pp cm cc W hp wf hc).mono fun e W' ⟨he, bq, hb⟩ => ?_
  have bel : Below W.heap.size W W' := by rw [hb]; exact bq.lt
  subst he
  exact ⟨_, rfl, _, _, _, [], _, [], hW', trodAll_mk1 (shut_bool Tryz.underlying4 _), (trodAll_cons_mk (Below.trod laidOut (by kernel_rfl) (of_decide_eq_true (by kernel_rfl)) k0 bel lt0) (trodAll_cons_mk (Below.trod laidOut (by kernel_rfl) (of_decide_eq_true (by kernel_rfl)) k1 bel lt1) trodAll_mk0)), rfl, bel.frame _, fun h => by cases h⟩
theorem over : Rows.scoreChecksRow.holds Tryz.pinned (OpenSpec.ofChange Rows.scoreChecksSpec) :=
  OpenClaim.holds_of_wide 3 Tryz.f3 rfl rfl rfl rfl rfl rfl rfl ⟨rfl, rfl, rfl, rfl, rfl⟩ rfl rfl rfl rfl rfl (by kernel_rfl) Tryz.func3 (by kernel_rfl)
    (of_decide_eq_true (by kernel_rfl)) (by unfold Func.isWrapper; first | (rw [if_pos (by decide +kernel)]; kernel_rfl) | (rw [if_neg (by decide +kernel)]; exact ⟨rfl, rfl⟩))
    (fun os started H enc _ => lifted os started H enc)
end Go.Proofs.YtdpcdmcmpfjbjaaGreat.scoreChecks
namespace Go.Proofs.YtdpcdmcmpfjbjaaGreat
theorem scoreChecks_holds : Rows.ScoreChecksSaid := scoreChecks.over
#print axioms scoreChecks_holds
end Go.Proofs.YtdpcdmcmpfjbjaaGreat
