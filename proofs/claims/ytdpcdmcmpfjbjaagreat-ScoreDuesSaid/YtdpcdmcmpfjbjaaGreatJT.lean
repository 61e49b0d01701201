/- Walks: Plan of the reference. -/
import Derived.Test.YtdpcdmcmpfjbjaaGreatJS
import Derived.Test.YtdpcdmcmpfjbjaaGreatJC
/- Walks: Plan of the reference. -/
namespace Go.Proofs.YtdpcdmcmpfjbjaaGreat
open Go.RowKit
set_option linter.unusedVariables false
set_option linter.unusedSimpArgs false
attribute [local go_sem] Later.cell Later.frozen Later.size Later.ne Later.cell1 Later.cell2 Later.cell3 Later.size1 Later.size2 Later.size3 Later.ne1 Later.ne2 Later.ne3

/-- The rules of a plan in a block. -/
def rulesC (m : PlanM) (p : Plan) : Array Value :=
  #[.int .i64 p.late, .int .i64 p.early, .int .i64 p.maxLate, .int .i64 p.legLate, .slice m.jA p.jumps.length m.jc, .bool p.ret, .int .i64 p.missed, .int .i64 p.notional, .int .i64 p.percent, .int .i64 p.power, .slice m.pA p.points.length m.pc, .slice m.eA p.extra.length m.ec]
def RulesAt (w : World) (B : Nat) (m : PlanM) (p : Plan) : Prop := ∀ i v, (rulesC m p)[i]? = some v → w.cell? ⟨B, i, none⟩ = some v
theorem RulesAt.later {w w1 : World} {B : Nat} {m : PlanM} {p : Plan} (h : RulesAt w B m p) (hl : Lt w w1) : RulesAt w1 B m p := fun i v e => hl.cell (h i v e)
theorem RulesAt.new {w : World} {m : PlanM} {p : Plan} {T : TypeId} {B : Nat} (hB : w.heap.size = B) : RulesAt (w.alloc (.cells (rulesC m p) T)) B m p := fun i v e => by subst hB; exact (World.cell?_alloc_at _ _ _ _ rfl).trans e
theorem RulesAt.all {w : World} {B : Nat} {m : PlanM} {p : Plan} (h : RulesAt w B m p) :
    w.cell? ⟨B, 0, none⟩ = some (.int .i64 p.late) ∧ w.cell? ⟨B, 1, none⟩ = some (.int .i64 p.early) ∧ w.cell? ⟨B, 2, none⟩ = some (.int .i64 p.maxLate) ∧ w.cell? ⟨B, 3, none⟩ = some (.int .i64 p.legLate) ∧
    w.cell? ⟨B, 4, none⟩ = some (.slice m.jA p.jumps.length m.jc) ∧ w.cell? ⟨B, 6, none⟩ = some (.int .i64 p.missed) ∧ w.cell? ⟨B, 7, none⟩ = some (.int .i64 p.notional) ∧ w.cell? ⟨B, 8, none⟩ = some (.int .i64 p.percent) ∧
    w.cell? ⟨B, 9, none⟩ = some (.int .i64 p.power) ∧ w.cell? ⟨B, 10, none⟩ = some (.slice m.pA p.points.length m.pc) ∧ w.cell? ⟨B, 11, none⟩ = some (.slice m.eA p.extra.length m.ec) :=
  ⟨h 0 _ rfl, h 1 _ rfl, h 2 _ rfl, h 3 _ rfl, h 4 _ rfl, h 6 _ rfl, h 7 _ rfl, h 8 _ rfl, h 9 _ rfl, h 10 _ rfl, h 11 _ rfl⟩

set_option maxHeartbeats 4000000 in
set_option maxRecDepth 100000 in
theorem r_Plan (m : PlanM) (p : Plan) (w : World) (hp : PlanIs w m p) (wf : PlanWf p) :
    Calls Tryz.prog 20 #[planV m p] w fun e w' => e = .returned (.bool (prb (PlanOK p))) ∧ ∃ q : Later w, w' = q.world := by
  have HPN := Lib.hid (show PlanAt ((w.alloc (.cells (planC m p) 28)).alloc (.cells (rulesC m p) 26)) w.heap.size m p from PlanAt.new.later ((Lt.refl _).alloc _))
  have HRN := Lib.hid (show RulesAt ((w.alloc (.cells (planC m p) 28)).alloc (.cells (rulesC m p) 26)) (w.heap.size + 1) m p from RulesAt.new (by simp))
  obtain ⟨iA, ic, jA, jc, pA, pc, eA, ec⟩ := m
  by_cases h1 : within p.items.length 1 100 = true
  · have h0 := (within_iff.1 h1).1
    have h100 := (within_iff.1 h1).2
    obtain ⟨b, o, rfl, hbl, hitem⟩ := hp.items.2.2 (by omega)
    obtain ⟨a0, a1, a2, a3⟩ := hitem 0 (by omega)
    simp only [Nat.zero_mul, Nat.add_zero] at a0 a1 a2 a3
    have HI := Lib.hid hitem
    have HP := Lib.hid hp
    have WF := Lib.hid wf
    clear hitem hp wf
    have hpos : (0 : Int) < p.items.length := by omega
    by_cases h2 : within p.classes 1 20 = true
    · by_cases h3 : (nth p.items 0).leg = 0
      · have h3b : ((nth p.items 0).leg != 0) = false := by rw [h3]; rfl
        have H3 := Lib.hid h3
        clear h3
        simp only [planV, planC, rulesC] at HPN HRN ⊢
        go_enter Tryz.func20, Tryz.ntmps20
        go_wp2_with (go_at_call 49; refine (r_in _ _ _ _).mono ?_; rintro e w' ⟨rfl, rfl⟩)
        obtain ⟨W0, hW0⟩ : ∃ W0, (w.alloc (.cells (planC ⟨some ⟨b, o, none⟩, ic, jA, jc, pA, pc, eA, ec⟩ p) 28)).alloc (.cells (rulesC ⟨some ⟨b, o, none⟩, ic, jA, jc, pA, pc, eA, ec⟩ p) 26) = W0 := ⟨_, rfl⟩
        have hl0 : Lt w W0 := by rw [← hW0]; exact ((Lt.refl w).alloc _).alloc _
        have hbz : w.heap.size + 1 < W0.heap.size := by rw [← hW0]; simp
        simp only [planC, rulesC] at hW0
        rw [hW0] at HPN HRN ⊢
        have HI0 : Hid (∀ j, j < p.items.length → ItemAt W0 b (o + j * 4) (nth p.items j)) := Lib.hid fun j hj => ItemAt.below hl0 _ _ _ (HI.out j hj)
        have hbl0 : b < W0.heap.size := Nat.lt_of_lt_of_le hbl hl0.size
        have hbw : w.heap.size < W0.heap.size := by omega
        have HL0 := Lib.hid hl0
        have p0 := HPN.out.c0
        clear hW0 HI a0 a1 a2 a3 hl0
        go_loopw [4] (fun t wr => ∃ (k : Nat) (q : Later W0), t = .int .i64 k ∧ wr = q.world ∧ k ≤ p.items.length ∧ Hid (∀ j, j < k → ItemOK p j)) (fun t _ => p.items.length - (intOf t).toNat)
        case atStart => exact ⟨0, ⟨_, Lt.refl _⟩, rfl, rfl, Nat.zero_le _, fun j hj => absurd hj (Nat.not_lt_zero _)⟩
        case round =>
          obtain ⟨k, q, rfl, rfl, hk, HK⟩ := hrel
          by_cases hlt : k < p.items.length
          · obtain ⟨k0, k1, k2, k3⟩ := HI0.out k hlt
            have hlz : (k : Int) < p.items.length := by omega
            have hkok : ItemOK p k ↔ (k = 0 ∨ (nth p.items (k - 1)).leg ≤ (nth p.items k).leg ∧ (nth p.items k).leg ≤ (nth p.items (k - 1)).leg + 1) ∧ (nth p.items k).leg < 6 ∧
              ((nth p.items k).kind = 1 ∧ 0 ≤ (nth p.items k).target ∧ (nth p.items k).target ≤ 1440 ∨ (nth p.items k).kind = 2 ∧ (nth p.items k).target = 0 ∧ (nth p.items k).free = false) := Iff.rfl
            have hext : ItemOK p k → Hid (∀ j, j < k + 1 → ItemOK p j) := fun h j hj => by
              by_cases e : j = k
              · exact e ▸ h
              · exact HK.out j (by omega)
            have hno : ¬ ItemOK p k → prb (PlanOK p) = false := fun h => prb_no fun g => h (g.item k hlt)
            have hnn := legs_nonneg H3.out k HK.out
            have hwfl := WF.out.leg k hlt
            cases k with
            | zero =>
              simp only [Nat.zero_mul, Nat.add_zero] at k0 k1 k2 k3
              by_cases hl6 : (nth p.items 0).leg < 6
              · have hl6' : ¬ (6 : Int) ≤ (nth p.items 0).leg := by omega
                have HKO := Lib.hid hkok
                have HNO := Lib.hid hno
                have HXT := Lib.hid hext
                clear hkok hno hext
                go_wp2_with fail
                refine wp_region_later follows_ (by kernel_rfl) ?_
                repeat (go_big_quiet_step ((go_at_call 49; first | exact Calls.quiet_same (in_t _ (by assumption)) | exact Calls.quiet_same (in_f _ (by assumption)))))
                refine wpQuiet_nil ?_
                rintro _ ⟨r, rfl⟩
                go_wp2_with (go_at_call 49; refine (r_in _ _ _ _).mono ?_; rintro e w' ⟨rfl, rfl⟩)
                all_goals first
                  | (refine ⟨⟨1, ⟨r.world, r.to (q.lt.alloc _)⟩, by go_num, rfl, by omega, HXT.out (HKO.out.2 ?_)⟩, by simp [intOf]; omega⟩; clear HKO HNO HXT HK HI0 HP WF H3 HL0 HPN HRN; simp only [within_iff, within_no, Bool.not_eq_true', Bool.not_eq_false', beq_iff_eq, beq_eq_false_iff_ne] at *; simp_all; done)
                  | (go_ret; exact ⟨ret_bool (HNO.out fun g => (by have g' := HKO.out.1 g; clear HKO HNO HXT HK HI0 HP WF H3 HL0 HPN HRN g; simp only [within_iff, within_no, Bool.not_eq_true', Bool.not_eq_false', beq_iff_eq, beq_eq_false_iff_ne] at *; simp_all <;> omega)).symm, Later.mk_eq (r.to ((q.to HL0.out).alloc _))⟩)
              · have HN := Lib.hid (hno fun h => hl6 h.2.1)
                clear hno hkok hext hnn hwfl
                go_wp2_with fail
                refine wp_region_later follows_ (by kernel_rfl) ?_
                repeat (go_big_quiet_step ((go_at_call 49; first | exact Calls.quiet_same (in_t _ (by assumption)) | exact Calls.quiet_same (in_f _ (by assumption)))))
                refine wpQuiet_nil ?_
                rintro _ ⟨r, rfl⟩
                go_wp2_with fail
                go_ret
                exact ⟨ret_bool HN.out.symm, Later.mk_eq (r.to ((q.to HL0.out).alloc _))⟩
            | succ j =>
              simp only [Nat.add_sub_cancel] at hkok
              obtain ⟨j0, j1, j2, j3⟩ := HI0.out j (by omega)
              have hj0 := hnn j (by omega)
              have hj5 := (HK.out j (by omega)).2.1
              have hww := wrap_leg hwfl hj0 (by omega)
              have w1 : IntKind.i64.wrap (j : Int) = j := IntWalk.i64_in _ (by omega)
              by_cases hlw : (nth p.items j).leg ≤ (nth p.items (j + 1)).leg ∧ (nth p.items (j + 1)).leg ≤ (nth p.items j).leg + 1
              · rw [decide_eq_true hlw] at hww
                by_cases hl6 : (nth p.items (j + 1)).leg < 6
                · have hl6' : ¬ (6 : Int) ≤ (nth p.items (j + 1)).leg := by omega
                  clear hnn hwfl
                  have HKO := Lib.hid hkok
                  have HNO := Lib.hid hno
                  have HXT := Lib.hid hext
                  have HLW := Lib.hid hlw
                  clear hkok hno hext hlw hj0 hj5
                  go_wp2_with fail
                  refine wp_region_later follows_ (by kernel_rfl) ?_
                  repeat (go_big_quiet_step ((go_at_call 49; first | exact Calls.quiet_same (in_t _ (by assumption)) | exact Calls.quiet_same (in_f _ (by assumption)))))
                  refine wpQuiet_nil ?_
                  rintro _ ⟨r, rfl⟩
                  have hlw := HLW.out
                  clear HLW
                  go_wp2_with (go_at_call 49; refine (r_in _ _ _ _).mono ?_; rintro e w' ⟨rfl, rfl⟩)
                  all_goals first
                    | (refine ⟨⟨j + 2, ⟨r.world, r.to (q.lt.alloc _)⟩, by go_num, rfl, by omega, HXT.out (HKO.out.2 ?_)⟩, by simp [intOf]; omega⟩; clear HKO HNO HXT HK HI0 HP WF H3 HL0 HPN HRN; simp only [within_iff, within_no, Bool.not_eq_true', Bool.not_eq_false', beq_iff_eq, beq_eq_false_iff_ne] at *; simp_all; done)
                    | (go_ret; exact ⟨ret_bool (HNO.out fun g => (by have g' := HKO.out.1 g; clear HKO HNO HXT HK HI0 HP WF H3 HL0 HPN HRN g; simp only [within_iff, within_no, Bool.not_eq_true', Bool.not_eq_false', beq_iff_eq, beq_eq_false_iff_ne] at *; simp_all <;> omega)).symm, Later.mk_eq (r.to ((q.to HL0.out).alloc _))⟩)
                · have HN := Lib.hid (hno fun h => hl6 h.2.1)
                  clear hno hkok hext hnn hwfl hlw hj0 hj5
                  go_wp2_with fail
                  refine wp_region_later follows_ (by kernel_rfl) ?_
                  repeat (go_big_quiet_step ((go_at_call 49; first | exact Calls.quiet_same (in_t _ (by assumption)) | exact Calls.quiet_same (in_f _ (by assumption)))))
                  refine wpQuiet_nil ?_
                  rintro _ ⟨r, rfl⟩
                  go_wp2_with fail
                  go_ret
                  exact ⟨ret_bool HN.out.symm, Later.mk_eq (r.to ((q.to HL0.out).alloc _))⟩
              · rw [decide_eq_false hlw] at hww
                have HN := Lib.hid (hno fun h => hlw (by have := (hkok.1 h).1; omega))
                clear hno hkok hext hnn hwfl hlw hj0 hj5
                go_wp2_with fail
                refine wp_region_later follows_ (by kernel_rfl) ?_
                repeat (go_big_quiet_step ((go_at_call 49; first | exact Calls.quiet_same (in_t _ (by assumption)) | exact Calls.quiet_same (in_f _ (by assumption)))))
                refine wpQuiet_nil ?_
                rintro _ ⟨r, rfl⟩
                go_wp2_with fail
                go_ret
                exact ⟨ret_bool HN.out.symm, Later.mk_eq (r.to ((q.to HL0.out).alloc _))⟩
          · have hke : k = p.items.length := by omega
            subst hke
            have qw := q.to HL0.out
            have hpw : 0 ≤ p.power → p.power < p.items.length → W0.cell? ⟨b, o + p.power.toNat * 4, none⟩ = some (.int .i64 (nth p.items p.power.toNat).kind) := fun h1 h2 => (HI0.out _ (by omega)).1
            have HPW := Lib.hid hpw
            clear hpw
            obtain ⟨r0, r1, r2, r3, r4, r6, r7, r8, r9, r10, r11⟩ := HRN.out.all
            have hjm := HP.out.jumps.2.1
            have hpm := HP.out.points.2.1
            have hem := HP.out.extra.2.1
            have HJ := Lib.hid (HP.out.jumps.later qw)
            have HPt := Lib.hid (HP.out.points.later qw)
            have HE := Lib.hid (HP.out.extra.later qw)
            by_cases t1 : within p.late 0 36000000 = true
            rotate_left
            · have HN := Lib.hid (prb_no fun h : PlanOK p => t1 (within_iff.2 h.late))
              rw [Bool.not_eq_true] at t1
              go_wp2_with (go_at_call 49; refine (r_in _ _ _ _).mono ?_; rintro e w' ⟨rfl, rfl⟩)
              go_ret
              exact ⟨ret_bool HN.out.symm, Later.mk_eq qw⟩
            by_cases t2 : within p.early 0 36000000 = true
            rotate_left
            · have HN := Lib.hid (prb_no fun h : PlanOK p => t2 (within_iff.2 h.early))
              rw [Bool.not_eq_true] at t2
              go_wp2_with (go_at_call 49; refine (r_in _ _ _ _).mono ?_; rintro e w' ⟨rfl, rfl⟩)
              go_ret
              exact ⟨ret_bool HN.out.symm, Later.mk_eq qw⟩
            by_cases t3 : within p.missed 0 36000000 = true
            rotate_left
            · have HN := Lib.hid (prb_no fun h : PlanOK p => t3 (within_iff.2 h.missed))
              rw [Bool.not_eq_true] at t3
              go_wp2_with (go_at_call 49; refine (r_in _ _ _ _).mono ?_; rintro e w' ⟨rfl, rfl⟩)
              go_ret
              exact ⟨ret_bool HN.out.symm, Later.mk_eq qw⟩
            by_cases t4 : within p.maxLate 0 1440 = true
            rotate_left
            · have HN := Lib.hid (prb_no fun h : PlanOK p => t4 (within_iff.2 h.maxLate))
              rw [Bool.not_eq_true] at t4
              go_wp2_with (go_at_call 49; refine (r_in _ _ _ _).mono ?_; rintro e w' ⟨rfl, rfl⟩)
              go_ret
              exact ⟨ret_bool HN.out.symm, Later.mk_eq qw⟩
            by_cases t5 : within p.legLate 0 1440 = true
            rotate_left
            · have HN := Lib.hid (prb_no fun h : PlanOK p => t5 (within_iff.2 h.legLate))
              rw [Bool.not_eq_true] at t5
              go_wp2_with (go_at_call 49; refine (r_in _ _ _ _).mono ?_; rintro e w' ⟨rfl, rfl⟩)
              go_ret
              exact ⟨ret_bool HN.out.symm, Later.mk_eq qw⟩
            by_cases t6 : timesB p.jumps 1 10 36000000 = true
            rotate_left
            · have HN := Lib.hid (prb_no fun h : PlanOK p => t6 ((timesB_iff _ 1 10 36000000).2 h.jumps))
              rw [Bool.not_eq_true] at t6
              go_wp2_with (first | (go_at_call 49; refine (r_in _ _ _ _).mono ?_; rintro e w' ⟨rfl, rfl⟩) | (go_at_call 50; refine (all_f _ HJ.out t6).mono ?_; rintro e w' ⟨rfl, rfl⟩))
              go_ret
              exact ⟨ret_bool HN.out.symm, Later.mk_eq qw⟩
            go_upto_region 14 with (first | (go_at_call 49; refine (r_in _ _ _ _).mono ?_; rintro e w' ⟨rfl, rfl⟩) | (go_at_call 50; refine (all_t _ HJ.out t6).mono ?_; rintro e w' ⟨rfl, rfl⟩))
            by_cases n1 : 1 ≤ p.notional
            rotate_left
            · have HN := Lib.hid (prb_no fun h : PlanOK p => n1 h.notional.1)
              go_wp2_with (go_at_call 49; refine (r_in _ _ _ _).mono ?_; rintro e w' ⟨rfl, rfl⟩)
              go_ret
              exact ⟨ret_bool HN.out.symm, Later.mk_eq qw⟩
            by_cases n2 : p.notional ≤ 4
            rotate_left
            · have HN := Lib.hid (prb_no fun h : PlanOK p => n2 h.notional.2)
              go_wp2_with (go_at_call 49; refine (r_in _ _ _ _).mono ?_; rintro e w' ⟨rfl, rfl⟩)
              go_ret
              exact ⟨ret_bool HN.out.symm, Later.mk_eq qw⟩
            by_cases t7 : within p.percent 100 1000 = true
            rotate_left
            · have HN := Lib.hid (prb_no fun h : PlanOK p => t7 (within_iff.2 h.percent))
              rw [Bool.not_eq_true] at t7
              go_wp2_with (go_at_call 49; refine (r_in _ _ _ _).mono ?_; rintro e w' ⟨rfl, rfl⟩)
              go_ret
              exact ⟨ret_bool HN.out.symm, Later.mk_eq qw⟩
            by_cases t8 : within p.power (-1) (p.items.length - 1) = true
            rotate_left
            · have HN := Lib.hid (prb_no fun h : PlanOK p => t8 h.facts.2.2.2.2.2.2.2.2.2.2.2)
              rw [Bool.not_eq_true] at t8
              go_wp2_with (go_at_call 49; refine (r_in _ _ _ _).mono ?_; rintro e w' ⟨rfl, rfl⟩)
              go_ret
              exact ⟨ret_bool HN.out.symm, Later.mk_eq qw⟩
            have tp := within_iff.1 t8
            have hkd : 0 ≤ p.power → p.power < p.items.length := fun _ => by omega
            by_cases hst : 0 ≤ p.power ∧ (nth p.items p.power.toNat).kind ≠ 2
            · have HN := Lib.hid (prb_no fun h : PlanOK p => hst.2 (h.stage hst.1))
              have hp0 := hst.1
              have hcell := HPW.out hp0 (hkd hp0)
              have hkb : ((nth p.items p.power.toNat).kind != 2) = true := by rw [bne_iff_ne]; exact hst.2
              have hpl := hkd hp0
              clear hst
              go_wp2_with (go_at_call 49; refine (r_in _ _ _ _).mono ?_; rintro e w' ⟨rfl, rfl⟩)
              go_ret
              exact ⟨ret_bool HN.out.symm, Later.mk_eq qw⟩
            have HYES := Lib.hid (fun (t9 : timesB p.points 0 60 1000 = true) (t10 : timesB p.extra 0 60 1000 = true) => prb_yes (show PlanOK p from
              ⟨by omega, by omega, within_iff.1 h2, H3.out, HK.out, within_iff.1 t1, within_iff.1 t2, within_iff.1 t3, within_iff.1 t4, within_iff.1 t5, (timesB_iff _ 1 10 36000000).1 t6, ⟨n1, n2⟩, within_iff.1 t7,
                (timesB_iff _ 0 60 1000).1 t9, (timesB_iff _ 0 60 1000).1 t10, ⟨by omega, by omega⟩, fun h => Classical.byContradiction fun g => hst ⟨h, g⟩⟩))
            have HNO9 := Lib.hid (fun (t9 : timesB p.points 0 60 1000 = false) => prb_no (show ¬ PlanOK p from fun h => nomatch t9.symm.trans (show timesB p.points 0 60 1000 = true from (timesB_iff _ 0 60 1000).2 h.points)))
            have HNO10 := Lib.hid (fun (t10 : timesB p.extra 0 60 1000 = false) => prb_no (show ¬ PlanOK p from fun h => nomatch t10.symm.trans (show timesB p.extra 0 60 1000 = true from (timesB_iff _ 0 60 1000).2 h.extra)))
            have hend : ∃ P9 P10 R : Bool, Hid (timesB p.points 0 60 1000 = P9) ∧ Hid (timesB p.extra 0 60 1000 = P10) ∧ Hid (prb (PlanOK p) = (P9 && P10)) := by
              refine ⟨_, _, true, Lib.hid rfl, Lib.hid rfl, Lib.hid ?_⟩
              cases t9 : timesB p.points 0 60 1000 with
              | false => rw [HNO9.out t9]; rfl
              | true =>
                cases t10 : timesB p.extra 0 60 1000 with
                | false => rw [HNO10.out t10]; rfl
                | true => rw [HYES.out t9 t10]; rfl
            clear HYES HNO9 HNO10 hkd
            obtain ⟨P9, P10, -, E9, E10, EF⟩ := hend
            by_cases hp0 : 0 ≤ p.power
            · have hkb : ((nth p.items p.power.toNat).kind != 2) = false := by rw [bne_eq_false_iff_eq]; exact Classical.byContradiction fun g => hst ⟨hp0, g⟩
              have hpl : p.power < p.items.length := by omega
              have hcell := HPW.out hp0 hpl
              clear hst
              go_upto_region 16 with (go_at_call 49; refine (r_in _ _ _ _).mono ?_; rintro e w' ⟨rfl, rfl⟩)
              cases P9 with
              | false =>
                go_wp2_with (go_at_call 50; refine (all_f _ HPt.out E9.out).mono ?_; rintro e w' ⟨rfl, rfl⟩)
                go_ret
                exact ⟨ret_bool EF.out.symm, Later.mk_eq qw⟩
              | true =>
                go_wp2_with fail
                refine (all_t _ HPt.out E9.out).mono ?_
                rintro e w' ⟨rfl, rfl⟩
                go_wp2_with fail
                refine (r_all _ _ _ 0 60 1000 _ HE.out).mono ?_
                rw [E10.out]
                rintro e w' ⟨rfl, rfl⟩
                go_wp2_with fail
                go_ret
                exact ⟨ret_bool EF.out.symm, Later.mk_eq qw⟩
            · clear hst
              go_upto_region 16 with (go_at_call 49; refine (r_in _ _ _ _).mono ?_; rintro e w' ⟨rfl, rfl⟩)
              cases P9 with
              | false =>
                go_wp2_with (go_at_call 50; refine (all_f _ HPt.out E9.out).mono ?_; rintro e w' ⟨rfl, rfl⟩)
                go_ret
                exact ⟨ret_bool EF.out.symm, Later.mk_eq qw⟩
              | true =>
                go_wp2_with fail
                refine (all_t _ HPt.out E9.out).mono ?_
                rintro e w' ⟨rfl, rfl⟩
                go_wp2_with fail
                refine (r_all _ _ _ 0 60 1000 _ HE.out).mono ?_
                rw [E10.out]
                rintro e w' ⟨rfl, rfl⟩
                go_wp2_with fail
                go_ret
                exact ⟨ret_bool EF.out.symm, Later.mk_eq qw⟩
      · have h3b : ((nth p.items 0).leg != 0) = true := by rw [bne_iff_ne]; exact h3
        rw [prb_no (fun h => h3 h.leg0)]
        clear h3
        simp only [planV, planC]
        go_enter Tryz.func20, Tryz.ntmps20
        go_wp2_with (go_at_call 49; refine (r_in _ _ _ _).mono ?_; rintro e w' ⟨rfl, rfl⟩)
        go_ret
        exact ⟨rfl, Later.mk_eq (((Lt.refl w).alloc _).alloc _)⟩
    · rw [prb_no (fun h => h2 h.facts.2.1)]
      rw [Bool.not_eq_true] at h2
      simp only [planV, planC]
      go_enter Tryz.func20, Tryz.ntmps20
      go_wp2_with (go_at_call 49; refine (r_in _ _ _ _).mono ?_; rintro e w' ⟨rfl, rfl⟩)
      go_ret
      exact ⟨rfl, Later.mk_eq (((Lt.refl w).alloc _).alloc _)⟩
  · rw [prb_no (fun h => h1 h.facts.1)]
    rw [Bool.not_eq_true] at h1
    clear hp wf
    simp only [planV, planC]
    go_enter Tryz.func20, Tryz.ntmps20
    go_wp2_with (go_at_call 49; refine (r_in _ _ _ _).mono ?_; rintro e w' ⟨rfl, rfl⟩)
    go_ret
    exact ⟨rfl, Later.mk_eq (((Lt.refl w).alloc _).alloc _)⟩
end Go.Proofs.YtdpcdmcmpfjbjaaGreat
