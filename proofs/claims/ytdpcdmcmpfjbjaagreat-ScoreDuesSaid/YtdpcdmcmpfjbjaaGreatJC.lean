/- Walks: CheckCard of package score; Walks: whether all cards are as defined: begin$1, slices.IndexFunc, slices.ContainsFunc over cards. -/
import Derived.Test.YtdpcdmcmpfjbjaaGreatJB
/- Walks: CheckCard of package score. -/
namespace Go.Proofs.YtdpcdmcmpfjbjaaGreat
open Go.RowKit
set_option linter.unusedVariables false
set_option linter.unusedSimpArgs false
attribute [local go_sem] Later.cell Later.frozen Later.size Later.ne Later.cell1 Later.cell2 Later.cell3 Later.size1 Later.size2 Later.size3 Later.ne1 Later.ne2 Later.ne3

set_option maxHeartbeats 4000000 in
set_option maxRecDepth 100000 in
theorem c_card (m : PlanM) (p : Plan) (cm : CardM) (c : Card) (w : World) (hp : PlanIs w m p) (wf : PlanWf p) (hc : CardIs w cm c) :
    Calls Tryz.prog 19 #[planV m p, cardV cm c] w fun e w' => e = .returned (.int .i64 (errP (PlanOK p ∧ CardOK p c))) ∧ ∃ q : Later w, w' = q.world := by
  obtain ⟨iA, ic, jA, jc, pA, pc, eA, ec⟩ := m
  obtain ⟨sA, sc, lA, lc⟩ := cm
  have hl := hc.lines
  have HP := Lib.hid hp
  have WF := Lib.hid wf
  have HS := Lib.hid hc.starts
  simp only [planV, cardV, planC, cardC]
  by_cases hP : PlanOK p
  · have HPO := Lib.hid hP
    have h0 := hP.pos
    have hcl := hP.cls
    have h100 := hP.few
    obtain ⟨b, o, rfl, hbl, hitem⟩ := hp.items.2.2 (by omega)
    have HI := Lib.hid hitem
    clear hp wf hc hitem
    by_cases h1 : within c.cls 0 (p.classes - 1) = true
    · by_cases h2 : c.lines.length = p.items.length
      · have h2a : (c.lines.length != p.items.length) = false := by rw [bne_eq_false_iff_eq]; exact h2
        have h2b : ((c.lines.length : Int) != (p.items.length : Int)) = false := by rw [bne_eq_false_iff_eq]; omega
        have h2c : (c.lines.length == p.items.length) = true := by rw [beq_iff_eq]; exact h2
        have h2d : ((c.lines.length : Int) == (p.items.length : Int)) = true := by rw [beq_iff_eq]; omega
        have hlast := (hP.leg (p.items.length - 1) (by omega))
        have hcl1 := (HI.out (p.items.length - 1) (by omega)).2.1
        by_cases h3 : (c.starts.length : Int) = legs p
        · have h3b : ((c.starts.length : Int) != (nth p.items (p.items.length - 1)).leg + 1) = false := by rw [bne_eq_false_iff_eq]; exact h3
          have H3 := Lib.hid h3
          clear h3
          by_cases h4 : timesB c.starts 1 6 100000 = true
          · obtain ⟨lb, lo, rfl, hlbl, hline⟩ := hl.2.2 (by omega)
            have hmx := hl.2.1
            have HL := Lib.hid hline
            have H1 := Lib.hid h1
            have H2 := Lib.hid h2
            have H4 := Lib.hid h4
            clear hl hP hline
            go_enter Tryz.func19, Tryz.ntmps19
            go_wp2_with fail
            refine wp_region_later follows_ (by kernel_rfl) ?_
            repeat (go_big_quiet_step ((first | (go_at_call 18; first | exact Calls.quiet_later (check_yes (m := ⟨_, ic, jA, jc, pA, pc, eA, ec⟩) (p := p) _ (HP.out.later (Later.to _ (((Lt.refl w).alloc _).alloc _))) WF.out HPO.out) | exact Calls.quiet_later (check_no (m := ⟨_, ic, jA, jc, pA, pc, eA, ec⟩) (p := p) _ (HP.out.later (Later.to _ (((Lt.refl w).alloc _).alloc _))) WF.out HPO.out)) | (go_at_call 46; first | exact Calls.quiet_same (within_t _ (by assumption)) | exact Calls.quiet_same (within_f _ (by assumption))) | (go_at_call 47; first | exact Calls.quiet_later (times_t _ (HS.out.later (Later.to _ (((Lt.refl w).alloc _).alloc _))) (by assumption)) | exact Calls.quiet_later (times_f _ (HS.out.later (Later.to _ (((Lt.refl w).alloc _).alloc _))) (by assumption))))))
            refine wpQuiet_nil ?_
            rintro _ ⟨q0, rfl⟩
            go_wp2_with fail
            clear h1 h2a h2b h2c h2d h3b h4
            have hq : Lt w q0.world := q0.to (((Lt.refl w).alloc _).alloc _)
            go_loopw [54] (fun t wr => ∃ (k : Nat) (q : Later ((w.alloc (.cells #[.slice (some ⟨b, o, none⟩) p.items.length ic, .int .i64 p.classes, .int .i64 p.late, .int .i64 p.early, .int .i64 p.maxLate, .int .i64 p.legLate, .slice jA p.jumps.length jc, .bool p.ret, .int .i64 p.missed, .int .i64 p.notional, .int .i64 p.percent, .int .i64 p.power, .slice pA p.points.length pc, .slice eA p.extra.length ec] 28)).alloc (.cells #[.int .i64 c.cls, .slice sA c.starts.length sc, .slice (some ⟨lb, lo, none⟩) p.items.length lc] 31))), t = .int .i64 k ∧ wr = q.world ∧ k ≤ p.items.length ∧ Hid (∀ i, i < k → LineOK (nth p.items i) (nth c.lines i) ∧ (0 < i → (nth p.items i).leg = (nth p.items (i - 1)).leg → (nth c.lines (i - 1)).mark = 2 → (nth c.lines i).mark = 2))) (fun t _ => p.items.length - (intOf t).toNat)
            case atStart => exact ⟨0, q0, rfl, rfl, Nat.zero_le _, fun j hj => absurd hj (Nat.not_lt_zero _)⟩
            case round =>
              obtain ⟨k, q, rfl, rfl, hk, HK⟩ := hrel
              by_cases hlt : k < p.items.length
              · obtain ⟨i0, i1, i2, i3⟩ := HI.out k hlt
                obtain ⟨l0, l1, l2, l3⟩ := HL.out k (by rw [H2.out]; exact hlt)
                have hlz : (k : Int) < p.items.length := by omega
                have hext : LineOK (nth p.items k) (nth c.lines k) → (0 < k → (nth p.items k).leg = (nth p.items (k - 1)).leg → (nth c.lines (k - 1)).mark = 2 → (nth c.lines k).mark = 2) →
                    Hid (∀ i, i < k + 1 → LineOK (nth p.items i) (nth c.lines i) ∧ (0 < i → (nth p.items i).leg = (nth p.items (i - 1)).leg → (nth c.lines (i - 1)).mark = 2 → (nth c.lines i).mark = 2)) := fun h g i hi => by
                  by_cases e : i = k
                  · exact e ▸ ⟨h, g⟩
                  · exact HK.out i (by omega)
                have hno : ¬ (LineOK (nth p.items k) (nth c.lines k) ∧ (0 < k → (nth p.items k).leg = (nth p.items (k - 1)).leg → (nth c.lines (k - 1)).mark = 2 → (nth c.lines k).mark = 2)) → errP (PlanOK p ∧ CardOK p c) = 2 :=
                  fun h => errP_no fun g => h ⟨g.2.line k hlt, g.2.missed k hlt⟩
                cases k with
                | zero =>
                  simp only [Nat.zero_mul, Nat.add_zero] at i0 i1 i2 i3 l0 l1 l2 l3
                  by_cases hln : LineOK (nth p.items 0) (nth c.lines 0)
                  · have HLN := Lib.hid hln
                    have HE := Lib.hid (hext hln fun h => absurd h (Nat.lt_irrefl 0))
                    clear hext hno hln
                    go_wp2_with fail
                    refine wp_region_later follows_ (by kernel_rfl) ?_
                    repeat (go_big_quiet_step (fail))
                    refine wpQuiet_nil ?_
                    rintro _ ⟨r, rfl⟩
                    go_wp2_with fail
                    refine wp_region_laterB r follows_ (by kernel_rfl) ?_
                    repeat (go_big_quiet_step (((go_at_call 48; first | exact Calls.quiet_later (line_t (x := nth p.items 0) (l := nth c.lines 0) _ HLN.out) | exact Calls.quiet_later (line_f (x := nth p.items 0) (l := nth c.lines 0) _ HLN.out)))))
                    refine wpQuiet_nil ?_
                    rintro _ ⟨r1, rfl⟩
                    go_wp2_with fail
                    exact ⟨⟨1, ⟨r1.world, r1.to (q.lt.alloc _)⟩, by go_num, rfl, by omega, HE.out⟩, by simp [intOf]; omega⟩
                  · have HLN := Lib.hid hln
                    have HE := Lib.hid (hno fun g => hln g.1)
                    clear hext hno hln
                    go_wp2_with fail
                    refine wp_region_later follows_ (by kernel_rfl) ?_
                    repeat (go_big_quiet_step (fail))
                    refine wpQuiet_nil ?_
                    rintro _ ⟨r, rfl⟩
                    go_wp2_with fail
                    refine wp_region_laterB r follows_ (by kernel_rfl) ?_
                    repeat (go_big_quiet_step (((go_at_call 48; first | exact Calls.quiet_later (line_t (x := nth p.items 0) (l := nth c.lines 0) _ HLN.out) | exact Calls.quiet_later (line_f (x := nth p.items 0) (l := nth c.lines 0) _ HLN.out)))))
                    refine wpQuiet_nil ?_
                    rintro _ ⟨r1, rfl⟩
                    go_wp2_with fail
                    go_ret
                    exact ⟨ret_int HE.out.symm, Later.mk_eq (r1.to ((q.to (((Lt.refl w).alloc _).alloc _)).alloc _))⟩
                | succ j =>
                  simp only [Nat.add_sub_cancel] at hext hno
                  obtain ⟨j0, j1, j2, j3⟩ := HI.out j (by omega)
                  obtain ⟨m0, m1, m2, m3⟩ := HL.out j (by rw [H2.out]; omega)
                  have w1 : IntKind.i64.wrap (j : Int) = j := IntWalk.i64_in _ (by omega)
                  by_cases hmj : (nth c.lines j).mark = 2
                  · have mjb : ((nth c.lines j).mark == 2) = true := beq_iff_eq.2 hmj
                    have HMJ := Lib.hid hmj
                    clear hmj
                    by_cases hlg : (nth p.items j).leg = (nth p.items (j + 1)).leg
                    · have lgb : ((nth p.items j).leg == (nth p.items (j + 1)).leg) = true := beq_iff_eq.2 hlg
                      have HLG := Lib.hid hlg
                      clear hlg
                      by_cases hln : LineOK (nth p.items (j + 1)) (nth c.lines (j + 1))
                      · have HLN := Lib.hid hln
                        by_cases hmk : (nth c.lines (j + 1)).mark = 2
                        · have mk2 : ((nth c.lines (j + 1)).mark != 2) = false := by rw [bne_eq_false_iff_eq]; exact hmk
                          have HE := Lib.hid (hext hln fun _ _ _ => hmk)
                          clear hext hno hln hmk
                          go_wp2_with fail
                          refine wp_region_later follows_ (by kernel_rfl) ?_
                          repeat (go_big_quiet_step (fail))
                          refine wpQuiet_nil ?_
                          rintro _ ⟨r, rfl⟩
                          go_wp2_with fail
                          refine wp_region_laterB r follows_ (by kernel_rfl) ?_
                          repeat (go_big_quiet_step (((go_at_call 48; first | exact Calls.quiet_later (line_t (x := nth p.items (j + 1)) (l := nth c.lines (j + 1)) _ HLN.out) | exact Calls.quiet_later (line_f (x := nth p.items (j + 1)) (l := nth c.lines (j + 1)) _ HLN.out)))))
                          refine wpQuiet_nil ?_
                          rintro _ ⟨r1, rfl⟩
                          go_wp2_with fail
                          exact ⟨⟨j + 2, ⟨r1.world, r1.to (q.lt.alloc _)⟩, by go_num, rfl, by omega, HE.out⟩, by simp [intOf]; omega⟩
                        · have mk2 : ((nth c.lines (j + 1)).mark != 2) = true := by rw [bne_iff_ne]; exact hmk
                          have HE := Lib.hid (hno fun g => hmk (g.2 (by omega) HLG.out.symm HMJ.out))
                          clear hext hno hln hmk
                          go_wp2_with fail
                          refine wp_region_later follows_ (by kernel_rfl) ?_
                          repeat (go_big_quiet_step (fail))
                          refine wpQuiet_nil ?_
                          rintro _ ⟨r, rfl⟩
                          go_wp2_with fail
                          refine wp_region_laterB r follows_ (by kernel_rfl) ?_
                          repeat (go_big_quiet_step (((go_at_call 48; first | exact Calls.quiet_later (line_t (x := nth p.items (j + 1)) (l := nth c.lines (j + 1)) _ HLN.out) | exact Calls.quiet_later (line_f (x := nth p.items (j + 1)) (l := nth c.lines (j + 1)) _ HLN.out)))))
                          refine wpQuiet_nil ?_
                          rintro _ ⟨r1, rfl⟩
                          go_wp2_with fail
                          go_ret
                          exact ⟨ret_int HE.out.symm, Later.mk_eq (r1.to ((q.to (((Lt.refl w).alloc _).alloc _)).alloc _))⟩
                      · have HLN := Lib.hid hln
                        have HE := Lib.hid (hno fun g => hln g.1)
                        clear hext hno hln
                        go_wp2_with fail
                        refine wp_region_later follows_ (by kernel_rfl) ?_
                        repeat (go_big_quiet_step (fail))
                        refine wpQuiet_nil ?_
                        rintro _ ⟨r, rfl⟩
                        go_wp2_with fail
                        refine wp_region_laterB r follows_ (by kernel_rfl) ?_
                        repeat (go_big_quiet_step (((go_at_call 48; first | exact Calls.quiet_later (line_t (x := nth p.items (j + 1)) (l := nth c.lines (j + 1)) _ HLN.out) | exact Calls.quiet_later (line_f (x := nth p.items (j + 1)) (l := nth c.lines (j + 1)) _ HLN.out)))))
                        refine wpQuiet_nil ?_
                        rintro _ ⟨r1, rfl⟩
                        go_wp2_with fail
                        go_ret
                        exact ⟨ret_int HE.out.symm, Later.mk_eq (r1.to ((q.to (((Lt.refl w).alloc _).alloc _)).alloc _))⟩
                    · have lgb : ((nth p.items j).leg == (nth p.items (j + 1)).leg) = false := beq_eq_false_iff_ne.2 hlg
                      have HLG := Lib.hid hlg
                      clear hlg
                      by_cases hln : LineOK (nth p.items (j + 1)) (nth c.lines (j + 1))
                      · have HLN := Lib.hid hln
                        have HE := Lib.hid (hext hln fun _ h _ => absurd h.symm HLG.out)
                        clear hext hno hln
                        go_wp2_with fail
                        refine wp_region_later follows_ (by kernel_rfl) ?_
                        repeat (go_big_quiet_step (fail))
                        refine wpQuiet_nil ?_
                        rintro _ ⟨r, rfl⟩
                        go_wp2_with fail
                        refine wp_region_laterB r follows_ (by kernel_rfl) ?_
                        repeat (go_big_quiet_step (((go_at_call 48; first | exact Calls.quiet_later (line_t (x := nth p.items (j + 1)) (l := nth c.lines (j + 1)) _ HLN.out) | exact Calls.quiet_later (line_f (x := nth p.items (j + 1)) (l := nth c.lines (j + 1)) _ HLN.out)))))
                        refine wpQuiet_nil ?_
                        rintro _ ⟨r1, rfl⟩
                        go_wp2_with fail
                        exact ⟨⟨j + 2, ⟨r1.world, r1.to (q.lt.alloc _)⟩, by go_num, rfl, by omega, HE.out⟩, by simp [intOf]; omega⟩
                      · have HLN := Lib.hid hln
                        have HE := Lib.hid (hno fun g => hln g.1)
                        clear hext hno hln
                        go_wp2_with fail
                        refine wp_region_later follows_ (by kernel_rfl) ?_
                        repeat (go_big_quiet_step (fail))
                        refine wpQuiet_nil ?_
                        rintro _ ⟨r, rfl⟩
                        go_wp2_with fail
                        refine wp_region_laterB r follows_ (by kernel_rfl) ?_
                        repeat (go_big_quiet_step (((go_at_call 48; first | exact Calls.quiet_later (line_t (x := nth p.items (j + 1)) (l := nth c.lines (j + 1)) _ HLN.out) | exact Calls.quiet_later (line_f (x := nth p.items (j + 1)) (l := nth c.lines (j + 1)) _ HLN.out)))))
                        refine wpQuiet_nil ?_
                        rintro _ ⟨r1, rfl⟩
                        go_wp2_with fail
                        go_ret
                        exact ⟨ret_int HE.out.symm, Later.mk_eq (r1.to ((q.to (((Lt.refl w).alloc _).alloc _)).alloc _))⟩
                  · have mjb : ((nth c.lines j).mark == 2) = false := beq_eq_false_iff_ne.2 hmj
                    have HMJ := Lib.hid hmj
                    clear hmj
                    by_cases hln : LineOK (nth p.items (j + 1)) (nth c.lines (j + 1))
                    · have HLN := Lib.hid hln
                      have HE := Lib.hid (hext hln fun _ _ h => absurd h HMJ.out)
                      clear hext hno hln
                      go_wp2_with fail
                      refine wp_region_later follows_ (by kernel_rfl) ?_
                      repeat (go_big_quiet_step (fail))
                      refine wpQuiet_nil ?_
                      rintro _ ⟨r, rfl⟩
                      go_wp2_with fail
                      refine wp_region_laterB r follows_ (by kernel_rfl) ?_
                      repeat (go_big_quiet_step (((go_at_call 48; first | exact Calls.quiet_later (line_t (x := nth p.items (j + 1)) (l := nth c.lines (j + 1)) _ HLN.out) | exact Calls.quiet_later (line_f (x := nth p.items (j + 1)) (l := nth c.lines (j + 1)) _ HLN.out)))))
                      refine wpQuiet_nil ?_
                      rintro _ ⟨r1, rfl⟩
                      go_wp2_with fail
                      exact ⟨⟨j + 2, ⟨r1.world, r1.to (q.lt.alloc _)⟩, by go_num, rfl, by omega, HE.out⟩, by simp [intOf]; omega⟩
                    · have HLN := Lib.hid hln
                      have HE := Lib.hid (hno fun g => hln g.1)
                      clear hext hno hln
                      go_wp2_with fail
                      refine wp_region_later follows_ (by kernel_rfl) ?_
                      repeat (go_big_quiet_step (fail))
                      refine wpQuiet_nil ?_
                      rintro _ ⟨r, rfl⟩
                      go_wp2_with fail
                      refine wp_region_laterB r follows_ (by kernel_rfl) ?_
                      repeat (go_big_quiet_step (((go_at_call 48; first | exact Calls.quiet_later (line_t (x := nth p.items (j + 1)) (l := nth c.lines (j + 1)) _ HLN.out) | exact Calls.quiet_later (line_f (x := nth p.items (j + 1)) (l := nth c.lines (j + 1)) _ HLN.out)))))
                      refine wpQuiet_nil ?_
                      rintro _ ⟨r1, rfl⟩
                      go_wp2_with fail
                      go_ret
                      exact ⟨ret_int HE.out.symm, Later.mk_eq (r1.to ((q.to (((Lt.refl w).alloc _).alloc _)).alloc _))⟩
              · have hke : k = p.items.length := by omega
                have hge : ¬ k < c.lines.length := by rw [H2.out]; exact hlt
                subst hke
                go_wp2_with fail
                go_ret
                exact ⟨ret_int (errP_yes ⟨HPO.out, CardOK.of H1.out H2.out H3.out H4.out HK.out⟩).symm, Later.mk_eq (q.to (((Lt.refl w).alloc _).alloc _))⟩
          · rw [errP_no (fun h => h4 h.2.facts.2)]
            rw [Bool.not_eq_true] at h4
            clear hl hP
            go_enter Tryz.func19, Tryz.ntmps19
            go_wp2_with fail
            refine wp_region_later follows_ (by kernel_rfl) ?_
            repeat (go_big_quiet_step ((first | (go_at_call 18; first | exact Calls.quiet_later (check_yes (m := ⟨_, ic, jA, jc, pA, pc, eA, ec⟩) (p := p) _ (HP.out.later (Later.to _ (((Lt.refl w).alloc _).alloc _))) WF.out HPO.out) | exact Calls.quiet_later (check_no (m := ⟨_, ic, jA, jc, pA, pc, eA, ec⟩) (p := p) _ (HP.out.later (Later.to _ (((Lt.refl w).alloc _).alloc _))) WF.out HPO.out)) | (go_at_call 46; first | exact Calls.quiet_same (within_t _ (by assumption)) | exact Calls.quiet_same (within_f _ (by assumption))) | (go_at_call 47; first | exact Calls.quiet_later (times_t _ (HS.out.later (Later.to _ (((Lt.refl w).alloc _).alloc _))) (by assumption)) | exact Calls.quiet_later (times_f _ (HS.out.later (Later.to _ (((Lt.refl w).alloc _).alloc _))) (by assumption))))))
            refine wpQuiet_nil ?_
            rintro _ ⟨q, rfl⟩
            go_wp2_with fail
            go_ret
            exact ⟨rfl, Later.mk_eq (q.to (((Lt.refl w).alloc _).alloc _))⟩
        · rw [errP_no (fun h => h3 h.2.startsLen)]
          have h3b : ((c.starts.length : Int) != (nth p.items (p.items.length - 1)).leg + 1) = true := by rw [bne_iff_ne]; exact h3
          clear hl hP h3
          go_enter Tryz.func19, Tryz.ntmps19
          go_wp2_with fail
          refine wp_region_later follows_ (by kernel_rfl) ?_
          repeat (go_big_quiet_step ((first | (go_at_call 18; first | exact Calls.quiet_later (check_yes (m := ⟨_, ic, jA, jc, pA, pc, eA, ec⟩) (p := p) _ (HP.out.later (Later.to _ (((Lt.refl w).alloc _).alloc _))) WF.out HPO.out) | exact Calls.quiet_later (check_no (m := ⟨_, ic, jA, jc, pA, pc, eA, ec⟩) (p := p) _ (HP.out.later (Later.to _ (((Lt.refl w).alloc _).alloc _))) WF.out HPO.out)) | (go_at_call 46; first | exact Calls.quiet_same (within_t _ (by assumption)) | exact Calls.quiet_same (within_f _ (by assumption))) | (go_at_call 47; first | exact Calls.quiet_later (times_t _ (HS.out.later (Later.to _ (((Lt.refl w).alloc _).alloc _))) (by assumption)) | exact Calls.quiet_later (times_f _ (HS.out.later (Later.to _ (((Lt.refl w).alloc _).alloc _))) (by assumption))))))
          refine wpQuiet_nil ?_
          rintro _ ⟨q, rfl⟩
          go_wp2_with fail
          go_ret
          exact ⟨rfl, Later.mk_eq (q.to (((Lt.refl w).alloc _).alloc _))⟩
      · rw [errP_no (fun h => h2 h.2.lines)]
        have h2a : (c.lines.length != p.items.length) = true := by rw [bne_iff_ne]; exact h2
        have h2b : ((c.lines.length : Int) != (p.items.length : Int)) = true := by rw [bne_iff_ne]; omega
        clear hl hP h2
        go_enter Tryz.func19, Tryz.ntmps19
        go_wp2_with fail
        refine wp_region_later follows_ (by kernel_rfl) ?_
        repeat (go_big_quiet_step ((first | (go_at_call 18; first | exact Calls.quiet_later (check_yes (m := ⟨_, ic, jA, jc, pA, pc, eA, ec⟩) (p := p) _ (HP.out.later (Later.to _ (((Lt.refl w).alloc _).alloc _))) WF.out HPO.out) | exact Calls.quiet_later (check_no (m := ⟨_, ic, jA, jc, pA, pc, eA, ec⟩) (p := p) _ (HP.out.later (Later.to _ (((Lt.refl w).alloc _).alloc _))) WF.out HPO.out)) | (go_at_call 46; first | exact Calls.quiet_same (within_t _ (by assumption)) | exact Calls.quiet_same (within_f _ (by assumption))) | (go_at_call 47; first | exact Calls.quiet_later (times_t _ (HS.out.later (Later.to _ (((Lt.refl w).alloc _).alloc _))) (by assumption)) | exact Calls.quiet_later (times_f _ (HS.out.later (Later.to _ (((Lt.refl w).alloc _).alloc _))) (by assumption))))))
        refine wpQuiet_nil ?_
        rintro _ ⟨q, rfl⟩
        go_wp2_with fail
        go_ret
        exact ⟨rfl, Later.mk_eq (q.to (((Lt.refl w).alloc _).alloc _))⟩
    · rw [errP_no (fun h => h1 h.2.facts.1)]
      rw [Bool.not_eq_true] at h1
      clear hl hP
      go_enter Tryz.func19, Tryz.ntmps19
      go_wp2_with fail
      refine wp_region_later follows_ (by kernel_rfl) ?_
      repeat (go_big_quiet_step ((first | (go_at_call 18; first | exact Calls.quiet_later (check_yes (m := ⟨_, ic, jA, jc, pA, pc, eA, ec⟩) (p := p) _ (HP.out.later (Later.to _ (((Lt.refl w).alloc _).alloc _))) WF.out HPO.out) | exact Calls.quiet_later (check_no (m := ⟨_, ic, jA, jc, pA, pc, eA, ec⟩) (p := p) _ (HP.out.later (Later.to _ (((Lt.refl w).alloc _).alloc _))) WF.out HPO.out)) | (go_at_call 46; first | exact Calls.quiet_same (within_t _ (by assumption)) | exact Calls.quiet_same (within_f _ (by assumption))) | (go_at_call 47; first | exact Calls.quiet_later (times_t _ (HS.out.later (Later.to _ (((Lt.refl w).alloc _).alloc _))) (by assumption)) | exact Calls.quiet_later (times_f _ (HS.out.later (Later.to _ (((Lt.refl w).alloc _).alloc _))) (by assumption))))))
      refine wpQuiet_nil ?_
      rintro _ ⟨q, rfl⟩
      go_wp2_with fail
      go_ret
      exact ⟨rfl, Later.mk_eq (q.to (((Lt.refl w).alloc _).alloc _))⟩
  · have HPO := Lib.hid hP
    rw [errP_no (fun h => hP h.1)]
    clear hp wf hc hl hP
    go_enter Tryz.func19, Tryz.ntmps19
    go_wp2_with fail
    refine wp_region_later follows_ (by kernel_rfl) ?_
    repeat (go_big_quiet_step ((first | (go_at_call 18; first | exact Calls.quiet_later (check_yes (m := ⟨_, ic, jA, jc, pA, pc, eA, ec⟩) (p := p) _ (HP.out.later (Later.to _ (((Lt.refl w).alloc _).alloc _))) WF.out HPO.out) | exact Calls.quiet_later (check_no (m := ⟨_, ic, jA, jc, pA, pc, eA, ec⟩) (p := p) _ (HP.out.later (Later.to _ (((Lt.refl w).alloc _).alloc _))) WF.out HPO.out)) | (go_at_call 46; first | exact Calls.quiet_same (within_t _ (by assumption)) | exact Calls.quiet_same (within_f _ (by assumption))) | (go_at_call 47; first | exact Calls.quiet_later (times_t _ (HS.out.later (Later.to _ (((Lt.refl w).alloc _).alloc _))) (by assumption)) | exact Calls.quiet_later (times_f _ (HS.out.later (Later.to _ (((Lt.refl w).alloc _).alloc _))) (by assumption))))))
    refine wpQuiet_nil ?_
    rintro _ ⟨q, rfl⟩
    go_wp2_with fail
    go_ret
    exact ⟨rfl, Later.mk_eq (q.to (((Lt.refl w).alloc _).alloc _))⟩
theorem card_yes {m : PlanM} {p : Plan} {cm : CardM} {c : Card} (w : World) (hp : PlanIs w m p) (wf : PlanWf p) (hc : CardIs w cm c) (h : PlanOK p ∧ CardOK p c) :
    Calls Tryz.prog 19 #[planV m p, cardV cm c] w fun e w' => e = .returned (.int .i64 0) ∧ ∃ q : Later w, w' = q.world := by
  have := c_card m p cm c w hp wf hc; rwa [errP_yes h] at this
theorem card_no {m : PlanM} {p : Plan} {cm : CardM} {c : Card} (w : World) (hp : PlanIs w m p) (wf : PlanWf p) (hc : CardIs w cm c) (h : ¬ (PlanOK p ∧ CardOK p c)) :
    Calls Tryz.prog 19 #[planV m p, cardV cm c] w fun e w' => e = .returned (.int .i64 2) ∧ ∃ q : Later w, w' = q.world := by
  have := c_card m p cm c w hp wf hc; rwa [errP_no h] at this
end Go.Proofs.YtdpcdmcmpfjbjaaGreat
/- Walks: whether all cards are as defined: begin$1, slices.IndexFunc, slices.ContainsFunc over cards. -/
namespace Go.Proofs.YtdpcdmcmpfjbjaaGreat
open Go.RowKit
set_option linter.unusedVariables false
set_option linter.unusedSimpArgs false
attribute [local go_sem] Later.cell Later.frozen Later.size Later.ne Later.cell1 Later.cell2 Later.cell3 Later.size1 Later.size2 Later.size3 Later.ne1 Later.ne2 Later.ne3

/-- A plan in a block. -/
def PlanAt (w : World) (B : Nat) (m : PlanM) (p : Plan) : Prop := ∀ i v, (planC m p)[i]? = some v → w.cell? ⟨B, i, none⟩ = some v
theorem PlanAt.later {w w1 : World} {B : Nat} {m : PlanM} {p : Plan} (h : PlanAt w B m p) (hl : Lt w w1) : PlanAt w1 B m p := fun i v e => hl.cell (h i v e)
theorem PlanAt.new {w : World} {m : PlanM} {p : Plan} {T : TypeId} : PlanAt (w.alloc (.cells (planC m p) T)) w.heap.size m p := fun i v e => (World.cell?_alloc_at _ _ _ _ rfl).trans e
theorem PlanAt.c0 {w : World} {B : Nat} {m : PlanM} {p : Plan} (h : PlanAt w B m p) : w.cell? ⟨B, 0, none⟩ = some (.slice m.iA p.items.length m.ic) := h 0 _ rfl
theorem PlanAt.c1 {w : World} {B : Nat} {m : PlanM} {p : Plan} (h : PlanAt w B m p) : w.cell? ⟨B, 1, none⟩ = some (.int .i64 p.classes) := h 1 _ rfl
theorem PlanAt.c2 {w : World} {B : Nat} {m : PlanM} {p : Plan} (h : PlanAt w B m p) : w.cell? ⟨B, 2, none⟩ = some (.int .i64 p.late) := h 2 _ rfl
theorem PlanAt.c3 {w : World} {B : Nat} {m : PlanM} {p : Plan} (h : PlanAt w B m p) : w.cell? ⟨B, 3, none⟩ = some (.int .i64 p.early) := h 3 _ rfl
theorem PlanAt.c4 {w : World} {B : Nat} {m : PlanM} {p : Plan} (h : PlanAt w B m p) : w.cell? ⟨B, 4, none⟩ = some (.int .i64 p.maxLate) := h 4 _ rfl
theorem PlanAt.c5 {w : World} {B : Nat} {m : PlanM} {p : Plan} (h : PlanAt w B m p) : w.cell? ⟨B, 5, none⟩ = some (.int .i64 p.legLate) := h 5 _ rfl
theorem PlanAt.c6 {w : World} {B : Nat} {m : PlanM} {p : Plan} (h : PlanAt w B m p) : w.cell? ⟨B, 6, none⟩ = some (.slice m.jA p.jumps.length m.jc) := h 6 _ rfl
theorem PlanAt.c7 {w : World} {B : Nat} {m : PlanM} {p : Plan} (h : PlanAt w B m p) : w.cell? ⟨B, 7, none⟩ = some (.bool p.ret) := h 7 _ rfl
theorem PlanAt.c8 {w : World} {B : Nat} {m : PlanM} {p : Plan} (h : PlanAt w B m p) : w.cell? ⟨B, 8, none⟩ = some (.int .i64 p.missed) := h 8 _ rfl
theorem PlanAt.c9 {w : World} {B : Nat} {m : PlanM} {p : Plan} (h : PlanAt w B m p) : w.cell? ⟨B, 9, none⟩ = some (.int .i64 p.notional) := h 9 _ rfl
theorem PlanAt.c10 {w : World} {B : Nat} {m : PlanM} {p : Plan} (h : PlanAt w B m p) : w.cell? ⟨B, 10, none⟩ = some (.int .i64 p.percent) := h 10 _ rfl
theorem PlanAt.c11 {w : World} {B : Nat} {m : PlanM} {p : Plan} (h : PlanAt w B m p) : w.cell? ⟨B, 11, none⟩ = some (.int .i64 p.power) := h 11 _ rfl
theorem PlanAt.c12 {w : World} {B : Nat} {m : PlanM} {p : Plan} (h : PlanAt w B m p) : w.cell? ⟨B, 12, none⟩ = some (.slice m.pA p.points.length m.pc) := h 12 _ rfl
theorem PlanAt.c13 {w : World} {B : Nat} {m : PlanM} {p : Plan} (h : PlanAt w B m p) : w.cell? ⟨B, 13, none⟩ = some (.slice m.eA p.extra.length m.ec) := h 13 _ rfl

/-- A statement as a Bool. -/
noncomputable def prb (P : Prop) : Bool := @decide P (Classical.propDecidable P)
theorem prb_yes {P : Prop} (h : P) : prb P = true := @decide_eq_true P (Classical.propDecidable P) h
theorem prb_no {P : Prop} (h : ¬ P) : prb P = false := @decide_eq_false P (Classical.propDecidable P) h
theorem prb_iff {P : Prop} : prb P = true ↔ P := @decide_eq_true_iff P (Classical.propDecidable P)

set_option maxHeartbeats 1000000 in
set_option maxRecDepth 100000 in
theorem c_begin1 (m : PlanM) (p : Plan) (cm : CardM) (c : Card) (B : Nat) (w : World) (hB : PlanAt w B m p) (hp : PlanIs w m p) (wf : PlanWf p) (hc : CardIs w cm c) :
    Calls Tryz.prog 102 #[cardV cm c, .pointer (some ⟨B, 0, none⟩)] w fun e w' => e = .returned (.bool (!prb (PlanOK p ∧ CardOK p c))) ∧ ∃ q : Later w, w' = q.world := by
  have HC : Hid (∀ W, Lt w W → Calls Tryz.prog 19 #[planV m p, cardV cm c] W fun e w' => e = .returned (.int .i64 (errP (PlanOK p ∧ CardOK p c))) ∧ ∃ q : Later W, w' = q.world) :=
    fun W h => c_card m p cm c W (hp.later h) wf (hc.later h)
  obtain ⟨iA, ic, jA, jc, pA, pc, eA, ec⟩ := m
  obtain ⟨sA, sc, lA, lc⟩ := cm
  have e0 := hB.c0
  have e1 := hB.c1
  have e2 := hB.c2
  have e3 := hB.c3
  have e4 := hB.c4
  have e5 := hB.c5
  have e6 := hB.c6
  have e7 := hB.c7
  have e8 := hB.c8
  have e9 := hB.c9
  have e10 := hB.c10
  have e11 := hB.c11
  have e12 := hB.c12
  have e13 := hB.c13
  have hBl : B < w.heap.size := World.block_lt_of_cell? w _ e0
  clear hB hp wf hc
  by_cases h : PlanOK p ∧ CardOK p c
  · rw [prb_yes h]
    rw [errP_yes h] at HC
    clear h
    simp only [planV, planC, cardV, cardC] at HC ⊢
    go_enter Tryz.func102, Tryz.ntmps102
    go_wp2_with fail
    refine (HC.out _ ((Lt.refl w).alloc _)).mono ?_
    rintro e w' ⟨rfl, q, rfl⟩
    go_wp2_with fail
    go_ret
    exact ⟨rfl, Later.mk_eq (q.to ((Lt.refl w).alloc _))⟩
  · rw [prb_no h]
    rw [errP_no h] at HC
    clear h
    simp only [planV, planC, cardV, cardC] at HC ⊢
    go_enter Tryz.func102, Tryz.ntmps102
    go_wp2_with fail
    refine (HC.out _ ((Lt.refl w).alloc _)).mono ?_
    rintro e w' ⟨rfl, q, rfl⟩
    go_wp2_with fail
    go_ret
    exact ⟨rfl, Later.mk_eq (q.to ((Lt.refl w).alloc _))⟩

theorem begin1_t {m : PlanM} {p : Plan} {cm : CardM} {c : Card} {B : Nat} (w : World) (hB : PlanAt w B m p) (hp : PlanIs w m p) (wf : PlanWf p) (hc : CardIs w cm c) (h : PlanOK p ∧ CardOK p c) :
    Calls Tryz.prog 102 #[cardV cm c, .pointer (some ⟨B, 0, none⟩)] w fun e w' => e = .returned (.bool false) ∧ ∃ q : Later w, w' = q.world := by
  have := c_begin1 m p cm c B w hB hp wf hc; rwa [prb_yes h] at this
theorem begin1_f {m : PlanM} {p : Plan} {cm : CardM} {c : Card} {B : Nat} (w : World) (hB : PlanAt w B m p) (hp : PlanIs w m p) (wf : PlanWf p) (hc : CardIs w cm c) (h : ¬ (PlanOK p ∧ CardOK p c)) :
    Calls Tryz.prog 102 #[cardV cm c, .pointer (some ⟨B, 0, none⟩)] w fun e w' => e = .returned (.bool true) ∧ ∃ q : Later w, w' = q.world := by
  have := c_begin1 m p cm c B w hB hp wf hc; rwa [prb_no h] at this

theorem eg_begin (args : Array Value) (w : World) : (callFunc 102 args).run Tryz.prog w = .ok (.enter 102 args) w := enters_of Tryz.func102 (by kernel_rfl) rfl args w

/-- The first card that is not as defined; -1 for none. -/
def AllTo (p : Plan) (cards : List Card) (k : Nat) : Prop := ∀ j, j < k → PlanOK p ∧ CardOK p (nth cards j)

set_option maxHeartbeats 2000000 in
set_option maxRecDepth 100000 in
theorem c_cardIdx (m : PlanM) (p : Plan) (A : Option Addr) (c : Nat) (cards : List Card) (B : Nat) (w : World) (hB : PlanAt w B m p) (hp : PlanIs w m p) (wf : PlanWf p) (hc : Cards w A c cards) :
    Calls Tryz.prog 127 #[.slice A cards.length c, .func (.func 102) #[] #[.pointer (some ⟨B, 0, none⟩)]] w fun e w' =>
      (∃ n : Int, e = .returned (.int .i64 n) ∧ (n = -1 ∧ AllTo p cards cards.length ∨ 0 ≤ n ∧ ¬ AllTo p cards cards.length)) ∧ ∃ q : Later w, w' = q.world := by
  have HB := Lib.hid hB
  have HP := Lib.hid hp
  have HC := Lib.hid hc
  have HE := Lib.hid eg_begin
  have hcm := hc.2.1
  have eb : ∀ args w, (callFunc 102 args).run Tryz.prog w = .ok (.enter 102 args) w := eg_begin
  clear hB hp hc
  go_enter Tryz.func127, Tryz.ntmps127
  go_wp2_with fail
  go_loopw [8] (fun t wr => ∃ (k : Nat) (q : Later w), t = .int .i64 k ∧ wr = q.world ∧ k ≤ cards.length ∧ Hid (AllTo p cards k)) (fun t _ => cards.length - (intOf t).toNat)
  case atStart => exact ⟨0, ⟨w, Lt.refl w⟩, rfl, rfl, Nat.zero_le _, Lib.hid (fun j hj => absurd hj (Nat.not_lt_zero _))⟩
  case round =>
    obtain ⟨k, q, rfl, rfl, hk, HA⟩ := hrel
    by_cases hlt : k < cards.length
    · have hlz : (k : Int) < cards.length := by omega
      obtain ⟨b, o, rfl, hbl, ⟨sA, sc, lA, lc⟩, hci, c0, c1, c2⟩ := HC.out.at_ k hlt
      have HCI := Lib.hid hci
      clear hci
      by_cases h : PlanOK p ∧ CardOK p (nth cards k)
      · have HN : Hid (AllTo p cards (k + 1)) := Lib.hid fun j hj => by
          by_cases e : j = k
          · subst e; exact h
          · exact HA.out j (by omega)
        have HY := Lib.hid (begin1_t q.world (HB.out.later q.lt) (HP.out.later q.lt) wf (HCI.out.later q.lt) h)
        clear h
        simp only [cardV, cardC] at HY
        go_wp2_with fail
        refine (Calls.later (w := w) (R := fun e => e = _) q HY.out).mono ?_
        rintro e w' ⟨rfl, q1, rfl⟩
        go_wp2_with fail
        exact ⟨⟨k + 1, q1, by go_num, rfl, by omega, HN⟩, by simp [intOf]; omega⟩
      · have HN : Hid (¬ AllTo p cards cards.length) := Lib.hid fun g => h (g k hlt)
        have HY := Lib.hid (begin1_f q.world (HB.out.later q.lt) (HP.out.later q.lt) wf (HCI.out.later q.lt) h)
        clear h
        simp only [cardV, cardC] at HY
        go_wp2_with fail
        refine (Calls.later (w := w) (R := fun e => e = _) q HY.out).mono ?_
        rintro e w' ⟨rfl, q1, rfl⟩
        go_wp2_with fail
        go_ret
        exact ⟨⟨k, rfl, .inr ⟨by omega, HN.out⟩⟩, q1, rfl⟩
    · have hke : k = cards.length := by omega
      subst hke
      go_wp2_with fail
      go_ret
      exact ⟨⟨-1, rfl, .inl ⟨rfl, HA.out⟩⟩, q, rfl⟩

set_option maxHeartbeats 1000000 in
set_option maxRecDepth 100000 in
theorem c_cardAny (m : PlanM) (p : Plan) (A : Option Addr) (c : Nat) (cards : List Card) (B : Nat) (w : World) (hB : PlanAt w B m p) (hp : PlanIs w m p) (wf : PlanWf p) (hc : Cards w A c cards) :
    Calls Tryz.prog 101 #[.slice A cards.length c, .func (.func 102) #[] #[.pointer (some ⟨B, 0, none⟩)]] w fun e w' =>
      e = .returned (.bool (!prb (AllTo p cards cards.length))) ∧ ∃ q : Later w, w' = q.world := by
  have HI := Lib.hid (c_cardIdx m p A c cards B w hB hp wf hc)
  clear hB hp wf hc
  have HY := Lib.hid (@prb_yes (AllTo p cards cards.length))
  have HN := Lib.hid (@prb_no (AllTo p cards cards.length))
  generalize prb (AllTo p cards cards.length) = b at *
  go_enter Tryz.func101, Tryz.ntmps101
  go_wp2_with fail
  refine HI.out.mono ?_
  rintro e w' ⟨⟨n, rfl, hn⟩, q, rfl⟩
  have hb : Hid (b = !decide (0 ≤ n)) := by
    rcases hn with ⟨h1, h2⟩ | ⟨h1, h2⟩
    · rw [HY.out h2, h1]; rfl
    · rw [HN.out h2, decide_eq_true h1]; rfl
  clear hn
  go_wp2_with fail
  go_ret
  exact ⟨ret_bool (by rw [hb.out]; simp), q, rfl⟩
end Go.Proofs.YtdpcdmcmpfjbjaaGreat
