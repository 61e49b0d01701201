/- Walks: Card of the reference. -/
import Derived.Test.YtdpcdmcmpfjbjaaGreatJT
/- Walks: Card of the reference. -/
namespace Go.Proofs.YtdpcdmcmpfjbjaaGreat
open Go.RowKit
set_option linter.unusedVariables false
set_option linter.unusedSimpArgs false
attribute [local go_sem] Later.cell Later.frozen Later.size Later.ne Later.cell1 Later.cell2 Later.cell3 Later.size1 Later.size2 Later.size3 Later.ne1 Later.ne2 Later.ne3

theorem legs_bd {p : Plan} (h : PlanOK p) : 1 ≤ legs p ∧ legs p ≤ 6 := by
  have := h.leg (p.items.length - 1) (by have := h.pos; omega)
  unfold legs; omega
theorem starts_iff {p : Plan} {c : Card} (h : PlanOK p) : timesB c.starts (legs p) (legs p) 100000 = true ↔ (c.starts.length : Int) = legs p ∧ ints c.starts 1 6 100000 := by
  obtain ⟨l1, l2⟩ := legs_bd h
  obtain ⟨n, hn⟩ := Int.eq_ofNat_of_zero_le (show 0 ≤ legs p by omega)
  rw [hn]
  have := timesB_iff c.starts n n 100000
  rw [show ((100000 : Nat) : Int) = 100000 from rfl] at this
  rw [this]
  unfold ints
  constructor
  · rintro ⟨a, b, d⟩; exact ⟨by omega, by omega, by omega, d⟩
  · rintro ⟨a, b, d, e⟩; exact ⟨by omega, by omega, e⟩

set_option maxHeartbeats 4000000 in
set_option maxRecDepth 100000 in
theorem r_Card (m : PlanM) (p : Plan) (cm : CardM) (c : Card) (w : World) (hp : PlanIs w m p) (hc : CardIs w cm c) (hP : PlanOK p) :
    Calls Tryz.prog 21 #[planV m p, cardV cm c] w fun e w' => e = .returned (.bool (prb (CardOK p c))) ∧ ∃ q : Later w, w' = q.world := by
  obtain ⟨W0, hW0⟩ : ∃ W0, (w.alloc (.cells (planC m p) 28)).alloc (.cells (cardC cm c) 31) = W0 := ⟨_, rfl⟩
  have hl0 : Lt w W0 := by rw [← hW0]; exact ((Lt.refl w).alloc _).alloc _
  have hbz : w.heap.size + 1 < W0.heap.size := by rw [← hW0]; simp
  have HPN : Hid (PlanAt W0 w.heap.size m p) := Lib.hid (by rw [← hW0]; exact PlanAt.new.later ((Lt.refl _).alloc _))
  have d0 : W0.cell? ⟨w.heap.size + 1, 0, none⟩ = some (.int .i64 c.cls) := by rw [← hW0]; simp [cardC]
  have d1 : W0.cell? ⟨w.heap.size + 1, 1, none⟩ = some (.slice cm.sA c.starts.length cm.sc) := by rw [← hW0]; simp [cardC]
  have d2 : W0.cell? ⟨w.heap.size + 1, 2, none⟩ = some (.slice cm.lA c.lines.length cm.lc) := by rw [← hW0]; simp [cardC]
  obtain ⟨iA, ic, jA, jc, pA, pc, eA, ec⟩ := m
  obtain ⟨sA, sc, lA, lc⟩ := cm
  have hbw : w.heap.size < W0.heap.size := by omega
  have HL0 := Lib.hid hl0
  have HPO := Lib.hid hP
  have h0 := hP.pos
  have hcl := hP.cls
  have h100 := hP.few
  have him := hp.items.2.1
  have hsm := hc.starts.2.1
  have hlm := hc.lines.2.1
  obtain ⟨b, o, rfl, hbl, hitem⟩ := hp.items.2.2 (by omega)
  have HI : Hid (∀ j, j < p.items.length → ItemAt W0 b (o + j * 4) (nth p.items j)) := Lib.hid fun j hj => ItemAt.below hl0 _ _ _ (hitem j hj)
  have hbl0 : b < W0.heap.size := Nat.lt_of_lt_of_le hbl hl0.size
  have HP := Lib.hid (hp.later hl0)
  have HS := Lib.hid (hc.starts.later hl0)
  have HLs := Lib.hid (hc.lines.later hl0)
  have HSI := Lib.hid (starts_iff (c := c) hP)
  have p0 := HPN.out.c0
  have p1 := HPN.out.c1
  have p2 := HPN.out.c2
  have p3 := HPN.out.c3
  have p4 := HPN.out.c4
  have p5 := HPN.out.c5
  have p6 := HPN.out.c6
  have p7 := HPN.out.c7
  have p8 := HPN.out.c8
  have p9 := HPN.out.c9
  have p10 := HPN.out.c10
  have p11 := HPN.out.c11
  have p12 := HPN.out.c12
  have p13 := HPN.out.c13
  simp only [planV, cardV, planC, cardC] at hW0 ⊢
  clear hp hc hitem hP hl0 HPN
  have HW0 := Lib.hid hW0
  clear hW0
  by_cases h1 : within c.cls 0 (p.classes - 1) = true
  rotate_left
  · rw [prb_no (fun h => h1 h.facts.1)]
    rw [Bool.not_eq_true] at h1
    go_enter Tryz.func21, Tryz.ntmps21
    go_wp2_with fail
    rw [HW0.out]
    go_wp2_with fail
    refine wp_region_later follows_ (by kernel_rfl) ?_
    repeat (go_big_quiet_step ((first | (go_at_call 49; first | exact Calls.quiet_same (in_t _ (by assumption)) | exact Calls.quiet_same (in_f _ (by assumption))) | (go_at_call 51; exact Calls.quiet_later (r_Legs ⟨some ⟨b, o, none⟩, ic, jA, jc, pA, pc, eA, ec⟩ p _ (PlanIs.later HP.out (Later.lt _)) HPO.out)) | (go_at_call 50; first | exact Calls.quiet_same (all_t _ (Ints.later HS.out (Later.lt _)) (by assumption)) | exact Calls.quiet_same (all_f _ (Ints.later HS.out (Later.lt _)) (by assumption))))))
    refine wpQuiet_nil ?_
    rintro _ ⟨q, rfl⟩
    go_wp2_with fail
    go_ret
    exact ⟨rfl, Later.mk_eq (q.to HL0.out)⟩
  by_cases h4 : timesB c.starts (legs p) (legs p) 100000 = true
  rotate_left
  · rw [prb_no (fun h => h4 (HSI.out.2 ⟨h.startsLen, h.starts⟩))]
    rw [Bool.not_eq_true] at h4
    go_enter Tryz.func21, Tryz.ntmps21
    go_wp2_with fail
    rw [HW0.out]
    go_wp2_with fail
    refine wp_region_later follows_ (by kernel_rfl) ?_
    repeat (go_big_quiet_step ((first | (go_at_call 49; first | exact Calls.quiet_same (in_t _ (by assumption)) | exact Calls.quiet_same (in_f _ (by assumption))) | (go_at_call 51; exact Calls.quiet_later (r_Legs ⟨some ⟨b, o, none⟩, ic, jA, jc, pA, pc, eA, ec⟩ p _ (PlanIs.later HP.out (Later.lt _)) HPO.out)) | (go_at_call 50; first | exact Calls.quiet_same (all_t _ (Ints.later HS.out (Later.lt _)) (by assumption)) | exact Calls.quiet_same (all_f _ (Ints.later HS.out (Later.lt _)) (by assumption))))))
    refine wpQuiet_nil ?_
    rintro _ ⟨q, rfl⟩
    go_wp2_with fail
    go_ret
    exact ⟨rfl, Later.mk_eq (q.to HL0.out)⟩
  by_cases h2 : c.lines.length = p.items.length
  rotate_left
  · rw [prb_no (fun h => h2 h.lines)]
    have h2a : (c.lines.length != p.items.length) = true := by rw [bne_iff_ne]; exact h2
    have h2b : ((c.lines.length : Int) != (p.items.length : Int)) = true := by rw [bne_iff_ne]; omega
    clear h2
    go_enter Tryz.func21, Tryz.ntmps21
    go_wp2_with fail
    rw [HW0.out]
    go_wp2_with fail
    refine wp_region_later follows_ (by kernel_rfl) ?_
    repeat (go_big_quiet_step ((first | (go_at_call 49; first | exact Calls.quiet_same (in_t _ (by assumption)) | exact Calls.quiet_same (in_f _ (by assumption))) | (go_at_call 51; exact Calls.quiet_later (r_Legs ⟨some ⟨b, o, none⟩, ic, jA, jc, pA, pc, eA, ec⟩ p _ (PlanIs.later HP.out (Later.lt _)) HPO.out)) | (go_at_call 50; first | exact Calls.quiet_same (all_t _ (Ints.later HS.out (Later.lt _)) (by assumption)) | exact Calls.quiet_same (all_f _ (Ints.later HS.out (Later.lt _)) (by assumption))))))
    refine wpQuiet_nil ?_
    rintro _ ⟨q, rfl⟩
    go_wp2_with fail
    go_ret
    exact ⟨rfl, Later.mk_eq (q.to HL0.out)⟩
  have h2a : (c.lines.length != p.items.length) = false := by rw [bne_eq_false_iff_eq]; exact h2
  have h2b : ((c.lines.length : Int) != (p.items.length : Int)) = false := by rw [bne_eq_false_iff_eq]; omega
  have H2 := Lib.hid h2
  clear h2
  obtain ⟨lb, lo, rfl, hlbl, hline⟩ := HLs.out.2.2 (by rw [H2.out]; omega)
  have HL := Lib.hid hline
  clear hline
  go_enter Tryz.func21, Tryz.ntmps21
  go_wp2_with fail
  rw [HW0.out]
  go_wp2_with fail
  refine wp_region_later follows_ (by kernel_rfl) ?_
  repeat (go_big_quiet_step ((first | (go_at_call 49; first | exact Calls.quiet_same (in_t _ (by assumption)) | exact Calls.quiet_same (in_f _ (by assumption))) | (go_at_call 51; exact Calls.quiet_later (r_Legs ⟨some ⟨b, o, none⟩, ic, jA, jc, pA, pc, eA, ec⟩ p _ (PlanIs.later HP.out (Later.lt _)) HPO.out)) | (go_at_call 50; first | exact Calls.quiet_same (all_t _ (Ints.later HS.out (Later.lt _)) (by assumption)) | exact Calls.quiet_same (all_f _ (Ints.later HS.out (Later.lt _)) (by assumption))))))
  refine wpQuiet_nil ?_
  rintro _ ⟨q0, rfl⟩
  go_wp2_with fail
  go_loopw [5] (fun t wr => ∃ (k : Nat) (q : Later W0), t = .int .i64 k ∧ wr = q.world ∧ k ≤ p.items.length ∧ Hid (∀ i, i < k → LineOK (nth p.items i) (nth c.lines i) ∧ (0 < i → (nth p.items i).leg = (nth p.items (i - 1)).leg → (nth c.lines (i - 1)).mark = 2 → (nth c.lines i).mark = 2))) (fun t _ => p.items.length - (intOf t).toNat)
  case atStart => exact ⟨0, q0, rfl, rfl, Nat.zero_le _, fun j hj => absurd hj (Nat.not_lt_zero _)⟩
  case round =>
    obtain ⟨k, q, rfl, rfl, hk, HK⟩ := hrel
    by_cases hlt : k < p.items.length
    · obtain ⟨i0, i1, i2, i3⟩ := HI.out k hlt
      obtain ⟨l0, l1, l2, l3⟩ := HL.out k (by rw [H2.out]; exact hlt)
      have hlz : (k : Int) < p.items.length := by omega
      have hll : k < c.lines.length := by rw [H2.out]; exact hlt
      have hllz : (k : Int) < c.lines.length := by omega
      have hext : LineOK (nth p.items k) (nth c.lines k) → (0 < k → (nth p.items k).leg = (nth p.items (k - 1)).leg → (nth c.lines (k - 1)).mark = 2 → (nth c.lines k).mark = 2) →
          Hid (∀ i, i < k + 1 → LineOK (nth p.items i) (nth c.lines i) ∧ (0 < i → (nth p.items i).leg = (nth p.items (i - 1)).leg → (nth c.lines (i - 1)).mark = 2 → (nth c.lines i).mark = 2)) := fun h g i hi => by
        by_cases e : i = k
        · exact e ▸ ⟨h, g⟩
        · exact HK.out i (by omega)
      have hno : ¬ (LineOK (nth p.items k) (nth c.lines k) ∧ (0 < k → (nth p.items k).leg = (nth p.items (k - 1)).leg → (nth c.lines (k - 1)).mark = 2 → (nth c.lines k).mark = 2)) → prb (CardOK p c) = false :=
        fun h => prb_no fun g => h ⟨g.line k hlt, g.missed k hlt⟩
      cases k with
      | zero =>
        simp only [Nat.zero_mul, Nat.add_zero] at i0 i1 i2 i3 l0 l1 l2 l3
        by_cases hln : LineOK (nth p.items 0) (nth c.lines 0)
        · have HLN := Lib.hid hln
          have HE := Lib.hid (hext hln fun h => absurd h (Nat.lt_irrefl 0))
          clear hext hno hln
          go_wp2_with fail
          refine wp_region_laterB q follows_ (by kernel_rfl) ?_
          repeat (go_big_quiet_step ((go_at_call 52; exact Calls.quiet_later (rline_t (x := nth p.items 0) (l := nth c.lines 0) _ HLN.out))))
          refine wpQuiet_nil ?_
          rintro _ ⟨r, rfl⟩
          go_wp2_with fail
          refine wp_region_laterB r follows_ (by kernel_rfl) ?_
          repeat (go_big_quiet_step (fail))
          refine wpQuiet_nil ?_
          rintro _ ⟨r1, rfl⟩
          go_wp2_with fail
          exact ⟨⟨1, r1, by go_num, rfl, by omega, HE.out⟩, by simp [intOf]; omega⟩
        · have HLN := Lib.hid hln
          have HE := Lib.hid (hno fun g => hln g.1)
          clear hext hno hln
          go_wp2_with fail
          refine wp_region_laterB q follows_ (by kernel_rfl) ?_
          repeat (go_big_quiet_step ((go_at_call 52; exact Calls.quiet_later (rline_f (x := nth p.items 0) (l := nth c.lines 0) _ HLN.out))))
          refine wpQuiet_nil ?_
          rintro _ ⟨r, rfl⟩
          go_wp2_with fail
          go_ret
          exact ⟨ret_bool HE.out.symm, Later.mk_eq (r.to HL0.out)⟩
      | succ j =>
        simp only [Nat.add_sub_cancel] at hext hno
        obtain ⟨j0, j1, j2, j3⟩ := HI.out j (by omega)
        obtain ⟨m0, m1, m2, m3⟩ := HL.out j (by rw [H2.out]; omega)
        have w1 : IntKind.i64.wrap (j : Int) = j := IntWalk.i64_in _ (by omega)
        by_cases hln : LineOK (nth p.items (j + 1)) (nth c.lines (j + 1))
        · have HLN := Lib.hid hln
          by_cases hlg : (nth p.items (j + 1)).leg = (nth p.items j).leg
          · have lgb : ((nth p.items (j + 1)).leg == (nth p.items j).leg) = true := beq_iff_eq.2 hlg
            have HLG := Lib.hid hlg
            clear hlg
            by_cases hmj : (nth c.lines j).mark = 2
            · have mjb : ((nth c.lines j).mark == 2) = true := beq_iff_eq.2 hmj
              have HMJ := Lib.hid hmj
              clear hmj
              by_cases hmk : (nth c.lines (j + 1)).mark = 2
              · have mk2 : ((nth c.lines (j + 1)).mark != 2) = false := by rw [bne_eq_false_iff_eq]; exact hmk
                have HE := Lib.hid (hext hln fun _ _ _ => hmk)
                clear hext hno hln hmk
                go_wp2_with fail
                refine wp_region_laterB q follows_ (by kernel_rfl) ?_
                repeat (go_big_quiet_step ((go_at_call 52; exact Calls.quiet_later (rline_t (x := nth p.items (j + 1)) (l := nth c.lines (j + 1)) _ HLN.out))))
                refine wpQuiet_nil ?_
                rintro _ ⟨r, rfl⟩
                go_wp2_with fail
                refine wp_region_laterB r follows_ (by kernel_rfl) ?_
                repeat (go_big_quiet_step (fail))
                refine wpQuiet_nil ?_
                rintro _ ⟨r1, rfl⟩
                go_wp2_with fail
                exact ⟨⟨j + 2, r1, by go_num, rfl, by omega, HE.out⟩, by simp [intOf]; omega⟩
              · have mk2 : ((nth c.lines (j + 1)).mark != 2) = true := by rw [bne_iff_ne]; exact hmk
                have HE := Lib.hid (hno fun g => hmk (g.2 (by omega) HLG.out HMJ.out))
                clear hext hno hln hmk
                go_wp2_with fail
                refine wp_region_laterB q follows_ (by kernel_rfl) ?_
                repeat (go_big_quiet_step ((go_at_call 52; exact Calls.quiet_later (rline_t (x := nth p.items (j + 1)) (l := nth c.lines (j + 1)) _ HLN.out))))
                refine wpQuiet_nil ?_
                rintro _ ⟨r, rfl⟩
                go_wp2_with fail
                refine wp_region_laterB r follows_ (by kernel_rfl) ?_
                repeat (go_big_quiet_step (fail))
                refine wpQuiet_nil ?_
                rintro _ ⟨r1, rfl⟩
                go_wp2_with fail
                go_ret
                exact ⟨ret_bool HE.out.symm, Later.mk_eq (r1.to HL0.out)⟩
            · have mjb : ((nth c.lines j).mark == 2) = false := beq_eq_false_iff_ne.2 hmj
              have HE := Lib.hid (hext hln fun _ _ h => absurd h hmj)
              clear hext hno hln hmj
              go_wp2_with fail
              refine wp_region_laterB q follows_ (by kernel_rfl) ?_
              repeat (go_big_quiet_step ((go_at_call 52; exact Calls.quiet_later (rline_t (x := nth p.items (j + 1)) (l := nth c.lines (j + 1)) _ HLN.out))))
              refine wpQuiet_nil ?_
              rintro _ ⟨r, rfl⟩
              go_wp2_with fail
              refine wp_region_laterB r follows_ (by kernel_rfl) ?_
              repeat (go_big_quiet_step (fail))
              refine wpQuiet_nil ?_
              rintro _ ⟨r1, rfl⟩
              go_wp2_with fail
              exact ⟨⟨j + 2, r1, by go_num, rfl, by omega, HE.out⟩, by simp [intOf]; omega⟩
          · have lgb : ((nth p.items (j + 1)).leg == (nth p.items j).leg) = false := beq_eq_false_iff_ne.2 hlg
            have HE := Lib.hid (hext hln fun _ h _ => absurd h hlg)
            clear hext hno hln hlg
            go_wp2_with fail
            refine wp_region_laterB q follows_ (by kernel_rfl) ?_
            repeat (go_big_quiet_step ((go_at_call 52; exact Calls.quiet_later (rline_t (x := nth p.items (j + 1)) (l := nth c.lines (j + 1)) _ HLN.out))))
            refine wpQuiet_nil ?_
            rintro _ ⟨r, rfl⟩
            go_wp2_with fail
            refine wp_region_laterB r follows_ (by kernel_rfl) ?_
            repeat (go_big_quiet_step (fail))
            refine wpQuiet_nil ?_
            rintro _ ⟨r1, rfl⟩
            go_wp2_with fail
            exact ⟨⟨j + 2, r1, by go_num, rfl, by omega, HE.out⟩, by simp [intOf]; omega⟩
        · have HLN := Lib.hid hln
          have HE := Lib.hid (hno fun g => hln g.1)
          clear hext hno hln
          go_wp2_with fail
          refine wp_region_laterB q follows_ (by kernel_rfl) ?_
          repeat (go_big_quiet_step ((go_at_call 52; exact Calls.quiet_later (rline_f (x := nth p.items (j + 1)) (l := nth c.lines (j + 1)) _ HLN.out))))
          refine wpQuiet_nil ?_
          rintro _ ⟨r, rfl⟩
          go_wp2_with fail
          go_ret
          exact ⟨ret_bool HE.out.symm, Later.mk_eq (r.to HL0.out)⟩
    · have hke : k = p.items.length := by omega
      subst hke
      go_wp2_with fail
      go_ret
      exact ⟨ret_bool (prb_yes (CardOK.of h1 H2.out (HSI.out.1 h4).1 ((timesB_iff _ 1 6 100000).2 (HSI.out.1 h4).2) HK.out)).symm, Later.mk_eq (q.to HL0.out)⟩
end Go.Proofs.YtdpcdmcmpfjbjaaGreat
