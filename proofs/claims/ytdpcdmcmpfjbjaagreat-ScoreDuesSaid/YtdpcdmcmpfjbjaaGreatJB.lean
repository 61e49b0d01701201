/- Walks: within, times, line, Check, CheckCard of package score; Walks: Check of package score. -/
import Derived.Test.YtdpcdmcmpfjbjaaGreatJA
import Derived.Test.YtdpcdmcmpfjbjaaGreatShelf
/- Walks: within, times, line, Check, CheckCard of package score. -/
namespace Go.Proofs.YtdpcdmcmpfjbjaaGreat
open Go.RowKit
set_option linter.unusedVariables false
set_option linter.unusedSimpArgs false
attribute [local go_sem] Later.cell Later.frozen Later.size Later.ne Later.cell1 Later.cell2 Later.cell3 Later.size1 Later.size2 Later.size3 Later.ne1 Later.ne2 Later.ne3

set_option maxHeartbeats 400000 in
theorem c_within (n a b : Int) (w : World) :
    Calls Tryz.prog 46 #[.int .i64 n, .int .i64 a, .int .i64 b] w fun e w' => e = .returned (.bool (within n a b)) ∧ w' = w := by
  by_cases h : a ≤ n
  · have hd : within n a b = decide (n ≤ b) := by simp [within, h]
    rw [hd]
    clear hd
    go_enter Tryz.func46, Tryz.ntmps46
    go_wp2
    go_ret
    exact ⟨rfl, rfl⟩
  · have hd : within n a b = false := by simp [within, h]
    rw [hd]
    clear hd
    go_enter Tryz.func46, Tryz.ntmps46
    go_wp2
    go_ret
    exact ⟨rfl, rfl⟩
theorem within_t {n a b : Int} (w : World) (h : within n a b = true) :
    Calls Tryz.prog 46 #[.int .i64 n, .int .i64 a, .int .i64 b] w fun e w' => e = .returned (.bool true) ∧ w' = w := h ▸ c_within n a b w
theorem within_f {n a b : Int} (w : World) (h : within n a b = false) :
    Calls Tryz.prog 46 #[.int .i64 n, .int .i64 a, .int .i64 b] w fun e w' => e = .returned (.bool false) ∧ w' = w := h ▸ c_within n a b w

set_option maxHeartbeats 400000 in
theorem c_times1 (x most : Int) (B : Nat) (w : World) (hB : w.cell? ⟨B, 0, none⟩ = some (.int .i64 most)) :
    Calls Tryz.prog 100 #[.int .i64 x, .pointer (some ⟨B, 0, none⟩)] w fun e w' => e = .returned (.bool (!within x 0 most)) ∧ w' = w := by
  generalize hr : within x 0 most = r
  have HR := Lib.hid hr
  clear hr
  go_enter Tryz.func100, Tryz.ntmps100
  go_wp2_with (go_at_call 46; refine (c_within _ _ _ _).mono ?_; rw [HR.out]; rintro e w' ⟨rfl, rfl⟩)
  go_ret
  exact ⟨rfl, rfl⟩

theorem pred_times (most : Int) (B : Nat) (w : World) (hB : w.cell? ⟨B, 0, none⟩ = some (.int .i64 most)) :
    PredAt Tryz.prog 100 #[.pointer (some ⟨B, 0, none⟩)] (Value.int .i64) (fun x => !within x 0 most) w := fun W x hb =>
  (c_times1 x most B W ((hb.cell (p := ⟨B, 0, none⟩) (World.block_lt_of_cell? w _ hB)).trans hB)).mono fun _ _ ⟨he, hw⟩ => ⟨he, 0, hw⟩

theorem eg_times (args : Array Value) (w : World) : (callFunc 100 args).run Tryz.prog w = .ok (.enter 100 args) w := enters_of Tryz.func100 (by kernel_rfl) rfl args w

theorem anyFunc (A : Option Addr) (c : Nat) (xs : List Int) (most : Int) (B : Nat) (w : World) (hB : w.cell? ⟨B, 0, none⟩ = some (.int .i64 most)) (h : Ints w A c xs) :
    Calls Tryz.prog 99 #[.slice A xs.length c, .func (.func 100) #[] #[.pointer (some ⟨B, 0, none⟩)]] w fun e w' => e = .returned (.bool (xs.any fun x => !within x 0 most)) ∧ ∃ q : Later w, w' = q.world := by
  by_cases h0 : 0 < xs.length
  · obtain ⟨b, o, rfl, hbl, hc⟩ := h.2.2 h0
    have := Tryz.slices_ContainsFunc (Value.int .i64) (fun x => !within x 0 most) 100 #[.pointer (some ⟨B, 0, none⟩)] eg_times b o xs.length c xs w (pred_times most B w hB) (Nat.le_refl _) h.2.1 (fun j hj => by
      have hq := hc j hj
      rw [Nat.mul_one, nth_eq xs j hj] at hq
      rw [List.getElem!_eq_getElem?_getD, List.getElem?_eq_getElem hj]
      exact hq)
    rw [List.take_length] at this
    exact this.mono fun _ _ ⟨he, q, hq⟩ => ⟨he, hq ▸ Later.mk_eq ((Lt.refl w).drewN q)⟩
  · have hx : xs = [] := List.length_eq_zero_iff.1 (by omega)
    subst hx
    exact (Tryz.slices_ContainsFunc_empty (α := Int) A c _ w).mono fun _ _ ⟨he, hw⟩ => ⟨he, by rw [hw]; exact Later.mk_eq (Lt.refl w)⟩

set_option maxHeartbeats 400000 in
theorem c_times (A : Option Addr) (c : Nat) (xs : List Int) (least many most : Int) (w : World) (h : Ints w A c xs) :
    Calls Tryz.prog 47 #[.slice A xs.length c, .int .i64 least, .int .i64 many, .int .i64 most] w fun e w' => e = .returned (.bool (timesB xs least many most)) ∧ ∃ q : Later w, w' = q.world := by
  have hb : Below w.heap.size w (w.alloc (.cells #[.int .i64 most] 3)) := (Lt.refl w).alloc _
  have H2 := Lib.hid (anyFunc A c xs most w.heap.size (w.alloc (.cells #[.int .i64 most] 3)) (by simp) (h.below hb))
  cases hw : within xs.length least many with
  | true =>
    have ht : timesB xs least many most = !(xs.any fun x => !within x 0 most) := by unfold timesB; rw [hw]; rfl
    rw [ht]
    have HW := Lib.hid hw
    clear h hw ht hb
    generalize (xs.any fun x => !within x 0 most) = r at H2 ⊢
    go_enter Tryz.func47, Tryz.ntmps47
    go_wp2_with (first | (go_at_call 46; refine (within_t _ HW.out).mono ?_; rintro e w' ⟨rfl, rfl⟩) | (go_at_call 99; refine H2.out.mono ?_; rintro e w' ⟨rfl, q, rfl⟩))
    go_ret
    exact ⟨rfl, Later.mk_eq (q.to ((Lt.refl w).alloc _))⟩
  | false =>
    have ht : timesB xs least many most = false := by unfold timesB; rw [hw]; rfl
    rw [ht]
    have HW := Lib.hid hw
    clear h hw ht hb H2
    go_enter Tryz.func47, Tryz.ntmps47
    go_wp2_with (go_at_call 46; refine (within_f _ HW.out).mono ?_; rintro e w' ⟨rfl, rfl⟩)
    go_ret
    exact ⟨rfl, Later.mk_eq ((Lt.refl w).alloc _)⟩

/-- The same, the length by its own name. -/
theorem c_timesN (A : Option Addr) (c n : Nat) (xs : List Int) (least many most : Int) (w : World) (hn : xs.length = n) (h : Ints w A c xs) :
    Calls Tryz.prog 47 #[.slice A n c, .int .i64 least, .int .i64 many, .int .i64 most] w fun e w' => e = .returned (.bool (timesB xs least many most)) ∧ ∃ q : Later w, w' = q.world := by
  subst hn; exact c_times A c xs least many most w h

set_option maxHeartbeats 1000000 in
theorem c_line (x : Item) (l : Line) (w : World) :
    Calls Tryz.prog 48 #[.agg #[.int .i64 x.kind, .int .i64 x.leg, .int .i64 x.target, .bool x.free], .agg #[.int .i64 l.minute, .int .i64 l.time, .bool l.jump, .int .i64 l.mark]] w fun e w' => e = .returned (.bool (decide (LineOK x l))) ∧ ∃ q : Later w, w' = q.world := by
  obtain ⟨kind, leg, target, free⟩ := x
  obtain ⟨minute, time, jump, mark⟩ := l
  generalize hr : decide (LineOK ⟨kind, leg, target, free⟩ ⟨minute, time, jump, mark⟩) = r
  have HR := Lib.hid hr
  clear hr
  go_enter Tryz.func48, Tryz.ntmps48
  go_wp2_with (go_at_call 46; refine (c_within _ _ _ _).mono ?_; rintro e w' ⟨rfl, rfl⟩)
  all_goals go_ret
  all_goals refine ⟨ret_bool ?_, Later.mk_eq (((Lt.refl w).alloc _).alloc _)⟩
  all_goals rw [← HR.out, Bool.eq_iff_iff, decide_eq_true_iff]
  all_goals unfold LineOK
  all_goals (simp only [Bool.not_eq_true', Bool.not_eq_false', within_iff, within_no, beq_iff_eq, beq_eq_false_iff_ne, Bool.not_eq_true] at *)
  all_goals (simp_all <;> omega)
theorem line_t {x : Item} {l : Line} (w : World) (h : LineOK x l) :
    Calls Tryz.prog 48 #[.agg #[.int .i64 x.kind, .int .i64 x.leg, .int .i64 x.target, .bool x.free], .agg #[.int .i64 l.minute, .int .i64 l.time, .bool l.jump, .int .i64 l.mark]] w fun e w' => e = .returned (.bool true) ∧ ∃ q : Later w, w' = q.world := by
  have := c_line x l w; rwa [decide_eq_true h] at this
theorem line_f {x : Item} {l : Line} (w : World) (h : ¬ LineOK x l) :
    Calls Tryz.prog 48 #[.agg #[.int .i64 x.kind, .int .i64 x.leg, .int .i64 x.target, .bool x.free], .agg #[.int .i64 l.minute, .int .i64 l.time, .bool l.jump, .int .i64 l.mark]] w fun e w' => e = .returned (.bool false) ∧ ∃ q : Later w, w' = q.world := by
  have := c_line x l w; rwa [decide_eq_false h] at this
theorem times_t {A : Option Addr} {c : Nat} {xs : List Int} {least many most : Int} (w : World) (h : Ints w A c xs) (ht : timesB xs least many most = true) :
    Calls Tryz.prog 47 #[.slice A xs.length c, .int .i64 least, .int .i64 many, .int .i64 most] w fun e w' => e = .returned (.bool true) ∧ ∃ q : Later w, w' = q.world := ht ▸ c_times A c xs least many most w h
theorem times_f {A : Option Addr} {c : Nat} {xs : List Int} {least many most : Int} (w : World) (h : Ints w A c xs) (ht : timesB xs least many most = false) :
    Calls Tryz.prog 47 #[.slice A xs.length c, .int .i64 least, .int .i64 many, .int .i64 most] w fun e w' => e = .returned (.bool false) ∧ ∃ q : Later w, w' = q.world := ht ▸ c_times A c xs least many most w h
end Go.Proofs.YtdpcdmcmpfjbjaaGreat
/- Walks: Check of package score. -/
namespace Go.Proofs.YtdpcdmcmpfjbjaaGreat
open Go.RowKit
set_option linter.unusedVariables false
set_option linter.unusedSimpArgs false
attribute [local go_sem] Later.cell Later.frozen Later.size Later.ne Later.cell1 Later.cell2 Later.cell3 Later.size1 Later.size2 Later.size3 Later.ne1 Later.ne2 Later.ne3

theorem wrap_leg {x y : Int} (hx : I64 x) (h0 : 0 ≤ y) (h5 : y ≤ 5) : within (wrap64 (x - y)) 0 1 = decide (y ≤ x ∧ x ≤ y + 1) := by
  unfold I64 at hx
  rw [Bool.eq_iff_iff, decide_eq_true_iff, within_iff]
  unfold wrap64
  omega

set_option maxHeartbeats 4000000 in
set_option maxRecDepth 100000 in
theorem c_check (m : PlanM) (p : Plan) (w : World) (hp : PlanIs w m p) (wf : PlanWf p) :
    Calls Tryz.prog 18 #[planV m p] w fun e w' => e = .returned (.int .i64 (errP (PlanOK p))) ∧ ∃ q : Later w, w' = q.world := by
  obtain ⟨iA, ic, jA, jc, pA, pc, eA, ec⟩ := m
  simp only [planV, planC]
  by_cases h1 : within p.items.length 1 100 = true
  · have h0 := (within_iff.1 h1).1
    have h100 := (within_iff.1 h1).2
    obtain ⟨b, o, rfl, hbl, hitem⟩ := hp.items.2.2 (by omega)
    obtain ⟨a0, a1, a2, a3⟩ := hitem 0 (by omega)
    simp only [Nat.zero_mul, Nat.add_zero] at a0 a1 a2 a3
    have HI := Lib.hid hitem
    have HP := Lib.hid hp
    have WF := Lib.hid wf
    clear hitem hp wf
    have hpos : (0 : Int) < p.items.length := by omega
    by_cases h2 : within p.classes 1 20 = true
    · by_cases h3 : (nth p.items 0).leg = 0
      · have h3b : ((nth p.items 0).leg != 0) = false := by rw [h3]; rfl
        have H3 := Lib.hid h3
        clear h3
        go_enter Tryz.func18, Tryz.ntmps18
        go_wp2_with (go_at_call 46; refine (c_within _ _ _ _).mono ?_; rintro e w' ⟨rfl, rfl⟩)
        go_loopw [28] (fun t wr => ∃ (k : Nat) (q : Later (w.alloc (.cells #[.slice (some ⟨b, o, none⟩) p.items.length ic, .int .i64 p.classes, .int .i64 p.late, .int .i64 p.early, .int .i64 p.maxLate, .int .i64 p.legLate, .slice jA p.jumps.length jc, .bool p.ret, .int .i64 p.missed, .int .i64 p.notional, .int .i64 p.percent, .int .i64 p.power, .slice pA p.points.length pc, .slice eA p.extra.length ec] 28))), t = .int .i64 k ∧ wr = q.world ∧ k ≤ p.items.length ∧ Hid (∀ j, j < k → ItemOK p j)) (fun t _ => p.items.length - (intOf t).toNat)
        case atStart => exact ⟨0, ⟨_, Lt.refl _⟩, rfl, rfl, Nat.zero_le _, fun j hj => absurd hj (Nat.not_lt_zero _)⟩
        case round =>
          obtain ⟨k, q, rfl, rfl, hk, HK⟩ := hrel
          by_cases hlt : k < p.items.length
          · obtain ⟨k0, k1, k2, k3⟩ := HI.out k hlt
            have hlz : (k : Int) < p.items.length := by omega
            have hkok : ItemOK p k ↔ (k = 0 ∨ (nth p.items (k - 1)).leg ≤ (nth p.items k).leg ∧ (nth p.items k).leg ≤ (nth p.items (k - 1)).leg + 1) ∧ (nth p.items k).leg < 6 ∧
              ((nth p.items k).kind = 1 ∧ 0 ≤ (nth p.items k).target ∧ (nth p.items k).target ≤ 1440 ∨ (nth p.items k).kind = 2 ∧ (nth p.items k).target = 0 ∧ (nth p.items k).free = false) := Iff.rfl
            have hext : ItemOK p k → Hid (∀ j, j < k + 1 → ItemOK p j) := fun h j hj => by
              by_cases e : j = k
              · exact e ▸ h
              · exact HK.out j (by omega)
            have hno : ¬ ItemOK p k → errP (PlanOK p) = 2 := fun h => errP_no fun g => h (g.item k hlt)
            have hnn := legs_nonneg H3.out k HK.out
            have hwfl := WF.out.leg k hlt
            cases k with
            | zero =>
              by_cases hl6 : (nth p.items 0).leg < 6
              · have hl6' : ¬ (6 : Int) ≤ (nth p.items 0).leg := by omega
                clear hnn hwfl
                have HKO := Lib.hid hkok
                have HNO := Lib.hid hno
                have HXT := Lib.hid hext
                clear hkok hno hext
                go_wp2_with fail
                refine wp_region_later follows_ (by kernel_rfl) ?_
                repeat (go_big_quiet_step ((go_at_call 46; first | exact Calls.quiet_same (within_t _ (by assumption)) | exact Calls.quiet_same (within_f _ (by assumption)))))
                refine wpQuiet_nil ?_
                rintro _ ⟨r, rfl⟩
                go_wp2_with (go_at_call 46; refine (c_within _ _ _ _).mono ?_; rintro e w' ⟨rfl, rfl⟩)
                all_goals first
                  | (refine ⟨⟨1, ⟨r.world, r.to (q.lt.alloc _)⟩, by go_num, rfl, by omega, HXT.out (HKO.out.2 ?_)⟩, by simp [intOf]; omega⟩; clear HKO HNO HXT HK HI HP WF H3; simp only [within_iff, within_no, Bool.not_eq_true', Bool.not_eq_false', beq_iff_eq, beq_eq_false_iff_ne] at *; simp_all; done)
                  | (go_ret; exact ⟨ret_int (HNO.out fun g => (by have g' := HKO.out.1 g; clear HKO HNO HXT HK HI HP WF H3 g; simp only [within_iff, within_no, Bool.not_eq_true', Bool.not_eq_false', beq_iff_eq, beq_eq_false_iff_ne] at *; simp_all <;> omega)).symm, Later.mk_eq (r.to ((q.to ((Lt.refl w).alloc _)).alloc _))⟩)
              · have HN := Lib.hid (hno fun h => hl6 h.2.1)
                clear hno hkok hext hnn hwfl
                go_wp2_with fail
                refine wp_region_later follows_ (by kernel_rfl) ?_
                repeat (go_big_quiet_step ((go_at_call 46; first | exact Calls.quiet_same (within_t _ (by assumption)) | exact Calls.quiet_same (within_f _ (by assumption)))))
                refine wpQuiet_nil ?_
                rintro _ ⟨r, rfl⟩
                go_wp2_with fail
                go_ret
                exact ⟨ret_int HN.out.symm, Later.mk_eq (r.to ((q.to ((Lt.refl w).alloc _)).alloc _))⟩
            | succ j =>
              simp only [Nat.add_sub_cancel] at hkok
              obtain ⟨j0, j1, j2, j3⟩ := HI.out j (by omega)
              have hj0 := hnn j (by omega)
              have hj5 := (HK.out j (by omega)).2.1
              have hww := wrap_leg hwfl hj0 (by omega)
              have w1 : IntKind.i64.wrap (j : Int) = j := IntWalk.i64_in _ (by omega)
              by_cases hlw : (nth p.items j).leg ≤ (nth p.items (j + 1)).leg ∧ (nth p.items (j + 1)).leg ≤ (nth p.items j).leg + 1
              · rw [decide_eq_true hlw] at hww
                by_cases hl6 : (nth p.items (j + 1)).leg < 6
                · have hl6' : ¬ (6 : Int) ≤ (nth p.items (j + 1)).leg := by omega
                  clear hnn hwfl
                  have HKO := Lib.hid hkok
                  have HNO := Lib.hid hno
                  have HXT := Lib.hid hext
                  have HLW := Lib.hid hlw
                  clear hkok hno hext hlw hj0 hj5
                  go_wp2_with fail
                  refine wp_region_later follows_ (by kernel_rfl) ?_
                  repeat (go_big_quiet_step ((go_at_call 46; first | exact Calls.quiet_same (within_t _ (by assumption)) | exact Calls.quiet_same (within_f _ (by assumption)))))
                  refine wpQuiet_nil ?_
                  rintro _ ⟨r, rfl⟩
                  have hlw := HLW.out
                  clear HLW
                  go_wp2_with (go_at_call 46; refine (c_within _ _ _ _).mono ?_; rintro e w' ⟨rfl, rfl⟩)
                  all_goals first
                    | (refine ⟨⟨j + 2, ⟨r.world, r.to (q.lt.alloc _)⟩, by go_num, rfl, by omega, HXT.out (HKO.out.2 ?_)⟩, by simp [intOf]; omega⟩; clear HKO HNO HXT HK HI HP WF H3; simp only [within_iff, within_no, Bool.not_eq_true', Bool.not_eq_false', beq_iff_eq, beq_eq_false_iff_ne] at *; simp_all; done)
                    | (go_ret; exact ⟨ret_int (HNO.out fun g => (by have g' := HKO.out.1 g; clear HKO HNO HXT HK HI HP WF H3 g; simp only [within_iff, within_no, Bool.not_eq_true', Bool.not_eq_false', beq_iff_eq, beq_eq_false_iff_ne] at *; simp_all <;> omega)).symm, Later.mk_eq (r.to ((q.to ((Lt.refl w).alloc _)).alloc _))⟩)
                · have HN := Lib.hid (hno fun h => hl6 h.2.1)
                  clear hno hkok hext hnn hwfl hlw hj0 hj5
                  go_wp2_with fail
                  refine wp_region_later follows_ (by kernel_rfl) ?_
                  repeat (go_big_quiet_step ((go_at_call 46; first | exact Calls.quiet_same (within_t _ (by assumption)) | exact Calls.quiet_same (within_f _ (by assumption)))))
                  refine wpQuiet_nil ?_
                  rintro _ ⟨r, rfl⟩
                  go_wp2_with fail
                  go_ret
                  exact ⟨ret_int HN.out.symm, Later.mk_eq (r.to ((q.to ((Lt.refl w).alloc _)).alloc _))⟩
              · rw [decide_eq_false hlw] at hww
                have HN := Lib.hid (hno fun h => hlw (by have := (hkok.1 h).1; omega))
                clear hno hkok hext hnn hwfl hlw hj0 hj5
                go_wp2_with fail
                refine wp_region_later follows_ (by kernel_rfl) ?_
                repeat (go_big_quiet_step ((go_at_call 46; first | exact Calls.quiet_same (within_t _ (by assumption)) | exact Calls.quiet_same (within_f _ (by assumption)))))
                refine wpQuiet_nil ?_
                rintro _ ⟨r, rfl⟩
                go_wp2_with fail
                go_ret
                exact ⟨ret_int HN.out.symm, Later.mk_eq (r.to ((q.to ((Lt.refl w).alloc _)).alloc _))⟩
          · have hke : k = p.items.length := by omega
            subst hke
            have qw := q.to ((Lt.refl w).alloc _)
            have hpw : 0 ≤ p.power → p.power < p.items.length → w.cell? ⟨b, o + p.power.toNat * 4, none⟩ = some (.int .i64 (nth p.items p.power.toNat).kind) := fun h1 h2 => (HI.out _ (by omega)).1
            have HPW := Lib.hid hpw
            clear hpw
            go_wp2_with fail
            ((with_reducible refine (c_timesN _ _ 3 [p.late, p.early, p.missed] 3 3 36000000 _ rfl (Ints.new3' _ _ _)).mono ?_); rintro e w' ⟨rfl, q1, rfl⟩)
            have q1w := q1.to ((qw.alloc _).alloc _)
            go_wp2_with fail
            rotate_left
            · go_ret
              exact ⟨ret_int (errP_no fun h => absurd h.facts.2.2.2.1 (by assumption)).symm, Later.mk_eq (q1w)⟩
            have t1 : timesB [p.late, p.early, p.missed] 3 3 36000000 = true := by assumption
            ((with_reducible refine (c_timesN _ _ 2 [p.maxLate, p.legLate] 2 2 1440 _ rfl (Ints.new2 _ _)).mono ?_); rintro e w' ⟨rfl, q2, rfl⟩)
            have q2w := q2.to (q1w.alloc _)
            go_wp2_with fail
            rotate_left
            · go_ret
              exact ⟨ret_int (errP_no fun h => absurd h.facts.2.2.2.2.1 (by assumption)).symm, Later.mk_eq (q2w)⟩
            have t2 : timesB [p.maxLate, p.legLate] 2 2 1440 = true := by assumption
            ((with_reducible refine (c_times _ _ p.jumps 1 10 36000000 _ (HP.out.jumps.later q2w)).mono ?_); rintro e w' ⟨rfl, q3, rfl⟩)
            have q3w := q3.to q2w
            have F : ∀ W, Lt q3.world W → W.cell? ⟨q.world.heap.size, 7, none⟩ = some (.int .i64 p.notional) ∧ W.cell? ⟨q.world.heap.size, 8, none⟩ = some (.int .i64 p.percent) ∧ W.cell? ⟨q.world.heap.size, 9, none⟩ = some (.int .i64 p.power) ∧
                W.cell? ⟨q.world.heap.size, 10, none⟩ = some (.slice pA p.points.length pc) ∧ W.cell? ⟨q.world.heap.size, 11, none⟩ = some (.slice eA p.extra.length ec) ∧ W.cell? ⟨w.heap.size, 0, none⟩ = some (.slice (some ⟨b, o, none⟩) p.items.length ic) := fun W hW => by
              have g := (q3.to (q2.to (q1.lt.alloc _))).trans hW
              exact ⟨g.cell (by simp), g.cell (by simp), g.cell (by simp), g.cell (by simp), g.cell (by simp), ((((q.lt.alloc _).alloc _).trans (q1.lt.alloc _)).trans ((q2.to (Lt.refl _)).trans (q3.lt.trans hW))).cell (by simp)⟩
            obtain ⟨r7, r8, r9, r10, r11, r0⟩ := F q3.world (Lt.refl _)
            by_cases t3 : timesB p.jumps 1 10 36000000 = true
            rotate_left
            · rw [Bool.not_eq_true] at t3
              go_wp2_with fail
              go_ret
              exact ⟨ret_int (errP_no fun h => nomatch h.facts.2.2.2.2.2.1.symm.trans t3).symm, Later.mk_eq q3w⟩
            by_cases n1 : 1 ≤ p.notional
            rotate_left
            · go_wp2_with fail
              go_ret
              exact ⟨ret_int (errP_no fun h => absurd h.facts.2.2.2.2.2.2.1 (by omega)).symm, Later.mk_eq q3w⟩
            by_cases n2 : p.notional ≤ 4
            rotate_left
            · go_wp2_with fail
              go_ret
              exact ⟨ret_int (errP_no fun h => absurd h.facts.2.2.2.2.2.2.2.1 (by omega)).symm, Later.mk_eq q3w⟩
            by_cases t4 : within p.percent 100 1000 = true
            rotate_left
            · rw [Bool.not_eq_true] at t4
              go_wp2_with (go_at_call 46; refine (c_within _ _ _ _).mono ?_; rintro e w' ⟨rfl, rfl⟩)
              go_ret
              exact ⟨ret_int (errP_no fun h => nomatch h.facts.2.2.2.2.2.2.2.2.1.symm.trans t4).symm, Later.mk_eq q3w⟩
            go_wp2_with (go_at_call 46; refine (c_within _ _ _ _).mono ?_; rintro e w' ⟨rfl, rfl⟩)
            ((with_reducible refine (c_times _ _ p.points 0 60 1000 _ (HP.out.points.later q3w)).mono ?_); rintro e w' ⟨rfl, q4, rfl⟩)
            have q4w := q4.to q3w
            clear r7 r8 r9 r10 r11 r0
            obtain ⟨r7, r8, r9, r10, r11, r0⟩ := F q4.world q4.lt
            by_cases t5 : timesB p.points 0 60 1000 = true
            rotate_left
            · rw [Bool.not_eq_true] at t5
              go_wp2_with fail
              go_ret
              exact ⟨ret_int (errP_no fun h => nomatch h.facts.2.2.2.2.2.2.2.2.2.1.symm.trans t5).symm, Later.mk_eq q4w⟩
            go_wp2_with fail
            ((with_reducible refine (c_times _ _ p.extra 0 60 1000 _ (HP.out.extra.later q4w)).mono ?_); rintro e w' ⟨rfl, q5, rfl⟩)
            have q5w := q5.to q4w
            clear r7 r8 r9 r10 r11 r0
            obtain ⟨r7, r8, r9, r10, r11, r0⟩ := F q5.world (q5.to q4.lt)
            by_cases t6 : timesB p.extra 0 60 1000 = true
            rotate_left
            · rw [Bool.not_eq_true] at t6
              go_wp2_with fail
              go_ret
              exact ⟨ret_int (errP_no fun h => nomatch h.facts.2.2.2.2.2.2.2.2.2.2.1.symm.trans t6).symm, Later.mk_eq q5w⟩
            by_cases t7 : within p.power (-1) (p.items.length - 1) = true
            rotate_left
            · rw [Bool.not_eq_true] at t7
              go_wp2_with (go_at_call 46; refine (c_within _ _ _ _).mono ?_; rintro e w' ⟨rfl, rfl⟩)
              go_ret
              exact ⟨ret_int (errP_no fun h => nomatch h.facts.2.2.2.2.2.2.2.2.2.2.2.symm.trans t7).symm, Later.mk_eq q5w⟩
            have tp := within_iff.1 t7
            by_cases hp0 : 0 ≤ p.power
            · have hpl : p.power < p.items.length := by omega
              have hcell := q5w.cell (HPW.out hp0 hpl)
              by_cases hk : (nth p.items p.power.toNat).kind = 2
              · have FIN := Lib.hid (errP_yes (PlanOK.of h1 h2 H3.out HK.out t1 t2 t3 n1 n2 t4 t5 t6 t7 fun _ => hk))
                have hkb : ((nth p.items p.power.toNat).kind != 2) = false := by rw [hk]; rfl
                clear hk
                go_wp2_with (go_at_call 46; refine (c_within _ _ _ _).mono ?_; rintro e w' ⟨rfl, rfl⟩)
                go_ret
                exact ⟨ret_int FIN.out.symm, Later.mk_eq q5w⟩
              · have FIN := Lib.hid (errP_no fun h : PlanOK p => hk (h.stage hp0))
                have hkb : ((nth p.items p.power.toNat).kind != 2) = true := by rw [bne_iff_ne]; exact hk
                clear hk
                go_wp2_with (go_at_call 46; refine (c_within _ _ _ _).mono ?_; rintro e w' ⟨rfl, rfl⟩)
                go_ret
                exact ⟨ret_int FIN.out.symm, Later.mk_eq q5w⟩
            · have FIN := Lib.hid (errP_yes (PlanOK.of h1 h2 H3.out HK.out t1 t2 t3 n1 n2 t4 t5 t6 t7 fun h => absurd h hp0))
              go_wp2_with (go_at_call 46; refine (c_within _ _ _ _).mono ?_; rintro e w' ⟨rfl, rfl⟩)
              go_ret
              exact ⟨ret_int FIN.out.symm, Later.mk_eq q5w⟩
      · have h3b : ((nth p.items 0).leg != 0) = true := by rw [bne_iff_ne]; exact h3
        rw [errP_no (fun h => h3 h.leg0)]
        clear h3
        go_enter Tryz.func18, Tryz.ntmps18
        go_wp2_with (go_at_call 46; refine (c_within _ _ _ _).mono ?_; rintro e w' ⟨rfl, rfl⟩)
        go_ret
        exact ⟨rfl, Later.mk_eq ((Lt.refl w).alloc _)⟩
    · rw [errP_no (fun h => h2 h.facts.2.1)]
      rw [Bool.not_eq_true] at h2
      go_enter Tryz.func18, Tryz.ntmps18
      go_wp2_with (go_at_call 46; refine (c_within _ _ _ _).mono ?_; rintro e w' ⟨rfl, rfl⟩)
      go_ret
      exact ⟨rfl, Later.mk_eq ((Lt.refl w).alloc _)⟩
  · rw [errP_no (fun h => h1 h.facts.1)]
    rw [Bool.not_eq_true] at h1
    clear hp wf
    go_enter Tryz.func18, Tryz.ntmps18
    go_wp2_with (go_at_call 46; refine (c_within _ _ _ _).mono ?_; rintro e w' ⟨rfl, rfl⟩)
    go_ret
    exact ⟨rfl, Later.mk_eq ((Lt.refl w).alloc _)⟩
theorem check_yes {m : PlanM} {p : Plan} (w : World) (hp : PlanIs w m p) (wf : PlanWf p) (h : PlanOK p) :
    Calls Tryz.prog 18 #[planV m p] w fun e w' => e = .returned (.int .i64 0) ∧ ∃ q : Later w, w' = q.world := by
  have := c_check m p w hp wf; rwa [errP_yes h] at this
theorem check_no {m : PlanM} {p : Plan} (w : World) (hp : PlanIs w m p) (wf : PlanWf p) (h : ¬ PlanOK p) :
    Calls Tryz.prog 18 #[planV m p] w fun e w' => e = .returned (.int .i64 2) ∧ ∃ q : Later w, w' = q.world := by
  have := c_check m p w hp wf; rwa [errP_no h] at this
end Go.Proofs.YtdpcdmcmpfjbjaaGreat
