/- Walks: Cards, Real, Basis of the reference; Walks: Basis of the reference. -/
import Derived.Test.YtdpcdmcmpfjbjaaGreatJFA
import Derived.Deep.RegionLaw
/- Walks: Cards, Real, Basis of the reference. -/
namespace Go.Proofs.YtdpcdmcmpfjbjaaGreat
open Go.RowKit
set_option linter.unusedVariables false
set_option linter.unusedSimpArgs false
attribute [local go_sem] Later.cell Later.frozen Later.size Later.ne Later.cell1 Later.cell2 Later.cell3 Later.size1 Later.size2 Later.size3 Later.ne1 Later.ne2 Later.ne3

/-- A plan in a new block. -/
structure Boxed1 (w W0 : World) (m : PlanM) (p : Plan) : Prop where
  lt : Lt w W0
  sz : w.heap.size < W0.heap.size
  plan : PlanAt W0 w.heap.size m p
theorem boxed1 (w : World) (m : PlanM) (p : Plan) : ∃ W0, w.alloc (.cells (planC m p) 28) = W0 ∧ Boxed1 w W0 m p :=
  ⟨_, rfl, (Lt.refl w).alloc _, by simp, PlanAt.new⟩

set_option maxHeartbeats 2000000 in
set_option maxRecDepth 100000 in
theorem r_Cards (m : PlanM) (p : Plan) (A : Option Addr) (c : Nat) (cards : List Card) (w : World) (hp : PlanIs w m p) (hc : Cards w A c cards) (hP : PlanOK p) :
    Calls Tryz.prog 24 #[planV m p, .slice A cards.length c] w fun e w' => e = .returned (.bool (prb (cardsOK p cards))) ∧ ∃ q : Later w, w' = q.world := by
  have hHC := fun (W : World) (h : Lt w W) (cm : CardM) (x : Card) (hx : CardIs W cm x) => r_Card m p cm x W (hp.later h) hx hP
  have hcm := hc.2.1
  obtain ⟨W0, hW0, hB⟩ := boxed1 w m p
  have HC := Lib.hid (hc.later hB.lt)
  have HL0 := Lib.hid hB.lt
  have hbw := hB.sz
  have p0 := hB.plan.c0
  have p1 := hB.plan.c1
  have p2 := hB.plan.c2
  have p3 := hB.plan.c3
  have p4 := hB.plan.c4
  have p5 := hB.plan.c5
  have p6 := hB.plan.c6
  have p7 := hB.plan.c7
  have p8 := hB.plan.c8
  have p9 := hB.plan.c9
  have p10 := hB.plan.c10
  have p11 := hB.plan.c11
  have p12 := hB.plan.c12
  have p13 := hB.plan.c13
  obtain ⟨iA, ic, jA, jc, pA, pc, eA, ec⟩ := m
  simp only [planV, cardV, planC, cardC] at hW0 hHC ⊢
  have HCA := Lib.hid (fun W (h : Lt W0 W) => hHC W (HL0.out.trans h))
  have HW0 := Lib.hid hW0
  clear hW0 hB hp hc hHC hP
  by_cases h2 : cards.length ≤ 200
  rotate_left
  · have h2b : decide ((200 : Int) < (cards.length : Int)) = true := by rw [decide_eq_true_iff]; omega
    rw [prb_no (fun h => h2 h.1)]
    go_enter Tryz.func24, Tryz.ntmps24
    go_upto_region 1 with fail
    rw [HW0.out]
    go_wp2_with fail
    go_ret
    exact ⟨rfl, Later.mk_eq HL0.out⟩
  have h2b : decide ((200 : Int) < (cards.length : Int)) = false := by rw [decide_eq_false_iff_not]; omega
  go_enter Tryz.func24, Tryz.ntmps24
  go_upto_region 1 with fail
  rw [HW0.out]
  go_wp2_with fail
  go_loopw [5] (fun t wr => ∃ (k : Nat) (q : Later W0), t = .int .i64 k ∧ wr = q.world ∧ k ≤ cards.length ∧ Hid (∀ j, j < k → CardOK p (nth cards j))) (fun t _ => cards.length - (intOf t).toNat)
  case atStart => exact ⟨0, ⟨W0, Lt.refl W0⟩, rfl, rfl, Nat.zero_le _, fun j hj => absurd hj (Nat.not_lt_zero _)⟩
  case round =>
    obtain ⟨k, q, rfl, rfl, hk, HK⟩ := hrel
    by_cases hlt : k < cards.length
    · have hkz : (k : Int) < cards.length := by omega
      obtain ⟨b, o, rfl, hbl, cm, hcm2, x0, x1, x2⟩ := HC.out.at_ k hlt
      have HCK := Lib.hid (fun W (h : Lt W0 W) => HCA.out W h cm (nth cards k) (hcm2.later h))
      clear hcm2
      by_cases hok : CardOK p (nth cards k)
      · have hb : prb (CardOK p (nth cards k)) = true := prb_yes hok
        have HOK := Lib.hid hok
        clear hok
        go_wp2_with fail
        refine wp_region_laterB q follows_ (by kernel_rfl) ?_
        repeat (go_big_quiet_step ((go_at_call 21; exact Calls.quiet_later (HCK.out _ (Later.lt _)))))
        refine wpQuiet_nil ?_
        rintro _ ⟨q1, rfl⟩
        go_wp2_with fail
        exact ⟨⟨k + 1, q1, by go_num, rfl, by omega, fun j hj => by
          by_cases e : j = k
          · rw [e]; exact HOK.out
          · exact HK.out j (by omega)⟩, by simp [intOf]; omega⟩
      · have hb : prb (CardOK p (nth cards k)) = false := prb_no hok
        have HN := Lib.hid (prb_no fun h : cardsOK p cards => hok (h.2 k hlt))
        clear hok
        go_wp2_with fail
        refine wp_region_laterB q follows_ (by kernel_rfl) ?_
        repeat (go_big_quiet_step ((go_at_call 21; exact Calls.quiet_later (HCK.out _ (Later.lt _)))))
        refine wpQuiet_nil ?_
        rintro _ ⟨q1, rfl⟩
        go_wp2_with fail
        go_ret
        exact ⟨ret_bool HN.out.symm, Later.mk_eq (q1.to HL0.out)⟩
    · have hke : k = cards.length := by omega
      subst hke
      have HN := Lib.hid (prb_yes (show cardsOK p cards from ⟨h2, HK.out⟩))
      go_wp2_with fail
      go_ret
      exact ⟨ret_bool HN.out.symm, Later.mk_eq (q.to HL0.out)⟩

set_option maxHeartbeats 4000000 in
set_option maxRecDepth 100000 in
theorem r_Real (m : PlanM) (p : Plan) (A : Option Addr) (c : Nat) (cards : List Card) (i : Nat) (cls : Int) (w : World) (hp : PlanIs w m p) (hc : Cards w A c cards) (hP : PlanOK p) (hO : cardsOK p cards) (hi : i < p.items.length) :
    Calls Tryz.prog 63 #[planV m p, .slice A cards.length c, .int .i64 i, .int .i64 cls] w fun e w' => ∃ B cap, e = .returned (.slice B (realP p cards i cls).length cap) ∧ ∃ q : Later w, w' = q.world ∧ Ints q.world B cap (nums (realP p cards i cls)) := by
  have hHI := fun (W : World) (h : Lt w W) (cm : CardM) (k : Nat) (hk : k < cards.length) (hx : CardIs W cm (nth cards k)) => r_In m p cm (nth cards k) i W (hp.later h) hx hP (hO.2 k hk)
  have hcm := hc.2.1
  have hfew := hO.1
  have HLN := Lib.hid (fun k (hk : k < cards.length) => (by rw [(hO.2 k hk).lines]; exact hi : i < (nth cards k).lines.length))
  obtain ⟨W0, hW0, hB⟩ := boxed1 w m p
  have HC := Lib.hid (hc.later hB.lt)
  have HL0 := Lib.hid hB.lt
  have hbw := hB.sz
  have p0 := hB.plan.c0
  have p1 := hB.plan.c1
  have p2 := hB.plan.c2
  have p3 := hB.plan.c3
  have p4 := hB.plan.c4
  have p5 := hB.plan.c5
  have p6 := hB.plan.c6
  have p7 := hB.plan.c7
  have p8 := hB.plan.c8
  have p9 := hB.plan.c9
  have p10 := hB.plan.c10
  have p11 := hB.plan.c11
  have p12 := hB.plan.c12
  have p13 := hB.plan.c13
  obtain ⟨iA, ic, jA, jc, pA, pc, eA, ec⟩ := m
  simp only [planV, cardV, planC, cardC] at hW0 hHI ⊢
  have HI := Lib.hid (fun W (h : Lt W0 W) => hHI W (HL0.out.trans h))
  have HW0 := Lib.hid hW0
  clear hW0 hB hp hc hHI hP hO
  go_enter Tryz.func63, Tryz.ntmps63
  go_upto_region 1 with fail
  rw [HW0.out]
  go_wp2_with fail
  go_loopw [9, 10] (fun v t wr => ∃ (k : Nat) (q : Later W0) (v' : Value), v' = v ∧ t = .int .i64 k ∧ wr = q.world ∧ k ≤ cards.length ∧ Hid (OwnI q.world W0.heap.size v' (nums (realTo p cards i cls k)))) (fun _ t _ => cards.length - (intOf t).toNat)
  case atStart => exact ⟨0, ⟨W0, Lt.refl W0⟩, _, rfl, rfl, rfl, Nat.zero_le _, Lib.hid (OwnI.nil _ _)⟩
  case round =>
    obtain ⟨k, q, v, rfl, rfl, rfl, hk, HO⟩ := hrel
    by_cases hlt : k < cards.length
    · have hkz : (k : Int) < cards.length := by omega
      obtain ⟨b, o, rfl, hbl, cm, hcm2, x0, x1, x2⟩ := HC.out.at_ k hlt
      have HIK := Lib.hid (fun W (h : Lt W0 W) => HI.out W h cm k hlt (hcm2.later h))
      have hil := HLN.out k hlt
      have hilz : (i : Int) < (nth cards k).lines.length := by omega
      obtain ⟨nb, no, hlA, hnb, n0, n1, n2, n3⟩ := hcm2.lines.at_ i hil
      rw [hlA] at x2
      rw [hlA] at HIK
      have hreal : isReal p cards i cls k = (decide ((nth (nth cards k).lines i).mark = 0) && (runsP p (nth cards k) i && (decide (cls < 0) || decide ((nth cards k).cls = cls)))) := rfl
      have hnext := realTo_succ p cards i cls k
      have hlen := realTo_length p cards i cls k
      have HLNG := Lib.hid (show (nums (realTo p cards i cls k)).length ≤ 1000000 by rw [nums_length]; omega)
      clear hcm2 hlA hlen
      generalize runsP p (nth cards k) i = R at *
      by_cases hmk : (nth (nth cards k).lines i).mark = 0
      rotate_left
      · have hmb : ((nth (nth cards k).lines i).mark == 0) = false := beq_eq_false_iff_ne.2 hmk
        rw [hreal, decide_eq_false hmk, Bool.false_and, if_neg (by decide)] at hnext
        have HN := Lib.hid hnext
        clear hmk hnext hreal
        go_wp2_with fail
        exact ⟨⟨k + 1, ⟨_, q.lt.alloc _⟩, _, rfl, by go_num, rfl, by omega, by rw [HN.out]; exact Lib.hid (HO.out.later ((Lt.refl _).alloc _))⟩, by simp [intOf]; omega⟩
      have hmb : ((nth (nth cards k).lines i).mark == 0) = true := beq_iff_eq.2 hmk
      rw [hreal, decide_eq_true hmk, Bool.true_and] at hnext
      clear hmk hreal
      cases R with
      | false =>
        rw [Bool.false_and, if_neg (by decide)] at hnext
        have HN := Lib.hid hnext
        clear hnext
        go_wp2_with fail
        refine (HIK.out _ (q.lt.alloc _)).mono ?_
        rintro e w' ⟨rfl, q1, rfl⟩
        have hq1 : Lt q.world q1.world := q1.to ((Lt.refl _).alloc _)
        have hO1 := HO.out.later hq1
        have y0 : q1.world.cell? ⟨q.world.heap.size, 0, none⟩ = some (.int .i64 (nth cards k).cls) := q1.lt.cell (by simp)
        have hyb : q.world.heap.size < q1.world.heap.size := World.block_lt_of_cell? _ _ y0
        obtain ⟨q2, hq2⟩ : ∃ q2 : Later W0, q1.world = q2.world := ⟨⟨_, q.lt.trans hq1⟩, rfl⟩
        rw [hq2] at hO1 y0 hyb ⊢
        generalize q.world.heap.size = YB at *
        clear hq1 hq2 q1
        have HO2 := Lib.hid hO1
        clear hO1 HO
        go_wp2_with fail
        exact ⟨⟨k + 1, q2, _, rfl, by go_num, rfl, by omega, by rw [HN.out]; exact HO2⟩, by simp [intOf]; omega⟩
      | true =>
        rw [Bool.true_and] at hnext
        by_cases hcl : cls < 0
        · have hcb : decide (cls < 0) = true := decide_eq_true hcl
          rw [hcb, Bool.true_or, if_pos rfl] at hnext
          have HN := Lib.hid hnext
          clear hnext
          go_wp2_with fail
          refine (HIK.out _ (q.lt.alloc _)).mono ?_
          rintro e w' ⟨rfl, q1, rfl⟩
          have hq1 : Lt q.world q1.world := q1.to ((Lt.refl _).alloc _)
          have hO1 := HO.out.later hq1
          have y0 : q1.world.cell? ⟨q.world.heap.size, 0, none⟩ = some (.int .i64 (nth cards k).cls) := q1.lt.cell (by simp)
          have hyb : q.world.heap.size < q1.world.heap.size := World.block_lt_of_cell? _ _ y0
          obtain ⟨q2, hq2⟩ : ∃ q2 : Later W0, q1.world = q2.world := ⟨⟨_, q.lt.trans hq1⟩, rfl⟩
          rw [hq2] at hO1 y0 hyb ⊢
          generalize q.world.heap.size = YB at *
          clear hq1 hq2 q1
          have HO2 := Lib.hid hO1
          clear hO1 HO
          go_wp2_with (at_builtin; refine wp_app (w0 := W0) rfl _ _ rfl v (nums (realTo p cards i cls k)) (k : Nat) rfl rfl HO2.out q2.lt HLNG.out ?_; intro v1 q3 hO3 _)
          exact ⟨⟨k + 1, q3, _, rfl, by go_num, rfl, by omega, by rw [HN.out, nums_append]; exact Lib.hid hO3⟩, by simp [intOf]; omega⟩
        · have hcb : decide (cls < 0) = false := decide_eq_false hcl
          rw [hcb, Bool.false_or] at hnext
          by_cases hce : (nth cards k).cls = cls
          · have hceb : ((nth cards k).cls == cls) = true := beq_iff_eq.2 hce
            rw [decide_eq_true hce, if_pos rfl] at hnext
            have HN := Lib.hid hnext
            clear hnext hce
            go_wp2_with fail
            refine (HIK.out _ (q.lt.alloc _)).mono ?_
            rintro e w' ⟨rfl, q1, rfl⟩
            have hq1 : Lt q.world q1.world := q1.to ((Lt.refl _).alloc _)
            have hO1 := HO.out.later hq1
            have y0 : q1.world.cell? ⟨q.world.heap.size, 0, none⟩ = some (.int .i64 (nth cards k).cls) := q1.lt.cell (by simp)
            have hyb : q.world.heap.size < q1.world.heap.size := World.block_lt_of_cell? _ _ y0
            obtain ⟨q2, hq2⟩ : ∃ q2 : Later W0, q1.world = q2.world := ⟨⟨_, q.lt.trans hq1⟩, rfl⟩
            rw [hq2] at hO1 y0 hyb ⊢
            generalize q.world.heap.size = YB at *
            clear hq1 hq2 q1
            have HO2 := Lib.hid hO1
            clear hO1 HO
            go_wp2_with (at_builtin; refine wp_app (w0 := W0) rfl _ _ rfl v (nums (realTo p cards i cls k)) (k : Nat) rfl rfl HO2.out q2.lt HLNG.out ?_; intro v1 q3 hO3 _)
            exact ⟨⟨k + 1, q3, _, rfl, by go_num, rfl, by omega, by rw [HN.out, nums_append]; exact Lib.hid hO3⟩, by simp [intOf]; omega⟩
          · have hceb : ((nth cards k).cls == cls) = false := beq_eq_false_iff_ne.2 hce
            rw [decide_eq_false hce, if_neg (by decide)] at hnext
            have HN := Lib.hid hnext
            clear hnext hce
            go_wp2_with fail
            refine (HIK.out _ (q.lt.alloc _)).mono ?_
            rintro e w' ⟨rfl, q1, rfl⟩
            have hq1 : Lt q.world q1.world := q1.to ((Lt.refl _).alloc _)
            have hO1 := HO.out.later hq1
            have y0 : q1.world.cell? ⟨q.world.heap.size, 0, none⟩ = some (.int .i64 (nth cards k).cls) := q1.lt.cell (by simp)
            have hyb : q.world.heap.size < q1.world.heap.size := World.block_lt_of_cell? _ _ y0
            obtain ⟨q2, hq2⟩ : ∃ q2 : Later W0, q1.world = q2.world := ⟨⟨_, q.lt.trans hq1⟩, rfl⟩
            rw [hq2] at hO1 y0 hyb ⊢
            generalize q.world.heap.size = YB at *
            clear hq1 hq2 q1
            have HO2 := Lib.hid hO1
            clear hO1 HO
            go_wp2_with fail
            exact ⟨⟨k + 1, q2, _, rfl, by go_num, rfl, by omega, by rw [HN.out]; exact HO2⟩, by simp [intOf]; omega⟩
    · have hke : k = cards.length := by omega
      subst hke
      obtain ⟨B, cap, hf⟩ := HO.out.form
      rw [nums_length] at hf
      subst hf
      have HR := Lib.hid (show Ints q.world B cap (nums (realP p cards i cls)) by
        have h2 := HO.out
        rw [← nums_length (realTo p cards i cls cards.length)] at h2
        exact h2.ints)
      go_wp2_with fail
      go_ret
      exact ⟨B, cap, rfl, ⟨q.world, q.to HL0.out⟩, rfl, HR.out⟩
end Go.Proofs.YtdpcdmcmpfjbjaaGreat
/- Walks: Basis of the reference. -/
namespace Go.Proofs.YtdpcdmcmpfjbjaaGreat
open Go.RowKit
set_option linter.unusedVariables false
set_option linter.unusedSimpArgs false
attribute [local go_sem] Later.cell Later.frozen Later.size Later.ne Later.cell1 Later.cell2 Later.cell3 Later.size1 Later.size2 Later.size3 Later.ne1 Later.ne2 Later.ne3

set_option maxHeartbeats 4000000 in
set_option maxRecDepth 100000 in
theorem r_Basis (m : PlanM) (p : Plan) (A : Option Addr) (c : Nat) (cards : List Card) (i k : Nat) (w : World) (hp : PlanIs w m p) (hc : Cards w A c cards) (hP : PlanOK p) (hO : cardsOK p cards) (hi : i < p.items.length) (hk : k < cards.length) :
    Calls Tryz.prog 28 #[planV m p, .slice A cards.length c, .int .i64 i, .int .i64 k] w fun e w' => ∃ B cap, e = .returned (.slice B (chosenP p cards k i).length cap) ∧ ∃ q : Later w, w' = q.world ∧ Ints q.world B cap (nums (chosenP p cards k i)) := by
  have hHR := fun (W : World) (h : Lt w W) (cls : Int) => r_Real m p A c cards i cls W (hp.later h) (hc.later h) hP hO hi
  have hcm := hc.2.1
  have hkz : (k : Int) < cards.length := by omega
  obtain ⟨W0, hW0, hB⟩ := boxed1 w m p
  have HL0 := Lib.hid hB.lt
  have hbw := hB.sz
  have p0 := hB.plan.c0
  have p1 := hB.plan.c1
  have p2 := hB.plan.c2
  have p3 := hB.plan.c3
  have p4 := hB.plan.c4
  have p5 := hB.plan.c5
  have p6 := hB.plan.c6
  have p7 := hB.plan.c7
  have p8 := hB.plan.c8
  have p9 := hB.plan.c9
  have p10 := hB.plan.c10
  have p11 := hB.plan.c11
  have p12 := hB.plan.c12
  have p13 := hB.plan.c13
  obtain ⟨b, o, rfl, hbl, cm, hcm2, x0, x1, x2⟩ := (hc.later hB.lt).at_ k hk
  have HCH := Lib.hid (show chosenP p cards k i = if 0 < (realP p cards i (nth cards k).cls).length then realP p cards i (nth cards k).cls else realP p cards i (-1) from rfl)
  have hfew := realTo_length p cards i (nth cards k).cls cards.length
  obtain ⟨iA, ic, jA, jc, pA, pc, eA, ec⟩ := m
  simp only [planV, planC] at hW0 hHR ⊢
  have HR := Lib.hid (fun W (h : Lt W0 W) => hHR W (HL0.out.trans h))
  have HW0 := Lib.hid hW0
  clear hW0 hB hp hc hHR hP hO hcm2
  have hfew2 : (realP p cards i (nth cards k).cls).length ≤ cards.length := hfew
  clear hfew
  go_enter Tryz.func28, Tryz.ntmps28
  go_upto_region 1 with fail
  rw [HW0.out]
  go_region_law (first | (go_simp; go_at_call 63; refine (HR.out _ ?_ _).mono ?_; (first | exact (Lt.refl _).drew | exact Lt.refl _); rintro e w1 ⟨B1, c1, rfl, q1, rfl, hI1⟩))
  all_goals
    have h1 : Lt W0 q1.world := (by first | exact q1.to (Lt.refl _).drew | exact q1.lt)
    obtain ⟨q2, hq2⟩ : ∃ q2 : Later W0, q1.world = q2.world := ⟨⟨_, h1⟩, rfl⟩
    rw [hq2] at hI1 ⊢
    have HI1 := Lib.hid hI1
    clear hq2 h1 q1 hI1
    by_cases hl : 0 < (realP p cards i (nth cards k).cls).length
    · have hlb : decide ((0 : Int) < ((realP p cards i (nth cards k).cls).length : Int)) = true := by rw [decide_eq_true_iff]; omega
      have HE := Lib.hid (HCH.out.trans (if_pos hl))
      go_wp2_with fail
      go_ret
      exact ⟨B1, c1, ret_slice (by rw [HE.out]), ⟨q2.world, q2.to HL0.out⟩, rfl, by rw [HE.out]; exact HI1.out⟩
    · have hlb : decide ((0 : Int) < ((realP p cards i (nth cards k).cls).length : Int)) = false := by rw [decide_eq_false_iff_not]; omega
      have HE := Lib.hid (HCH.out.trans (if_neg hl))
      go_wp2_with fail
      refine (HR.out _ q2.lt _).mono ?_
      rintro e w2 ⟨B2, c2, rfl, q3, rfl, hI2⟩
      have HI2 := Lib.hid hI2
      clear hI2
      go_wp2_with fail
      go_ret
      exact ⟨B2, c2, ret_slice (by rw [HE.out]), ⟨q3.world, q3.to (q2.to HL0.out)⟩, rfl, by rw [HE.out]; exact HI2.out⟩
end Go.Proofs.YtdpcdmcmpfjbjaaGreat
