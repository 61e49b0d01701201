/- Walks: Due, Out, Time, Total of package score; Walks: Due of package score. -/
import Derived.Test.YtdpcdmcmpfjbjaaGreatJG
import Derived.Test.YtdpcdmcmpfjbjaaGreatJE
/- Walks: Due, Out, Time, Total of package score. -/
namespace Go.Proofs.YtdpcdmcmpfjbjaaGreat
open Go.RowKit
set_option linter.unusedVariables false
set_option linter.unusedSimpArgs false
attribute [local go_sem] Later.cell Later.frozen Later.size Later.ne Later.cell1 Later.cell2 Later.cell3 Later.size1 Later.size2 Later.size3 Later.ne1 Later.ne2 Later.ne3

open Classical in
/-- What Total returns: the total, and the error. -/
noncomputable def TotalR (p : Plan) (cards : List Card) (car : Int) : Int × Int :=
  if (PlanOK p ∧ cardsOK p cards) ∧ 0 ≤ car ∧ car < cards.length then (totalP p cards car.toNat, 0) else (0, 2)
open Classical in
/-- What Time returns. -/
noncomputable def TimeR (p : Plan) (cards : List Card) (car item : Int) : Int × Int :=
  if (PlanOK p ∧ cardsOK p cards) ∧ (0 ≤ car ∧ car < cards.length) ∧ (0 ≤ item ∧ item < p.items.length) ∧ (nth p.items item.toNat).kind = 2 then
    (if runsP p (nth cards car.toNat) item.toNat = true then (timeP p cards car.toNat item.toNat, 0) else (0, 5))
  else (0, 2)
open Classical in
/-- What Out returns. -/
noncomputable def OutR (p : Plan) (c : Card) : Int × Int := if PlanOK p ∧ CardOK p c then (outP p c, 0) else (0, 2)
open Classical in
/-- What Due returns. -/
noncomputable def DueR (p : Plan) (c : Card) (item : Int) : Int × Int :=
  if (PlanOK p ∧ CardOK p c) ∧ (0 ≤ item ∧ item < p.items.length) ∧ (nth p.items item.toNat).kind = 1 then
    (if (nth c.lines item.toNat).mark = 2 then (0, 5) else (dueP p c item.toNat, 0))
  else (0, 2)

set_option maxHeartbeats 2000000 in
set_option maxRecDepth 100000 in
theorem c_Total (m : PlanM) (p : Plan) (A : Option Addr) (c : Nat) (cards : List Card) (car : Int) (w : World) (hp : PlanIs w m p) (wf : PlanWf p) (hc : Cards w A c cards) :
    Calls Tryz.prog 23 #[planV m p, .slice A cards.length c, .int .i64 car] w fun e w' => e = .returned (.tuple #[.int .i64 (TotalR p cards car).1, .int .i64 (TotalR p cards car).2]) ∧ ∃ q : Later w, w' = q.world := by
  have hcm := hc.2.1
  by_cases hO : PlanOK p ∧ cardsOK p cards
  · have HB := Lib.hid (fun W (h : Lt w W) => c_begin m p A c cards W (hp.later h) wf (hc.later h) hO.1 hO.2)
    by_cases h1 : 0 ≤ car ∧ car < cards.length
    · have hT : TotalR p cards car = (totalP p cards car.toNat, 0) := if_pos ⟨hO, h1⟩
      obtain ⟨k, rfl⟩ := Int.eq_ofNat_of_zero_le h1.1
      rw [Int.toNat_natCast] at hT
      rw [hT]
      have hb : within (k : Int) 0 ((cards.length : Int) - 1) = true := within_iff.2 (by omega)
      have hk : k < cards.length := by omega
      have HT := Lib.hid (fun W g em (he : EventIs W g em p cards) => c_total g em p cards k W he hO.1 hO.2 hk)
      generalize totalP p cards k = T at *
      clear hT hp hc hO wf h1
      obtain ⟨iA, ic, jA, jc, pA, pc, eA, ec⟩ := m
      simp only [planV, planC] at HB ⊢
      go_enter Tryz.func23, Tryz.ntmps23
      go_wp2_with fail
      refine (HB.out _ ((Lt.refl w).alloc _)).mono ?_
      rintro e w' ⟨g, oA, oc, rfl, q, rfl, he⟩
      have HE := Lib.hid he
      clear he
      go_wp2_with (first | (go_at_call 46; refine (c_within _ _ _ _).mono ?_; rintro e w' ⟨rfl, rfl⟩) | fail)
      refine (HT.out _ _ _ HE.out).mono ?_
      rintro e w' ⟨rfl, q2, rfl⟩
      go_wp2_with fail
      go_ret2
      exact ⟨rfl, ⟨q2.world, q2.to (q.to ((Lt.refl w).alloc _))⟩, rfl⟩
    · have hT : TotalR p cards car = (0, 2) := if_neg (fun h => h1 h.2)
      rw [hT]
      have hb : within car 0 ((cards.length : Int) - 1) = false := within_no.2 (by omega)
      clear hT hp hc hO wf h1
      obtain ⟨iA, ic, jA, jc, pA, pc, eA, ec⟩ := m
      simp only [planV, planC] at HB ⊢
      go_enter Tryz.func23, Tryz.ntmps23
      go_wp2_with fail
      refine (HB.out _ ((Lt.refl w).alloc _)).mono ?_
      rintro e w' ⟨g, oA, oc, rfl, q, rfl, he⟩
      clear he
      go_wp2_with (first | (go_at_call 46; refine (c_within _ _ _ _).mono ?_; rintro e w' ⟨rfl, rfl⟩) | fail)
      go_ret2
      exact ⟨rfl, ⟨q.world, q.to ((Lt.refl w).alloc _)⟩, rfl⟩
  · have HB := Lib.hid (fun W (h : Lt w W) => c_begin_no m p A c cards W (hp.later h) wf (hc.later h) hO)
    have hT : TotalR p cards car = (0, 2) := if_neg (fun h => hO h.1)
    rw [hT]
    clear hT hp hc hO wf
    obtain ⟨iA, ic, jA, jc, pA, pc, eA, ec⟩ := m
    simp only [planV, planC] at HB ⊢
    go_enter Tryz.func23, Tryz.ntmps23
    go_wp2_with fail
    refine (HB.out _ ((Lt.refl w).alloc _)).mono ?_
    rintro e w' ⟨rfl, q, rfl⟩
    go_wp2_with fail
    go_ret2
    exact ⟨rfl, ⟨q.world, q.to ((Lt.refl w).alloc _)⟩, rfl⟩

set_option maxHeartbeats 4000000 in
set_option maxRecDepth 100000 in
theorem c_Time (m : PlanM) (p : Plan) (A : Option Addr) (c : Nat) (cards : List Card) (car item : Int) (w : World) (hp : PlanIs w m p) (wf : PlanWf p) (hc : Cards w A c cards) :
    Calls Tryz.prog 22 #[planV m p, .slice A cards.length c, .int .i64 car, .int .i64 item] w fun e w' => e = .returned (.tuple #[.int .i64 (TimeR p cards car item).1, .int .i64 (TimeR p cards car item).2]) ∧ ∃ q : Later w, w' = q.world := by
  have hcm := hc.2.1
  have him := hp.items.2.1
  have HPA := Lib.hid (show PlanAt (w.alloc (.cells (planC m p) 28)) w.heap.size m p from PlanAt.new)
  by_cases hO : PlanOK p ∧ cardsOK p cards
  · have HB := Lib.hid (fun W (h : Lt w W) => c_begin m p A c cards W (hp.later h) wf (hc.later h) hO.1 hO.2)
    by_cases h1 : 0 ≤ car ∧ car < cards.length
    · obtain ⟨k, rfl⟩ := Int.eq_ofNat_of_zero_le h1.1
      have hb : within (k : Int) 0 ((cards.length : Int) - 1) = true := within_iff.2 (by omega)
      have hk : k < cards.length := by omega
      by_cases h2 : 0 ≤ item ∧ item < p.items.length
      · obtain ⟨i, rfl⟩ := Int.eq_ofNat_of_zero_le h2.1
        have hbi : within (i : Int) 0 ((p.items.length : Int) - 1) = true := within_iff.2 (by omega)
        have hi : i < p.items.length := by omega
        have HS := Lib.hid (fun W g em (he : EventIs W g em p cards) => c_stage g em p cards i W he hi)
        by_cases h3 : (nth p.items i).kind = 2
        · have hs : ((nth p.items i).kind == 2) = true := beq_iff_eq.2 h3
          rw [hs] at HS
          have HR := Lib.hid (fun W g em (he : EventIs W g em p cards) => c_runs g em p cards k i W he hk)
          cases hr : runsP p (nth cards k) i with
          | true =>
            have hT : TimeR p cards k i = (timeP p cards k i, 0) := by
              unfold TimeR; rw [if_pos ⟨hO, h1, h2, by rw [Int.toNat_natCast]; exact h3⟩, Int.toNat_natCast, Int.toNat_natCast, if_pos hr]
            rw [hT]
            rw [hr] at HR
            have HT := Lib.hid (fun W g em (he : EventIs W g em p cards) => c_time g em p cards k i W he hO.1 hO.2 hk hi)
            generalize timeP p cards k i = T at *
            clear hT hp hc hO wf h1 h2 h3 hs hr
            obtain ⟨iA, ic, jA, jc, pA, pc, eA, ec⟩ := m
            simp only [planV, planC] at HB HPA ⊢
            go_enter Tryz.func22, Tryz.ntmps22
            go_wp2_with fail
            refine (HB.out _ ((Lt.refl w).alloc _)).mono ?_
            rintro e w' ⟨g, oA, oc, rfl, q, rfl, he⟩
            have HE := Lib.hid he
            have pc0 := (HPA.out.later q.lt).c0
            clear he
            go_wp2_with (first | (go_at_call 46; refine (c_within _ _ _ _).mono ?_; rintro e w' ⟨rfl, rfl⟩) | (go_at_call 54; refine (HS.out _ _ _ HE.out).mono ?_; rintro e w' ⟨rfl, rfl⟩) | (go_at_call 55; refine (HR.out _ _ _ HE.out).mono ?_; rintro e w' ⟨rfl, rfl⟩) | fail)
            refine (HT.out _ _ _ HE.out).mono ?_
            rintro e w' ⟨rfl, q2, rfl⟩
            go_wp2_with fail
            go_ret2
            exact ⟨rfl, ⟨q2.world, q2.to (q.to ((Lt.refl w).alloc _))⟩, rfl⟩
          | false =>
            have hT : TimeR p cards k i = (0, 5) := by
              unfold TimeR; rw [if_pos ⟨hO, h1, h2, by rw [Int.toNat_natCast]; exact h3⟩, Int.toNat_natCast, Int.toNat_natCast, if_neg (by rw [hr]; decide)]
            rw [hT]
            rw [hr] at HR
            clear hT hp hc hO wf h1 h2 h3 hs hr
            obtain ⟨iA, ic, jA, jc, pA, pc, eA, ec⟩ := m
            simp only [planV, planC] at HB HPA ⊢
            go_enter Tryz.func22, Tryz.ntmps22
            go_wp2_with fail
            refine (HB.out _ ((Lt.refl w).alloc _)).mono ?_
            rintro e w' ⟨g, oA, oc, rfl, q, rfl, he⟩
            have HE := Lib.hid he
            have pc0 := (HPA.out.later q.lt).c0
            clear he
            go_wp2_with (first | (go_at_call 46; refine (c_within _ _ _ _).mono ?_; rintro e w' ⟨rfl, rfl⟩) | (go_at_call 54; refine (HS.out _ _ _ HE.out).mono ?_; rintro e w' ⟨rfl, rfl⟩) | (go_at_call 55; refine (HR.out _ _ _ HE.out).mono ?_; rintro e w' ⟨rfl, rfl⟩) | fail)
            go_ret2
            exact ⟨rfl, ⟨q.world, q.to ((Lt.refl w).alloc _)⟩, rfl⟩
        · have hs : ((nth p.items i).kind == 2) = false := beq_eq_false_iff_ne.2 h3
          rw [hs] at HS
          have hT : TimeR p cards k i = (0, 2) := if_neg (fun h => h3 (by have := h.2.2.2; rwa [Int.toNat_natCast] at this))
          rw [hT]
          clear hT hp hc hO wf h1 h2 h3 hs
          obtain ⟨iA, ic, jA, jc, pA, pc, eA, ec⟩ := m
          simp only [planV, planC] at HB HPA ⊢
          go_enter Tryz.func22, Tryz.ntmps22
          go_wp2_with fail
          refine (HB.out _ ((Lt.refl w).alloc _)).mono ?_
          rintro e w' ⟨g, oA, oc, rfl, q, rfl, he⟩
          have HE := Lib.hid he
          have pc0 := (HPA.out.later q.lt).c0
          clear he
          go_wp2_with (first | (go_at_call 46; refine (c_within _ _ _ _).mono ?_; rintro e w' ⟨rfl, rfl⟩) | (go_at_call 54; refine (HS.out _ _ _ HE.out).mono ?_; rintro e w' ⟨rfl, rfl⟩) | fail)
          go_ret2
          exact ⟨rfl, ⟨q.world, q.to ((Lt.refl w).alloc _)⟩, rfl⟩
      · have hbi : within item 0 ((p.items.length : Int) - 1) = false := within_no.2 (by omega)
        have hT : TimeR p cards k item = (0, 2) := if_neg (fun h => h2 h.2.2.1)
        rw [hT]
        clear hT hp hc hO wf h1 h2
        obtain ⟨iA, ic, jA, jc, pA, pc, eA, ec⟩ := m
        simp only [planV, planC] at HB HPA ⊢
        go_enter Tryz.func22, Tryz.ntmps22
        go_wp2_with fail
        refine (HB.out _ ((Lt.refl w).alloc _)).mono ?_
        rintro e w' ⟨g, oA, oc, rfl, q, rfl, he⟩
        have pc0 := (HPA.out.later q.lt).c0
        clear he
        go_wp2_with (first | (go_at_call 46; refine (c_within _ _ _ _).mono ?_; rintro e w' ⟨rfl, rfl⟩) | fail)
        go_ret2
        exact ⟨rfl, ⟨q.world, q.to ((Lt.refl w).alloc _)⟩, rfl⟩
    · have hT : TimeR p cards car item = (0, 2) := if_neg (fun h => h1 h.2.1)
      rw [hT]
      have hb : within car 0 ((cards.length : Int) - 1) = false := within_no.2 (by omega)
      clear hT hp hc hO wf h1 HPA
      obtain ⟨iA, ic, jA, jc, pA, pc, eA, ec⟩ := m
      simp only [planV, planC] at HB ⊢
      go_enter Tryz.func22, Tryz.ntmps22
      go_wp2_with fail
      refine (HB.out _ ((Lt.refl w).alloc _)).mono ?_
      rintro e w' ⟨g, oA, oc, rfl, q, rfl, he⟩
      clear he
      go_wp2_with (first | (go_at_call 46; refine (c_within _ _ _ _).mono ?_; rintro e w' ⟨rfl, rfl⟩) | fail)
      go_ret2
      exact ⟨rfl, ⟨q.world, q.to ((Lt.refl w).alloc _)⟩, rfl⟩
  · have HB := Lib.hid (fun W (h : Lt w W) => c_begin_no m p A c cards W (hp.later h) wf (hc.later h) hO)
    have hT : TimeR p cards car item = (0, 2) := if_neg (fun h => hO h.1)
    rw [hT]
    clear hT hp hc hO wf HPA
    obtain ⟨iA, ic, jA, jc, pA, pc, eA, ec⟩ := m
    simp only [planV, planC] at HB ⊢
    go_enter Tryz.func22, Tryz.ntmps22
    go_wp2_with fail
    refine (HB.out _ ((Lt.refl w).alloc _)).mono ?_
    rintro e w' ⟨rfl, q, rfl⟩
    go_wp2_with fail
    go_ret2
    exact ⟨rfl, ⟨q.world, q.to ((Lt.refl w).alloc _)⟩, rfl⟩

set_option maxHeartbeats 2000000 in
set_option maxRecDepth 100000 in
theorem c_Out (m : PlanM) (p : Plan) (cm : CardM) (c : Card) (w : World) (hp : PlanIs w m p) (wf : PlanWf p) (hc : CardIs w cm c) :
    Calls Tryz.prog 36 #[planV m p, cardV cm c] w fun e w' => e = .returned (.tuple #[.int .i64 (OutR p c).1, .int .i64 (OutR p c).2]) ∧ ∃ q : Later w, w' = q.world := by
  have HPA := Lib.hid (show PlanAt ((w.alloc (.cells (planC m p) 28)).alloc (.cells (cardC cm c) 31)) w.heap.size m p from PlanAt.new.later ((Lt.refl _).alloc _))
  by_cases hO : PlanOK p ∧ CardOK p c
  · have HK := Lib.hid (fun W (h : Lt w W) => card_yes (m := m) (p := p) (cm := cm) (c := c) W (hp.later h) wf (hc.later h) hO)
    have HO := Lib.hid (fun W (h : Lt w W) => c_out m p cm c W (hp.later h) (hc.later h) hO.1 hO.2)
    have hT : OutR p c = (outP p c, 0) := if_pos hO
    rw [hT]
    clear hT hp hc hO wf
    generalize outP p c = O at *
    obtain ⟨iA, ic, jA, jc, pA, pc, eA, ec⟩ := m
    obtain ⟨sA, sc, lA, lc⟩ := cm
    simp only [planV, planC, cardV, cardC] at HK HO HPA ⊢
    go_enter Tryz.func36, Tryz.ntmps36
    go_wp2_with fail
    refine (HK.out _ (((Lt.refl w).alloc _).alloc _)).mono ?_
    rintro e w' ⟨rfl, q, rfl⟩
    have HPQ := HPA.out.later q.lt
    have p0 := HPQ.c0
    have p1 := HPQ.c1
    have p2 := HPQ.c2
    have p3 := HPQ.c3
    have p4 := HPQ.c4
    have p5 := HPQ.c5
    have p6 := HPQ.c6
    have p7 := HPQ.c7
    have p8 := HPQ.c8
    have p9 := HPQ.c9
    have p10 := HPQ.c10
    have p11 := HPQ.c11
    have p12 := HPQ.c12
    have p13 := HPQ.c13
    clear HPQ
    go_wp2_with fail
    refine (HO.out _ (q.to (((Lt.refl w).alloc _).alloc _))).mono ?_
    rintro e w' ⟨rfl, q2, rfl⟩
    go_wp2_with fail
    go_ret2
    exact ⟨rfl, ⟨q2.world, q2.to (q.to (((Lt.refl w).alloc _).alloc _))⟩, rfl⟩
  · have HK := Lib.hid (fun W (h : Lt w W) => card_no (m := m) (p := p) (cm := cm) (c := c) W (hp.later h) wf (hc.later h) hO)
    have hT : OutR p c = (0, 2) := if_neg hO
    rw [hT]
    clear hT hp hc hO wf HPA
    obtain ⟨iA, ic, jA, jc, pA, pc, eA, ec⟩ := m
    obtain ⟨sA, sc, lA, lc⟩ := cm
    simp only [planV, planC, cardV, cardC] at HK ⊢
    go_enter Tryz.func36, Tryz.ntmps36
    go_wp2_with fail
    refine (HK.out _ (((Lt.refl w).alloc _).alloc _)).mono ?_
    rintro e w' ⟨rfl, q, rfl⟩
    go_wp2_with fail
    go_ret2
    exact ⟨rfl, ⟨q.world, q.to (((Lt.refl w).alloc _).alloc _)⟩, rfl⟩
end Go.Proofs.YtdpcdmcmpfjbjaaGreat
/- Walks: Due of package score. -/
namespace Go.Proofs.YtdpcdmcmpfjbjaaGreat
open Go.RowKit
set_option linter.unusedVariables false
set_option linter.unusedSimpArgs false
attribute [local go_sem] Later.cell Later.frozen Later.size Later.ne Later.cell1 Later.cell2 Later.cell3 Later.size1 Later.size2 Later.size3 Later.ne1 Later.ne2 Later.ne3

set_option maxHeartbeats 4000000 in
set_option maxRecDepth 100000 in
theorem c_Due (m : PlanM) (p : Plan) (cm : CardM) (c : Card) (item : Int) (w : World) (hp : PlanIs w m p) (wf : PlanWf p) (hc : CardIs w cm c) :
    Calls Tryz.prog 35 #[planV m p, cardV cm c, .int .i64 item] w fun e w' => e = .returned (.tuple #[.int .i64 (DueR p c item).1, .int .i64 (DueR p c item).2]) ∧ ∃ q : Later w, w' = q.world := by
  have HPA := Lib.hid (show PlanAt ((w.alloc (.cells (planC m p) 28)).alloc (.cells (cardC cm c) 31)) w.heap.size m p from PlanAt.new.later ((Lt.refl _).alloc _))
  have him := hp.items.2.1
  by_cases hO : PlanOK p ∧ CardOK p c
  · have HK := Lib.hid (fun W (h : Lt w W) => card_yes (m := m) (p := p) (cm := cm) (c := c) W (hp.later h) wf (hc.later h) hO)
    by_cases h2 : 0 ≤ item ∧ item < p.items.length
    · obtain ⟨i, rfl⟩ := Int.eq_ofNat_of_zero_le h2.1
      have hbi : within (i : Int) 0 ((p.items.length : Int) - 1) = true := within_iff.2 (by omega)
      have hi : i < p.items.length := by omega
      have hiz : (i : Int) < p.items.length := by omega
      have hlen := hO.2.lines
      have hil : i < c.lines.length := by omega
      have hilz : (i : Int) < c.lines.length := by omega
      have hlm := hc.lines.2.1
      have HLN := Lib.hid hlen
      clear hlen
      have HD := Lib.hid (fun W (h : Lt w W) => c_due m p cm c i W (hp.later h) (hc.later h) hO.1 hO.2 hi)
      obtain ⟨iA, ic, jA, jc, pA, pc, eA, ec⟩ := m
      obtain ⟨sA, sc, lA, lc⟩ := cm
      obtain ⟨ib, io, rfl, hibl, a0, a1, a2, a3⟩ := hp.items.at_ i hi
      obtain ⟨lb, lo, rfl, hlbl, l0, l1, l2, l3⟩ := hc.lines.at_ i hil
      by_cases h3 : (nth p.items i).kind = 1
      · have hs : ((nth p.items i).kind != 1) = false := by rw [bne_eq_false_iff_eq]; exact h3
        by_cases h4 : (nth c.lines i).mark = 2
        · have hT : DueR p c i = (0, 5) := by unfold DueR; rw [if_pos ⟨hO, h2, by rw [Int.toNat_natCast]; exact h3⟩, Int.toNat_natCast, if_pos h4]
          rw [hT]
          have mb : ((nth c.lines i).mark == 2) = true := beq_iff_eq.2 h4
          clear hT hp hc hO wf h2 h3 h4 HD
          simp only [planV, planC, cardV, cardC] at HK HPA ⊢
          go_enter Tryz.func35, Tryz.ntmps35
          go_wp2_with fail
          refine (HK.out _ (((Lt.refl w).alloc _).alloc _)).mono ?_
          rintro e w' ⟨rfl, q, rfl⟩
          have HPQ := HPA.out.later q.lt
          have p0 := HPQ.c0
          have p1 := HPQ.c1
          have p2 := HPQ.c2
          have p3 := HPQ.c3
          have p4 := HPQ.c4
          have p5 := HPQ.c5
          have p6 := HPQ.c6
          have p7 := HPQ.c7
          have p8 := HPQ.c8
          have p9 := HPQ.c9
          have p10 := HPQ.c10
          have p11 := HPQ.c11
          have p12 := HPQ.c12
          have p13 := HPQ.c13
          clear HPQ
          go_wp2_with (first | (go_at_call 46; refine (c_within _ _ _ _).mono ?_; rintro e w' ⟨rfl, rfl⟩) | fail)
          go_ret2
          exact ⟨rfl, ⟨q.world, q.to (((Lt.refl w).alloc _).alloc _)⟩, rfl⟩
        · have hT : DueR p c i = (dueP p c i, 0) := by unfold DueR; rw [if_pos ⟨hO, h2, by rw [Int.toNat_natCast]; exact h3⟩, Int.toNat_natCast, if_neg h4]
          rw [hT]
          have mb : ((nth c.lines i).mark == 2) = false := beq_eq_false_iff_ne.2 h4
          clear hT hp hc hO wf h2 h3 h4
          generalize dueP p c i = D at *
          simp only [planV, planC, cardV, cardC] at HD
          simp only [planV, planC, cardV, cardC] at HK HPA ⊢
          go_enter Tryz.func35, Tryz.ntmps35
          go_wp2_with fail
          refine (HK.out _ (((Lt.refl w).alloc _).alloc _)).mono ?_
          rintro e w' ⟨rfl, q, rfl⟩
          have HPQ := HPA.out.later q.lt
          have p0 := HPQ.c0
          have p1 := HPQ.c1
          have p2 := HPQ.c2
          have p3 := HPQ.c3
          have p4 := HPQ.c4
          have p5 := HPQ.c5
          have p6 := HPQ.c6
          have p7 := HPQ.c7
          have p8 := HPQ.c8
          have p9 := HPQ.c9
          have p10 := HPQ.c10
          have p11 := HPQ.c11
          have p12 := HPQ.c12
          have p13 := HPQ.c13
          clear HPQ
          go_wp2_with (first | (go_at_call 46; refine (c_within _ _ _ _).mono ?_; rintro e w' ⟨rfl, rfl⟩) | fail)
          refine (HD.out _ (q.to (((Lt.refl w).alloc _).alloc _))).mono ?_
          rintro e w' ⟨rfl, q2, rfl⟩
          go_wp2_with fail
          go_ret2
          exact ⟨rfl, ⟨q2.world, q2.to (q.to (((Lt.refl w).alloc _).alloc _))⟩, rfl⟩
      · have hs : ((nth p.items i).kind != 1) = true := by rw [bne_iff_ne]; exact h3
        have hT : DueR p c i = (0, 2) := if_neg (fun h => h3 (by have := h.2.2; rwa [Int.toNat_natCast] at this))
        rw [hT]
        clear hT hp hc hO wf h2 h3 HD
        simp only [planV, planC, cardV, cardC] at HK HPA ⊢
        go_enter Tryz.func35, Tryz.ntmps35
        go_wp2_with fail
        refine (HK.out _ (((Lt.refl w).alloc _).alloc _)).mono ?_
        rintro e w' ⟨rfl, q, rfl⟩
        have HPQ := HPA.out.later q.lt
        have p0 := HPQ.c0
        have p1 := HPQ.c1
        have p2 := HPQ.c2
        have p3 := HPQ.c3
        have p4 := HPQ.c4
        have p5 := HPQ.c5
        have p6 := HPQ.c6
        have p7 := HPQ.c7
        have p8 := HPQ.c8
        have p9 := HPQ.c9
        have p10 := HPQ.c10
        have p11 := HPQ.c11
        have p12 := HPQ.c12
        have p13 := HPQ.c13
        clear HPQ
        go_wp2_with (first | (go_at_call 46; refine (c_within _ _ _ _).mono ?_; rintro e w' ⟨rfl, rfl⟩) | fail)
        go_ret2
        exact ⟨rfl, ⟨q.world, q.to (((Lt.refl w).alloc _).alloc _)⟩, rfl⟩
    · have hbi : within item 0 ((p.items.length : Int) - 1) = false := within_no.2 (by omega)
      have hT : DueR p c item = (0, 2) := if_neg (fun h => h2 h.2.1)
      rw [hT]
      clear hT hp hc hO wf h2
      obtain ⟨iA, ic, jA, jc, pA, pc, eA, ec⟩ := m
      obtain ⟨sA, sc, lA, lc⟩ := cm
      simp only [planV, planC, cardV, cardC] at HK HPA ⊢
      go_enter Tryz.func35, Tryz.ntmps35
      go_wp2_with fail
      refine (HK.out _ (((Lt.refl w).alloc _).alloc _)).mono ?_
      rintro e w' ⟨rfl, q, rfl⟩
      have HPQ := HPA.out.later q.lt
      have p0 := HPQ.c0
      have p1 := HPQ.c1
      have p2 := HPQ.c2
      have p3 := HPQ.c3
      have p4 := HPQ.c4
      have p5 := HPQ.c5
      have p6 := HPQ.c6
      have p7 := HPQ.c7
      have p8 := HPQ.c8
      have p9 := HPQ.c9
      have p10 := HPQ.c10
      have p11 := HPQ.c11
      have p12 := HPQ.c12
      have p13 := HPQ.c13
      clear HPQ
      go_wp2_with (first | (go_at_call 46; refine (c_within _ _ _ _).mono ?_; rintro e w' ⟨rfl, rfl⟩) | fail)
      go_ret2
      exact ⟨rfl, ⟨q.world, q.to (((Lt.refl w).alloc _).alloc _)⟩, rfl⟩
  · have HK := Lib.hid (fun W (h : Lt w W) => card_no (m := m) (p := p) (cm := cm) (c := c) W (hp.later h) wf (hc.later h) hO)
    have hT : DueR p c item = (0, 2) := if_neg (fun h => hO h.1)
    rw [hT]
    clear hT hp hc hO wf
    obtain ⟨iA, ic, jA, jc, pA, pc, eA, ec⟩ := m
    obtain ⟨sA, sc, lA, lc⟩ := cm
    simp only [planV, planC, cardV, cardC] at HK HPA ⊢
    go_enter Tryz.func35, Tryz.ntmps35
    go_wp2_with fail
    refine (HK.out _ (((Lt.refl w).alloc _).alloc _)).mono ?_
    rintro e w' ⟨rfl, q, rfl⟩
    have HPQ := HPA.out.later q.lt
    have p0 := HPQ.c0
    have p1 := HPQ.c1
    have p2 := HPQ.c2
    have p3 := HPQ.c3
    have p4 := HPQ.c4
    have p5 := HPQ.c5
    have p6 := HPQ.c6
    have p7 := HPQ.c7
    have p8 := HPQ.c8
    have p9 := HPQ.c9
    have p10 := HPQ.c10
    have p11 := HPQ.c11
    have p12 := HPQ.c12
    have p13 := HPQ.c13
    clear HPQ
    go_wp2_with (first | (go_at_call 46; refine (c_within _ _ _ _).mono ?_; rintro e w' ⟨rfl, rfl⟩) | fail)
    go_ret2
    exact ⟨rfl, ⟨q.world, q.to (((Lt.refl w).alloc _).alloc _)⟩, rfl⟩
end Go.Proofs.YtdpcdmcmpfjbjaaGreat
