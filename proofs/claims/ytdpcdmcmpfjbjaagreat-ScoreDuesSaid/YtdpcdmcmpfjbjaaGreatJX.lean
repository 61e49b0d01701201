/- Walks: due, side, Due of package score; Walks: an event's small methods: stage, runs, took; Walks: penalty, jumps, jump. -/
import Derived.Test.YtdpcdmcmpfjbjaaGreatJA
/- Walks: due, side, Due of package score. -/
namespace Go.Proofs.YtdpcdmcmpfjbjaaGreat
open Go.RowKit
set_option linter.unusedVariables false
set_option linter.unusedSimpArgs false
attribute [local go_sem] Later.cell Later.frozen Later.size Later.ne Later.cell1 Later.cell2 Later.cell3 Later.size1 Later.size2 Later.size3 Later.ne1 Later.ne2 Later.ne3

set_option maxHeartbeats 400000 in
theorem c_due (m : PlanM) (p : Plan) (cm : CardM) (c : Card) (i : Nat) (w : World) (hp : PlanIs w m p) (hc : CardIs w cm c)
    (hP : PlanOK p) (hC : CardOK p c) (hi : i < p.items.length) :
    Calls Tryz.prog 88 #[planV m p, cardV cm c, .int .i64 i] w fun e w' => e = .returned (.int .i64 (dueP p c i)) ∧ ∃ q : Later w, w' = q.world := by
  have hl := hC.lines
  have hs := leg_starts hP hC i hi
  have hleg := (hP.leg i hi).1
  have t0 := target_bd hP i hi
  have t1 := hC.starts.2.2 _ hs
  have t2 := (hC.line (i - 1) (by omega)).1
  clear hP hC
  obtain ⟨iA, ic, jA, jc, pA, pc, eA, ec⟩ := m
  obtain ⟨sA, sc, lA, lc⟩ := cm
  obtain ⟨b, o, rfl, hbl, hitem⟩ := hp.items.2.2 (by omega)
  obtain ⟨lb, lo, rfl, hlbl, hline⟩ := hc.lines.2.2 (by omega)
  obtain ⟨sb, so, rfl, hsbl, hstart⟩ := hc.starts.2.2 (by omega)
  have hm := hp.items.2.1
  obtain ⟨a0, a1, a2, a3⟩ := hitem i hi
  have s0 := hstart _ hs
  unfold IntAt at s0
  rw [Nat.mul_one] at s0
  obtain ⟨lg, hlg⟩ : ∃ lg : Nat, (nth p.items i).leg = lg := ⟨_, (Int.toNat_of_nonneg hleg).symm⟩
  have dP : dueP p c i = if 0 < i ∧ (nth p.items (i - 1)).leg = lg then (nth c.lines (i - 1)).minute + (nth p.items i).target else nth c.starts lg + (nth p.items i).target := by unfold dueP; rw [hlg]; rfl
  have DP := Lib.hid dP
  clear dP
  rw [hlg] at a1
  rw [hlg, Int.toNat_natCast] at s0 hs t1
  have hlm := hc.starts.2.1
  have hleq := Lib.hid hl
  clear hl hlg hleg hp hc
  rw [DP.out]
  simp only [planV, cardV, planC, cardC]
  by_cases h0 : 0 < i
  · obtain ⟨k, rfl⟩ : ∃ k, i = k + 1 := ⟨i - 1, by omega⟩
    rw [Nat.add_sub_cancel] at DP t2 ⊢
    obtain ⟨b0, b1, b2, b3⟩ := hitem k (by omega)
    obtain ⟨l0, l1, l2, l3⟩ := hline k (by rw [hleq.out]; omega)
    have hll : k < c.lines.length := by rw [hleq.out]; omega
    have hlz : (k : Int) < (c.lines.length : Int) := by omega
    have hiz : (k : Int) + 1 < (p.items.length : Int) := by omega
    have k0 : (0 : Int) ≤ (k : Int) + 1 := by omega
    have k1 : ((k : Int) + 1).toNat = k + 1 := by omega
    have w1 : IntKind.i64.wrap (k : Int) = k := IntWalk.i64_in _ (by omega)
    have w2 : IntKind.i64.wrap ((nth c.lines k).minute + (nth p.items (k + 1)).target) = (nth c.lines k).minute + (nth p.items (k + 1)).target := IntWalk.i64_in _ (by omega)
    have w3 : IntKind.i64.wrap (nth c.starts lg + (nth p.items (k + 1)).target) = nth c.starts lg + (nth p.items (k + 1)).target := IntWalk.i64_in _ (by omega)
    have hsz : (lg : Int) < (c.starts.length : Int) := by omega
    clear hitem hline hstart
    by_cases hsame : (nth p.items k).leg = lg
    · have hsb : ((nth p.items k).leg == (lg : Int)) = true := beq_iff_eq.2 hsame
      rw [if_pos ⟨h0, hsame⟩]
      clear hsame DP
      go_enter Tryz.func88, Tryz.ntmps88
      go_wp2
      refine wp_region_later follows_ (by kernel_rfl) ?_
      repeat (go_big_quiet_step (fail))
      refine wpQuiet_nil ?_
      rintro _ ⟨q, rfl⟩
      go_wp2
      go_ret
      exact ⟨rfl, Later.mk_eq (q.to (((Lt.refl w).alloc _).alloc _))⟩
    · have hsb : ((nth p.items k).leg == (lg : Int)) = false := beq_eq_false_iff_ne.2 hsame
      rw [if_neg (fun h => hsame h.2)]
      clear hsame DP
      go_enter Tryz.func88, Tryz.ntmps88
      go_wp2
      refine wp_region_later follows_ (by kernel_rfl) ?_
      repeat (go_big_quiet_step (fail))
      refine wpQuiet_nil ?_
      rintro _ ⟨q, rfl⟩
      go_wp2
      go_ret
      exact ⟨rfl, Later.mk_eq (q.to (((Lt.refl w).alloc _).alloc _))⟩
  · obtain rfl : i = 0 := by omega
    rw [if_neg (fun h => h0 h.1)]
    have w3 : IntKind.i64.wrap (nth c.starts lg + (nth p.items 0).target) = nth c.starts lg + (nth p.items 0).target := IntWalk.i64_in _ (by omega)
    have hsz : (lg : Int) < (c.starts.length : Int) := by omega
    clear hitem hline hstart
    go_enter Tryz.func88, Tryz.ntmps88
    go_wp2
    refine wp_region_later follows_ (by kernel_rfl) ?_
    repeat (go_big_quiet_step (fail))
    refine wpQuiet_nil ?_
    rintro _ ⟨q, rfl⟩
    go_wp2
    go_ret
    exact ⟨rfl, Later.mk_eq (q.to (((Lt.refl w).alloc _).alloc _))⟩

set_option maxHeartbeats 1000000 in
set_option maxRecDepth 100000 in
theorem c_side (m : PlanM) (p : Plan) (cm : CardM) (c : Card) (i : Nat) (w : World) (hp : PlanIs w m p) (hc : CardIs w cm c)
    (hP : PlanOK p) (hC : CardOK p c) (hi : i < p.items.length) :
    Calls Tryz.prog 119 #[planV m p, cardV cm c, .int .i64 i] w fun e w' => e = .returned (.tuple #[.int .i64 (sideP p c i), .int .i64 (byP p c i)]) ∧ ∃ q : Later w, w' = q.world := by
  have HD := Lib.hid (fun (W : World) (h : Lt w W) => c_due m p cm c i W (hp.later h) (hc.later h) hP hC hi)
  have hdb := due_bd hP hC i hi
  have hlb := (hC.line i hi).1
  have hl := hC.lines
  obtain ⟨iA, ic, jA, jc, pA, pc, eA, ec⟩ := m
  obtain ⟨sA, sc, lA, lc⟩ := cm
  obtain ⟨b, o, rfl, hbl, hitem⟩ := hp.items.2.2 (by omega)
  obtain ⟨lb, lo, rfl, hlbl, hline⟩ := hc.lines.2.2 (by omega)
  have hm := hp.items.2.1
  obtain ⟨a0, a1, a2, a3⟩ := hitem i hi
  obtain ⟨l0, l1, l2, l3⟩ := hline i (by omega)
  have hiz : (i : Int) < c.lines.length := by omega
  have hin : i < c.lines.length := by omega
  have HOF := Lib.hid (@side_off p c i)
  have HLA := Lib.hid (@side_late p c i)
  have HEA := Lib.hid (@side_early p c i)
  have HEV := Lib.hid (@side_even p c i)
  generalize dueP p c i = D at HD hdb HLA HEA HEV
  generalize sideP p c i = S at HOF HLA HEA HEV ⊢
  generalize byP p c i = B at HOF HLA HEA HEV ⊢
  clear hp hc hP hC hitem hline hl
  simp only [planV, cardV, planC, cardC] at HD ⊢
  by_cases hk : (nth p.items i).kind = 1
  · have hkb : ((nth p.items i).kind != 1) = false := by rw [bne_eq_false_iff_eq]; exact hk
    by_cases hmk : (nth c.lines i).mark = 2
    · have hmb : ((nth c.lines i).mark == 2) = true := beq_iff_eq.2 hmk
      have E := HOF.out (.inr hmk)
      have HE := Lib.hid E
      clear hk hmk HOF HLA HEA HEV HD E
      go_enter Tryz.func119, Tryz.ntmps119
      go_wp2
      go_ret2
      exact ⟨ret_int2 HE.out.1.symm HE.out.2.symm, Later.mk_eq (((Lt.refl w).alloc _).alloc _)⟩
    · have hmb : ((nth c.lines i).mark == 2) = false := beq_eq_false_iff_ne.2 hmk
      have HL1 := Lib.hid (HLA.out hk hmk)
      have HE1 := Lib.hid (HEA.out hk hmk)
      have HV1 := Lib.hid (HEV.out hk hmk)
      clear hk hmk HOF HLA HEA HEV
      go_enter Tryz.func119, Tryz.ntmps119
      go_wp2_with fail
      refine wp_region_later follows_ (by kernel_rfl) ?_
      repeat (go_big_quiet_step ((go_at_call 88; exact Calls.quiet_later (HD.out _ (Later.to _ (((Lt.refl w).alloc _).alloc _))))))
      refine wpQuiet_nil ?_
      rintro _ ⟨q, rfl⟩
      by_cases h1 : 0 < (nth c.lines i).minute - D
      · have E := Lib.hid (HL1.out h1)
        go_wp2_with fail
        go_ret2
        exact ⟨ret_int2 E.out.1.symm E.out.2.symm, Later.mk_eq (q.to (((Lt.refl w).alloc _).alloc _))⟩
      · by_cases h2 : (nth c.lines i).minute - D < 0
        · have E := Lib.hid (HE1.out h2)
          go_wp2_with fail
          go_ret2
          exact ⟨ret_int2 E.out.1.symm E.out.2.symm, Later.mk_eq (q.to (((Lt.refl w).alloc _).alloc _))⟩
        · have E := Lib.hid (HV1.out (by omega))
          go_wp2_with fail
          go_ret2
          exact ⟨ret_int2 E.out.1.symm E.out.2.symm, Later.mk_eq (q.to (((Lt.refl w).alloc _).alloc _))⟩
  · have hkb : ((nth p.items i).kind != 1) = true := by rw [bne_iff_ne]; exact hk
    have E := Lib.hid (HOF.out (.inl hk))
    clear hk HOF HLA HEA HEV HD
    go_enter Tryz.func119, Tryz.ntmps119
    go_wp2
    go_ret2
    exact ⟨ret_int2 E.out.1.symm E.out.2.symm, Later.mk_eq (((Lt.refl w).alloc _).alloc _)⟩
end Go.Proofs.YtdpcdmcmpfjbjaaGreat
/- Walks: an event's small methods: stage, runs, took. -/
namespace Go.Proofs.YtdpcdmcmpfjbjaaGreat
open Go.RowKit
set_option linter.unusedVariables false
set_option linter.unusedSimpArgs false
attribute [local go_sem] Later.cell Later.frozen Later.size Later.ne Later.cell1 Later.cell2 Later.cell3 Later.size1 Later.size2 Later.size3 Later.ne1 Later.ne2 Later.ne3

set_option maxHeartbeats 400000 in
theorem c_stage (g : Nat) (em : EvM) (p : Plan) (cards : List Card) (i : Nat) (w : World) (he : EventIs w g em p cards) (hi : i < p.items.length) :
    Calls Tryz.prog 54 #[.pointer (some ⟨g, 0, none⟩), .int .i64 i] w fun e w' => e = .returned (.bool ((nth p.items i).kind == 2)) ∧ w' = w := by
  obtain ⟨⟨iA, ic, jA, jc, pA, pc, eA, ec⟩, cA, cc, oA, oc⟩ := em
  have e0 := he.c0
  have hm := he.plan.items.2.1
  obtain ⟨b, o, rfl, hbl, a0, a1, a2, a3⟩ := he.plan.items.at_ i hi
  have hiz : (i : Int) < p.items.length := by omega
  clear he
  go_enter Tryz.func54, Tryz.ntmps54
  go_wp2
  go_ret
  exact ⟨rfl, rfl⟩

set_option maxHeartbeats 400000 in
theorem c_runs (g : Nat) (em : EvM) (p : Plan) (cards : List Card) (car i : Nat) (w : World) (he : EventIs w g em p cards) (hc : car < cards.length) :
    Calls Tryz.prog 55 #[.pointer (some ⟨g, 0, none⟩), .int .i64 car, .int .i64 i] w fun e w' => e = .returned (.bool (runsP p (nth cards car) i)) ∧ w' = w := by
  obtain ⟨⟨iA, ic, jA, jc, pA, pc, eA, ec⟩, cA, cc, oA, oc⟩ := em
  have e15 := he.c15
  obtain ⟨b, o, rfl, hbl, a0⟩ := he.outs.at_ car (by simpa using hc)
  rw [nth_map _ _ _ hc] at a0
  have hcm := he.cars.2.1
  clear he
  have hr : runsP p (nth cards car) i = (decide (outP p (nth cards car) < 0) || decide ((i : Int) < outP p (nth cards car))) := by unfold runsP; rw [Bool.decide_or]
  rw [hr]
  generalize outP p (nth cards car) = O at *
  clear hr
  by_cases h0 : O < 0
  · have hd : (decide (O < 0) || decide ((i : Int) < O)) = true := by simp [h0]
    rw [hd]
    clear hd
    go_enter Tryz.func55, Tryz.ntmps55
    go_wp2
    go_ret
    exact ⟨rfl, rfl⟩
  · have hd : (decide (O < 0) || decide ((i : Int) < O)) = decide ((i : Int) < O) := by simp [h0]
    rw [hd]
    clear hd
    go_enter Tryz.func55, Tryz.ntmps55
    go_wp2
    go_ret
    exact ⟨rfl, rfl⟩

set_option maxHeartbeats 400000 in
theorem c_took (g : Nat) (em : EvM) (p : Plan) (cards : List Card) (car i : Nat) (w : World) (he : EventIs w g em p cards) (hc : car < cards.length) (hi : i < (nth cards car).lines.length) :
    Calls Tryz.prog 66 #[.pointer (some ⟨g, 0, none⟩), .int .i64 car, .int .i64 i] w fun e w' => e = .returned (.int .i64 (tookP cards car i)) ∧ w' = w := by
  obtain ⟨⟨iA, ic, jA, jc, pA, pc, eA, ec⟩, cA, cc, oA, oc⟩ := em
  have e14 := he.c14
  have hcm := he.cars.2.1
  obtain ⟨b, o, rfl, hbl, ⟨sA, sc, lA, lc⟩, hci, c0, c1, c2⟩ := he.cars.at_ car hc
  have hlm := hci.lines.2.1
  obtain ⟨lb, lo, rfl, hlbl, l0, l1, l2, l3⟩ := hci.lines.at_ i hi
  clear he hci
  unfold tookP
  go_enter Tryz.func66, Tryz.ntmps66
  go_wp2
  go_ret
  exact ⟨rfl, rfl⟩
end Go.Proofs.YtdpcdmcmpfjbjaaGreat
/- Walks: penalty, jumps, jump. -/
namespace Go.Proofs.YtdpcdmcmpfjbjaaGreat
open Go.RowKit
set_option linter.unusedVariables false
set_option linter.unusedSimpArgs false
attribute [local go_sem] Later.cell Later.frozen Later.size Later.ne Later.cell1 Later.cell2 Later.cell3 Later.size1 Later.size2 Later.size3 Later.ne1 Later.ne2 Later.ne3

theorem penalty_cases {p : Plan} {c : Card} {i : Nat} (hP : PlanOK p) (hC : CardOK p c) (hi : i < p.items.length) :
    (sideP p c i = 1 ∧ Hid (costP p c i = byP p c i * p.late)) ∨ (sideP p c i = 2 ∧ (nth p.items i).free = false ∧ Hid (costP p c i = byP p c i * p.early)) ∨
    (sideP p c i = 2 ∧ (nth p.items i).free = true ∧ Hid (costP p c i = 0)) ∨ (sideP p c i = 0 ∧ Hid (costP p c i = 0)) := by
  unfold costP lateP earlyP sideP byP
  generalize offP p c i = o
  by_cases h1 : 0 < o
  · left
    refine ⟨if_pos h1, Lib.hid ?_⟩
    rw [if_pos h1, show max 0 o = o by omega, show max 0 (-o) = 0 by omega]
    simp
  · by_cases h2 : o < 0
    · have e2 : ¬ 0 < o := by omega
      rw [if_neg h1, if_pos h2, if_neg h1, if_pos h2, show max 0 o = 0 by omega, show max 0 (-o) = -o by omega]
      cases hf : (nth p.items i).free with
      | true => right; right; left; exact ⟨rfl, rfl, Lib.hid (by simp)⟩
      | false => right; left; exact ⟨rfl, rfl, Lib.hid (by simp)⟩
    · have : o = 0 := by omega
      subst this
      right; right; right
      exact ⟨rfl, Lib.hid (by simp)⟩
theorem by_bd {p : Plan} {c : Card} {i : Nat} (hP : PlanOK p) (hC : CardOK p c) (hi : i < p.items.length) : 0 ≤ byP p c i ∧ byP p c i ≤ 101440 := by
  have h1 := due_bd hP hC i hi
  have h2 := (hC.line i hi).1
  unfold byP offP
  split <;> (try split) <;> omega
theorem cost_wrap (a l : Int) (ha : 0 ≤ a ∧ a ≤ 101440) (hl : 0 ≤ l ∧ l ≤ 36000000) : IntKind.i64.wrap (a * l) = a * l := by
  have h0 : 0 ≤ a * l := Int.mul_nonneg ha.1 hl.1
  have h1 : a * l ≤ 101440 * 36000000 := Int.mul_le_mul ha.2 hl.2 hl.1 (by omega)
  exact IntWalk.i64_in _ (by omega)

set_option maxHeartbeats 2000000 in
set_option maxRecDepth 100000 in
theorem c_penalty (g : Nat) (em : EvM) (p : Plan) (cards : List Card) (car i : Nat) (w : World) (he : EventIs w g em p cards) (hP : PlanOK p) (hO : cardsOK p cards) (hcar : car < cards.length) (hi : i < p.items.length) :
    Calls Tryz.prog 108 #[.pointer (some ⟨g, 0, none⟩), .int .i64 car, .int .i64 i] w fun e w' => e = .returned (.tuple #[.int .i64 (sideP p (nth cards car) i), .int .i64 (costP p (nth cards car) i)]) ∧ ∃ q : Later w, w' = q.world := by
  have hC := hO.2 car hcar
  obtain ⟨b, o, hA, hbl, cm, hci, d0, d1, d2⟩ := he.cars.at_ car hcar
  have HS := Lib.hid (fun (W : World) (h : Lt w W) => c_side em.m p cm (nth cards car) i W (he.plan.later h) (hci.later h) hP hC hi)
  have hcs := penalty_cases hP hC hi
  have wL := cost_wrap _ p.late (by_bd hP hC hi) hP.late
  have wE := cost_wrap _ p.early (by_bd hP hC hi) hP.early
  obtain ⟨⟨iA, ic, jA, jc, pA, pc, eA, ec⟩, cA, cc, oA, oc⟩ := em
  obtain ⟨sA, sc, lA, lc⟩ := cm
  cases hA
  have e0 := he.c0
  have e1 := he.c1
  have e2 := he.c2
  have e3 := he.c3
  have e4 := he.c4
  have e5 := he.c5
  have e6 := he.c6
  have e7 := he.c7
  have e8 := he.c8
  have e9 := he.c9
  have e10 := he.c10
  have e11 := he.c11
  have e12 := he.c12
  have e13 := he.c13
  have e14 := he.c14
  have hgl := he.lt
  have hcm := he.cars.2.1
  have hcz : (car : Int) < (cards.length : Int) := by omega
  have hm := he.plan.items.2.1
  obtain ⟨ib, io, rfl, hibl, a0, a1, a2, a3⟩ := he.plan.items.at_ i hi
  have hiz : (i : Int) < p.items.length := by omega
  clear he hci hP hC hO
  rcases hcs with ⟨hs, HC⟩ | ⟨hs, hf, HC⟩ | ⟨hs, hf, HC⟩ | ⟨hs, HC⟩
  · generalize costP p (nth cards car) i = CO at *
    obtain rfl : CO = _ := HC.out
    clear HC wE
    rw [hs] at HS ⊢
    clear hs
    generalize byP p (nth cards car) i = BY at *
    go_enter Tryz.func108, Tryz.ntmps108
    go_wp2_with fail
    refine wp_region_later follows_ (by kernel_rfl) ?_
    repeat (go_big_quiet_step ((go_at_call 119; exact Calls.quiet_later (HS.out _ (Later.to _ (Lt.refl w))))))
    refine wpQuiet_nil ?_
    rintro _ ⟨q2, rfl⟩
    go_wp2_with fail
    refine wp_region_laterB q2 follows_ (by kernel_rfl) ?_
    repeat (go_big_quiet_step (fail))
    refine wpQuiet_nil ?_
    rintro _ ⟨q3, rfl⟩
    go_wp2_with fail
    go_ret2
    exact ⟨rfl, q3, rfl⟩
  · generalize costP p (nth cards car) i = CO at *
    obtain rfl : CO = _ := HC.out
    clear HC wL
    rw [hs] at HS ⊢
    clear hs
    generalize byP p (nth cards car) i = BY at *
    go_enter Tryz.func108, Tryz.ntmps108
    go_wp2_with fail
    refine wp_region_later follows_ (by kernel_rfl) ?_
    repeat (go_big_quiet_step ((go_at_call 119; exact Calls.quiet_later (HS.out _ (Later.to _ (Lt.refl w))))))
    refine wpQuiet_nil ?_
    rintro _ ⟨q2, rfl⟩
    go_wp2_with fail
    refine wp_region_laterB q2 follows_ (by kernel_rfl) ?_
    repeat (go_big_quiet_step (fail))
    refine wpQuiet_nil ?_
    rintro _ ⟨q3, rfl⟩
    go_wp2_with fail
    go_ret2
    exact ⟨rfl, q3, rfl⟩
  · generalize costP p (nth cards car) i = CO at *
    obtain rfl : CO = _ := HC.out
    clear HC wL wE
    rw [hs] at HS ⊢
    clear hs
    generalize byP p (nth cards car) i = BY at *
    go_enter Tryz.func108, Tryz.ntmps108
    go_wp2_with fail
    refine wp_region_later follows_ (by kernel_rfl) ?_
    repeat (go_big_quiet_step ((go_at_call 119; exact Calls.quiet_later (HS.out _ (Later.to _ (Lt.refl w))))))
    refine wpQuiet_nil ?_
    rintro _ ⟨q2, rfl⟩
    go_wp2_with fail
    go_ret2
    exact ⟨rfl, q2, rfl⟩
  · generalize costP p (nth cards car) i = CO at *
    obtain rfl : CO = _ := HC.out
    clear HC wL wE
    rw [hs] at HS ⊢
    clear hs
    generalize byP p (nth cards car) i = BY at *
    go_enter Tryz.func108, Tryz.ntmps108
    go_wp2_with fail
    refine wp_region_later follows_ (by kernel_rfl) ?_
    repeat (go_big_quiet_step ((go_at_call 119; exact Calls.quiet_later (HS.out _ (Later.to _ (Lt.refl w))))))
    refine wpQuiet_nil ?_
    rintro _ ⟨q2, rfl⟩
    go_wp2_with fail
    go_ret2
    exact ⟨rfl, q2, rfl⟩

set_option maxHeartbeats 2000000 in
set_option maxRecDepth 100000 in
theorem c_jumps (g : Nat) (em : EvM) (p : Plan) (cards : List Card) (car last : Nat) (w : World) (he : EventIs w g em p cards) (hcar : car < cards.length) (hi : last < (nth cards car).lines.length) (hn : (nth cards car).lines.length ≤ 200) :
    Calls Tryz.prog 123 #[.pointer (some ⟨g, 0, none⟩), .int .i64 car, .int .i64 last] w fun e w' => ∃ A c, e = .returned (.slice A (jumpsTo p (nth cards car) (last + 1)).length c) ∧ ∃ q : Later w, w' = q.world ∧ Ints q.world A c (nums (jumpsTo p (nth cards car) (last + 1))) := by
  have HR := Lib.hid (fun (W : World) (h : Lt w W) (i : Nat) => c_runs g em p cards car i W (he.later h) hcar)
  have hgl := he.lt
  obtain ⟨⟨iA, ic, jA, jc, pA, pc, eA, ec⟩, cA, cc, oA, oc⟩ := em
  have e14 := he.c14
  have hcm := he.cars.2.1
  have hcz : (car : Int) < (cards.length : Int) := by omega
  obtain ⟨b, o, rfl, hbl, ⟨sA, sc, lA, lc⟩, hci, -, -, c2⟩ := he.cars.at_ car hcar
  have hlm := hci.lines.2.1
  obtain ⟨lb, lo, rfl, hlbl, -⟩ := hci.lines.at_ last hi
  have HLI := Lib.hid (fun (k : Nat) (hk : k < (nth cards car).lines.length) => (by obtain ⟨b1, o1, e, -, h⟩ := hci.lines.at_ k hk; cases e; exact h.2.2.1 : w.cell? ⟨lb, lo + k * 4 + 2, none⟩ = some (.bool (nth (nth cards car).lines k).jump)))
  have hw1 : IntKind.i64.wrap ((last : Int) + 1) = (last : Int) + 1 := IntWalk.i64_in _ (by omega)
  clear he hci
  go_enter Tryz.func123, Tryz.ntmps123
  go_wp2_with fail
  go_loopw [7, 11] (fun v t wr => ∃ (k : Nat) (q : Later w) (u : Value), u = v ∧ t = .int .i64 k ∧ wr = q.world ∧ k ≤ last + 1 ∧ OwnI q.world w.heap.size u (nums (jumpsTo p (nth cards car) k))) (fun _ t _ => last + 1 - (intOf t).toNat)
  case atStart => exact ⟨0, ⟨w, Lt.refl w⟩, _, rfl, rfl, rfl, Nat.zero_le _, OwnI.nil _ _⟩
  case round =>
    obtain ⟨k, q, v, rfl, rfl, rfl, hk, HO⟩ := hrel
    by_cases hlt : k < last + 1
    · have hlz : (k : Int) < (last : Int) + 1 := by omega
      have hkl : k < (nth cards car).lines.length := by omega
      have hkz : (k : Int) < (nth cards car).lines.length := by omega
      have l2 := HLI.out k hkl
      have HN := Lib.hid (jumpsTo_succ p (nth cards car) k)
      have HLN := Lib.hid (show (nums (jumpsTo p (nth cards car) k)).length ≤ 1000000 by have := jumpsTo_length p (nth cards car) k; rw [nums_length]; omega)
      have HOO := HO
      cases hj : (nth (nth cards car).lines k).jump with
      | true =>
        cases hr : runsP p (nth cards car) k with
        | true =>
          have HN1 := Lib.hid (show jumpsTo p (nth cards car) (k + 1) = jumpsTo p (nth cards car) k ++ [k] by rw [HN.out, if_pos (by unfold isJump; rw [hj, hr]; rfl)])
          go_wp2_with (first | (go_at_call 55; refine (HR.out _ (by first | exact q.lt | exact q.lt.alloc _) k).mono ?_; rintro e w' ⟨rfl, rfl⟩) | (at_builtin; refine wp_app (w0 := w) rfl _ _ rfl v (nums (jumpsTo p (nth cards car) k)) k rfl rfl HO q.lt HLN.out ?_; intro v1 q1 hO1 _))
          exact ⟨⟨k + 1, q1, _, rfl, by go_num, rfl, by omega, by rw [HN1.out, nums_append]; exact hO1⟩, by simp [intOf]; omega⟩
        | false =>
          have HN1 := Lib.hid (show jumpsTo p (nth cards car) (k + 1) = jumpsTo p (nth cards car) k by rw [HN.out, if_neg (by unfold isJump; rw [hr]; simp)])
          go_wp2_with (first | (go_at_call 55; refine (HR.out _ (by first | exact q.lt | exact q.lt.alloc _) k).mono ?_; rintro e w' ⟨rfl, rfl⟩) | fail)
          exact ⟨⟨k + 1, q, _, rfl, by go_num, rfl, by omega, by rw [HN1.out]; exact HO⟩, by simp [intOf]; omega⟩
      | false =>
        have HN1 := Lib.hid (show jumpsTo p (nth cards car) (k + 1) = jumpsTo p (nth cards car) k by rw [HN.out, if_neg (by unfold isJump; rw [hj]; simp)])
        go_wp2_with fail
        exact ⟨⟨k + 1, q, _, rfl, by go_num, rfl, by omega, by rw [HN1.out]; exact HO⟩, by simp [intOf]; omega⟩
    · have hke : k = last + 1 := by omega
      subst hke
      obtain ⟨A, c, rfl⟩ := HO.form
      have HF := Lib.hid HO.ints
      have HL := Lib.hid (nums_length (jumpsTo p (nth cards car) (last + 1)))
      have hnl : ¬ ((last + 1 : Nat) : Int) < (last : Int) + 1 := by omega
      clear HO
      go_wp2_with fail
      go_ret
      exact ⟨A, c, ret_slice HL.out, q, rfl, HF.out⟩

theorem jumps_pos {p : Plan} {c : Card} {i : Nat} (h : isJump p c i = true) : 0 < (jumpsTo p c (i + 1)).length := by
  rw [jumpsTo_succ, if_pos h, List.length_append, List.length_singleton]
  omega

set_option maxHeartbeats 2000000 in
set_option maxRecDepth 100000 in
theorem c_jump (g : Nat) (em : EvM) (p : Plan) (cards : List Card) (car i : Nat) (w : World) (he : EventIs w g em p cards) (hcar : car < cards.length) (hi : i < (nth cards car).lines.length) (hn : (nth cards car).lines.length ≤ 200) (hj : isJump p (nth cards car) i = true) (hp : 1 ≤ p.jumps.length ∧ p.jumps.length ≤ 10) :
    Calls Tryz.prog 109 #[.pointer (some ⟨g, 0, none⟩), .int .i64 car, .int .i64 i] w fun e w' => e = .returned (.int .i64 (jumpP p (nth cards car) i)) ∧ ∃ q : Later w, w' = q.world := by
  have HJ := Lib.hid (c_jumps g em p cards car i w he hcar hi hn)
  have hpos := jumps_pos hj
  have hle := jumpsTo_length p (nth cards car) (i + 1)
  have hgl := he.lt
  obtain ⟨⟨iA, ic, jA, jc, pA, pc, eA, ec⟩, cA, cc, oA, oc⟩ := em
  have e6 := he.c6
  have hm := he.plan.jumps.2.1
  have HV := Lib.hid (show jumpP p (nth cards car) i = nth p.jumps (min (jumpsTo p (nth cards car) (i + 1)).length p.jumps.length - 1) from rfl)
  generalize hL : jumpsTo p (nth cards car) (i + 1) = L at *
  generalize jumpP p (nth cards car) i = V at *
  have hjp := he.plan.jumps
  clear he hL
  by_cases hlt : p.jumps.length < L.length
  · have hltz : (p.jumps.length : Int) < (L.length : Int) := by omega
    rw [Nat.min_eq_right (by omega)] at HV
    obtain ⟨b, o, rfl, hbl, hcel⟩ := hjp.at_ (p.jumps.length - 1) (by omega)
    clear hjp
    have hmz : ((p.jumps.length - 1 : Nat) : Int) < (p.jumps.length : Int) := by omega
    have hmn : p.jumps.length - 1 < p.jumps.length := by omega
    have hw1 : IntKind.i64.wrap ((p.jumps.length : Int) - 1) = ((p.jumps.length - 1 : Nat) : Int) := by rw [show (p.jumps.length : Int) - 1 = ((p.jumps.length - 1 : Nat) : Int) by omega]; exact IntWalk.i64_in _ (by omega)
    have HVV := Lib.hid HV
    clear HV
    go_enter Tryz.func109, Tryz.ntmps109
    go_wp2_with fail
    refine HJ.out.mono ?_
    rintro e w' ⟨A1, c1, rfl, q, rfl, hI1⟩
    clear hI1
    go_wp2_with fail
    refine wp_region_laterB q follows_ (by kernel_rfl) ?_
    repeat (go_big_quiet_step (fail))
    refine wpQuiet_nil ?_
    rintro _ ⟨q3, rfl⟩
    go_wp2_with fail
    go_ret
    exact ⟨ret_int HVV.out.symm, q3, rfl⟩
  · have hltz : ¬ (p.jumps.length : Int) < (L.length : Int) := by omega
    rw [Nat.min_eq_left (by omega)] at HV
    obtain ⟨b, o, rfl, hbl, hcel⟩ := hjp.at_ (L.length - 1) (by omega)
    clear hjp
    have hmz : ((L.length - 1 : Nat) : Int) < (p.jumps.length : Int) := by omega
    have hmn : L.length - 1 < p.jumps.length := by omega
    have hw1 : IntKind.i64.wrap ((L.length : Int) - 1) = ((L.length - 1 : Nat) : Int) := by rw [show (L.length : Int) - 1 = ((L.length - 1 : Nat) : Int) by omega]; exact IntWalk.i64_in _ (by omega)
    have HVV := Lib.hid HV
    clear HV
    go_enter Tryz.func109, Tryz.ntmps109
    go_wp2_with fail
    refine HJ.out.mono ?_
    rintro e w' ⟨A1, c1, rfl, q, rfl, hI1⟩
    clear hI1
    go_wp2_with fail
    refine wp_region_laterB q follows_ (by kernel_rfl) ?_
    repeat (go_big_quiet_step (fail))
    refine wpQuiet_nil ?_
    rintro _ ⟨q3, rfl⟩
    go_wp2_with fail
    go_ret
    exact ⟨ret_int HVV.out.symm, q3, rfl⟩
end Go.Proofs.YtdpcdmcmpfjbjaaGreat
