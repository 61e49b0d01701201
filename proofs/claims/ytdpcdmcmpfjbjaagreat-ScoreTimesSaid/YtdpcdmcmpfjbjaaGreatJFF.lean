/- Walks: Total of the reference. -/
import Derived.Test.YtdpcdmcmpfjbjaaGreatJFE
/- Walks: Total of the reference. -/
namespace Go.Proofs.YtdpcdmcmpfjbjaaGreat
open Go.RowKit
set_option linter.unusedVariables false
set_option linter.unusedSimpArgs false
attribute [local go_sem] Later.cell Later.frozen Later.size Later.ne Later.cell1 Later.cell2 Later.cell3 Later.size1 Later.size2 Later.size3 Later.ne1 Later.ne2 Later.ne3

theorem addP_stage {p : Plan} {cards : List Card} {k i : Nat} (h : (nth p.items i).kind = 2) : addP p cards k i = timeP p cards k i + (if (nth (nth cards k).lines i).jump = true then jumpP p (nth cards k) i else 0) := by
  have ho : offP p (nth cards k) i = 0 := if_pos (.inl (by omega))
  have hc : costP p (nth cards k) i = 0 := by unfold costP lateP earlyP; rw [ho]; simp
  unfold addP
  rw [if_pos h, hc, Int.add_zero]
theorem addP_control {p : Plan} {cards : List Card} {k i : Nat} (hC : CardOK p (nth cards k)) (hi : i < p.items.length) (h : (nth p.items i).kind = 1) : addP p cards k i = lateP p (nth cards k) i * p.late + earlyP p (nth cards k) i * p.early := by
  have hj : (nth (nth cards k).lines i).jump = false := by
    rcases (hC.line i hi).2.2 with h1 | h1 | h1
    · rcases h1.2 with h2 | h2
      · exact h2.2.2
      · exact absurd h h2.1
    · exact absurd h h1.2.1
    · exact h1.2.2.2
  unfold addP
  rw [if_neg (by omega), hj]
  unfold costP
  simp

set_option maxHeartbeats 4000000 in
set_option maxRecDepth 100000 in
theorem r_Total (m : PlanM) (p : Plan) (A : Option Addr) (c : Nat) (cards : List Card) (k : Nat) (w : World) (hp : PlanIs w m p) (hc : Cards w A c cards) (hP : PlanOK p) (hO : cardsOK p cards) (hk : k < cards.length) :
    Calls Tryz.prog 25 #[planV m p, .slice A cards.length c, .int .i64 k] w fun e w' => e = .returned (.int .i64 (totalP p cards k)) ∧ ∃ q : Later w, w' = q.world := by
  obtain ⟨W0, hW0, hB⟩ := boxed1 w m p
  have hcm := hc.2.1
  have him := hp.items.2.1
  have hfew := hP.few
  obtain ⟨b, o, hA, hbl, cm, hcm2, x0, x1, x2⟩ := (hc.later hB.lt).at_ k hk
  have hHI := fun (W : World) (h : Lt W0 W) (i : Nat) => r_In m p cm (nth cards k) i W (hp.later (hB.lt.trans h)) (hcm2.later h) hP (hO.2 k hk)
  have hHT := fun (W : World) (h : Lt W0 W) (i : Nat) (hi : i < p.items.length) => r_Time m p A c cards k i W (hp.later (hB.lt.trans h)) (hc.later (hB.lt.trans h)) hP hO hi hk
  have hHJ := fun (W : World) (h : Lt W0 W) (i : Nat) (hi : i < p.items.length) (hr : runsP p (nth cards k) i = true) => r_Jump m p cm (nth cards k) i W (hp.later (hB.lt.trans h)) (hcm2.later h) hP (hO.2 k hk) hi hr
  have hHL := fun (W : World) (h : Lt W0 W) (i : Nat) (hi : i < p.items.length) => r_Late m p cm (nth cards k) i W (hp.later (hB.lt.trans h)) (hcm2.later h) hP (hO.2 k hk) hi
  have hHE := fun (W : World) (h : Lt W0 W) (i : Nat) (hi : i < p.items.length) => r_Early m p cm (nth cards k) i W (hp.later (hB.lt.trans h)) (hcm2.later h) hP (hO.2 k hk) hi
  have HTB := Lib.hid (fun (i : Nat) (hi : i ≤ p.items.length) => totalTo_bd hP hO hk i hi)
  have HB1 := Lib.hid (fun (i : Nat) (hi : i < p.items.length) => time_bd hP hO hk hi)
  have HB2 := Lib.hid (fun (i : Nat) => @jump_bd p (nth cards k) hP i)
  have HB3 := Lib.hid (fun (i : Nat) (hi : i < p.items.length) => mul_bd (late_bd2 hP (hO.2 k hk) hi) hP.late)
  have HB4 := Lib.hid (fun (i : Nat) (hi : i < p.items.length) => mul_bd (early_bd2 hP (hO.2 k hk) hi) hP.early)
  have HKD := Lib.hid (fun (i : Nat) (hi : i < p.items.length) => (by have := (hP.item i hi).2.2; omega : (nth p.items i).kind = 1 ∨ (nth p.items i).kind = 2))
  have HAC := Lib.hid (fun (i : Nat) (hi : i < p.items.length) (h : (nth p.items i).kind = 1) => addP_control (hO.2 k hk) hi h)
  have HL0 := Lib.hid hB.lt
  have hbw := hB.sz
  have p0 := hB.plan.c0
  have p1 := hB.plan.c1
  have p2 := hB.plan.c2
  have p3 := hB.plan.c3
  have p4 := hB.plan.c4
  have p5 := hB.plan.c5
  have p6 := hB.plan.c6
  have p7 := hB.plan.c7
  have p8 := hB.plan.c8
  have p9 := hB.plan.c9
  have p10 := hB.plan.c10
  have p11 := hB.plan.c11
  have p12 := hB.plan.c12
  have p13 := hB.plan.c13
  have hkz : (k : Int) < cards.length := by omega
  have hpos := hP.pos
  obtain ⟨ib, io, hiA, hib, hit⟩ := (hp.later hB.lt).items.2.2 (by omega)
  have HIT := Lib.hid hit
  subst hA
  obtain ⟨iA, ic, jA, jc, pA, pc, eA, ec⟩ := m
  dsimp only at hiA
  subst hiA
  simp only [planV, planC, cardV, cardC] at hW0 hHI hHT hHJ hHL hHE ⊢
  have HI := Lib.hid hHI
  have HT := Lib.hid hHT
  have HJ := Lib.hid hHJ
  have HL := Lib.hid hHL
  have HE := Lib.hid hHE
  have HW0 := Lib.hid hW0
  clear hW0 hB hp hc hHI hHT hHJ hHL hHE hP hO hcm2 hit
  go_enter Tryz.func25, Tryz.ntmps25
  go_upto_region 1 with fail
  rw [HW0.out]
  go_wp2_with fail
  go_loopw [7, 8] (fun n t wr => ∃ (i : Nat) (q : Later W0), t = .int .i64 i ∧ n = .int .i64 (totalTo p cards k i) ∧ wr = q.world ∧ i ≤ p.items.length) (fun _ t _ => p.items.length - (intOf t).toNat)
  case atStart => exact ⟨0, ⟨W0, Lt.refl W0⟩, rfl, rfl, rfl, Nat.zero_le _⟩
  case round =>
    obtain ⟨i, q, rfl, rfl, rfl, hi⟩ := hrel
    by_cases hlt : i < p.items.length
    · have hiz : (i : Int) < p.items.length := by omega
      have hib : decide ((i : Int) < (p.items.length : Int)) = true := decide_eq_true hiz
      have hibn : decide (i < p.items.length) = true := decide_eq_true hlt
      obtain ⟨i0, i1, i2, i3⟩ := HIT.out i hlt
      have hstep : totalTo p cards k (i + 1) = totalTo p cards k i + if runsP p (nth cards k) i = true then addP p cards k i else 0 := rfl
      have htb := HTB.out i hi
      by_cases hr : runsP p (nth cards k) i = true
      · have HRJ := Lib.hid (fun W (h : Lt W0 W) => HJ.out W h i hlt hr)
        have HIW := Lib.hid (fun W (h : Lt W0 W) => HI.out W h i)
        rw [if_pos hr] at hstep
        rcases HKD.out i hlt with hkd | hkd
        · have hkb : ((nth p.items i).kind == 2) = false := by rw [beq_eq_false_iff_ne]; omega
          rw [HAC.out i hlt hkd] at hstep
          have HST := Lib.hid hstep
          have b3 := HB3.out i hlt
          have b4 := HB4.out i hlt
          have HLW := Lib.hid (fun W (h : Lt W0 W) => HL.out W h i hlt)
          have HEW := Lib.hid (fun W (h : Lt W0 W) => HE.out W h i hlt)
          clear hstep hkd
          generalize lateP p (nth cards k) i * p.late = LA at *
          generalize earlyP p (nth cards k) i * p.early = EA at *
          generalize totalTo p cards k i = TT at *
          have w1 : IntKind.i64.wrap (TT + LA) = TT + LA := IntWalk.i64_in _ (by omega)
          have w2 : IntKind.i64.wrap (TT + LA + EA) = TT + LA + EA := IntWalk.i64_in _ (by omega)
          go_wp2_with fail
          refine wp_region_laterB q follows_ (by kernel_rfl) ?_
          repeat (go_big_quiet_step ((go_at_call 26; exact Calls.quiet_later (HIW.out _ (Later.lt _)))))
          refine wpQuiet_nil ?_
          rintro _ ⟨q1, rfl⟩
          go_wp2_with fail
          refine wp_region_laterB q1 follows_ (by kernel_rfl) ?_
          repeat (go_big_quiet_step ((first | (go_at_call 59; exact Calls.quiet_later (HLW.out _ (Later.lt _))) | (go_at_call 60; exact Calls.quiet_later (HEW.out _ (Later.lt _))))))
          refine wpQuiet_nil ?_
          rintro _ ⟨q2, rfl⟩
          go_wp2_with fail
          exact ⟨⟨i + 1, q2, by go_num, by rw [HST.out, Int.add_assoc], rfl, by omega⟩, by simp [intOf]; omega⟩
        · have hkb : ((nth p.items i).kind == 2) = true := by rw [beq_iff_eq]; exact hkd
          rw [addP_stage hkd] at hstep
          have HST := Lib.hid hstep
          have b1 := HB1.out i hlt
          have b2 := HB2.out i
          have b5 : 0 ≤ (if (nth (nth cards k).lines i).jump = true then jumpP p (nth cards k) i else 0) ∧ (if (nth (nth cards k).lines i).jump = true then jumpP p (nth cards k) i else 0) ≤ 36000000 := by split <;> omega
          have HTW := Lib.hid (fun W (h : Lt W0 W) => HT.out W h i hlt)
          clear hstep hkd b2
          generalize (if (nth (nth cards k).lines i).jump = true then jumpP p (nth cards k) i else 0) = EA at *
          generalize timeP p cards k i = LA at *
          generalize totalTo p cards k i = TT at *
          have w1 : IntKind.i64.wrap (TT + LA) = TT + LA := IntWalk.i64_in _ (by omega)
          have w2 : IntKind.i64.wrap (TT + LA + EA) = TT + LA + EA := IntWalk.i64_in _ (by omega)
          go_wp2_with fail
          refine wp_region_laterB q follows_ (by kernel_rfl) ?_
          repeat (go_big_quiet_step ((go_at_call 26; exact Calls.quiet_later (HIW.out _ (Later.lt _)))))
          refine wpQuiet_nil ?_
          rintro _ ⟨q1, rfl⟩
          go_wp2_with fail
          refine wp_region_laterB q1 follows_ (by kernel_rfl) ?_
          repeat (go_big_quiet_step ((first | (go_at_call 27; exact Calls.quiet_later (HTW.out _ (Later.lt _))) | (go_at_call 58; exact Calls.quiet_later (HRJ.out _ (Later.lt _))))))
          refine wpQuiet_nil ?_
          rintro _ ⟨q2, rfl⟩
          go_wp2_with fail
          exact ⟨⟨i + 1, q2, by go_num, by rw [HST.out, Int.add_assoc], rfl, by omega⟩, by simp [intOf]; omega⟩
      · have hrf : runsP p (nth cards k) i = false := by rwa [Bool.not_eq_true] at hr
        have HIW := Lib.hid (fun W (h : Lt W0 W) => HI.out W h i)
        have HF : Hid (totalTo p cards k i = totalP p cards k) := Lib.hid (by
          have := totalTo_stop hrf (p.items.length - i)
          rw [show i + (p.items.length - i) = p.items.length by omega] at this
          exact this.symm)
        clear hstep hr
        generalize totalTo p cards k i = TT at *
        go_wp2_with fail
        refine wp_region_laterB q follows_ (by kernel_rfl) ?_
        repeat (go_big_quiet_step ((go_at_call 26; exact Calls.quiet_later (HIW.out _ (Later.lt _)))))
        refine wpQuiet_nil ?_
        rintro _ ⟨q1, rfl⟩
        go_wp2_with fail
        go_ret
        exact ⟨ret_int HF.out, ⟨q1.world, q1.to HL0.out⟩, rfl⟩
    · have hie : i = p.items.length := by omega
      subst hie
      have hib : decide ((p.items.length : Int) < (p.items.length : Int)) = false := by rw [decide_eq_false_iff_not]; omega
      have hibn : decide (p.items.length < p.items.length) = false := by rw [decide_eq_false_iff_not]; omega
      go_wp2_with fail
      refine wp_region_laterB q follows_ (by kernel_rfl) ?_
      repeat (go_big_quiet_step (fail))
      refine wpQuiet_nil ?_
      rintro _ ⟨q1, rfl⟩
      go_wp2_with fail
      go_ret
      exact ⟨rfl, ⟨q1.world, q1.to HL0.out⟩, rfl⟩
end Go.Proofs.YtdpcdmcmpfjbjaaGreat
