/- Walks: notional of the reference. -/
import Derived.Test.YtdpcdmcmpfjbjaaGreatJFC
import Derived.Test.YtdpcdmcmpfjbjaaGreatJFB
import Derived.Test.YtdpcdmcmpfjbjaaGreatJE
/- Walks: notional of the reference. -/
namespace Go.Proofs.YtdpcdmcmpfjbjaaGreat
open Go.RowKit
set_option linter.unusedVariables false
set_option linter.unusedSimpArgs false
attribute [local go_sem] Later.cell Later.frozen Later.size Later.ne Later.cell1 Later.cell2 Later.cell3 Later.size1 Later.size2 Later.size3 Later.ne1 Later.ne2 Later.ne3

def notionalR (p : Plan) (cards : List Card) (k i : Nat) : Int := if (chosenP p cards k i).length = 0 then 0 else notionalP p cards (chosenP p cards k i) k i
theorem before_cases2 (cards : List Card) (i c : Nat) (M : Int) (s : Int × Int) :
    (decide (M < (nth (nth cards c).lines i).minute) = true ∧ Hid (beforeStep cards i M s c = s)) ∨
    (decide (M < (nth (nth cards c).lines i).minute) = false ∧ decide ((nth (nth cards c).lines i).minute < s.1) = true ∧ Hid (beforeStep cards i M s c = s)) ∨
    (decide (M < (nth (nth cards c).lines i).minute) = false ∧ decide ((nth (nth cards c).lines i).minute < s.1) = false ∧ decide (s.1 < (nth (nth cards c).lines i).minute) = true ∧ Hid (beforeStep cards i M s c = ((nth (nth cards c).lines i).minute, (nth (nth cards c).lines i).time))) ∨
    (decide (M < (nth (nth cards c).lines i).minute) = false ∧ decide ((nth (nth cards c).lines i).minute < s.1) = false ∧ decide (s.1 < (nth (nth cards c).lines i).minute) = false ∧ decide (s.2 < (nth (nth cards c).lines i).time) = true ∧ Hid (beforeStep cards i M s c = ((nth (nth cards c).lines i).minute, (nth (nth cards c).lines i).time))) ∨
    (decide (M < (nth (nth cards c).lines i).minute) = false ∧ decide ((nth (nth cards c).lines i).minute < s.1) = false ∧ decide (s.1 < (nth (nth cards c).lines i).minute) = false ∧ decide (s.2 < (nth (nth cards c).lines i).time) = false ∧ Hid (beforeStep cards i M s c = s)) := by
  unfold beforeStep
  rw [show tookP cards c i = (nth (nth cards c).lines i).time from rfl]
  generalize (nth (nth cards c).lines i).minute = m
  generalize (nth (nth cards c).lines i).time = t
  by_cases h1 : M < m
  · left; exact ⟨decide_eq_true h1, Lib.hid (if_neg (by omega))⟩
  · right
    by_cases h2 : m < s.1
    · left; exact ⟨decide_eq_false h1, decide_eq_true h2, Lib.hid (if_neg (by omega))⟩
    · right
      by_cases h3 : s.1 < m
      · left; exact ⟨decide_eq_false h1, decide_eq_false h2, decide_eq_true h3, Lib.hid (if_pos (by omega))⟩
      · right
        by_cases h4 : s.2 < t
        · left; exact ⟨decide_eq_false h1, decide_eq_false h2, decide_eq_false h3, decide_eq_true h4, Lib.hid (if_pos (by omega))⟩
        · right; exact ⟨decide_eq_false h1, decide_eq_false h2, decide_eq_false h3, decide_eq_false h4, Lib.hid (if_neg (by omega))⟩
theorem Lt.lt_of {a b c : World} (h : Lt b c) (k : Lt a b) : Lt a c := k.trans h
theorem share_wrap64 (a p : Int) (ha : 0 ≤ a ∧ a ≤ 36000000) (hp : 100 ≤ p ∧ p ≤ 1000) : wrap64 ((wrap64 (wrap64 (a * p) + 99)).tdiv 100) = (a * p + 99) / 100 := by
  have h0 : 0 ≤ a * p := Int.mul_nonneg ha.1 (by omega)
  have h1 : a * p ≤ 36000000 * 1000 := Int.mul_le_mul ha.2 hp.2 (by omega) (by omega)
  generalize a * p = x at h0 h1 ⊢
  have h2 : wrap64 x = x := by unfold wrap64; omega
  rw [h2]
  have h3 : wrap64 (x + 99) = x + 99 := by unfold wrap64; omega
  rw [h3, Int.tdiv_eq_ediv_of_nonneg (by omega)]
  unfold wrap64; omega

set_option maxHeartbeats 8000000 in
set_option maxRecDepth 100000 in
theorem r_notional (m : PlanM) (p : Plan) (A : Option Addr) (c : Nat) (cards : List Card) (k i : Nat) (w : World) (hp : PlanIs w m p) (hc : Cards w A c cards) (hP : PlanOK p) (hO : cardsOK p cards) (hi : i < p.items.length) (hk : k < cards.length) :
    Calls Tryz.prog 61 #[planV m p, .slice A cards.length c, .int .i64 k, .int .i64 i] w fun e w' => e = .returned (.int .i64 (notionalR p cards k i)) ∧ ∃ q : Later w, w' = q.world := by
  have hHB := fun (W : World) (h : Lt w W) => r_Basis m p A c cards i k W (hp.later h) (hc.later h) hP hO hi hk
  have hil : ∀ j, j < cards.length → i < (nth cards j).lines.length := fun j hj => by rw [(hO.2 j hj).lines]; exact hi
  have HIL := Lib.hid hil
  have hch : ∀ j, j < (chosenP p cards k i).length → nth (chosenP p cards k i) j < cards.length := fun j hj => chosen_lt (nth_mem _ j hj)
  have HCH := Lib.hid hch
  have hfew : (chosenP p cards k i).length ≤ 200 := chosen_few hO.1
  have HSH := Lib.hid (fun (h0 : 0 < (chosenP p cards k i).length) => share_wrap64 (nth (sortedP cards (chosenP p cards k i) i) 0) p.percent (sortedP_bd (fun j hj => chosen_bd hO hi hj) 0 h0) hP.percent)
  have hSL := sortedP_length cards (chosenP p cards k i) i
  have hnot := hP.notional
  have hcm := hc.2.1
  obtain ⟨W0, hW0, hB⟩ := boxed1 w m p
  have HC := Lib.hid (hc.later hB.lt)
  have HL0 := Lib.hid hB.lt
  have HS := Lib.hid (fun (W : World) (h : Lt W0 W) (B : Option Addr) (d : Nat) (hI : Ints W B d (nums (chosenP p cards k i))) => r_sorted A c cards i B d (chosenP p cards k i) W (hc.later (hB.lt.trans h)) hI (fun j hj => ⟨hch j hj, hil _ (hch j hj)⟩) (by omega))
  have hbw := hB.sz
  have p0 := hB.plan.c0
  have p1 := hB.plan.c1
  have p2 := hB.plan.c2
  have p3 := hB.plan.c3
  have p4 := hB.plan.c4
  have p5 := hB.plan.c5
  have p6 := hB.plan.c6
  have p7 := hB.plan.c7
  have p8 := hB.plan.c8
  have p9 := hB.plan.c9
  have p10 := hB.plan.c10
  have p11 := hB.plan.c11
  have p12 := hB.plan.c12
  have p13 := hB.plan.c13
  have hkz : (k : Int) < cards.length := by omega
  obtain ⟨b, o, rfl, hbl, cm, hcm2, -, -, x2⟩ := (hc.later hB.lt).at_ k hk
  obtain ⟨lb, lo, hlA, hlb, l0, -, -, -⟩ := hcm2.lines.at_ i (hil k hk)
  have hilk := hil k hk
  have hilz : (i : Int) < (nth cards k).lines.length := by omega
  rw [hlA] at x2
  have hR : notionalR p cards k i = if (chosenP p cards k i).length = 0 then 0 else notionalP p cards (chosenP p cards k i) k i := rfl
  have hN : notionalP p cards (chosenP p cards k i) k i = if p.notional = 1 then nth (sortedP cards (chosenP p cards k i) i) (((chosenP p cards k i).length - 1) / 2)
    else if p.notional = 2 then nth (sortedP cards (chosenP p cards k i) i) ((chosenP p cards k i).length - 1)
    else if p.notional = 3 then ((chosenP p cards k i).foldl (beforeStep cards i (nth (nth cards k).lines i).minute) (-1, nth (sortedP cards (chosenP p cards k i) i) 0)).2
    else (nth (sortedP cards (chosenP p cards k i) i) 0 * p.percent + 99) / 100 := rfl
  obtain ⟨iA, ic, jA, jc, pA, pc, eA, ec⟩ := m
  simp only [planV, planC] at hW0 hHB ⊢
  have HBA := Lib.hid (fun W (h : Lt W0 W) => hHB W (HL0.out.trans h))
  have HW0 := Lib.hid hW0
  clear hW0 hB hp hc hHB hP hO hcm2 hlA hil hch
  generalize notionalR p cards k i = RR at *
  generalize notionalP p cards (chosenP p cards k i) k i = NN at *
  generalize sortedP cards (chosenP p cards k i) i = S at *
  generalize chosenP p cards k i = L at *
  generalize (nth (nth cards k).lines i).minute = M at *
  have HR := Lib.hid hR
  have HN := Lib.hid hN
  have HSL := Lib.hid hSL
  clear hR hN hSL
  go_enter Tryz.func61, Tryz.ntmps61
  go_upto_region 1 with fail
  rw [HW0.out]
  go_wp2_with fail
  refine (HBA.out _ (Lt.refl _)).mono ?_
  rintro e w' ⟨B1, c1, rfl, q1, rfl, hI1⟩
  have HI1 := Lib.hid hI1
  have hB1m := hI1.2.1
  clear hI1
  by_cases h0 : L.length = 0
  · have h0b : (L.length == 0) = true := beq_iff_eq.2 h0
    have h0c : ((L.length : Int) == 0) = true := by rw [beq_iff_eq]; omega
    have HE := Lib.hid (HR.out.trans (if_pos h0))
    clear h0
    go_wp2_with fail
    go_ret
    exact ⟨ret_int HE.out.symm, ⟨q1.world, q1.to HL0.out⟩, rfl⟩
  have h0b : (L.length == 0) = false := beq_eq_false_iff_ne.2 h0
  have h0c : ((L.length : Int) == 0) = false := by rw [beq_eq_false_iff_ne]; omega
  have HE := Lib.hid (HR.out.trans (if_neg h0))
  have hpos : 0 < L.length := by omega
  clear h0
  go_wp2_with fail
  refine (HS.out _ q1.lt _ _ HI1.out).mono ?_
  rintro e w' ⟨B2, c2, rfl, q2, rfl, hI2⟩
  obtain ⟨q3, hq3⟩ : ∃ q3 : Later W0, q2.world = q3.world := ⟨⟨_, q2.to q1.lt⟩, rfl⟩
  have hI1b := HI1.out.later q2.lt
  rw [hq3] at hI2 hI1b ⊢
  have HI2 := Lib.hid hI2
  have HI3 := Lib.hid hI1b
  have hB2m := hI2.2.1
  have hlz : (L.length : Int) ≤ 200 := by omega
  have hpz : 1 ≤ (L.length : Int) := by omega
  have hS0 : 0 < S.length := by rw [HSL.out]; exact hpos
  have hL0z : (0 : Int) < L.length := by omega
  clear hI1b hI2 hq3 HI1 q1 q2 HBA HS
  by_cases n1 : p.notional = 1
  · have n1b : (p.notional == 1) = true := beq_iff_eq.2 n1
    have HF := Lib.hid (HE.out.trans (HN.out.trans (if_pos n1)))
    obtain ⟨vb, vo, rfl, hvb, hvc⟩ := HI2.out.at_ ((L.length - 1) / 2) (by rw [HSL.out]; omega)
    have hz : (((L.length - 1) / 2 : Nat) : Int) < (L.length : Int) := by omega
    have hz2 : (L.length - 1) / 2 < L.length := by omega
    clear n1
    go_wp2_with fail
    go_ret
    exact ⟨ret_int HF.out.symm, ⟨q3.world, q3.to HL0.out⟩, rfl⟩
  have n1b : (p.notional == 1) = false := beq_eq_false_iff_ne.2 n1
  by_cases n2 : p.notional = 2
  · have n2b : (p.notional == 2) = true := beq_iff_eq.2 n2
    have HF := Lib.hid (HE.out.trans (HN.out.trans ((if_neg n1).trans (if_pos n2))))
    obtain ⟨vb, vo, rfl, hvb, hvc⟩ := HI2.out.at_ (L.length - 1) (by rw [HSL.out]; omega)
    have hz : ((L.length - 1 : Nat) : Int) < (L.length : Int) := by omega
    have hz2 : L.length - 1 < L.length := by omega
    clear n1 n2
    go_wp2_with fail
    go_ret
    exact ⟨ret_int HF.out.symm, ⟨q3.world, q3.to HL0.out⟩, rfl⟩
  have n2b : (p.notional == 2) = false := beq_eq_false_iff_ne.2 n2
  obtain ⟨vb, vo, rfl, hvb, hvc⟩ := HI2.out.at_ 0 hS0
  rw [Nat.add_zero] at hvc
  by_cases n3 : p.notional = 3
  rotate_left
  · have n4b : (p.notional == 4) = true := by rw [beq_iff_eq]; omega
    have HF := Lib.hid (HE.out.trans (HN.out.trans ((if_neg n1).trans ((if_neg n2).trans (if_neg n3)))))
    have HSW := Lib.hid (HSH.out hpos)
    clear n1 n2 n3
    go_wp2_with fail
    go_region
    all_goals
      go_wp2_with fail
      go_ret
      exact ⟨ret_int (HSW.out.trans HF.out.symm), ⟨_, (q3.to HL0.out).drew⟩, rfl⟩
  have n4b : (p.notional == 4) = false := by rw [beq_eq_false_iff_ne]; omega
  have HF := Lib.hid (HE.out.trans (HN.out.trans ((if_neg n1).trans ((if_neg n2).trans (if_pos n3)))))
  clear n1 n2 n3 HE HN
  go_wp2_with fail
  go_region
  all_goals
    obtain ⟨q4, hq4⟩ : ∃ q4 : Later W0, q3.world.drew = q4.world := ⟨⟨_, q3.lt.drew⟩, rfl⟩
    have HI4 := Lib.hid (HI3.out.later (show Lt q3.world q4.world by rw [← hq4]; exact (Lt.refl _).drew))
    rw [hq4]
    clear hq4 HI3 HI2 hvb hvc q3
    go_wp2_with fail
    go_loopw [11, 12, 13] (fun v9 v10 t wr => ∃ (j : Nat) (q : Later W0), v9 = .int .i64 ((L.take j).foldl (beforeStep cards i M) (-1, nth S 0)).1 ∧ v10 = .int .i64 ((L.take j).foldl (beforeStep cards i M) (-1, nth S 0)).2 ∧ t = .int .i64 j ∧ wr = q.world ∧ j ≤ L.length ∧ Hid (Ints q.world B1 c1 (nums L))) (fun _ _ t _ => L.length - (intOf t).toNat)
    case atStart => exact ⟨0, q4, rfl, rfl, rfl, rfl, Nat.zero_le _, HI4⟩
    case round =>
      clear HI4
      obtain ⟨j, q, rfl, rfl, rfl, rfl, hj, HIL2⟩ := hrel
      by_cases hjl : j < L.length
      · have hjz : (j : Int) < L.length := by omega
        have HNX := Lib.hid (before_take cards L i j M (-1, nth S 0) hjl)
        obtain ⟨yb, yo, rfl, hyb, hyc⟩ := HIL2.out.at_ j (by rw [nums_length]; exact hjl)
        rw [nth_nums _ _ hjl] at hyc
        have hjc := HCH.out j hjl
        have hjcz : ((nth L j : Nat) : Int) < cards.length := by omega
        have hji := HIL.out _ hjc
        have hjiz : (i : Int) < (nth cards (nth L j)).lines.length := by omega
        obtain ⟨b3, o3, e3, -, cm3, hci3, -, -, z2⟩ := HC.out.at_ (nth L j) hjc
        cases e3
        obtain ⟨nb, no, hnA, hnb, m0, m1, m2, m3⟩ := hci3.lines.at_ i hji
        rw [hnA] at z2
        clear hci3 hnA
        have hsp : ∀ W, Lt q.world W → Hid (Ints W (some ⟨yb, yo, none⟩) c1 (nums L)) := fun W h => Lib.hid (HIL2.out.later h)
        have HSP := Lib.hid hsp
        clear hsp
        rcases before_cases2 cards i (nth L j) M ((L.take j).foldl (beforeStep cards i M) (-1, nth S 0)) with ⟨t1, HQ⟩ | ⟨t1, t2, HQ⟩ | ⟨t1, t2, t3, HQ⟩ | ⟨t1, t2, t3, t4, HQ⟩ | ⟨t1, t2, t3, t4, HQ⟩
        all_goals
          generalize (L.take j).foldl (beforeStep cards i M) (-1, nth S 0) = ST at *
          go_wp2_with fail
          refine wp_region_later follows_ (by kernel_rfl) ?_
          repeat (go_big_quiet_step (fail))
          refine wpQuiet_nil ?_
          rintro _ ⟨q5, rfl⟩
          have hq5 : Lt q.world q5.world := q5.to ((Lt.refl _).alloc _)
          have HI5 := HSP.out _ hq5
          go_wp2_with fail
          first
          | exact ⟨⟨j + 1, ⟨q5.world, hq5.lt_of q.lt⟩, by rw [HNX.out, HQ.out], by rw [HNX.out, HQ.out], by go_num, rfl, by omega, HI5⟩, by simp [intOf]; omega⟩
          | (refine wp_region_laterB q5 follows_ (by kernel_rfl) ?_
             repeat (go_big_quiet_step (fail))
             refine wpQuiet_nil ?_
             rintro _ ⟨q6, rfl⟩
             have hq6 : Lt q.world q6.world := q6.to ((Lt.refl _).alloc _)
             have HI6 := HSP.out _ hq6
             go_wp2_with fail
             exact ⟨⟨j + 1, ⟨q6.world, hq6.lt_of q.lt⟩, by rw [HNX.out, HQ.out], by rw [HNX.out, HQ.out], by go_num, rfl, by omega, HI6⟩, by simp [intOf]; omega⟩)
      · have hje : j = L.length := by omega
        subst hje
        have HF2 := Lib.hid (show ((L.take L.length).foldl (beforeStep cards i M) (-1, nth S 0)).2 = RR by rw [List.take_length]; exact HF.out.symm)
        go_wp2_with fail
        go_ret
        exact ⟨ret_int HF2.out, ⟨q.world, q.to HL0.out⟩, rfl⟩
end Go.Proofs.YtdpcdmcmpfjbjaaGreat
