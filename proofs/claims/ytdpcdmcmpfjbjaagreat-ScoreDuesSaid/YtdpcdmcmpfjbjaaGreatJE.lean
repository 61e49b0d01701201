/- Walks: the time of a car in a stage; Walks: the total of a car. -/
import Derived.Test.YtdpcdmcmpfjbjaaGreatJD
import Derived.Laws.EntriesVeiled
import Derived.Test.YtdpcdmcmpfjbjaaGreatJX
/- Walks: the time of a car in a stage. -/
namespace Go.Proofs.YtdpcdmcmpfjbjaaGreat
open Go.RowKit
set_option linter.unusedVariables false
set_option linter.unusedSimpArgs false
attribute [local go_sem] Later.cell Later.frozen Later.size Later.ne Later.cell1 Later.cell2 Later.cell3 Later.size1 Later.size2 Later.size3 Later.ne1 Later.ne2 Later.ne3

theorem chosen_bd {p : Plan} {cards : List Card} (hO : cardsOK p cards) {car i : Nat} (hi : i < p.items.length) {j : Nat} (h : j ∈ chosenP p cards car i) : 0 ≤ tookP cards j i ∧ tookP cards j i ≤ 36000000 :=
  ((hO.2 j (chosen_lt h)).line i hi).2.1
theorem realP_few {p : Plan} {cards : List Card} {i : Nat} {cls : Int} (h : cards.length ≤ 200) : (realP p cards i cls).length ≤ 200 := Nat.le_trans (realTo_length p cards i cls cards.length) h
theorem chosen_few {p : Plan} {cards : List Card} {car i : Nat} (h : cards.length ≤ 200) : (chosenP p cards car i).length ≤ 200 := by
  unfold chosenP
  split <;> exact realP_few h
theorem missed_wrap (a m : Int) (ha : 0 ≤ a ∧ a ≤ 36000000) (hp : 0 ≤ m ∧ m ≤ 36000000) : IntKind.i64.wrap (a + m) = a + m := IntWalk.i64_in _ (by omega)
theorem timeP_plain {p : Plan} {cards : List Card} {car i : Nat} (h : (nth (nth cards car).lines i).mark = 0) : timeP p cards car i = tookP cards car i := if_pos h
theorem timeP_missed0 {p : Plan} {cards : List Card} {car i : Nat} (h : (nth (nth cards car).lines i).mark = 2) (h0 : (chosenP p cards car i).length = 0) : timeP p cards car i = p.missed := by unfold timeP; rw [if_neg (by omega), if_pos h, if_pos h0]
theorem timeP_missed {p : Plan} {cards : List Card} {car i : Nat} (h : (nth (nth cards car).lines i).mark = 2) (h0 : ¬ (chosenP p cards car i).length = 0) : timeP p cards car i = nth (sortedP cards (chosenP p cards car i) i) 0 + p.missed := by unfold timeP; rw [if_neg (by omega), if_pos h, if_neg h0]
theorem timeP_0 {p : Plan} {cards : List Card} {car i : Nat} (h : (nth (nth cards car).lines i).mark = 1) (h0 : (chosenP p cards car i).length = 0) : timeP p cards car i = 0 := by unfold timeP; rw [if_neg (by omega), if_neg (by omega), if_pos h0]
theorem timeP_n {p : Plan} {cards : List Card} {car i : Nat} (h : (nth (nth cards car).lines i).mark = 1) (h0 : ¬ (chosenP p cards car i).length = 0) : timeP p cards car i = notionalP p cards (chosenP p cards car i) car i := by unfold timeP; rw [if_neg (by omega), if_neg (by omega), if_neg h0]

theorem notionalP_eq (p : Plan) (cards : List Card) (l : List Nat) (car i : Nat) : notionalP p cards l car i = if p.notional = 1 then nth (sortedP cards l i) ((l.length - 1) / 2)
  else if p.notional = 2 then nth (sortedP cards l i) (l.length - 1)
  else if p.notional = 3 then beforeP cards l car i
  else (nth (sortedP cards l i) 0 * p.percent + 99) / 100 := rfl

set_option maxHeartbeats 2000000 in
set_option maxRecDepth 100000 in
theorem c_time (g : Nat) (em : EvM) (p : Plan) (cards : List Card) (car i : Nat) (w : World) (he : EventIs w g em p cards) (hP : PlanOK p) (hO : cardsOK p cards) (hcar : car < cards.length) (hi : i < p.items.length) :
    Calls Tryz.prog 56 #[.pointer (some ⟨g, 0, none⟩), .int .i64 car, .int .i64 i] w fun e w' => e = .returned (.int .i64 (timeP p cards car i)) ∧ ∃ q : Later w, w' = q.world := by
  have hil : ∀ j, j < cards.length → i < (nth cards j).lines.length := fun j hj => by rw [(hO.2 j hj).lines]; exact hi
  have HCH := Lib.hid (c_chosen g em p cards car i w he hcar hil hO.1)
  have HTK := Lib.hid (fun (W : World) (h : Lt w W) => c_took g em p cards car i W (he.later h) hcar (hil car hcar))
  have hch : ∀ j, j ∈ chosenP p cards car i → j < cards.length := fun j hj => chosen_lt hj
  have hfew : (chosenP p cards car i).length ≤ 200 := chosen_few hO.1
  have HS := Lib.hid (fun (W : World) (h : Lt w W) (A : Option Addr) (c : Nat) (hI : Ints W A c (nums (chosenP p cards car i))) => c_sorted g em p cards A c (chosenP p cards car i) i W (he.later h) hI hch hil hfew)
  have HM := Lib.hid (fun (W : World) (h : Lt w W) (A : Option Addr) (c : Nat) (hI : Ints W A c (nums (chosenP p cards car i))) (h0 : 0 < (chosenP p cards car i).length) => c_middle g em p cards A c (chosenP p cards car i) car i W (he.later h) hI hch hil hfew h0)
  have HL := Lib.hid (fun (W : World) (h : Lt w W) (A : Option Addr) (c : Nat) (hI : Ints W A c (nums (chosenP p cards car i))) (h0 : 0 < (chosenP p cards car i).length) => c_slowest g em p cards A c (chosenP p cards car i) car i W (he.later h) hI hch hil hfew h0)
  have HB := Lib.hid (fun (W : World) (h : Lt w W) (A : Option Addr) (c : Nat) (hI : Ints W A c (nums (chosenP p cards car i))) (h0 : 0 < (chosenP p cards car i).length) => c_before g em p cards A c (chosenP p cards car i) car i W (he.later h) hI hch hil hfew h0 hcar)
  have HH := Lib.hid (fun (W : World) (h : Lt w W) (A : Option Addr) (c : Nat) (hI : Ints W A c (nums (chosenP p cards car i))) (h0 : 0 < (chosenP p cards car i).length) => c_share g em p cards A c (chosenP p cards car i) car i W (he.later h) hI hch hil hfew h0 (fun j hj => chosen_bd hO hi hj) hP.percent)
  have HSB := Lib.hid (fun (h0 : 0 < (chosenP p cards car i).length) => missed_wrap _ p.missed (sortedP_bd (fun j hj => chosen_bd hO hi hj) 0 h0) hP.missed)
  have hSL := sortedP_length cards (chosenP p cards car i) i
  have hmark := ((hO.2 car hcar).line i hi).2.2
  have hnot := hP.notional
  obtain ⟨⟨iA, ic, jA, jc, pA, pc, eA, ec⟩, cA, cc, oA, oc⟩ := em
  have e14 := he.c14
  have e8 := he.c8
  have e9 := he.c9
  have hgl := he.lt
  have hcm := he.cars.2.1
  obtain ⟨b, o, rfl, hbl, ⟨sA, sc, lA, lc⟩, hci, -, -, c2⟩ := he.cars.at_ car hcar
  obtain ⟨lb, lo, rfl, hlbl, -, -, -, l3⟩ := hci.lines.at_ i (hil car hcar)
  have hcl := hil car hcar
  have hclz : (i : Int) < (nth cards car).lines.length := by omega
  have hcz : (car : Int) < (cards.length : Int) := by omega
  have hlm := hci.lines.2.1
  have TP := @timeP_plain p cards car i
  have TM0 := @timeP_missed0 p cards car i
  have TM := @timeP_missed p cards car i
  have T0 := @timeP_0 p cards car i
  have TN := @timeP_n p cards car i
  have TN' := notionalP_eq p cards (chosenP p cards car i) car i
  clear he hil hO hP hci hch hi
  generalize notionalP p cards (chosenP p cards car i) car i = NN at TN TN'
  generalize beforeP cards (chosenP p cards car i) car i = BB at HB TN'
  generalize sortedP cards (chosenP p cards car i) i = S at *
  generalize chosenP p cards car i = L at *
  generalize timeP p cards car i = T at *
  generalize tookP cards car i = TT at *
  have hm3 : (nth (nth cards car).lines i).mark = 0 ∨ (nth (nth cards car).lines i).mark = 1 ∨ (nth (nth cards car).lines i).mark = 2 := by omega
  clear hmark
  generalize (nth (nth cards car).lines i).mark = mk at *
  rcases hm3 with rfl | rfl | rfl
  · obtain rfl := TP rfl
    clear TP TM0 TM T0 TN TN' HS HM HL HB HH HSB
    go_enter Tryz.func56, Tryz.ntmps56
    go_wp2_with fail
    refine HCH.out.mono ?_
    rintro e w' ⟨A1, c1, rfl, q, rfl, hI1⟩
    clear hI1
    go_wp2_with (first | (go_at_call 66; refine (HTK.out _ q.lt).mono ?_; rintro e w' ⟨rfl, rfl⟩) | fail)
    go_ret
    exact ⟨rfl, q, rfl⟩
  · clear TP TM0 TM
    by_cases h0 : L.length = 0
    · obtain rfl := T0 rfl h0
      clear T0 TN TN' HS HM HL HB HH HSB
      go_enter Tryz.func56, Tryz.ntmps56
      go_wp2_with fail
      refine HCH.out.mono ?_
      rintro e w' ⟨A1, c1, rfl, q, rfl, hI1⟩
      clear hI1
      go_wp2_with fail
      go_ret
      exact ⟨rfl, q, rfl⟩
    · obtain rfl := TN rfl h0
      have hp0 : 0 < L.length := by omega
      have h0b : ((L.length : Int) == 0) = false := beq_eq_false_iff_ne.2 (by omega)
      clear T0 TN HS HSB
      have hn4 : p.notional = 1 ∨ p.notional = 2 ∨ p.notional = 3 ∨ p.notional = 4 := by omega
      generalize p.notional = nt at *
      rcases hn4 with rfl | rfl | rfl | rfl
      · have HN : Hid (T = nth S ((L.length - 1) / 2)) := by rw [TN']; exact Lib.hid (if_pos rfl)
        clear HL HB HH TN'
        go_enter Tryz.func56, Tryz.ntmps56
        go_wp2_with fail
        refine HCH.out.mono ?_
        rintro e w' ⟨A1, c1, rfl, q, rfl, hI1⟩
        have HI := Lib.hid hI1
        clear hI1
        go_wp2_with fail
        refine (HM.out _ (q.lt.alloc _) _ _ (HI.out.later ((Lt.refl _).alloc _)) hp0).mono ?_
        rintro e w' ⟨rfl, q2, rfl⟩
        go_wp2_with fail
        go_ret
        exact ⟨ret_int HN.out.symm, ⟨q2.world, q2.to (q.lt.alloc _)⟩, rfl⟩
      · have HN : Hid (T = nth S (L.length - 1)) := by rw [TN']; exact Lib.hid (by rw [if_neg (by decide), if_pos rfl])
        clear HM HB HH TN'
        go_enter Tryz.func56, Tryz.ntmps56
        go_wp2_with fail
        refine HCH.out.mono ?_
        rintro e w' ⟨A1, c1, rfl, q, rfl, hI1⟩
        have HI := Lib.hid hI1
        clear hI1
        go_wp2_with fail
        refine (HL.out _ (q.lt.alloc _) _ _ (HI.out.later ((Lt.refl _).alloc _)) hp0).mono ?_
        rintro e w' ⟨rfl, q2, rfl⟩
        go_wp2_with fail
        go_ret
        exact ⟨ret_int HN.out.symm, ⟨q2.world, q2.to (q.lt.alloc _)⟩, rfl⟩
      · have HN : Hid (T = BB) := by rw [TN']; exact Lib.hid (by rw [if_neg (by decide), if_neg (by decide), if_pos rfl])
        clear HM HL HH TN'
        go_enter Tryz.func56, Tryz.ntmps56
        go_wp2_with fail
        refine HCH.out.mono ?_
        rintro e w' ⟨A1, c1, rfl, q, rfl, hI1⟩
        have HI := Lib.hid hI1
        clear hI1
        go_wp2_with fail
        refine (HB.out _ (q.lt.alloc _) _ _ (HI.out.later ((Lt.refl _).alloc _)) hp0).mono ?_
        rintro e w' ⟨rfl, q2, rfl⟩
        go_wp2_with fail
        go_ret
        exact ⟨ret_int HN.out.symm, ⟨q2.world, q2.to (q.lt.alloc _)⟩, rfl⟩
      · have HN : Hid (T = (nth S 0 * p.percent + 99) / 100) := by rw [TN']; exact Lib.hid (by rw [if_neg (by decide), if_neg (by decide), if_neg (by decide)])
        clear HM HL HB TN'
        go_enter Tryz.func56, Tryz.ntmps56
        go_wp2_with fail
        refine HCH.out.mono ?_
        rintro e w' ⟨A1, c1, rfl, q, rfl, hI1⟩
        have HI := Lib.hid hI1
        clear hI1
        go_wp2_with fail
        refine (HH.out _ (q.lt.alloc _) _ _ (HI.out.later ((Lt.refl _).alloc _)) hp0).mono ?_
        rintro e w' ⟨rfl, q2, rfl⟩
        go_wp2_with fail
        go_ret
        exact ⟨ret_int HN.out.symm, ⟨q2.world, q2.to (q.lt.alloc _)⟩, rfl⟩
  · clear TP T0 TN TN' HTK HM HL HB HH
    by_cases h0 : L.length = 0
    · obtain rfl := TM0 rfl h0
      clear TM0 TM HS HSB
      go_enter Tryz.func56, Tryz.ntmps56
      go_wp2_with fail
      refine HCH.out.mono ?_
      rintro e w' ⟨A1, c1, rfl, q, rfl, hI1⟩
      clear hI1
      go_wp2_with fail
      go_ret
      exact ⟨rfl, q, rfl⟩
    · obtain rfl := TM rfl h0
      have hp0 : 0 < L.length := by omega
      have h0b : ((L.length : Int) == 0) = false := beq_eq_false_iff_ne.2 (by omega)
      have hz3 : 0 < S.length := by omega
      have hz2 : (0 : Int) < (S.length : Int) := by omega
      have hwr := HSB.out hp0
      clear TM0 TM HSB
      go_enter Tryz.func56, Tryz.ntmps56
      go_wp2_with fail
      refine HCH.out.mono ?_
      rintro e w' ⟨A1, c1, rfl, q, rfl, hI1⟩
      have HI := Lib.hid hI1
      clear hI1
      have hq8 := q.lt.cell e8
      go_wp2_with fail
      go_region_with (first | (go_at_call 67; refine (HS.out _ q.lt.drew _ _ (HI.out.later (Lt.refl _).drew)).mono ?_; rintro e w1 ⟨A2, c2, rfl, q2, rfl, hI2⟩; have hq82 := q2.lt.cell ((Lt.refl q.world).drew.cell hq8); obtain ⟨b2, o2, rfl, hbl2, hcel⟩ := hI2.at_ 0 hz3; simp only [Nat.add_zero] at hcel; clear hI2))
      all_goals
        go_wp2_with fail
        go_ret
        exact ⟨rfl, ⟨q2.world, q2.to q.lt.drew⟩, rfl⟩
end Go.Proofs.YtdpcdmcmpfjbjaaGreat
/- Walks: the total of a car. -/
namespace Go.Proofs.YtdpcdmcmpfjbjaaGreat
open Go.RowKit
set_option linter.unusedVariables false
set_option linter.unusedSimpArgs false
attribute [local go_sem] Later.cell Later.frozen Later.size Later.ne Later.cell1 Later.cell2 Later.cell3 Later.size1 Later.size2 Later.size3 Later.ne1 Later.ne2 Later.ne3

theorem beforeFold_bd (cards : List Card) (i : Nat) (M : Int) : ∀ (l : List Nat) (s : Int × Int), (0 ≤ s.2 ∧ s.2 ≤ 36000000) → (∀ j, j ∈ l → 0 ≤ tookP cards j i ∧ tookP cards j i ≤ 36000000) → 0 ≤ (l.foldl (beforeStep cards i M) s).2 ∧ (l.foldl (beforeStep cards i M) s).2 ≤ 36000000 := by
  intro l
  induction l with
  | nil => intro s h _; exact h
  | cons x l ih =>
    intro s h hl
    refine ih _ ?_ (fun j hj => hl j (List.mem_cons_of_mem _ hj))
    unfold beforeStep
    split
    · exact hl x (List.mem_cons_self ..)
    · exact h
theorem share_bd {a p : Int} (ha : 0 ≤ a ∧ a ≤ 36000000) (hp : 100 ≤ p ∧ p ≤ 1000) : 0 ≤ (a * p + 99) / 100 ∧ (a * p + 99) / 100 ≤ 400000000 := by
  have h0 : 0 ≤ a * p := Int.mul_nonneg ha.1 (by omega)
  have h1 : a * p ≤ 36000000 * 1000 := Int.mul_le_mul ha.2 hp.2 (by omega) (by omega)
  omega
theorem time_bd {p : Plan} {cards : List Card} (hP : PlanOK p) (hO : cardsOK p cards) {car i : Nat} (hcar : car < cards.length) (hi : i < p.items.length) : 0 ≤ timeP p cards car i ∧ timeP p cards car i ≤ 400000000 := by
  have hb : ∀ j, j ∈ chosenP p cards car i → 0 ≤ tookP cards j i ∧ tookP cards j i ≤ 36000000 := fun j hj => chosen_bd hO hi hj
  have hm := hP.missed
  unfold timeP
  split
  · have := ((hO.2 car hcar).line i hi).2.1
    unfold tookP; omega
  · split
    · split
      · omega
      · have := sortedP_bd hb 0 (by omega)
        omega
    · split
      · omega
      · have h0 : 0 < (chosenP p cards car i).length := by omega
        have s0 := sortedP_bd hb 0 h0
        rw [notionalP_eq]
        split
        · have := sortedP_bd hb (((chosenP p cards car i).length - 1) / 2) (by omega); omega
        · split
          · have := sortedP_bd hb ((chosenP p cards car i).length - 1) (by omega); omega
          · split
            · have := beforeFold_bd cards i (nth (nth cards car).lines i).minute (chosenP p cards car i) (-1, nth (sortedP cards (chosenP p cards car i) i) 0) s0 hb
              unfold beforeP; omega
            · exact share_bd s0 hP.percent
theorem mul_bd {a l : Int} (ha : 0 ≤ a ∧ a ≤ 101440) (hl : 0 ≤ l ∧ l ≤ 36000000) : 0 ≤ a * l ∧ a * l ≤ 3651840000000 := by
  have h0 : 0 ≤ a * l := Int.mul_nonneg ha.1 hl.1
  have h1 : a * l ≤ 101440 * 36000000 := Int.mul_le_mul ha.2 hl.2 hl.1 (by omega)
  omega
theorem cost_bd {p : Plan} {c : Card} (hP : PlanOK p) (hC : CardOK p c) {i : Nat} (hi : i < p.items.length) : 0 ≤ costP p c i ∧ costP p c i ≤ 3651840000000 := by
  rcases penalty_cases hP hC hi with ⟨_, h⟩ | ⟨_, _, h⟩ | ⟨_, _, h⟩ | ⟨_, h⟩ <;> rw [h.out]
  · exact mul_bd (by_bd hP hC hi) hP.late
  · exact mul_bd (by_bd hP hC hi) hP.early
  · omega
  · omega
theorem jump_bd {p : Plan} {c : Card} (hP : PlanOK p) {i : Nat} : 0 ≤ jumpP p c i ∧ jumpP p c i ≤ 36000000 := by
  have h := hP.jumps
  have h1 := h.1
  exact h.2.2 _ (by omega)
theorem add_bd {p : Plan} {cards : List Card} (hP : PlanOK p) (hO : cardsOK p cards) {car i : Nat} (hcar : car < cards.length) (hi : i < p.items.length) : 0 ≤ addP p cards car i ∧ addP p cards car i ≤ 4000000000000 := by
  have h1 := time_bd hP hO hcar hi
  have h2 := cost_bd hP (hO.2 car hcar) hi
  have h3 := @jump_bd p (nth cards car) hP i
  unfold addP
  split <;> split <;> omega
theorem totalTo_bd {p : Plan} {cards : List Card} (hP : PlanOK p) (hO : cardsOK p cards) {car : Nat} (hcar : car < cards.length) : ∀ k, k ≤ p.items.length → 0 ≤ totalTo p cards car k ∧ totalTo p cards car k ≤ k * 4000000000000 := by
  intro k
  induction k with
  | zero => intro _; exact ⟨Int.le_refl _, by simp [totalTo]⟩
  | succ k ih =>
    intro hk
    have h1 := ih (by omega)
    have h2 := add_bd hP hO hcar (show k < p.items.length by omega)
    show 0 ≤ totalTo p cards car k + (if runsP p (nth cards car) k = true then addP p cards car k else 0) ∧ totalTo p cards car k + (if runsP p (nth cards car) k = true then addP p cards car k else 0) ≤ _
    split <;> omega
theorem totalTo_succ {p : Plan} {cards : List Card} {car k : Nat} (h : runsP p (nth cards car) k = true) : totalTo p cards car (k + 1) = totalTo p cards car k + addP p cards car k := by
  show totalTo p cards car k + (if runsP p (nth cards car) k = true then addP p cards car k else 0) = _
  rw [if_pos h]

set_option maxHeartbeats 2000000 in
set_option maxRecDepth 100000 in
theorem c_total (g : Nat) (em : EvM) (p : Plan) (cards : List Card) (car : Nat) (w : World) (he : EventIs w g em p cards) (hP : PlanOK p) (hO : cardsOK p cards) (hcar : car < cards.length) :
    Calls Tryz.prog 57 #[.pointer (some ⟨g, 0, none⟩), .int .i64 car] w fun e w' => e = .returned (.int .i64 (totalP p cards car)) ∧ ∃ q : Later w, w' = q.world := by
  have hll : (nth cards car).lines.length = p.items.length := (hO.2 car hcar).lines
  have hfew := hP.few
  have HR := Lib.hid (fun (W : World) (h : Lt w W) (i : Nat) => c_runs g em p cards car i W (he.later h) hcar)
  have HST := Lib.hid (fun (W : World) (h : Lt w W) (i : Nat) (hi : i < p.items.length) => c_stage g em p cards i W (he.later h) hi)
  have HTM := Lib.hid (fun (W : World) (h : Lt w W) (i : Nat) (hi : i < p.items.length) => c_time g em p cards car i W (he.later h) hP hO hcar hi)
  have HPN := Lib.hid (fun (W : World) (h : Lt w W) (i : Nat) (hi : i < p.items.length) => c_penalty g em p cards car i W (he.later h) hP hO hcar hi)
  have HJM := Lib.hid (fun (W : World) (h : Lt w W) (i : Nat) (hi : i < p.items.length) (hj : isJump p (nth cards car) i = true) => c_jump g em p cards car i W (he.later h) hcar (by omega) (by omega) hj ⟨hP.jumps.1, hP.jumps.2.1⟩)
  have HTB := Lib.hid (fun (k : Nat) (hk : k ≤ p.items.length) => totalTo_bd hP hO hcar k hk)
  have HAB := Lib.hid (fun (i : Nat) (hi : i < p.items.length) => (⟨time_bd hP hO hcar hi, cost_bd hP (hO.2 car hcar) hi, jump_bd hP⟩ : (0 ≤ timeP p cards car i ∧ timeP p cards car i ≤ 400000000) ∧ (0 ≤ costP p (nth cards car) i ∧ costP p (nth cards car) i ≤ 3651840000000) ∧ (0 ≤ jumpP p (nth cards car) i ∧ jumpP p (nth cards car) i ≤ 36000000)))
  have hgl := he.lt
  obtain ⟨⟨iA, ic, jA, jc, pA, pc, eA, ec⟩, cA, cc, oA, oc⟩ := em
  have e0 := he.c0
  have e14 := he.c14
  have hcm := he.cars.2.1
  have him := he.plan.items.2.1
  have hcz : (car : Int) < (cards.length : Int) := by omega
  obtain ⟨b, o, rfl, hbl, ⟨sA, sc, lA, lc⟩, hci, -, -, c2⟩ := he.cars.at_ car hcar
  have hlm := hci.lines.2.1
  have hpos := hP.pos
  obtain ⟨lb, lo, rfl, hlbl, -⟩ := hci.lines.at_ 0 (by omega)
  have HLI := Lib.hid (fun (k : Nat) (hk : k < (nth cards car).lines.length) => (by obtain ⟨b1, o1, e, -, h⟩ := hci.lines.at_ k hk; cases e; exact h.2.2.1 : w.cell? ⟨lb, lo + k * 4 + 2, none⟩ = some (.bool (nth (nth cards car).lines k).jump)))
  clear he hci hP hO
  go_enter Tryz.func57, Tryz.ntmps57
  go_wp2_with fail
  go_loopw [5, 15] (fun s t wr => ∃ (k : Nat) (q : Later w), s = .int .i64 (totalTo p cards car k) ∧ t = .int .i64 k ∧ wr = q.world ∧ k ≤ p.items.length) (fun _ t _ => p.items.length - (intOf t).toNat)
  case atStart => exact ⟨0, ⟨w, Lt.refl w⟩, rfl, rfl, rfl, Nat.zero_le _⟩
  case round =>
    obtain ⟨k, q, rfl, rfl, rfl, hk⟩ := hrel
    by_cases hlt : k < p.items.length
    · have hlz : (k : Int) < p.items.length := by omega
      have hkl : k < (nth cards car).lines.length := by omega
      have hkz : (k : Int) < (nth cards car).lines.length := by omega
      have l2 := HLI.out k hkl
      cases hr : runsP p (nth cards car) k with
      | false =>
        have HN := Lib.hid (show totalTo p cards car k = totalP p cards car by have := totalTo_stop hr (p.items.length - k); rw [show k + (p.items.length - k) = p.items.length by omega] at this; exact this.symm)
        go_wp2_with (first | (go_at_call 55; refine (HR.out _ (by first | exact q.lt | exact q.lt.alloc _) k).mono ?_; rintro e w' ⟨rfl, rfl⟩) | fail)
        go_ret
        exact ⟨ret_int HN.out, q, rfl⟩
      | true =>
        obtain ⟨⟨t0, t1⟩, ⟨u0, u1⟩, ⟨v0, v1⟩⟩ := HAB.out k hlt
        obtain ⟨s0, s1⟩ := HTB.out k hk
        have hadd : addP p cards car k = (if (nth p.items k).kind = 2 then timeP p cards car k else 0) + costP p (nth cards car) k + (if (nth (nth cards car).lines k).jump = true then jumpP p (nth cards car) k else 0) := rfl
        have HN := totalTo_succ hr
        rw [hadd] at HN
        clear hadd
        have HTM1 := Lib.hid (fun W h => HTM.out W h k hlt)
        have HPN1 := Lib.hid (fun W h => HPN.out W h k hlt)
        have HJM1 := Lib.hid (fun W h (hj : (nth (nth cards car).lines k).jump = true) => HJM.out W h k hlt (by unfold isJump; rw [hj, hr]; rfl))
        generalize totalTo p cards car k = S at *
        generalize timeP p cards car k = T at *
        generalize costP p (nth cards car) k = C at *
        generalize jumpP p (nth cards car) k = J at *
        have hkb : (k : Int) ≤ 100 := by omega
        have hS : S ≤ 400000000000000 := by omega
        have WT : IntKind.i64.wrap (S + T) = S + T := IntWalk.i64_in _ (by omega)
        have WTC : IntKind.i64.wrap (S + T + C) = S + T + C := IntWalk.i64_in _ (by omega)
        have WC : IntKind.i64.wrap (S + C) = S + C := IntWalk.i64_in _ (by omega)
        have WTCJ : IntKind.i64.wrap (S + T + C + J) = S + T + C + J := IntWalk.i64_in _ (by omega)
        have WCJ : IntKind.i64.wrap (S + C + J) = S + C + J := IntWalk.i64_in _ (by omega)
        have HNN := Lib.hid HN
        clear HN t0 t1 u0 u1 v0 v1 s0 s1 hS HTB HAB
        cases hst : ((nth p.items k).kind == 2) with
        | true =>
          have hst2 : (nth p.items k).kind = 2 := beq_iff_eq.1 hst
          cases hj : (nth (nth cards car).lines k).jump with
          | true =>
            go_wp2_with (first | (go_at_call 55; refine (HR.out _ q.lt k).mono ?_; rintro e w' ⟨rfl, rfl⟩) | (go_at_call 54; refine (HST.out _ q.lt k hlt).mono ?_; rintro e w' ⟨rfl, rfl⟩) | fail)
            refine (Calls.later (w := w) (R := fun e => e = _) q (HTM1.out _ q.lt)).mono ?_
            rintro e w' ⟨rfl, q1, rfl⟩
            go_wp2_with fail
            refine (Calls.later (w := w) (R := fun e => e = _) q1 (HPN1.out _ q1.lt)).mono ?_
            rintro e w' ⟨rfl, q2, rfl⟩
            go_wp2_with fail
            refine (Calls.later (w := w) (R := fun e => e = _) q2 (HJM1.out _ q2.lt hj)).mono ?_
            rintro e w' ⟨rfl, q3, rfl⟩
            go_wp2_with fail
            exact ⟨⟨k + 1, q3, by rw [show totalTo p cards car (k + 1) = S + T + C + J by rw [HNN.out]; simp [*]; try omega], by go_num, rfl, by omega⟩, by simp [intOf]; omega⟩
          | false =>
            go_wp2_with (first | (go_at_call 55; refine (HR.out _ q.lt k).mono ?_; rintro e w' ⟨rfl, rfl⟩) | (go_at_call 54; refine (HST.out _ q.lt k hlt).mono ?_; rintro e w' ⟨rfl, rfl⟩) | fail)
            refine (Calls.later (w := w) (R := fun e => e = _) q (HTM1.out _ q.lt)).mono ?_
            rintro e w' ⟨rfl, q1, rfl⟩
            go_wp2_with fail
            refine (Calls.later (w := w) (R := fun e => e = _) q1 (HPN1.out _ q1.lt)).mono ?_
            rintro e w' ⟨rfl, q2, rfl⟩
            go_wp2_with fail
            exact ⟨⟨k + 1, q2, by rw [show totalTo p cards car (k + 1) = S + T + C by rw [HNN.out]; simp [*]; try omega], by go_num, rfl, by omega⟩, by simp [intOf]; omega⟩
        | false =>
          have hst2 : ¬ (nth p.items k).kind = 2 := beq_eq_false_iff_ne.1 hst
          cases hj : (nth (nth cards car).lines k).jump with
          | true =>
            go_wp2_with (first | (go_at_call 55; refine (HR.out _ q.lt k).mono ?_; rintro e w' ⟨rfl, rfl⟩) | (go_at_call 54; refine (HST.out _ q.lt k hlt).mono ?_; rintro e w' ⟨rfl, rfl⟩) | fail)
            refine (Calls.later (w := w) (R := fun e => e = _) q (HPN1.out _ q.lt)).mono ?_
            rintro e w' ⟨rfl, q2, rfl⟩
            go_wp2_with fail
            refine (Calls.later (w := w) (R := fun e => e = _) q2 (HJM1.out _ q2.lt hj)).mono ?_
            rintro e w' ⟨rfl, q3, rfl⟩
            go_wp2_with fail
            exact ⟨⟨k + 1, q3, by rw [show totalTo p cards car (k + 1) = S + C + J by rw [HNN.out]; simp [*]; try omega], by go_num, rfl, by omega⟩, by simp [intOf]; omega⟩
          | false =>
            go_wp2_with (first | (go_at_call 55; refine (HR.out _ q.lt k).mono ?_; rintro e w' ⟨rfl, rfl⟩) | (go_at_call 54; refine (HST.out _ q.lt k hlt).mono ?_; rintro e w' ⟨rfl, rfl⟩) | fail)
            refine (Calls.later (w := w) (R := fun e => e = _) q (HPN1.out _ q.lt)).mono ?_
            rintro e w' ⟨rfl, q2, rfl⟩
            go_wp2_with fail
            exact ⟨⟨k + 1, q2, by rw [show totalTo p cards car (k + 1) = S + C by rw [HNN.out]; simp [*]; try omega], by go_num, rfl, by omega⟩, by simp [intOf]; omega⟩
    · have hke : k = p.items.length := by omega
      subst hke
      go_wp2_with fail
      go_ret
      exact ⟨rfl, q, rfl⟩
end Go.Proofs.YtdpcdmcmpfjbjaaGreat
