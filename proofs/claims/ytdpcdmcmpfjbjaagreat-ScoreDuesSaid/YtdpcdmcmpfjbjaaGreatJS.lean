/- The plain facts of the examples that every statement asks first; Walks: the plan and the cards of the examples; Walks: whether a plan is small, whether cards are short; Walks: Same of the reference; Walks: in, all, Legs, line of the reference. -/
import Derived.Test.YtdpcdmcmpfjbjaaGreatJL
import Derived.Test.YtdpcdmcmpfjbjaaGreatJH
import Derived.Test.YtdpcdmcmpfjbjaaGreatJA
/- The plain facts of the examples that every statement asks first. -/
namespace Go.Proofs.YtdpcdmcmpfjbjaaGreat
open Go.Sort
set_option linter.unusedVariables false
set_option linter.unusedSimpArgs false

/-- Core's mergeSort is whatever lies in order. -/
theorem ms_eq {α : Type} {le : α → α → Bool} (htr : ∀ a b c, le a b = true → le b c = true → le a c = true) (hto : ∀ a b, (le a b || le b a) = true) (l l' : List α)
    (han : ∀ a b, a ∈ l → b ∈ l → le a b = true → le b a = true → a = b) (hp : l.Perm l') (hs : l'.Pairwise fun a b => le a b = true) : l.mergeSort le = l' := by
  have hq := List.mergeSort_perm l le
  refine List.Perm.eq_of_pairwise (le := fun a b => le a b = true) (fun a b ha hb => han a b (hq.mem_iff.1 ha) (hp.mem_iff.2 hb)) (List.pairwise_mergeSort htr hto l) hs (hq.trans hp)
theorem swo_tr {α : Type} {lt : α → α → Bool} (h : SWO lt) (a b c : α) (h1 : (!lt b a) = true) (h2 : (!lt c b) = true) : (!lt c a) = true := by
  rw [Bool.not_eq_true'] at *
  exact h.ntrans _ _ _ h2 h1
theorem swo_to {α : Type} {lt : α → α → Bool} (h : SWO lt) (a b : α) : (!lt b a || !lt a b) = true := by
  have h1 := h.trans a b a
  have h2 := h.irrefl a
  cases e1 : lt a b <;> cases e2 : lt b a <;> simp_all
theorem int_tr (a b c : Int) (h1 : decide (a ≤ b) = true) (h2 : decide (b ≤ c) = true) : decide (a ≤ c) = true := by
  rw [decide_eq_true_iff] at *; omega
theorem int_to (a b : Int) : (decide (a ≤ b) || decide (b ≤ a)) = true := by
  rw [Bool.or_eq_true, decide_eq_true_iff, decide_eq_true_iff]; omega
theorem sort_eq (l l' : List Int) (hp : l.Perm l') (hs : l'.Pairwise fun a b => decide (a ≤ b) = true) : sortP l = l' :=
  ms_eq int_tr int_to l l' (fun a b _ _ h1 h2 => by rw [decide_eq_true_iff] at *; omega) hp hs
theorem fall_eq (l l' : List Int) (hp : l.Perm l') (hs : l'.Pairwise fun a b => decide (b ≤ a) = true) : fallP l = l' :=
  ms_eq (fun a b c h1 h2 => int_tr c b a h2 h1) (fun a b => int_to b a) l l' (fun a b _ _ h1 h2 => by rw [decide_eq_true_iff] at *; omega) hp hs

theorem exP_ok : PlanOK exP := by
  refine PlanOK.of (by decide) (by decide) (by decide) (fun i hi => ?_) (by decide) (by decide) (by decide) (by decide) (by decide) (by decide) (by decide) (by decide) (by decide) (fun _ => by decide)
  unfold ItemOK
  match i, hi with
  | 0, _ => decide
  | 1, _ => decide
  | 2, _ => decide
theorem exCard_ok (c : Card) (h : c = exA ∨ c = exB ∨ c = exC) : CardOK exP c := by
  rcases h with rfl | rfl | rfl
  all_goals
    refine CardOK.of (by decide) (by decide) (by decide) (by decide) (fun i hi => ?_)
    match i, hi with
    | 0, _ => exact ⟨by decide, by decide⟩
    | 1, _ => exact ⟨by decide, by decide⟩
    | 2, _ => exact ⟨by decide, by decide⟩
theorem exL_ok : cardsOK exP exL := by
  refine ⟨by decide, fun i hi => exCard_ok _ ?_⟩
  match i, hi with
  | 0, _ => exact .inl rfl
  | 1, _ => exact .inr (.inl rfl)
  | 2, _ => exact .inr (.inr rfl)
theorem ex_wf : PlanWf exP := by
  refine ⟨fun i hi => ?_, by unfold I64; decide⟩
  unfold I64
  match i, hi with
  | 0, _ => decide
  | 1, _ => decide
  | 2, _ => decide
theorem ex_real : realP exP exL 1 (-1) = [0, 1] := by decide
theorem ex_real0 : realP exP exL 1 0 = [0, 1] := by decide
theorem ex_sorted : sortedP exL [0, 1] 1 = [300000, 310000] := sort_eq _ _ (.refl _) (by decide)
theorem ex_chosen (car : Nat) (h : car < 3) : chosenP exP exL car 1 = [0, 1] := by
  match car, h with
  | 0, _ => decide
  | 1, _ => decide
  | 2, _ => decide
theorem ex_time0 : timeP exP exL 0 1 = 300000 := by unfold timeP; rw [if_pos (by decide)]; decide
theorem ex_time1 : timeP exP exL 1 1 = 310000 := by unfold timeP; rw [if_pos (by decide)]; decide
theorem ex_time2 : timeP exP exL 2 1 = 300000 := by
  unfold timeP
  rw [if_neg (by decide), if_neg (by decide), ex_chosen 2 (by omega), if_neg (by decide)]
  unfold notionalP
  rw [ex_sorted]
  decide
theorem ex_tot (car : Nat) (t x y z : Int) (h : timeP exP exL car 1 = t) (h0 : costP exP (nth exL car) 0 = x) (h2 : costP exP (nth exL car) 2 = y)
    (h1 : costP exP (nth exL car) 1 + (if (nth (nth exL car).lines 1).jump = true then jumpP exP (nth exL car) 1 else 0) = z) (hj0 : (nth (nth exL car).lines 0).jump = false) (hj2 : (nth (nth exL car).lines 2).jump = false)
    (hr : ∀ i, i < 3 → runsP exP (nth exL car) i = true) : totalP exP exL car = x + (t + z) + y := by
  show totalTo exP exL car 3 = _
  unfold totalTo totalTo totalTo totalTo
  rw [if_pos (hr 0 (by omega)), if_pos (hr 1 (by omega)), if_pos (hr 2 (by omega))]
  unfold addP
  rw [h, h0, h2, hj0, hj2, if_neg (show ¬ (nth exP.items 0).kind = 2 by decide), if_pos (show (nth exP.items 1).kind = 2 by decide), if_neg (show ¬ (nth exP.items 2).kind = 2 by decide)]
  have e0 : (if false = true then jumpP exP (nth exL car) 0 else 0) = 0 := by simp
  have e2 : (if false = true then jumpP exP (nth exL car) 2 else 0) = 0 := by simp
  rw [e0, e2]
  omega
theorem ex_runs (car : Nat) (h : car < 3) (i : Nat) (hi : i < 3) : runsP exP (nth exL car) i = true := by
  match car, h, i, hi with
  | 0, _, 0, _ => decide
  | 0, _, 1, _ => decide
  | 0, _, 2, _ => decide
  | 1, _, 0, _ => decide
  | 1, _, 1, _ => decide
  | 1, _, 2, _ => decide
  | 2, _, 0, _ => decide
  | 2, _, 1, _ => decide
  | 2, _, 2, _ => decide
theorem ex_total0 : totalP exP exL 0 = 310000 := ex_tot 0 300000 0 10000 0 ex_time0 (by decide) (by decide) (by decide) (by decide) (by decide) (ex_runs 0 (by omega))
theorem ex_total1 : totalP exP exL 1 = 400000 := ex_tot 1 310000 20000 60000 10000 ex_time1 (by decide) (by decide) (by decide) (by decide) (by decide) (ex_runs 1 (by omega))
theorem ex_total2 : totalP exP exL 2 = 300000 := ex_tot 2 300000 0 0 0 ex_time2 (by decide) (by decide) (by decide) (by decide) (by decide) (ex_runs 2 (by omega))
theorem ex_count : countTo exP exL exL.length = [0, 1, 2] := by decide
theorem ex_others : otherTo exP exL exL.length = [] := by decide
theorem res_lt {p : Plan} {cards : List Card} {a b : Nat} (h : totalP p cards a < totalP p cards b) : ltOf (resCmp p cards) b a = false := by
  unfold ltOf resCmp
  have : cmpI (totalP p cards b) (totalP p cards a) = 1 := by unfold cmpI; rw [if_neg (by omega), if_pos h]
  rw [this]
  rfl
theorem ex_order : resOrder exP exL = [2, 0, 1] := by
  unfold resOrder
  rw [ex_count]
  refine ms_eq (swo_tr (res_law exP exL).swo) (swo_to (res_law exP exL).swo) _ _ (fun a b _ _ h1 h2 => res_total exP exL a b ?_ ?_) (by decide) ?_
  · simpa using h2
  · simpa using h1
  · have a1 : ltOf (resCmp exP exL) 0 2 = false := res_lt (by rw [ex_total0, ex_total2]; decide)
    have a2 : ltOf (resCmp exP exL) 1 2 = false := res_lt (by rw [ex_total1, ex_total2]; decide)
    have a3 : ltOf (resCmp exP exL) 1 0 = false := res_lt (by rw [ex_total1, ex_total0]; decide)
    simp [a1, a2, a3]
theorem ex_power : powerP exP exL = [0, 1] := by
  unfold powerP
  rw [if_pos (by decide)]
  show (realP exP exL 1 (-1)).mergeSort _ = _
  rw [ex_real]
  refine List.mergeSort_of_pairwise ?_
  decide
theorem ex_results : resultsP exP exL = [⟨2, true, -1, 300000, 1, 1, 10⟩, ⟨0, true, -1, 310000, 2, 2, 9⟩, ⟨1, true, -1, 400000, 3, 3, 0⟩] := by
  have e0 : extraP exP exL 0 = 3 := by unfold extraP extraTo; rw [ex_power]; decide
  have e1 : extraP exP exL 1 = 0 := by unfold extraP extraTo; rw [ex_power]; decide
  have e2 : extraP exP exL 2 = 0 := by unfold extraP extraTo; rw [ex_power]; decide
  unfold resultsP resultsTo placesTo
  rw [ex_others, ex_order]
  show [placeP exP exL 0, placeP exP exL 1, placeP exP exL 2] = _
  unfold placeP clsTo
  rw [ex_order]
  show [Placing.mk 2 true (-1) (totalP exP exL 2) _ _ (atP exP.points 0 + extraP exP exL 2), Placing.mk 0 true (-1) (totalP exP exL 0) _ _ (atP exP.points 1 + extraP exP exL 0), Placing.mk 1 true (-1) (totalP exP exL 1) _ _ (atP exP.points 2 + extraP exP exL 1)] = _
  rw [ex_total0, ex_total1, ex_total2, e0, e1, e2]
  rfl

theorem ex_due : DueR exP exA 2 = (693, 0) := by
  unfold DueR
  rw [if_pos ⟨⟨exP_ok, exCard_ok _ (.inl rfl)⟩, by decide, by decide⟩, if_neg (by decide)]
  decide
theorem ex_TotalR (k : Nat) (hk : k < 3) (v : Int) (h : totalP exP exL k = v) : TotalR exP exL k = (v, 0) := by
  unfold TotalR
  rw [if_pos ⟨⟨exP_ok, exL_ok⟩, by omega, by show (k : Int) < 3; omega⟩, Int.toNat_natCast, h]
theorem ex_TimeR : TimeR exP exL 2 1 = (300000, 0) := by
  unfold TimeR
  rw [if_pos ⟨⟨exP_ok, exL_ok⟩, by decide, by decide, by decide⟩, if_pos (by decide)]
  show (timeP exP exL 2 1, (0 : Int)) = _
  rw [ex_time2]

theorem exPts_ok : seasonOK exPts (1 : Nat) := by
  refine ⟨by decide, by decide, fun i hi => ?_⟩
  match i, hi with
  | 0, _ => exact ⟨by decide, by decide, (timesB_iff _ 1 40 100000).1 (by decide)⟩
  | 1, _ => exact ⟨by decide, by decide, (timesB_iff _ 1 40 100000).1 (by decide)⟩
theorem ex_fall0 : fallP (nth exPts 0) = [10, 6, 0] := fall_eq _ _ (.refl _) (by decide)
theorem ex_fall1 : fallP (nth exPts 1) = [8, 8, 4] := fall_eq _ _ (.refl _) (by decide)
theorem ex_T0 : champT exPts 1 0 = 16 := by unfold champT; rw [ex_fall0]; decide
theorem ex_T1 : champT exPts 1 1 = 16 := by unfold champT; rw [ex_fall1]; decide
theorem ex_champ : champOrder exPts 1 = [0, 1] := by
  unfold champOrder
  show ([0, 1] : List Nat).mergeSort _ = _
  refine List.mergeSort_of_pairwise ?_
  have : champLt exPts 1 1 0 = false := by
    unfold champLt tie ltOf champCmp
    rw [ex_T0, ex_T1, ex_fall0, ex_fall1]
    decide
  simp [this]
theorem ex_sums : (champOrder exPts 1).map (champT exPts 1) = [16, 16] := by
  rw [ex_champ]
  show [champT exPts 1 0, champT exPts 1 1] = _
  rw [ex_T0, ex_T1]
end Go.Proofs.YtdpcdmcmpfjbjaaGreat
/- Walks: the plan and the cards of the examples. -/
namespace Go.Proofs.YtdpcdmcmpfjbjaaGreat
open Go.RowKit
set_option linter.unusedVariables false
set_option linter.unusedSimpArgs false
attribute [local go_sem] Later.cell Later.frozen Later.size Later.ne Later.cell1 Later.cell2 Later.cell3 Later.size1 Later.size2 Later.size3 Later.ne1 Later.ne2 Later.ne3

theorem Ints.new1' {w W : World} {T : TypeId} (x : Int) (B : Nat) (hB : w.heap.size = B) (h : Lt (w.alloc (.cells #[.int .i64 x] T)) W) : Ints W (some ⟨B, 0, none⟩) 1 [x] := by
  subst hB; exact (Ints.new1 x).later h
theorem Ints.new2' {w W : World} {T : TypeId} (x y : Int) (B : Nat) (hB : w.heap.size = B) (h : Lt (w.alloc (.cells #[.int .i64 x, .int .i64 y] T)) W) : Ints W (some ⟨B, 0, none⟩) 2 [x, y] := by
  subst hB; exact (Ints.new2 x y).later h
theorem Items.new3' {w W : World} {T : TypeId} (x y z : Item) (B : Nat) (hB : w.heap.size = B)
    (h : Lt (w.alloc (.cells #[.int .i64 x.kind, .int .i64 x.leg, .int .i64 x.target, .bool x.free, .int .i64 y.kind, .int .i64 y.leg, .int .i64 y.target, .bool y.free, .int .i64 z.kind, .int .i64 z.leg, .int .i64 z.target, .bool z.free] T)) W) : Items W (some ⟨B, 0, none⟩) 3 [x, y, z] := by
  subst hB
  refine Items.later ⟨Nat.le_refl _, by simp, fun _ => ⟨_, _, rfl, by simp, fun j hj => ?_⟩⟩ h
  match j, hj with
  | 0, _ => simp [ItemAt, nth]
  | 1, _ => simp [ItemAt, nth]
  | 2, _ => simp [ItemAt, nth]
theorem Lines.new3' {w W : World} {T : TypeId} (x y z : Line) (B : Nat) (hB : w.heap.size = B)
    (h : Lt (w.alloc (.cells #[.int .i64 x.minute, .int .i64 x.time, .bool x.jump, .int .i64 x.mark, .int .i64 y.minute, .int .i64 y.time, .bool y.jump, .int .i64 y.mark, .int .i64 z.minute, .int .i64 z.time, .bool z.jump, .int .i64 z.mark] T)) W) : Lines W (some ⟨B, 0, none⟩) 3 [x, y, z] := by
  subst hB
  refine Lines.later ⟨Nat.le_refl _, by simp, fun _ => ⟨_, _, rfl, by simp, fun j hj => ?_⟩⟩ h
  match j, hj with
  | 0, _ => simp [LineAt, nth]
  | 1, _ => simp [LineAt, nth]
  | 2, _ => simp [LineAt, nth]
theorem Cards.new3' {w W : World} {T : TypeId} (m1 m2 m3 : CardM) (x y z : Card) (B : Nat) (hB : w.heap.size = B) (h1 : CardIs W m1 x) (h2 : CardIs W m2 y) (h3 : CardIs W m3 z)
    (h : Lt (w.alloc (.cells #[.int .i64 x.cls, .slice m1.sA x.starts.length m1.sc, .slice m1.lA x.lines.length m1.lc, .int .i64 y.cls, .slice m2.sA y.starts.length m2.sc, .slice m2.lA y.lines.length m2.lc, .int .i64 z.cls, .slice m3.sA z.starts.length m3.sc, .slice m3.lA z.lines.length m3.lc] T)) W) : Cards W (some ⟨B, 0, none⟩) 3 [x, y, z] := by
  subst hB
  refine ⟨Nat.le_refl _, by simp, fun _ => ⟨_, _, rfl, Nat.lt_of_lt_of_le (by simp) h.size, fun j hj => ?_⟩⟩
  match j, hj with
  | 0, _ => exact ⟨m1, h1, h.cell (by simp [nth]), h.cell (by simp [nth]), h.cell (by simp [nth])⟩
  | 1, _ => exact ⟨m2, h2, h.cell (by simp [nth]), h.cell (by simp [nth]), h.cell (by simp [nth])⟩
  | 2, _ => exact ⟨m3, h3, h.cell (by simp [nth]), h.cell (by simp [nth]), h.cell (by simp [nth])⟩

set_option maxHeartbeats 1000000 in
set_option maxRecDepth 100000 in
theorem c_Example (w : World) :
    Calls Tryz.prog 44 #[] w fun e w' => ∃ m, e = .returned (planV m exP) ∧ ∃ q : Later w, w' = q.world ∧ PlanIs q.world m exP := by
  go_enter Tryz.func44, Tryz.ntmps44
  go_wp2_with fail
  refine bodyPost_ret (v := planV ⟨some ⟨w.heap.size + 1, 0, none⟩, 3, some ⟨w.heap.size + 1 + 1, 0, none⟩, 2, some ⟨w.heap.size + 1 + 1 + 1, 0, none⟩, 2, some ⟨w.heap.size + 1 + 1 + 1 + 1, 0, none⟩, 1⟩ exP) (by simp [results, Tryz.results44, go_sem, planV, planC, exP]) rfl ⟨_, rfl, ⟨_, (((((Lt.refl w).alloc _).alloc _).alloc _).alloc _).alloc _⟩, rfl, ?_⟩
  refine ⟨Items.new3' _ _ _ _ (by simp) ((((Lt.refl _).alloc _).alloc _).alloc _), Ints.new2' _ _ _ (by simp) (((Lt.refl _).alloc _).alloc _), Ints.new2' _ _ _ (by simp) ((Lt.refl _).alloc _), Ints.new1' _ _ (by simp) (Lt.refl _)⟩

set_option maxHeartbeats 1000000 in
set_option maxRecDepth 100000 in
theorem c_cards (w : World) :
    Calls Tryz.prog 45 #[] w fun e w' => ∃ A, e = .returned (.slice A exL.length 3) ∧ ∃ q : Later w, w' = q.world ∧ Cards q.world A 3 exL := by
  go_enter Tryz.func45, Tryz.ntmps45
  go_wp2_with fail
  go_ret
  refine ⟨_, rfl, ⟨_, (((((((Lt.refl w).alloc _).alloc _).alloc _).alloc _).alloc _).alloc _).alloc _⟩, rfl, ?_⟩
  refine Cards.new3' ⟨some ⟨w.heap.size, 0, none⟩, 1, some ⟨w.heap.size + 1, 0, none⟩, 3⟩ ⟨some ⟨w.heap.size + 1 + 1, 0, none⟩, 1, some ⟨w.heap.size + 1 + 1 + 1, 0, none⟩, 3⟩ ⟨some ⟨w.heap.size + 1 + 1 + 1 + 1, 0, none⟩, 1, some ⟨w.heap.size + 1 + 1 + 1 + 1 + 1, 0, none⟩, 3⟩ _ _ _ _ (by simp) ⟨?_, ?_⟩ ⟨?_, ?_⟩ ⟨?_, ?_⟩ (Lt.refl _)
  · exact Ints.new1' _ _ rfl ((((((Lt.refl _).alloc _).alloc _).alloc _).alloc _).alloc _ |>.alloc _)
  · exact Lines.new3' _ _ _ _ (by simp) (((((Lt.refl _).alloc _).alloc _).alloc _).alloc _ |>.alloc _)
  · exact Ints.new1' _ _ (by simp) ((((Lt.refl _).alloc _).alloc _).alloc _ |>.alloc _)
  · exact Lines.new3' _ _ _ _ (by simp) (((Lt.refl _).alloc _).alloc _ |>.alloc _)
  · exact Ints.new1' _ _ (by simp) (((Lt.refl _).alloc _).alloc _)
  · exact Lines.new3' _ _ _ _ (by simp) ((Lt.refl _).alloc _)
end Go.Proofs.YtdpcdmcmpfjbjaaGreat
/- Walks: whether a plan is small, whether cards are short. -/
namespace Go.Proofs.YtdpcdmcmpfjbjaaGreat
open Go.RowKit
set_option linter.unusedVariables false
set_option linter.unusedSimpArgs false
attribute [local go_sem] Later.cell Later.frozen Later.size Later.ne Later.cell1 Later.cell2 Later.cell3 Later.size1 Later.size2 Later.size3 Later.ne1 Later.ne2 Later.ne3

def smallP (p : Plan) : Prop := p.items.length ≤ 12 ∧ p.jumps.length ≤ 20 ∧ p.points.length ≤ 80 ∧ p.extra.length ≤ 80
instance (p : Plan) : Decidable (smallP p) := by unfold smallP; infer_instance
def smallB (p : Plan) : Bool := decide (smallP p)
theorem smallB_iff {p : Plan} : smallB p = true ↔ smallP p := decide_eq_true_iff
def cardShort (c : Card) : Prop := c.starts.length ≤ 12 ∧ c.lines.length ≤ 30
instance (c : Card) : Decidable (cardShort c) := by unfold cardShort; infer_instance
def shortP (l : List Card) (most : Int) : Prop := (∀ i, i < l.length → cardShort (nth l i)) ∧ ((l.length : Int) ≤ most ∨ 200 < l.length ∧ l.length < 300)
noncomputable def shortB (l : List Card) (most : Int) : Bool := @decide (shortP l most) (Classical.propDecidable _)
theorem shortB_yes {l : List Card} {most : Int} (h : shortP l most) : shortB l most = true := @decide_eq_true _ (Classical.propDecidable _) h
theorem shortB_no {l : List Card} {most : Int} (h : ¬ shortP l most) : shortB l most = false := @decide_eq_false _ (Classical.propDecidable _) h
theorem shortB_iff {l : List Card} {most : Int} : shortB l most = true ↔ shortP l most := @decide_eq_true_iff _ (Classical.propDecidable _)

set_option maxHeartbeats 1000000 in
set_option maxRecDepth 100000 in
theorem c_small (m : PlanM) (p : Plan) (w : World) (hp : PlanIs w m p) :
    Calls Tryz.prog 15 #[planV m p] w fun e w' => e = .returned (.bool (smallB p)) ∧ ∃ q : Later w, w' = q.world := by
  have him := hp.items.2.1
  have hjm := hp.jumps.2.1
  have hpm := hp.points.2.1
  have hem := hp.extra.2.1
  obtain ⟨iA, ic, jA, jc, pA, pc, eA, ec⟩ := m
  clear hp
  simp only [planV, planC]
  by_cases h1 : p.items.length ≤ 12
  rotate_left
  · have h1b : decide ((p.items.length : Int) ≤ 12) = false := by rw [decide_eq_false_iff_not]; omega
    rw [show smallB p = false by rw [← Bool.not_eq_true, smallB_iff]; exact fun h => h1 h.1]
    go_enter Tryz.func15, Tryz.ntmps15
    go_wp2_with fail
    go_ret
    exact ⟨rfl, Later.mk_eq ((Lt.refl w).alloc _)⟩
  by_cases h2 : p.jumps.length ≤ 20
  rotate_left
  · have h2b : decide ((p.jumps.length : Int) ≤ 20) = false := by rw [decide_eq_false_iff_not]; omega
    rw [show smallB p = false by rw [← Bool.not_eq_true, smallB_iff]; exact fun h => h2 h.2.1]
    go_enter Tryz.func15, Tryz.ntmps15
    go_wp2_with fail
    go_ret
    exact ⟨rfl, Later.mk_eq ((Lt.refl w).alloc _)⟩
  by_cases h3 : p.points.length ≤ 80
  rotate_left
  · have h3b : decide ((p.points.length : Int) ≤ 80) = false := by rw [decide_eq_false_iff_not]; omega
    rw [show smallB p = false by rw [← Bool.not_eq_true, smallB_iff]; exact fun h => h3 h.2.2.1]
    go_enter Tryz.func15, Tryz.ntmps15
    go_wp2_with fail
    go_ret
    exact ⟨rfl, Later.mk_eq ((Lt.refl w).alloc _)⟩
  by_cases h4 : p.extra.length ≤ 80
  · have h4b : decide ((p.extra.length : Int) ≤ 80) = true := by rw [decide_eq_true_iff]; omega
    rw [show smallB p = true from smallB_iff.2 ⟨h1, h2, h3, h4⟩]
    go_enter Tryz.func15, Tryz.ntmps15
    go_wp2_with fail
    go_ret
    exact ⟨rfl, Later.mk_eq ((Lt.refl w).alloc _)⟩
  · have h4b : decide ((p.extra.length : Int) ≤ 80) = false := by rw [decide_eq_false_iff_not]; omega
    rw [show smallB p = false by rw [← Bool.not_eq_true, smallB_iff]; exact fun h => h4 h.2.2.2]
    go_enter Tryz.func15, Tryz.ntmps15
    go_wp2_with fail
    go_ret
    exact ⟨rfl, Later.mk_eq ((Lt.refl w).alloc _)⟩

set_option maxHeartbeats 1000000 in
set_option maxRecDepth 100000 in
theorem c_short (A : Option Addr) (c : Nat) (cards : List Card) (most : Int) (w : World) (hc : Cards w A c cards) :
    Calls Tryz.prog 16 #[.slice A cards.length c, .int .i64 most] w fun e w' => e = .returned (.bool (shortB cards most)) ∧ ∃ q : Later w, w' = q.world := by
  have hcm := hc.2.1
  have HC := Lib.hid hc
  clear hc
  go_enter Tryz.func16, Tryz.ntmps16
  go_wp2_with fail
  go_loop [5] (fun t => ∃ k : Nat, t = .int .i64 k ∧ k ≤ cards.length ∧ Hid (∀ j, j < k → cardShort (nth cards j))) (fun t => cards.length - (intOf t).toNat)
  case atStart => exact ⟨0, rfl, Nat.zero_le _, fun j hj => absurd hj (Nat.not_lt_zero _)⟩
  case round =>
    obtain ⟨k, rfl, hk, HK⟩ := hrel
    by_cases hlt : k < cards.length
    · have hz : (k : Int) < cards.length := by omega
      obtain ⟨b, o, rfl, hb, cm, hcm', x0, x1, x2⟩ := HC.out.at_ k hlt
      have hsm := hcm'.starts.2.1
      have hlm := hcm'.lines.2.1
      clear hcm'
      by_cases hs : (nth cards k).starts.length ≤ 12
      · have hsb : decide ((12 : Int) < ((nth cards k).starts.length : Int)) = false := by rw [decide_eq_false_iff_not]; omega
        by_cases hl : (nth cards k).lines.length ≤ 30
        · have hlb : decide ((30 : Int) < ((nth cards k).lines.length : Int)) = false := by rw [decide_eq_false_iff_not]; omega
          have HS := Lib.hid (show cardShort (nth cards k) from ⟨hs, hl⟩)
          go_wp2_with fail
          exact ⟨⟨k + 1, by go_num, by omega, fun j hj => by
            by_cases e : j = k
            · rw [e]; exact HS.out
            · exact HK.out j (by omega)⟩, by simp [intOf]; omega⟩
        · have hlb : decide ((30 : Int) < ((nth cards k).lines.length : Int)) = true := by rw [decide_eq_true_iff]; omega
          have HN := Lib.hid (shortB_no (most := most) fun h : shortP cards most => hl (h.1 k hlt).2)
          go_wp2_with fail
          go_ret
          exact ⟨ret_bool HN.out.symm, Later.mk_eq (Lt.refl w)⟩
      · have hsb : decide ((12 : Int) < ((nth cards k).starts.length : Int)) = true := by rw [decide_eq_true_iff]; omega
        have HN := Lib.hid (shortB_no (most := most) fun h : shortP cards most => hs (h.1 k hlt).1)
        go_wp2_with fail
        go_ret
        exact ⟨ret_bool HN.out.symm, Later.mk_eq (Lt.refl w)⟩
    · have hke : k = cards.length := by omega
      subst hke
      by_cases h1 : (cards.length : Int) ≤ most
      · have h1b : decide ((cards.length : Int) ≤ most) = true := by rw [decide_eq_true_iff]; exact h1
        have HN := Lib.hid (shortB_yes (most := most) ⟨HK.out, .inl h1⟩)
        go_wp2_with fail
        go_ret
        exact ⟨ret_bool HN.out.symm, Later.mk_eq (Lt.refl w)⟩
      · have h1b : decide ((cards.length : Int) ≤ most) = false := by rw [decide_eq_false_iff_not]; exact h1
        by_cases h2 : 200 < cards.length
        · have h2b : decide ((200 : Int) < (cards.length : Int)) = true := by rw [decide_eq_true_iff]; omega
          by_cases h3 : cards.length < 300
          · have h3b : decide ((cards.length : Int) < 300) = true := by rw [decide_eq_true_iff]; omega
            have HN := Lib.hid (shortB_yes (most := most) ⟨HK.out, .inr ⟨h2, h3⟩⟩)
            go_wp2_with fail
            go_ret
            exact ⟨ret_bool HN.out.symm, Later.mk_eq (Lt.refl w)⟩
          · have h3b : decide ((cards.length : Int) < 300) = false := by rw [decide_eq_false_iff_not]; omega
            have HN := Lib.hid (shortB_no (most := most) fun h : shortP cards most => by have := h.2; omega)
            go_wp2_with fail
            go_ret
            exact ⟨ret_bool HN.out.symm, Later.mk_eq (Lt.refl w)⟩
        · have h2b : decide ((200 : Int) < (cards.length : Int)) = false := by rw [decide_eq_false_iff_not]; omega
          have HN := Lib.hid (shortB_no (most := most) fun h : shortP cards most => by have := h.2; omega)
          go_wp2_with fail
          go_ret
          exact ⟨ret_bool HN.out.symm, Later.mk_eq (Lt.refl w)⟩
theorem short_t {A : Option Addr} {c : Nat} {cards : List Card} {most : Int} (w : World) (hc : Cards w A c cards) (h : shortP cards most) :
    Calls Tryz.prog 16 #[.slice A cards.length c, .int .i64 most] w fun e w' => e = .returned (.bool true) ∧ ∃ q : Later w, w' = q.world := by
  have := c_short A c cards most w hc; rwa [shortB_yes h] at this
theorem short_f {A : Option Addr} {c : Nat} {cards : List Card} {most : Int} (w : World) (hc : Cards w A c cards) (h : ¬ shortP cards most) :
    Calls Tryz.prog 16 #[.slice A cards.length c, .int .i64 most] w fun e w' => e = .returned (.bool false) ∧ ∃ q : Later w, w' = q.world := by
  have := c_short A c cards most w hc; rwa [shortB_no h] at this
theorem small_t {m : PlanM} {p : Plan} (w : World) (hp : PlanIs w m p) (h : smallP p) :
    Calls Tryz.prog 15 #[planV m p] w fun e w' => e = .returned (.bool true) ∧ ∃ q : Later w, w' = q.world := by
  have := c_small m p w hp; rwa [smallB_iff.2 h] at this
theorem small_f {m : PlanM} {p : Plan} (w : World) (hp : PlanIs w m p) (h : ¬ smallP p) :
    Calls Tryz.prog 15 #[planV m p] w fun e w' => e = .returned (.bool false) ∧ ∃ q : Later w, w' = q.world := by
  have := c_small m p w hp; rwa [show smallB p = false by rw [← Bool.not_eq_true, smallB_iff]; exact h] at this
end Go.Proofs.YtdpcdmcmpfjbjaaGreat
/- Walks: Same of the reference. -/
namespace Go.Proofs.YtdpcdmcmpfjbjaaGreat
open Go.RowKit
set_option linter.unusedVariables false
set_option linter.unusedSimpArgs false
attribute [local go_sem] Later.cell Later.frozen Later.size Later.ne Later.cell1 Later.cell2 Later.cell3 Later.size1 Later.size2 Later.size3 Later.ne1 Later.ne2 Later.ne3

theorem list_ext_nth {α : Type} [Inhabited α] {a b : List α} (hl : a.length = b.length) (h : ∀ i, i < a.length → nth a i = nth b i) : a = b := by
  refine List.ext_getElem hl fun i h1 h2 => ?_
  have := h i h1
  rwa [nth_eq a i h1, nth_eq b i h2] at this

set_option maxHeartbeats 1000000 in
theorem r_Same (A B : Option Addr) (c d : Nat) (a b : List Int) (w : World) (ha : Ints w A c a) (hb : Ints w B d b) :
    Calls Tryz.prog 34 #[.slice A a.length c, .slice B b.length d] w fun e w' => e = .returned (.bool (decide (a = b))) ∧ ∃ q : Later w, w' = q.world := by
  have HA := Lib.hid ha
  have HB := Lib.hid hb
  have ham := ha.2.1
  have hbm := hb.2.1
  clear ha hb
  by_cases hl : a.length = b.length
  · have hlb : (a.length != b.length) = false := by rw [bne_eq_false_iff_eq]; exact hl
    have hlz : ((a.length : Int) != (b.length : Int)) = false := by rw [bne_eq_false_iff_eq]; omega
    have HL := Lib.hid hl
    clear hl
    go_enter Tryz.func34, Tryz.ntmps34
    go_wp2_with fail
    go_loopw [5] (fun t wr => ∃ (k : Nat) (q : Later w), t = .int .i64 k ∧ wr = q.world ∧ k ≤ a.length ∧ Hid (∀ j, j < k → nth a j = nth b j)) (fun t _ => a.length - (intOf t).toNat)
    case atStart => exact ⟨0, ⟨w, Lt.refl w⟩, rfl, rfl, Nat.zero_le _, fun j hj => absurd hj (Nat.not_lt_zero _)⟩
    case round =>
      obtain ⟨k, q, rfl, rfl, hk, HK⟩ := hrel
      by_cases hlt : k < a.length
      · have hz : (k : Int) < a.length := by omega
        have hbl : k < b.length := by rw [← HL.out]; exact hlt
        have hbz : (k : Int) < b.length := by omega
        obtain ⟨b1, o1, rfl, hb1, hc1⟩ := HA.out.at_ k hlt
        obtain ⟨b2, o2, rfl, hb2, hc2⟩ := HB.out.at_ k hbl
        by_cases he : nth a k = nth b k
        · have heb : (nth a k != nth b k) = false := by rw [bne_eq_false_iff_eq]; exact he
          have HE := Lib.hid he
          clear he
          go_wp2_with fail
          refine wp_region_laterB q follows_ (by kernel_rfl) ?_
          repeat (go_big_quiet_step (fail))
          refine wpQuiet_nil ?_
          rintro _ ⟨r, rfl⟩
          go_wp2_with fail
          exact ⟨⟨k + 1, r, by go_num, rfl, by omega, fun j hj => by
            by_cases e : j = k
            · rw [e]; exact HE.out
            · exact HK.out j (by omega)⟩, by simp [intOf]; omega⟩
        · have heb : (nth a k != nth b k) = true := by rw [bne_iff_ne]; exact he
          have HN := Lib.hid (show decide (a = b) = false by rw [decide_eq_false_iff_not]; intro e; rw [e] at he; exact he rfl)
          clear he
          go_wp2_with fail
          refine wp_region_laterB q follows_ (by kernel_rfl) ?_
          repeat (go_big_quiet_step (fail))
          refine wpQuiet_nil ?_
          rintro _ ⟨r, rfl⟩
          go_wp2_with fail
          go_ret
          exact ⟨ret_bool HN.out.symm, r, rfl⟩
      · have hke : k = a.length := by omega
        subst hke
        have HN := Lib.hid (show decide (a = b) = true by rw [decide_eq_true_iff]; exact list_ext_nth HL.out HK.out)
        go_wp2_with fail
        go_ret
        exact ⟨ret_bool HN.out.symm, q, rfl⟩
  · have hlb : (a.length != b.length) = true := by rw [bne_iff_ne]; exact hl
    have hlz : ((a.length : Int) != (b.length : Int)) = true := by rw [bne_iff_ne]; omega
    rw [show decide (a = b) = false by rw [decide_eq_false_iff_not]; intro e; rw [e] at hl; exact hl rfl]
    clear hl
    go_enter Tryz.func34, Tryz.ntmps34
    go_wp2_with fail
    go_ret
    exact ⟨rfl, ⟨w, Lt.refl w⟩, rfl⟩
end Go.Proofs.YtdpcdmcmpfjbjaaGreat
/- Walks: in, all, Legs, line of the reference. -/
namespace Go.Proofs.YtdpcdmcmpfjbjaaGreat
open Go.RowKit
set_option linter.unusedVariables false
set_option linter.unusedSimpArgs false
attribute [local go_sem] Later.cell Later.frozen Later.size Later.ne Later.cell1 Later.cell2 Later.cell3 Later.size1 Later.size2 Later.size3 Later.ne1 Later.ne2 Later.ne3

set_option maxHeartbeats 400000 in
theorem r_in (n a b : Int) (w : World) :
    Calls Tryz.prog 49 #[.int .i64 n, .int .i64 a, .int .i64 b] w fun e w' => e = .returned (.bool (within n a b)) ∧ w' = w := by
  by_cases h : a ≤ n
  · have hd : within n a b = decide (n ≤ b) := by simp [within, h]
    rw [hd]
    clear hd
    go_enter Tryz.func49, Tryz.ntmps49
    go_wp2
    go_ret
    exact ⟨rfl, rfl⟩
  · have hd : within n a b = false := by simp [within, h]
    rw [hd]
    clear hd
    go_enter Tryz.func49, Tryz.ntmps49
    go_wp2
    go_ret
    exact ⟨rfl, rfl⟩
theorem in_t {n a b : Int} (w : World) (h : within n a b = true) :
    Calls Tryz.prog 49 #[.int .i64 n, .int .i64 a, .int .i64 b] w fun e w' => e = .returned (.bool true) ∧ w' = w := h ▸ r_in n a b w
theorem in_f {n a b : Int} (w : World) (h : within n a b = false) :
    Calls Tryz.prog 49 #[.int .i64 n, .int .i64 a, .int .i64 b] w fun e w' => e = .returned (.bool false) ∧ w' = w := h ▸ r_in n a b w

set_option maxHeartbeats 400000 in
theorem r_all (A : Option Addr) (c : Nat) (xs : List Int) (least many most : Int) (w : World) (h : Ints w A c xs) :
    Calls Tryz.prog 50 #[.slice A xs.length c, .int .i64 least, .int .i64 many, .int .i64 0, .int .i64 most] w fun e w' => e = .returned (.bool (timesB xs least many most)) ∧ w' = w := by
  have hm := h.2.1
  have HA := Lib.hid h
  have hT : timesB xs least many most = (within xs.length least many && !(xs.any fun x => !within x 0 most)) := rfl
  generalize timesB xs least many most = R at *
  have HT := Lib.hid hT
  clear h hT
  go_enter Tryz.func50, Tryz.ntmps50
  go_wp2_with fail
  go_loop [11] (fun t => ∃ k : Nat, t = .int .i64 k ∧ k ≤ xs.length ∧ Hid (∀ j, j < k → within (nth xs j) 0 most = true)) (fun t => xs.length - (intOf t).toNat)
  case atStart => exact ⟨0, rfl, Nat.zero_le _, fun j hj => absurd hj (Nat.not_lt_zero _)⟩
  case round =>
    obtain ⟨k, rfl, hk, HK⟩ := hrel
    by_cases hlt : k < xs.length
    · have hlz : (k : Int) < xs.length := by omega
      obtain ⟨b, o, rfl, hbl, hc⟩ := HA.out.at_ k hlt
      cases hw : within (nth xs k) 0 most with
      | true =>
        have HW := Lib.hid hw
        clear hw
        go_wp2_with (go_at_call 49; refine (in_t _ HW.out).mono ?_; rintro e w' ⟨rfl, rfl⟩)
        exact ⟨⟨k + 1, by go_num, by omega, fun j hj => by
          by_cases e : j = k
          · rw [e]; exact HW.out
          · exact HK.out j (by omega)⟩, by simp [intOf]; omega⟩
      | false =>
        have HF : Hid (R = false) := by
          rw [HT.out]
          have : (xs.any fun x => !within x 0 most) = true := by
            rw [List.any_eq_true]
            exact ⟨_, nth_mem xs k hlt, by rw [hw]; rfl⟩
          rw [this]
          exact Lib.hid (by simp)
        have HW := Lib.hid hw
        clear hw
        go_wp2_with (go_at_call 49; refine (in_f _ HW.out).mono ?_; rintro e w' ⟨rfl, rfl⟩)
        go_ret
        exact ⟨ret_bool HF.out.symm, rfl⟩
    · have hke : k = xs.length := by omega
      subst hke
      have HF : Hid (R = within xs.length least many) := by
        rw [HT.out]
        have : (xs.any fun x => !within x 0 most) = false := by
          rw [List.any_eq_false]
          intro x hx
          obtain ⟨j, hj, rfl⟩ := mem_nth hx
          rw [HK.out j hj]; simp
        rw [this]
        exact Lib.hid (by simp)
      go_wp2_with (go_at_call 49; refine (r_in _ _ _ _).mono ?_; rintro e w' ⟨rfl, rfl⟩)
      go_ret
      exact ⟨ret_bool HF.out.symm, rfl⟩
theorem all_t {A : Option Addr} {c : Nat} {xs : List Int} {least many most : Int} (w : World) (h : Ints w A c xs) (ht : timesB xs least many most = true) :
    Calls Tryz.prog 50 #[.slice A xs.length c, .int .i64 least, .int .i64 many, .int .i64 0, .int .i64 most] w fun e w' => e = .returned (.bool true) ∧ w' = w := ht ▸ r_all A c xs least many most w h
theorem all_f {A : Option Addr} {c : Nat} {xs : List Int} {least many most : Int} (w : World) (h : Ints w A c xs) (ht : timesB xs least many most = false) :
    Calls Tryz.prog 50 #[.slice A xs.length c, .int .i64 least, .int .i64 many, .int .i64 0, .int .i64 most] w fun e w' => e = .returned (.bool false) ∧ w' = w := ht ▸ r_all A c xs least many most w h

set_option maxHeartbeats 400000 in
theorem r_Legs (m : PlanM) (p : Plan) (w : World) (hp : PlanIs w m p) (hP : PlanOK p) :
    Calls Tryz.prog 51 #[planV m p] w fun e w' => e = .returned (.int .i64 (legs p)) ∧ ∃ q : Later w, w' = q.world := by
  obtain ⟨iA, ic, jA, jc, pA, pc, eA, ec⟩ := m
  have him := hp.items.2.1
  have h1 := hP.pos
  have h2 := hP.few
  obtain ⟨b, o, rfl, hbl, i0, i1, i2, i3⟩ := hp.items.at_ (p.items.length - 1) (by omega)
  have hl := hP.leg (p.items.length - 1) (by omega)
  have hn : ((p.items.length : Int) - 1).toNat = p.items.length - 1 := by omega
  have hz : (0 : Int) ≤ (p.items.length : Int) - 1 := by omega
  have hz1 : (1 : Int) ≤ (p.items.length : Int) := by omega
  have hz2 : (p.items.length : Int) - 1 < p.items.length := by omega
  unfold legs
  generalize (nth p.items (p.items.length - 1)).leg = L at *
  clear hp hP
  simp only [planV, planC]
  go_enter Tryz.func51, Tryz.ntmps51
  go_wp2_with fail
  go_ret
  exact ⟨rfl, Later.mk_eq ((Lt.refl w).alloc _)⟩

set_option maxHeartbeats 1000000 in
theorem r_line (x : Item) (l : Line) (w : World) :
    Calls Tryz.prog 52 #[.agg #[.int .i64 x.kind, .int .i64 x.leg, .int .i64 x.target, .bool x.free], .agg #[.int .i64 l.minute, .int .i64 l.time, .bool l.jump, .int .i64 l.mark]] w fun e w' => e = .returned (.bool (decide (LineOK x l))) ∧ ∃ q : Later w, w' = q.world := by
  obtain ⟨kind, leg, target, free⟩ := x
  obtain ⟨minute, time, jump, mark⟩ := l
  generalize hr : decide (LineOK ⟨kind, leg, target, free⟩ ⟨minute, time, jump, mark⟩) = r
  have HR := Lib.hid hr
  clear hr
  go_enter Tryz.func52, Tryz.ntmps52
  go_wp2_with (go_at_call 49; refine (r_in _ _ _ _).mono ?_; rintro e w' ⟨rfl, rfl⟩)
  all_goals go_ret
  all_goals refine ⟨ret_bool ?_, Later.mk_eq (((Lt.refl w).alloc _).alloc _)⟩
  all_goals rw [← HR.out, Bool.eq_iff_iff, decide_eq_true_iff]
  all_goals unfold LineOK
  all_goals (simp only [Bool.not_eq_true', Bool.not_eq_false', within_iff, within_no, beq_iff_eq, beq_eq_false_iff_ne, Bool.not_eq_true] at *)
  all_goals (simp_all <;> omega)
theorem rline_t {x : Item} {l : Line} (w : World) (h : LineOK x l) :
    Calls Tryz.prog 52 #[.agg #[.int .i64 x.kind, .int .i64 x.leg, .int .i64 x.target, .bool x.free], .agg #[.int .i64 l.minute, .int .i64 l.time, .bool l.jump, .int .i64 l.mark]] w fun e w' => e = .returned (.bool true) ∧ ∃ q : Later w, w' = q.world := by
  have := r_line x l w; rwa [decide_eq_true h] at this
theorem rline_f {x : Item} {l : Line} (w : World) (h : ¬ LineOK x l) :
    Calls Tryz.prog 52 #[.agg #[.int .i64 x.kind, .int .i64 x.leg, .int .i64 x.target, .bool x.free], .agg #[.int .i64 l.minute, .int .i64 l.time, .bool l.jump, .int .i64 l.mark]] w fun e w' => e = .returned (.bool false) ∧ ∃ q : Later w, w' = q.world := by
  have := r_line x l w; rwa [decide_eq_false h] at this
end Go.Proofs.YtdpcdmcmpfjbjaaGreat
