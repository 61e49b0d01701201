/- The plain meaning of package score: plans, cards, due minutes, where a car is out, real times, totals. No program and no memory here; How plans, cards and lists of numbers lie in memory, and that they lie there in every later world; The plan and the cards of the chapter's examples. -/
import Derived.Test.YtdpcdmcmpfjbjaaGreatProg
import Derived.WalkKit
import Derived.IntWalk
import Derived.Lib.Hide
import Derived.WalkSpells
import Derived.WalkLawsBesides
import Derived.Deep.LoopGhost
import Derived.Deep.QuietTactic
import Derived.BigQuiet
import Derived.Shelf.RegionOpenPlain
import Derived.Maps.AppendAt
import Derived.Deep.RegionHeld3
/- The plain meaning of package score: plans, cards, due minutes, where a car is out, real times, totals. No program and no memory here. -/
namespace Go.Proofs.YtdpcdmcmpfjbjaaGreat

structure Item where
  kind : Int
  leg : Int
  target : Int
  free : Bool
structure Line where
  minute : Int
  time : Int
  jump : Bool
  mark : Int
structure Card where
  cls : Int
  starts : List Int
  lines : List Line
structure Plan where
  items : List Item
  classes : Int
  late : Int
  early : Int
  maxLate : Int
  legLate : Int
  jumps : List Int
  ret : Bool
  missed : Int
  notional : Int
  percent : Int
  power : Int
  points : List Int
  extra : List Int
structure Placing where
  car : Int
  counts : Bool
  out : Int
  total : Int
  place : Int
  inClass : Int
  points : Int
instance : Inhabited Item := ⟨⟨0, 0, 0, false⟩⟩
instance : Inhabited Line := ⟨⟨0, 0, false, 0⟩⟩
instance : Inhabited Card := ⟨⟨0, [], []⟩⟩

/-- An element of a list; the type's own zero beyond its end. -/
def nth {α : Type} [Inhabited α] (l : List α) (i : Nat) : α := l.getD i default
theorem nth_eq {α : Type} [Inhabited α] (l : List α) (i : Nat) (h : i < l.length) : nth l i = l[i] := by simp [nth, List.getD, h]
theorem nth_mem {α : Type} [Inhabited α] (l : List α) (i : Nat) (h : i < l.length) : nth l i ∈ l := by rw [nth_eq l i h]; exact List.getElem_mem h
theorem mem_nth {α : Type} [Inhabited α] {l : List α} {x : α} (h : x ∈ l) : ∃ i, i < l.length ∧ nth l i = x := by
  obtain ⟨i, hi, e⟩ := List.getElem_of_mem h
  exact ⟨i, hi, by rw [nth_eq l i hi, e]⟩
theorem nth_map {α β : Type} [Inhabited α] [Inhabited β] (f : α → β) (l : List α) (i : Nat) (h : i < l.length) : nth (l.map f) i = f (nth l i) := by
  rw [nth_eq _ _ (by simpa using h), nth_eq _ _ h, List.getElem_map]
theorem nth_take {α : Type} [Inhabited α] (l : List α) (k i : Nat) (h : i < k) : nth (l.take k) i = nth l i := by
  simp [nth, List.getD, h]
theorem nth_append_left {α : Type} [Inhabited α] (l m : List α) (i : Nat) (h : i < l.length) : nth (l ++ m) i = nth l i := by
  simp [nth, List.getD, List.getElem?_append, h]
theorem nth_append_last {α : Type} [Inhabited α] (l : List α) (x : α) : nth (l ++ [x]) l.length = x := by
  simp [nth, List.getD]
theorem take_succ_nth {α : Type} [Inhabited α] (l : List α) (k : Nat) (h : k < l.length) : l.take (k + 1) = l.take k ++ [nth l k] := by
  rw [List.take_succ_eq_append_getElem h, nth_eq l k h]

/-- A number of 64 bits. -/
def I64 (x : Int) : Prop := -9223372036854775808 ≤ x ∧ x ≤ 9223372036854775807
/-- Errors of package api: OK and ErrArg. -/
noncomputable def errP (P : Prop) : Int := by classical exact if P then 0 else 2
theorem errP_yes {P : Prop} (h : P) : errP P = 0 := by unfold errP; exact if_pos h
theorem errP_no {P : Prop} (h : ¬ P) : errP P = 2 := by unfold errP; exact if_neg h
/-- From one number to another one. -/
def within (n a b : Int) : Bool := decide (a ≤ n ∧ n ≤ b)
theorem within_iff {n a b : Int} : within n a b = true ↔ a ≤ n ∧ n ≤ b := by simp [within]
theorem within_no {n a b : Int} : within n a b = false ↔ n < a ∨ b < n := by simp [within]; omega

/-- Whether a list has so many numbers, each from 0 to a bound. -/
def timesB (l : List Int) (least many most : Int) : Bool := within l.length least many && !(l.any fun x => !within x 0 most)
def ints (l : List Int) (least many most : Nat) : Prop := least ≤ l.length ∧ l.length ≤ many ∧ ∀ i, i < l.length → 0 ≤ nth l i ∧ nth l i ≤ most
theorem timesB_iff (l : List Int) (least many most : Nat) : timesB l least many most = true ↔ ints l least many most := by
  unfold timesB ints
  rw [Bool.and_eq_true, within_iff, Bool.not_eq_true', List.any_eq_false]
  constructor
  · rintro ⟨⟨h1, h2⟩, h3⟩
    refine ⟨by omega, by omega, fun i hi => ?_⟩
    have := h3 _ (nth_mem l i hi)
    simp only [Bool.not_eq_true', Bool.not_eq_false] at this
    exact within_iff.1 (by simpa using this)
  · rintro ⟨h1, h2, h3⟩
    refine ⟨⟨by omega, by omega⟩, fun x hx => ?_⟩
    obtain ⟨i, hi, rfl⟩ := mem_nth hx
    have := within_iff.2 (h3 i hi)
    simp [this]

def ItemOK (p : Plan) (i : Nat) : Prop :=
  (i = 0 ∨ (nth p.items (i - 1)).leg ≤ (nth p.items i).leg ∧ (nth p.items i).leg ≤ (nth p.items (i - 1)).leg + 1) ∧ (nth p.items i).leg < 6 ∧
  ((nth p.items i).kind = 1 ∧ 0 ≤ (nth p.items i).target ∧ (nth p.items i).target ≤ 1440 ∨ (nth p.items i).kind = 2 ∧ (nth p.items i).target = 0 ∧ (nth p.items i).free = false)
/-- A plan is as defined. -/
structure PlanOK (p : Plan) : Prop where
  pos : 1 ≤ p.items.length
  few : p.items.length ≤ 100
  cls : 1 ≤ p.classes ∧ p.classes ≤ 20
  leg0 : (nth p.items 0).leg = 0
  item : ∀ i, i < p.items.length → ItemOK p i
  late : 0 ≤ p.late ∧ p.late ≤ 36000000
  early : 0 ≤ p.early ∧ p.early ≤ 36000000
  missed : 0 ≤ p.missed ∧ p.missed ≤ 36000000
  maxLate : 0 ≤ p.maxLate ∧ p.maxLate ≤ 1440
  legLate : 0 ≤ p.legLate ∧ p.legLate ≤ 1440
  jumps : ints p.jumps 1 10 36000000
  notional : 1 ≤ p.notional ∧ p.notional ≤ 4
  percent : 100 ≤ p.percent ∧ p.percent ≤ 1000
  points : ints p.points 0 60 1000
  extra : ints p.extra 0 60 1000
  power : -1 ≤ p.power ∧ p.power < p.items.length
  stage : 0 ≤ p.power → (nth p.items p.power.toNat).kind = 2

theorem PlanOK.facts {p : Plan} (h : PlanOK p) : within p.items.length 1 100 = true ∧ within p.classes 1 20 = true ∧ (nth p.items 0).leg = 0 ∧
    timesB [p.late, p.early, p.missed] 3 3 36000000 = true ∧ timesB [p.maxLate, p.legLate] 2 2 1440 = true ∧ timesB p.jumps 1 10 36000000 = true ∧
    1 ≤ p.notional ∧ p.notional ≤ 4 ∧ within p.percent 100 1000 = true ∧ timesB p.points 0 60 1000 = true ∧ timesB p.extra 0 60 1000 = true ∧ within p.power (-1) (p.items.length - 1) = true := by
  have h1 := h.pos; have h2 := h.few; have h3 := h.late; have h4 := h.early; have h5 := h.missed; have h6 := h.maxLate; have h7 := h.legLate; have h8 := h.power
  refine ⟨within_iff.2 (by omega), within_iff.2 h.cls, h.leg0, (timesB_iff _ 3 3 36000000).2 ⟨by simp, by simp, ?_⟩, (timesB_iff _ 2 2 1440).2 ⟨by simp, by simp, ?_⟩, (timesB_iff _ 1 10 36000000).2 h.jumps, h.notional.1, h.notional.2, within_iff.2 h.percent, (timesB_iff _ 0 60 1000).2 h.points, (timesB_iff _ 0 60 1000).2 h.extra, within_iff.2 (by omega)⟩
  · intro i hi
    match i, hi with
    | 0, _ => exact h3
    | 1, _ => exact h4
    | 2, _ => exact h5
  · intro i hi
    match i, hi with
    | 0, _ => exact h6
    | 1, _ => exact h7
theorem PlanOK.of {p : Plan} (f1 : within p.items.length 1 100 = true) (f2 : within p.classes 1 20 = true) (f3 : (nth p.items 0).leg = 0) (fi : ∀ i, i < p.items.length → ItemOK p i)
    (f4 : timesB [p.late, p.early, p.missed] 3 3 36000000 = true) (f5 : timesB [p.maxLate, p.legLate] 2 2 1440 = true) (f6 : timesB p.jumps 1 10 36000000 = true)
    (f7 : 1 ≤ p.notional) (f8 : p.notional ≤ 4) (f9 : within p.percent 100 1000 = true) (f10 : timesB p.points 0 60 1000 = true) (f11 : timesB p.extra 0 60 1000 = true) (f12 : within p.power (-1) (p.items.length - 1) = true)
    (f13 : 0 ≤ p.power → (nth p.items p.power.toNat).kind = 2) : PlanOK p := by
  have g1 := within_iff.1 f1
  have g4 := ((timesB_iff _ 3 3 36000000).1 f4).2.2
  have g5 := ((timesB_iff _ 2 2 1440).1 f5).2.2
  have g12 := within_iff.1 f12
  exact ⟨by omega, by omega, within_iff.1 f2, f3, fi, g4 0 (by simp), g4 1 (by simp), g4 2 (by simp), g5 0 (by simp), g5 1 (by simp), (timesB_iff _ 1 10 36000000).1 f6, ⟨f7, f8⟩, within_iff.1 f9, (timesB_iff _ 0 60 1000).1 f10, (timesB_iff _ 0 60 1000).1 f11, ⟨by omega, by omega⟩, f13⟩
theorem legs_nonneg {p : Plan} (h0 : (nth p.items 0).leg = 0) : ∀ k, (∀ j, j < k → ItemOK p j) → ∀ j, j < k → 0 ≤ (nth p.items j).leg := by
  intro k h j
  induction j with
  | zero => intro _; omega
  | succ j ih =>
    intro hj
    rcases (h (j + 1) hj).1 with e | e
    · omega
    · have := ih (by omega)
      rw [Nat.add_sub_cancel] at e
      omega
/-- All numbers of a plan have 64 bits. -/
structure PlanWf (p : Plan) : Prop where
  leg : ∀ i, i < p.items.length → I64 (nth p.items i).leg
  power : I64 p.power
def legs (p : Plan) : Int := (nth p.items (p.items.length - 1)).leg + 1

theorem PlanOK.leg {p : Plan} (h : PlanOK p) (i : Nat) (hi : i < p.items.length) : 0 ≤ (nth p.items i).leg ∧ (nth p.items i).leg ≤ 5 :=
  ⟨legs_nonneg h.leg0 _ h.item i hi, by have := (h.item i hi).2.1; omega⟩
/-- A line is as defined for an item. -/
def LineOK (x : Item) (l : Line) : Prop :=
  (0 ≤ l.minute ∧ l.minute ≤ 100000) ∧ (0 ≤ l.time ∧ l.time ≤ 36000000) ∧
  (l.mark = 0 ∧ (x.kind = 1 ∧ l.time = 0 ∧ l.jump = false ∨ x.kind ≠ 1 ∧ 0 < l.time) ∨ l.mark = 1 ∧ x.kind ≠ 1 ∧ l.time = 0 ∨ l.mark = 2 ∧ l.minute = 0 ∧ l.time = 0 ∧ l.jump = false)
instance (x : Item) (l : Line) : Decidable (LineOK x l) := by unfold LineOK; infer_instance
/-- A card is as defined for a plan. -/
structure CardOK (p : Plan) (c : Card) : Prop where
  cls : 0 ≤ c.cls ∧ c.cls < p.classes
  lines : c.lines.length = p.items.length
  startsLen : (c.starts.length : Int) = legs p
  starts : ints c.starts 1 6 100000
  line : ∀ i, i < p.items.length → LineOK (nth p.items i) (nth c.lines i)
  missed : ∀ i, i < p.items.length → 0 < i → (nth p.items i).leg = (nth p.items (i - 1)).leg → (nth c.lines (i - 1)).mark = 2 → (nth c.lines i).mark = 2

theorem CardOK.facts {p : Plan} {c : Card} (h : CardOK p c) : within c.cls 0 (p.classes - 1) = true ∧ timesB c.starts 1 6 100000 = true :=
  ⟨within_iff.2 (by have := h.cls; omega), (timesB_iff _ 1 6 100000).2 h.starts⟩
theorem CardOK.of {p : Plan} {c : Card} (f1 : within c.cls 0 (p.classes - 1) = true) (f2 : c.lines.length = p.items.length) (f3 : (c.starts.length : Int) = legs p) (f4 : timesB c.starts 1 6 100000 = true)
    (fl : ∀ i, i < p.items.length → LineOK (nth p.items i) (nth c.lines i) ∧ (0 < i → (nth p.items i).leg = (nth p.items (i - 1)).leg → (nth c.lines (i - 1)).mark = 2 → (nth c.lines i).mark = 2)) : CardOK p c := by
  have g := within_iff.1 f1
  exact ⟨by omega, f2, f3, (timesB_iff _ 1 6 100000).1 f4, fun i hi => (fl i hi).1, fun i hi h0 hs hm => (fl i hi).2 h0 hs hm⟩
/-- All numbers of a card have 64 bits. -/
def CardWf (c : Card) : Prop := I64 c.cls
def cardsOK (p : Plan) (l : List Card) : Prop := l.length ≤ 200 ∧ ∀ i, i < l.length → CardOK p (nth l i)

/-- The due minute. -/
def dueP (p : Plan) (c : Card) (i : Nat) : Int :=
  if 0 < i ∧ (nth p.items (i - 1)).leg = (nth p.items i).leg then (nth c.lines (i - 1)).minute + (nth p.items i).target
  else nth c.starts (nth p.items i).leg.toNat + (nth p.items i).target
theorem leg_mono {p : Plan} (h : PlanOK p) (i : Nat) : ∀ d, i + d < p.items.length → (nth p.items i).leg ≤ (nth p.items (i + d)).leg := by
  intro d
  induction d with
  | zero => intro _; exact Int.le_refl _
  | succ d ih =>
    intro hd
    have g := (h.item (i + d + 1) (by omega)).1
    rw [Nat.add_sub_cancel] at g
    have := ih (by omega)
    rw [← Nat.add_assoc]
    omega
theorem leg_le {p : Plan} (h : PlanOK p) (i j : Nat) (hij : i ≤ j) (hj : j < p.items.length) : (nth p.items i).leg ≤ (nth p.items j).leg := by
  have := leg_mono h i (j - i) (by omega)
  rwa [show i + (j - i) = j from by omega] at this
theorem leg_starts {p : Plan} {c : Card} (h : PlanOK p) (hc : CardOK p c) (i : Nat) (hi : i < p.items.length) : (nth p.items i).leg.toNat < c.starts.length := by
  have h1 := leg_le h i (p.items.length - 1) (by omega) (by omega)
  have h2 := hc.startsLen
  have h3 := h.leg i hi
  unfold legs at h2
  omega
theorem target_bd {p : Plan} (h : PlanOK p) (i : Nat) (hi : i < p.items.length) : 0 ≤ (nth p.items i).target ∧ (nth p.items i).target ≤ 1440 := by
  have := (h.item i hi).2.2
  omega
theorem due_bd {p : Plan} {c : Card} (h : PlanOK p) (hc : CardOK p c) (i : Nat) (hi : i < p.items.length) : 0 ≤ dueP p c i ∧ dueP p c i ≤ 101440 := by
  have t := target_bd h i hi
  have s := hc.starts.2.2 _ (leg_starts h hc i hi)
  unfold dueP
  split
  · have := (hc.line (i - 1) (by omega)).1
    omega
  · omega
/-- How late a car is at an item, or how early (less than 0); 0 where that is not asked. -/
def offP (p : Plan) (c : Card) (i : Nat) : Int :=
  if (nth p.items i).kind ≠ 1 ∨ (nth c.lines i).mark = 2 then 0 else (nth c.lines i).minute - dueP p c i
def lateP (p : Plan) (c : Card) (i : Nat) : Int := max 0 (offP p c i)
def earlyP (p : Plan) (c : Card) (i : Nat) : Int := if (nth p.items i).free then 0 else max 0 (-offP p c i)
def sideP (p : Plan) (c : Card) (i : Nat) : Int := if 0 < offP p c i then 1 else if offP p c i < 0 then 2 else 0
def byP (p : Plan) (c : Card) (i : Nat) : Int := if 0 < offP p c i then offP p c i else if offP p c i < 0 then -offP p c i else 0
theorem side_off {p : Plan} {c : Card} {i : Nat} (h : (nth p.items i).kind ≠ 1 ∨ (nth c.lines i).mark = 2) : sideP p c i = 0 ∧ byP p c i = 0 := by
  have : offP p c i = 0 := if_pos h
  unfold sideP byP
  rw [this]
  exact ⟨rfl, rfl⟩
theorem side_late {p : Plan} {c : Card} {i : Nat} (h1 : (nth p.items i).kind = 1) (h2 : (nth c.lines i).mark ≠ 2) (h : 0 < (nth c.lines i).minute - dueP p c i) : sideP p c i = 1 ∧ byP p c i = (nth c.lines i).minute - dueP p c i := by
  have : offP p c i = (nth c.lines i).minute - dueP p c i := if_neg (by simp [h1, h2])
  unfold sideP byP
  rw [this, if_pos h, if_pos h]
  exact ⟨rfl, rfl⟩
theorem side_early {p : Plan} {c : Card} {i : Nat} (h1 : (nth p.items i).kind = 1) (h2 : (nth c.lines i).mark ≠ 2) (h : (nth c.lines i).minute - dueP p c i < 0) : sideP p c i = 2 ∧ byP p c i = -((nth c.lines i).minute - dueP p c i) := by
  have : offP p c i = (nth c.lines i).minute - dueP p c i := if_neg (by simp [h1, h2])
  unfold sideP byP
  have n : ¬ 0 < (nth c.lines i).minute - dueP p c i := by omega
  rw [this]
  simp only [n, h, if_true, if_false, and_self]
theorem side_even {p : Plan} {c : Card} {i : Nat} (h1 : (nth p.items i).kind = 1) (h2 : (nth c.lines i).mark ≠ 2) (h : (nth c.lines i).minute - dueP p c i = 0) : sideP p c i = 0 ∧ byP p c i = 0 := by
  have : offP p c i = (nth c.lines i).minute - dueP p c i := if_neg (by simp [h1, h2])
  unfold sideP byP
  rw [this, h]
  exact ⟨rfl, rfl⟩
/-- The minutes late at the items of leg n before item k. -/
def legSum (p : Plan) (c : Card) (n : Int) : Nat → Int
  | 0 => 0
  | k + 1 => legSum p c n k + if (nth p.items k).leg = n then lateP p c k else 0
/-- Here a car would be out. -/
def OutAt (p : Plan) (c : Card) (i : Nat) : Prop :=
  p.maxLate < lateP p c i ∨ 0 < lateP p c i ∧ p.legLate < legSum p c (nth p.items i).leg (i + 1) ∨ (nth c.lines i).mark = 2 ∧ (p.ret = false ∨ (nth p.items i).leg = legs p - 1)
instance (p : Plan) (c : Card) (i : Nat) : Decidable (OutAt p c i) := by unfold OutAt; infer_instance
/-- The first item from i on, of n items, at which a car is out; -1 for none. -/
def outFrom (p : Plan) (c : Card) (i : Nat) : Nat → Int
  | 0 => -1
  | n + 1 => if OutAt p c i then i else outFrom p c (i + 1) n
def outP (p : Plan) (c : Card) : Int := outFrom p c 0 p.items.length
theorem outFrom_hit (p : Plan) (c : Card) (k : Nat) : ∀ n i, i ≤ k → k < i + n → (∀ j, i ≤ j → j < k → ¬ OutAt p c j) → OutAt p c k → outFrom p c i n = k := by
  intro n
  induction n with
  | zero => intro i h1 h2 _ _; omega
  | succ n ih =>
    intro i h1 h2 h3 h4
    unfold outFrom
    by_cases e : i = k
    · subst e; rw [if_pos h4]
    · rw [if_neg (h3 i (Nat.le_refl _) (by omega))]
      exact ih (i + 1) (by omega) (by omega) (fun j hj => h3 j (by omega)) h4
theorem outFrom_none (p : Plan) (c : Card) : ∀ n i, (∀ j, i ≤ j → j < i + n → ¬ OutAt p c j) → outFrom p c i n = -1 := by
  intro n
  induction n with
  | zero => intro i _; rfl
  | succ n ih =>
    intro i h
    unfold outFrom
    rw [if_neg (h i (Nat.le_refl _) (by omega))]
    exact ih (i + 1) (fun j h1 h2 => h j (by omega) (by omega))
theorem outP_hit (p : Plan) (c : Card) (k : Nat) (hk : k < p.items.length) (h : ∀ j, j < k → ¬ OutAt p c j) (ho : OutAt p c k) : outP p c = k :=
  outFrom_hit p c k _ 0 (Nat.zero_le _) (by omega) (fun j _ hj => h j hj) ho
theorem outP_none (p : Plan) (c : Card) (h : ∀ j, j < p.items.length → ¬ OutAt p c j) : outP p c = -1 :=
  outFrom_none p c _ 0 (fun j _ hj => h j (by omega))
theorem outFrom_range (p : Plan) (c : Card) : ∀ n i, outFrom p c i n = -1 ∨ ∃ k : Nat, outFrom p c i n = k ∧ i ≤ k ∧ k < i + n := by
  intro n
  induction n with
  | zero => intro i; exact .inl rfl
  | succ n ih =>
    intro i
    unfold outFrom
    by_cases h : OutAt p c i
    · rw [if_pos h]; exact .inr ⟨i, rfl, Nat.le_refl _, by omega⟩
    · rw [if_neg h]
      rcases ih (i + 1) with h | ⟨k, h1, h2, h3⟩
      · exact .inl h
      · exact .inr ⟨k, h1, by omega, by omega⟩
theorem outP_range (p : Plan) (c : Card) : -1 ≤ outP p c ∧ outP p c < p.items.length + 1 := by
  rcases outFrom_range p c p.items.length 0 with h | ⟨k, h, _, h3⟩ <;> unfold outP <;> omega

/-- A car is not out at an item, nor before. -/
def runsP (p : Plan) (c : Card) (i : Nat) : Bool := decide (outP p c < 0 ∨ (i : Int) < outP p c)

/-- Numbers of cars, as Go's ints. -/
def nums (l : List Nat) : List Int := l.map fun n : Nat => (n : Int)
theorem nums_length (l : List Nat) : (nums l).length = l.length := by simp [nums]
theorem nth_nums (l : List Nat) (j : Nat) (h : j < l.length) : nth (nums l) j = ((nth l j : Nat) : Int) := nth_map _ l j h
theorem nums_append (l m : List Nat) : nums (l ++ m) = nums l ++ nums m := by simp [nums]

/-- Car j has a real time of stage i, and is of the class (of any, if that is less than 0). -/
def isReal (p : Plan) (cards : List Card) (i : Nat) (cls : Int) (j : Nat) : Bool :=
  decide ((nth (nth cards j).lines i).mark = 0) && (runsP p (nth cards j) i && (decide (cls < 0) || decide ((nth cards j).cls = cls)))
def realP (p : Plan) (cards : List Card) (i : Nat) (cls : Int) : List Nat := (List.range cards.length).filter (isReal p cards i cls)
def realTo (p : Plan) (cards : List Card) (i : Nat) (cls : Int) (k : Nat) : List Nat := (List.range k).filter (isReal p cards i cls)
theorem realTo_succ (p : Plan) (cards : List Card) (i : Nat) (cls : Int) (k : Nat) : realTo p cards i cls (k + 1) = if isReal p cards i cls k = true then realTo p cards i cls k ++ [k] else realTo p cards i cls k := by
  unfold realTo
  rw [List.range_succ, List.filter_append]
  by_cases h : isReal p cards i cls k = true <;> simp [h]
theorem realTo_length (p : Plan) (cards : List Card) (i : Nat) (cls : Int) (k : Nat) : (realTo p cards i cls k).length ≤ k := by
  unfold realTo
  have := List.length_filter_le (isReal p cards i cls) (List.range k)
  simpa using this
theorem mem_realP {p : Plan} {cards : List Card} {i : Nat} {cls : Int} {j : Nat} : j ∈ realP p cards i cls ↔ j < cards.length ∧ isReal p cards i cls j = true := by simp [realP]
def chosenP (p : Plan) (cards : List Card) (car i : Nat) : List Nat :=
  if 0 < (realP p cards i (nth cards car).cls).length then realP p cards i (nth cards car).cls else realP p cards i (-1)
theorem chosen_lt {p : Plan} {cards : List Card} {car i : Nat} {j : Nat} (h : j ∈ chosenP p cards car i) : j < cards.length := by
  unfold chosenP at h
  split at h <;> exact (mem_realP.1 h).1
def tookP (cards : List Card) (car i : Nat) : Int := (nth (nth cards car).lines i).time
def sortP (l : List Int) : List Int := l.mergeSort fun a b => decide (a ≤ b)
def timesOf (cards : List Card) (l : List Nat) (i : Nat) : List Int := l.map fun c => tookP cards c i
def sortedP (cards : List Card) (l : List Nat) (i : Nat) : List Int := sortP (timesOf cards l i)
theorem sortedP_length (cards : List Card) (l : List Nat) (i : Nat) : (sortedP cards l i).length = l.length := by simp [sortedP, sortP, timesOf]
theorem sortedP_bd {cards : List Card} {l : List Nat} {i : Nat} (h : ∀ j, j ∈ l → 0 ≤ tookP cards j i ∧ tookP cards j i ≤ 36000000) (j : Nat) (hj : j < l.length) : 0 ≤ nth (sortedP cards l i) j ∧ nth (sortedP cards l i) j ≤ 36000000 := by
  have hm := nth_mem (sortedP cards l i) j (by rw [sortedP_length]; exact hj)
  have hm2 : nth (sortedP cards l i) j ∈ timesOf cards l i := (List.mergeSort_perm _ _).mem_iff.1 hm
  unfold timesOf at hm2
  rw [List.mem_map] at hm2
  obtain ⟨x, hx, e⟩ := hm2
  rw [← e]
  exact h x hx
def beforeStep (cards : List Card) (i : Nat) (M : Int) (s : Int × Int) (c : Nat) : Int × Int :=
  if (nth (nth cards c).lines i).minute ≤ M ∧ (s.1 < (nth (nth cards c).lines i).minute ∨ (nth (nth cards c).lines i).minute = s.1 ∧ s.2 < tookP cards c i) then ((nth (nth cards c).lines i).minute, tookP cards c i) else s
def beforeP (cards : List Card) (l : List Nat) (car i : Nat) : Int :=
  (l.foldl (beforeStep cards i (nth (nth cards car).lines i).minute) (-1, nth (sortedP cards l i) 0)).2
def notionalP (p : Plan) (cards : List Card) (l : List Nat) (car i : Nat) : Int :=
  if p.notional = 1 then nth (sortedP cards l i) ((l.length - 1) / 2)
  else if p.notional = 2 then nth (sortedP cards l i) (l.length - 1)
  else if p.notional = 3 then beforeP cards l car i
  else (nth (sortedP cards l i) 0 * p.percent + 99) / 100
/-- The time of a car in a stage. -/
def timeP (p : Plan) (cards : List Card) (car i : Nat) : Int :=
  if (nth (nth cards car).lines i).mark = 0 then tookP cards car i
  else if (nth (nth cards car).lines i).mark = 2 then (if (chosenP p cards car i).length = 0 then p.missed else nth (sortedP cards (chosenP p cards car i) i) 0 + p.missed)
  else if (chosenP p cards car i).length = 0 then 0 else notionalP p cards (chosenP p cards car i) car i
/-- The penalty of a control. -/
def costP (p : Plan) (c : Card) (i : Nat) : Int := lateP p c i * p.late + earlyP p c i * p.early
def isJump (p : Plan) (c : Card) (i : Nat) : Bool := (nth c.lines i).jump && runsP p c i
def jumpsTo (p : Plan) (c : Card) (k : Nat) : List Nat := (List.range k).filter (isJump p c)
theorem jumpsTo_succ (p : Plan) (c : Card) (k : Nat) : jumpsTo p c (k + 1) = if isJump p c k = true then jumpsTo p c k ++ [k] else jumpsTo p c k := by
  unfold jumpsTo
  rw [List.range_succ, List.filter_append]
  by_cases h : isJump p c k = true <;> simp [h]
theorem jumpsTo_length (p : Plan) (c : Card) (k : Nat) : (jumpsTo p c k).length ≤ k := by
  unfold jumpsTo
  have := List.length_filter_le (isJump p c) (List.range k)
  simpa using this
def jumpP (p : Plan) (c : Card) (i : Nat) : Int := nth p.jumps (min (jumpsTo p c (i + 1)).length p.jumps.length - 1)
/-- What item i adds to the total of a car. -/
def addP (p : Plan) (cards : List Card) (car i : Nat) : Int :=
  (if (nth p.items i).kind = 2 then timeP p cards car i else 0) + costP p (nth cards car) i + (if (nth (nth cards car).lines i).jump = true then jumpP p (nth cards car) i else 0)
def totalTo (p : Plan) (cards : List Card) (car : Nat) : Nat → Int
  | 0 => 0
  | k + 1 => totalTo p cards car k + if runsP p (nth cards car) k = true then addP p cards car k else 0
def totalP (p : Plan) (cards : List Card) (car : Nat) : Int := totalTo p cards car p.items.length
theorem runs_down {p : Plan} {c : Card} {i j : Nat} (h : runsP p c j = true) (hij : i ≤ j) : runsP p c i = true := by
  unfold runsP at *
  rw [decide_eq_true_iff] at *
  omega
theorem totalTo_stop {p : Plan} {cards : List Card} {car k : Nat} (h : runsP p (nth cards car) k = false) : ∀ d, totalTo p cards car (k + d) = totalTo p cards car k := by
  intro d
  induction d with
  | zero => rfl
  | succ d ih =>
    show totalTo p cards car (k + d) + (if runsP p (nth cards car) (k + d) = true then addP p cards car (k + d) else 0) = _
    have : runsP p (nth cards car) (k + d) = false := by
      cases hr : runsP p (nth cards car) (k + d) with
      | false => rfl
      | true => rw [runs_down hr (Nat.le_add_right k d)] at h; cases h
    rw [this, ih]; simp
end Go.Proofs.YtdpcdmcmpfjbjaaGreat
/- How plans, cards and lists of numbers lie in memory, and that they lie there in every later world. -/
namespace Go.Proofs.YtdpcdmcmpfjbjaaGreat
open Go.RowKit

/-- What one reads of a cell: there, and in a block of w's. -/
def Cell (w : World) (b o : Nat) (v : Value) : Prop := w.cell? ⟨b, o, none⟩ = some v
theorem Cell.below {w w1 : World} {b o : Nat} {v : Value} (h : Cell w b o v) (hb : Below w.heap.size w w1) : Cell w1 b o v :=
  (hb.cell (World.block_lt_of_cell? w _ h)).trans h

/-- A slice's elements: R tells one at its place; each takes k cells. -/
def Row {α : Type} [Inhabited α] (R : World → Nat → Nat → α → Prop) (k : Nat) (w : World) (A : Option Addr) (c : Nat) (xs : List α) : Prop :=
  xs.length ≤ c ∧ xs.length ≤ 9223372036854775807 ∧ (0 < xs.length → ∃ b o, A = some ⟨b, o, none⟩ ∧ b < w.heap.size ∧ ∀ j, j < xs.length → R w b (o + j * k) (nth xs j))
theorem Row.below {α : Type} [Inhabited α] {R : World → Nat → Nat → α → Prop} {k : Nat} {w w1 : World} {A : Option Addr} {c : Nat} {xs : List α}
    (hR : ∀ b o x, R w b o x → R w1 b o x) (h : Row R k w A c xs) (hb : Below w.heap.size w w1) : Row R k w1 A c xs :=
  ⟨h.1, h.2.1, fun hp => by
    obtain ⟨b, o, e, hl, hc⟩ := h.2.2 hp
    exact ⟨b, o, e, Nat.lt_of_lt_of_le hl hb.size, fun j hj => hR _ _ _ (hc j hj)⟩⟩

def IntAt (w : World) (b o : Nat) (x : Int) : Prop := w.cell? ⟨b, o, none⟩ = some (.int .i64 x)
def ItemAt (w : World) (b o : Nat) (x : Item) : Prop :=
  w.cell? ⟨b, o, none⟩ = some (.int .i64 x.kind) ∧ w.cell? ⟨b, o + 1, none⟩ = some (.int .i64 x.leg) ∧ w.cell? ⟨b, o + 2, none⟩ = some (.int .i64 x.target) ∧ w.cell? ⟨b, o + 3, none⟩ = some (.bool x.free)
def LineAt (w : World) (b o : Nat) (x : Line) : Prop :=
  w.cell? ⟨b, o, none⟩ = some (.int .i64 x.minute) ∧ w.cell? ⟨b, o + 1, none⟩ = some (.int .i64 x.time) ∧ w.cell? ⟨b, o + 2, none⟩ = some (.bool x.jump) ∧ w.cell? ⟨b, o + 3, none⟩ = some (.int .i64 x.mark)
theorem IntAt.below {w w1 : World} (hb : Below w.heap.size w w1) (b o : Nat) (x : Int) (h : IntAt w b o x) : IntAt w1 b o x := Cell.below h hb
theorem ItemAt.below {w w1 : World} (hb : Below w.heap.size w w1) (b o : Nat) (x : Item) (h : ItemAt w b o x) : ItemAt w1 b o x :=
  ⟨Cell.below h.1 hb, Cell.below h.2.1 hb, Cell.below h.2.2.1 hb, Cell.below h.2.2.2 hb⟩
theorem LineAt.below {w w1 : World} (hb : Below w.heap.size w w1) (b o : Nat) (x : Line) (h : LineAt w b o x) : LineAt w1 b o x :=
  ⟨Cell.below h.1 hb, Cell.below h.2.1 hb, Cell.below h.2.2.1 hb, Cell.below h.2.2.2 hb⟩
def Ints (w : World) (A : Option Addr) (c : Nat) (xs : List Int) : Prop := Row IntAt 1 w A c xs
def Items (w : World) (A : Option Addr) (c : Nat) (xs : List Item) : Prop := Row ItemAt 4 w A c xs
def Lines (w : World) (A : Option Addr) (c : Nat) (xs : List Line) : Prop := Row LineAt 4 w A c xs
theorem Ints.below {w w1 : World} {A : Option Addr} {c : Nat} {xs : List Int} (h : Ints w A c xs) (hb : Below w.heap.size w w1) : Ints w1 A c xs := Row.below (IntAt.below hb) h hb
theorem Items.below {w w1 : World} {A : Option Addr} {c : Nat} {xs : List Item} (h : Items w A c xs) (hb : Below w.heap.size w w1) : Items w1 A c xs := Row.below (ItemAt.below hb) h hb
theorem Lines.below {w w1 : World} {A : Option Addr} {c : Nat} {xs : List Line} (h : Lines w A c xs) (hb : Below w.heap.size w w1) : Lines w1 A c xs := Row.below (LineAt.below hb) h hb

/-- Where the four slices of a plan lie. -/
structure PlanM where
  iA : Option Addr
  ic : Nat
  jA : Option Addr
  jc : Nat
  pA : Option Addr
  pc : Nat
  eA : Option Addr
  ec : Nat
def planC (m : PlanM) (p : Plan) : Array Value :=
  #[.slice m.iA p.items.length m.ic, .int .i64 p.classes, .int .i64 p.late, .int .i64 p.early, .int .i64 p.maxLate, .int .i64 p.legLate, .slice m.jA p.jumps.length m.jc, .bool p.ret, .int .i64 p.missed, .int .i64 p.notional, .int .i64 p.percent, .int .i64 p.power, .slice m.pA p.points.length m.pc, .slice m.eA p.extra.length m.ec]
def planV (m : PlanM) (p : Plan) : Value := .agg (planC m p)
structure PlanIs (w : World) (m : PlanM) (p : Plan) : Prop where
  items : Items w m.iA m.ic p.items
  jumps : Ints w m.jA m.jc p.jumps
  points : Ints w m.pA m.pc p.points
  extra : Ints w m.eA m.ec p.extra
theorem PlanIs.below {w w1 : World} {m : PlanM} {p : Plan} (h : PlanIs w m p) (hb : Below w.heap.size w w1) : PlanIs w1 m p :=
  ⟨h.items.below hb, h.jumps.below hb, h.points.below hb, h.extra.below hb⟩

/-- Where the two slices of a card lie. -/
structure CardM where
  sA : Option Addr
  sc : Nat
  lA : Option Addr
  lc : Nat
def cardC (m : CardM) (c : Card) : Array Value := #[.int .i64 c.cls, .slice m.sA c.starts.length m.sc, .slice m.lA c.lines.length m.lc]
def cardV (m : CardM) (c : Card) : Value := .agg (cardC m c)
structure CardIs (w : World) (m : CardM) (c : Card) : Prop where
  starts : Ints w m.sA m.sc c.starts
  lines : Lines w m.lA m.lc c.lines
theorem CardIs.below {w w1 : World} {m : CardM} {c : Card} (h : CardIs w m c) (hb : Below w.heap.size w w1) : CardIs w1 m c :=
  ⟨h.starts.below hb, h.lines.below hb⟩
def CardAt (w : World) (b o : Nat) (c : Card) : Prop :=
  ∃ m : CardM, CardIs w m c ∧ w.cell? ⟨b, o, none⟩ = some (.int .i64 c.cls) ∧ w.cell? ⟨b, o + 1, none⟩ = some (.slice m.sA c.starts.length m.sc) ∧ w.cell? ⟨b, o + 2, none⟩ = some (.slice m.lA c.lines.length m.lc)
theorem CardAt.below {w w1 : World} (hb : Below w.heap.size w w1) (b o : Nat) (c : Card) (h : CardAt w b o c) : CardAt w1 b o c := by
  obtain ⟨m, h1, h2, h3, h4⟩ := h
  exact ⟨m, h1.below hb, Cell.below h2 hb, Cell.below h3 hb, Cell.below h4 hb⟩
def Cards (w : World) (A : Option Addr) (c : Nat) (xs : List Card) : Prop := Row CardAt 3 w A c xs
theorem Cards.below {w w1 : World} {A : Option Addr} {c : Nat} {xs : List Card} (h : Cards w A c xs) (hb : Below w.heap.size w w1) : Cards w1 A c xs := Row.below (CardAt.below hb) h hb

/-- A later world: all that lay in w lies in it as it lay. -/
def Lt (w w' : World) : Prop := Below w.heap.size w w'
theorem Lt.refl (w : World) : Lt w w := Below.refl _ _
theorem Lt.trans {a b c : World} (h : Lt a b) (k : Lt b c) : Lt a c := Below.trans h (Below.mono k h.size)
theorem Lt.alloc {a w : World} (h : Lt a w) (o : Obj) : Lt a (w.alloc o) := Below.alloc h h.size o
theorem Lt.drew {a w : World} (h : Lt a w) : Lt a w.drew := Below.drew h
theorem Lt.drewN {a w : World} (h : Lt a w) (n : Nat) : Lt a (w.drewN n) := ⟨h.os, h.tape, h.output, h.size, h.block⟩
theorem Lt.setCell {a w : World} (h : Lt a w) {p : Addr} (hp : a.heap.size ≤ p.block) (u : Value) : Lt a (w.setCell p u) := Below.setCell h hp u
theorem Lt.grown {a w w' : World} (h : Lt a w) {row : Option Nat} (hg : w.grownBy w' row) (hr : ∀ k, row = some k → a.heap.size ≤ k) : Lt a w' := Below.grown h hg h.size hr
/-- A world later than w, by a name of its own: the walk sees through it. -/
structure Later (w : World) where
  world : World
  lt : Lt w world
theorem Ints.later {w w1 : World} {A : Option Addr} {c : Nat} {xs : List Int} (h : Ints w A c xs) (hb : Lt w w1) : Ints w1 A c xs := h.below hb
theorem Items.later {w w1 : World} {A : Option Addr} {c : Nat} {xs : List Item} (h : Items w A c xs) (hb : Lt w w1) : Items w1 A c xs := h.below hb
theorem Lines.later {w w1 : World} {A : Option Addr} {c : Nat} {xs : List Line} (h : Lines w A c xs) (hb : Lt w w1) : Lines w1 A c xs := h.below hb
theorem Cards.later {w w1 : World} {A : Option Addr} {c : Nat} {xs : List Card} (h : Cards w A c xs) (hb : Lt w w1) : Cards w1 A c xs := h.below hb
theorem PlanIs.later {w w1 : World} {m : PlanM} {p : Plan} (h : PlanIs w m p) (hb : Lt w w1) : PlanIs w1 m p := h.below hb
theorem CardIs.later {w w1 : World} {m : CardM} {c : Card} (h : CardIs w m c) (hb : Lt w w1) : CardIs w1 m c := h.below hb
theorem Lt.cell {w w1 : World} (hb : Lt w w1) {a : Addr} {v : Value} (h : w.cell? a = some v) : w1.cell? a = some v := (Below.cell hb (World.block_lt_of_cell? w _ h)).trans h
instance (w : World) : Inhabited (Later w) := ⟨⟨w, Lt.refl w⟩⟩
theorem Later.mk_eq {w w' : World} (h : Lt w w') : ∃ p : Later w, w' = p.world := ⟨⟨w', h⟩, rfl⟩
theorem Later.to {a w : World} (p : Later w) (h : Lt a w) : Lt a p.world := h.trans p.lt
theorem Later.cell {w : World} (p : Later w) (b o : Nat) (h : b < w.heap.size) : p.world.cell? ⟨b, o, none⟩ = w.cell? ⟨b, o, none⟩ := Below.cell (p := ⟨b, o, none⟩) p.lt h
theorem Later.frozen {w : World} (p : Later w) (b o : Nat) (h : b < w.heap.size) : p.world.frozen? ⟨b, o, none⟩ = w.frozen? ⟨b, o, none⟩ := Below.frozen (p := ⟨b, o, none⟩) p.lt h
theorem Later.heap {w : World} (p : Later w) (b : Nat) (h : b < w.heap.size) : p.world.heap[b]? = w.heap[b]? := p.lt.block b h
theorem Later.size {w : World} (p : Later w) (b : Nat) (h : b < w.heap.size) : b < p.world.heap.size := Nat.lt_of_lt_of_le h p.lt.size
theorem Later.ne {w : World} (p : Later w) (b : Nat) (h : b < w.heap.size) : (b = p.world.heap.size) = False := eq_false (Nat.ne_of_lt (p.size b h))
theorem Later.le {w : World} (p : Later w) (b : Nat) (h : b ≤ w.heap.size) : b ≤ p.world.heap.size := Nat.le_trans h p.lt.size

theorem alloc_lt {w : World} {b : Nat} (o : Obj) (h : b < w.heap.size) : b < (w.alloc o).heap.size := by rw [World.size_alloc]; omega
theorem Later.cell1 {w : World} {o1 : Obj} (q : Later (w.alloc o1)) (b : Nat) (o : Nat) (h : b < w.heap.size) : q.world.cell? ⟨b, o, none⟩ = w.cell? ⟨b, o, none⟩ := (q.cell b o (alloc_lt _ h)).trans <| (World.cell?_alloc_lt _ _ ⟨b, o, none⟩ h).trans <| rfl
theorem Later.size1 {w : World} {o1 : Obj} (q : Later (w.alloc o1)) (b : Nat) (h : b < w.heap.size) : b < q.world.heap.size := q.size b (alloc_lt _ h)
theorem Later.ne1 {w : World} {o1 : Obj} (q : Later (w.alloc o1)) (b : Nat) (h : b < w.heap.size) : (b = q.world.heap.size) = False := q.ne b (alloc_lt _ h)
theorem Later.cell2 {w : World} {o1 o2 : Obj} (q : Later ((w.alloc o1).alloc o2)) (b : Nat) (o : Nat) (h : b < w.heap.size) : q.world.cell? ⟨b, o, none⟩ = w.cell? ⟨b, o, none⟩ := (q.cell b o (alloc_lt _ (alloc_lt _ h))).trans <| (World.cell?_alloc_lt _ _ ⟨b, o, none⟩ (alloc_lt _ h)).trans <| (World.cell?_alloc_lt _ _ ⟨b, o, none⟩ h).trans <| rfl
theorem Later.size2 {w : World} {o1 o2 : Obj} (q : Later ((w.alloc o1).alloc o2)) (b : Nat) (h : b < w.heap.size) : b < q.world.heap.size := q.size b (alloc_lt _ (alloc_lt _ h))
theorem Later.ne2 {w : World} {o1 o2 : Obj} (q : Later ((w.alloc o1).alloc o2)) (b : Nat) (h : b < w.heap.size) : (b = q.world.heap.size) = False := q.ne b (alloc_lt _ (alloc_lt _ h))
theorem Later.cell3 {w : World} {o1 o2 o3 : Obj} (q : Later (((w.alloc o1).alloc o2).alloc o3)) (b : Nat) (o : Nat) (h : b < w.heap.size) : q.world.cell? ⟨b, o, none⟩ = w.cell? ⟨b, o, none⟩ := (q.cell b o (alloc_lt _ (alloc_lt _ (alloc_lt _ h)))).trans <| (World.cell?_alloc_lt _ _ ⟨b, o, none⟩ (alloc_lt _ (alloc_lt _ h))).trans <| (World.cell?_alloc_lt _ _ ⟨b, o, none⟩ (alloc_lt _ h)).trans <| (World.cell?_alloc_lt _ _ ⟨b, o, none⟩ h).trans <| rfl
theorem Later.size3 {w : World} {o1 o2 o3 : Obj} (q : Later (((w.alloc o1).alloc o2).alloc o3)) (b : Nat) (h : b < w.heap.size) : b < q.world.heap.size := q.size b (alloc_lt _ (alloc_lt _ (alloc_lt _ h)))
theorem Later.ne3 {w : World} {o1 o2 o3 : Obj} (q : Later (((w.alloc o1).alloc o2).alloc o3)) (b : Nat) (h : b < w.heap.size) : (b = q.world.heap.size) = False := q.ne b (alloc_lt _ (alloc_lt _ (alloc_lt _ h)))
theorem Later.cell4 {w : World} {o1 o2 o3 o4 : Obj} (q : Later ((((w.alloc o1).alloc o2).alloc o3).alloc o4)) (b : Nat) (o : Nat) (h : b < w.heap.size) : q.world.cell? ⟨b, o, none⟩ = w.cell? ⟨b, o, none⟩ := (q.cell b o (alloc_lt _ (alloc_lt _ (alloc_lt _ (alloc_lt _ h))))).trans <| (World.cell?_alloc_lt _ _ ⟨b, o, none⟩ (alloc_lt _ (alloc_lt _ (alloc_lt _ h)))).trans <| (World.cell?_alloc_lt _ _ ⟨b, o, none⟩ (alloc_lt _ (alloc_lt _ h))).trans <| (World.cell?_alloc_lt _ _ ⟨b, o, none⟩ (alloc_lt _ h)).trans <| (World.cell?_alloc_lt _ _ ⟨b, o, none⟩ h).trans <| rfl
theorem Later.size4 {w : World} {o1 o2 o3 o4 : Obj} (q : Later ((((w.alloc o1).alloc o2).alloc o3).alloc o4)) (b : Nat) (h : b < w.heap.size) : b < q.world.heap.size := q.size b (alloc_lt _ (alloc_lt _ (alloc_lt _ (alloc_lt _ h))))
theorem Later.ne4 {w : World} {o1 o2 o3 o4 : Obj} (q : Later ((((w.alloc o1).alloc o2).alloc o3).alloc o4)) (b : Nat) (h : b < w.heap.size) : (b = q.world.heap.size) = False := q.ne b (alloc_lt _ (alloc_lt _ (alloc_lt _ (alloc_lt _ h))))
theorem Later.lt_add {b n : Nat} (k : Nat) (h : b < n) : (b < n + k) = True := eq_true (Nat.lt_of_lt_of_le h (Nat.le_add_right n k))
/-- A contract met in a later world: what is later then is later still. -/
theorem Calls.later {P : Program} {f : FuncId} {args : Array Value} {w : World} (p : Later w) {R : Ending → Prop}
    (h : Calls P f args p.world fun e w' => R e ∧ ∃ q : Later p.world, w' = q.world) : Calls P f args p.world fun e w' => R e ∧ ∃ q : Later w, w' = q.world :=
  h.mono fun _ _ ⟨he, q, hq⟩ => ⟨he, ⟨q.world, q.to p.lt⟩, hq⟩
/-- A region that draws its order, whose operations only read and whose callees leave all that lay as it lay: walked in the order of the text. -/
theorem wp_region_later {P : Program} {id : Nat} {Q : Exit → Act → World → Prop} {a : Act} {w : World} {l : List Oper} (hm : P.follows .mixedOrders = true) (hB : Region.lexB .any l.toArray = true)
    (h : wpQuiet P l.toArray (fun w' => ∃ p : Later w, w' = p.world) (fun a' => ∀ w', (∃ p : Later w, w' = p.world) → Q .normal a' w') l a) : (Code.region id l.toArray true).wp P Q a w :=
  wp_region_quiet (C := fun w' => ∃ p : Later w, w' = p.world) hm hB (Later.mk_eq (Lt.refl w).drew) (by simpa using h)
/-- The same, from a world that is later than w already. -/
theorem wp_region_laterB {P : Program} {id : Nat} {Q : Exit → Act → World → Prop} {a : Act} {w : World} (p : Later w) {l : List Oper} (hm : P.follows .mixedOrders = true) (hB : Region.lexB .any l.toArray = true)
    (h : wpQuiet P l.toArray (fun w' => ∃ p : Later w, w' = p.world) (fun a' => ∀ w', (∃ p : Later w, w' = p.world) → Q .normal a' w') l a) : (Code.region id l.toArray true).wp P Q a p.world :=
  wp_region_quiet (C := fun w' => ∃ p : Later w, w' = p.world) hm hB (Later.mk_eq p.lt.drew) (by simpa using h)
/-- A callee's contract, met in such a region. -/
theorem Calls.quiet_later {P : Program} {f : FuncId} {args : Array Value} {w : World} {p : Later w} {v : Value}
    (h : Calls P f args p.world fun e w' => e = .returned v ∧ ∃ q : Later p.world, w' = q.world) : Calls P f args p.world fun e w' => e = .returned v ∧ ∃ q : Later w, w' = q.world :=
  h.mono fun _ _ ⟨he, q, hq⟩ => ⟨he, ⟨q.world, q.to p.lt⟩, hq⟩
theorem Calls.quiet_same {P : Program} {f : FuncId} {args : Array Value} {w : World} {p : Later w} {v : Value}
    (h : Calls P f args p.world fun e w' => e = .returned v ∧ w' = p.world) : Calls P f args p.world fun e w' => e = .returned v ∧ ∃ q : Later w, w' = q.world :=
  h.mono fun _ _ ⟨he, hq⟩ => ⟨he, p, hq⟩
theorem ret_int {k : IntKind} {a b : Int} (h : a = b) : Ending.returned (.int k a) = .returned (.int k b) := by rw [h]
theorem ret_int2 {k l : IntKind} {a b c d : Int} (h : a = b) (g : c = d) : Ending.returned (.tuple #[.int k a, .int l c]) = .returned (.tuple #[.int k b, .int l d]) := by rw [h, g]
theorem ret_slice {A : Option Addr} {m n c : Nat} (h : m = n) : Ending.returned (.slice A m c) = .returned (.slice A n c) := by rw [h]
theorem ret_bool {a b : Bool} (h : a = b) : Ending.returned (.bool a) = .returned (.bool b) := by rw [h]
/-- A new list of numbers, as an argument. -/
theorem Ints.new1 {w : World} {T : TypeId} (x : Int) : Ints (w.alloc (.cells #[.int .i64 x] T)) (some ⟨w.heap.size, 0, none⟩) 1 [x] :=
  ⟨Nat.le_refl _, by simp, fun _ => ⟨_, _, rfl, by simp, fun j hj => by
    match j, hj with
    | 0, _ => simp [IntAt, nth]⟩⟩
theorem Ints.new2 {w : World} {T : TypeId} (x y : Int) : Ints (w.alloc (.cells #[.int .i64 x, .int .i64 y] T)) (some ⟨w.heap.size, 0, none⟩) 2 [x, y] :=
  ⟨Nat.le_refl _, by simp, fun _ => ⟨_, _, rfl, by simp, fun j hj => by
    match j, hj with
    | 0, _ => simp [IntAt, nth]
    | 1, _ => simp [IntAt, nth]⟩⟩
theorem Ints.new3 {w : World} {T : TypeId} (x y z : Int) : Ints (w.alloc (.cells #[.int .i64 x, .int .i64 y, .int .i64 z] T)) (some ⟨w.heap.size, 0, none⟩) 3 [x, y, z] :=
  ⟨Nat.le_refl _, by simp, fun _ => ⟨_, _, rfl, by simp, fun j hj => by
    match j, hj with
    | 0, _ => simp [IntAt, nth]
    | 1, _ => simp [IntAt, nth]
    | 2, _ => simp [IntAt, nth]⟩⟩
theorem Ints.new3' {w : World} {o : Obj} {T : TypeId} (x y z : Int) : Ints ((w.alloc o).alloc (.cells #[.int .i64 x, .int .i64 y, .int .i64 z] T)) (some ⟨w.heap.size + 1, 0, none⟩) 3 [x, y, z] := by
  have := Ints.new3 (w := w.alloc o) (T := T) x y z
  rwa [World.size_alloc] at this
theorem follows_ : Tryz.prog.follows .mixedOrders = true := by kernel_rfl

/-- A slice of numbers of the call's own: its array was made from block base on. -/
def OwnI (w : World) (base : Nat) (v : Value) (xs : List Int) : Prop := w.ownsRow base 3 1 v xs.length (xs.map fun x => .int .i64 x)
theorem OwnI.nil (w : World) (base : Nat) : OwnI w base (.slice none 0 0) [] := ⟨by simp, .inl ⟨rfl, rfl⟩⟩
theorem OwnI.base_le {w : World} {base : Nat} {v : Value} {xs : List Int} (h : OwnI w base v xs) (k : Nat) (hk : v.ownBlock = some k) : base ≤ k := by
  rcases h.2 with ⟨rfl, _⟩ | ⟨g, cap, cur, rfl, hg, _⟩
  · simp [Value.ownBlock] at hk
  · have : g = k := by simpa [Value.ownBlock] using hk
    omega
theorem OwnI.lt {w : World} {base : Nat} {v : Value} {xs : List Int} (h : OwnI w base v xs) (k : Nat) (hk : v.ownBlock = some k) : k < w.heap.size := by
  rcases h.2 with ⟨rfl, _⟩ | ⟨g, cap, cur, rfl, hg, hh, _⟩
  · simp [Value.ownBlock] at hk
  · have : g = k := by simpa [Value.ownBlock] using hk
    subst this
    exact (Array.getElem?_eq_some_iff.1 hh).1
theorem OwnI.move {w w1 : World} {base : Nat} {v : Value} {xs : List Int} (h : OwnI w base v xs) (hm : ∀ k, v.ownBlock = some k → w1.heap[k]? = w.heap[k]?) : OwnI w1 base v xs := by
  obtain ⟨h1, h2⟩ := h
  refine ⟨h1, ?_⟩
  rcases h2 with h2 | ⟨g, cap, cur, rfl, hg, hh, r⟩
  · exact .inl h2
  · exact .inr ⟨g, cap, cur, rfl, hg, (hm g (by simp [Value.ownBlock])).trans hh, r⟩
theorem OwnI.later {w w1 : World} {base : Nat} {v : Value} {xs : List Int} (h : OwnI w base v xs) (hb : Lt w w1) : OwnI w1 base v xs := h.move fun k hk => hb.block k (h.lt k hk)
theorem OwnI.form {w : World} {base : Nat} {v : Value} {xs : List Int} (h : OwnI w base v xs) : ∃ A c, v = .slice A xs.length c := by
  rcases h.2 with ⟨rfl, hn⟩ | ⟨g, cap, cur, rfl, _⟩
  · exact ⟨none, 0, by rw [hn]⟩
  · exact ⟨_, _, rfl⟩
theorem OwnI.ints {w : World} {base : Nat} {A : Option Addr} {c : Nat} {xs : List Int} (h : OwnI w base (.slice A xs.length c) xs) : Ints w A c xs := by
  rcases h.2 with ⟨hv, hn⟩ | ⟨g, cap, cur, hv, hg, hh, hc, hm, hsz, ht⟩
  · have : xs = [] := List.length_eq_zero_iff.1 hn
    subst this
    exact ⟨Nat.zero_le _, by simp, fun h0 => absurd h0 (by simp)⟩
  · injection hv with hA hl hcc
    subst hA hcc
    refine ⟨hc, by unfold maxLen at hm; omega, fun h0 => ⟨g, 0, rfl, (Array.getElem?_eq_some_iff.1 hh).1, fun j hj => ?_⟩⟩
    unfold IntAt
    rw [cell_of_row w g (0 + j * 1) cur 3 (0, 0) hh]
    have := congrArg (fun l => l[j]?) ht
    simp only [Nat.mul_one] at this
    rw [List.getElem?_take, if_pos hj, List.getElem?_map, List.getElem?_eq_getElem hj] at this
    rw [nth_eq xs j hj]
    simpa using this
theorem info_int : (Tryz.prog.info? 3).map (fun i => (i.zero, i.size, i.bytes)) = some (some (.int .i64 0), 1, 8) := by kernel_rfl
section
variable {ops : Array Oper} {rest : List Oper} {o : Oper} {a : Act} {Q : Exit → Act → World → Prop}
/-- l = append(l, y), l a slice of numbers of the call's own. -/
theorem wp_app {w0 W : World} (hgd : o.guard = none) (s x : Operand)
    (ho : o.op = .call { callee := .builtin .append, args := #[s, x], argTypes := #[23, 23] })
    (v : Value) (xs : List Int) (y : Int) (hs : a.eval s = v) (hx : a.eval x = .slice (some ⟨W.heap.size, 0, none⟩) 1 1)
    (HO : OwnI W w0.heap.size v xs) (hW : Lt w0 W) (hl : xs.length ≤ 1000000)
    (h : ∀ (v1 : Value) (q : Later w0), OwnI q.world w0.heap.size v1 (xs ++ [y]) → W.grownBy q.world v.ownBlock → wpList Tryz.prog ops Q rest (a.put o.dst v1) q.world) :
    wpList Tryz.prog ops Q (o :: rest) a (W.alloc (.cells #[.int .i64 y] 3)) := by
  obtain ⟨i0, hi, hzz⟩ := Option.map_eq_some_iff.1 info_int
  simp only [Prod.mk.injEq] at hzz
  obtain ⟨hz0, hz1, hz2⟩ := hzz
  refine wpList_append_own (W.alloc (.cells #[.int .i64 y] 3)) hgd s x 23 ho w0.heap.size 3 i0 (.int .i64 0) 1 8 Tryz.underlying23 hi hz0 hz1 hz2 rfl (by decide) v xs.length _ hs (HO.later ((Lt.refl W).alloc _)) ⟨W.heap.size, 0, none⟩ 1 1 [.int .i64 y] hx rfl
    (cell_one_new _ _ _) (by simp [Value.oneCell']) (by unfold maxLen; omega) (by omega) (by rw [World.size_alloc]; exact Nat.le_succ_of_le hW.size) ?_
  intro v1 w1 hown hg _
  have hg' : W.grownBy w1 v.ownBlock := World.grownBy.trans (World.grownBy_alloc W _ _) hg
  exact h v1 ⟨w1, hW.grown hg' (HO.base_le)⟩ (by unfold OwnI; simpa using hown) hg'
/-- The same, a block of the call's own laid just ahead. -/
theorem wp_app1 {w0 W : World} {o1 : Obj} (hgd : o.guard = none) (s x : Operand)
    (ho : o.op = .call { callee := .builtin .append, args := #[s, x], argTypes := #[23, 23] })
    (v : Value) (xs : List Int) (y : Int) (hs : a.eval s = v) (hx : a.eval x = .slice (some ⟨W.heap.size + 1, 0, none⟩) 1 1)
    (HO : OwnI W w0.heap.size v xs) (hW : Lt w0 W) (hl : xs.length ≤ 1000000)
    (h : ∀ (v1 : Value) (q : Later w0), OwnI q.world w0.heap.size v1 (xs ++ [y]) → (W.alloc o1).grownBy q.world v.ownBlock → wpList Tryz.prog ops Q rest (a.put o.dst v1) q.world) :
    wpList Tryz.prog ops Q (o :: rest) a ((W.alloc o1).alloc (.cells #[.int .i64 y] 3)) :=
  wp_app hgd s x ho v xs y hs (by rw [World.size_alloc]; exact hx) (HO.later ((Lt.refl W).alloc _)) (hW.alloc _) hl h
end

/-- Where the parts of an event lie. -/
structure EvM where
  m : PlanM
  cA : Option Addr
  cc : Nat
  oA : Option Addr
  oc : Nat
def evC (em : EvM) (p : Plan) (cards : List Card) : Array Value :=
  #[.slice em.m.iA p.items.length em.m.ic, .int .i64 p.classes, .int .i64 p.late, .int .i64 p.early, .int .i64 p.maxLate, .int .i64 p.legLate, .slice em.m.jA p.jumps.length em.m.jc, .bool p.ret, .int .i64 p.missed, .int .i64 p.notional, .int .i64 p.percent, .int .i64 p.power, .slice em.m.pA p.points.length em.m.pc, .slice em.m.eA p.extra.length em.m.ec, .slice em.cA cards.length em.cc, .slice em.oA cards.length em.oc]
/-- An event at block g: its plan, its cards, where each car is out. -/
structure EventIs (w : World) (g : Nat) (em : EvM) (p : Plan) (cards : List Card) : Prop where
  plan : PlanIs w em.m p
  cars : Cards w em.cA em.cc cards
  outs : Ints w em.oA em.oc (cards.map (outP p))
  cell : ∀ i v, (evC em p cards)[i]? = some v → w.cell? ⟨g, i, none⟩ = some v
theorem EventIs.later {w w1 : World} {g : Nat} {em : EvM} {p : Plan} {cards : List Card} (h : EventIs w g em p cards) (hb : Lt w w1) : EventIs w1 g em p cards :=
  ⟨h.plan.later hb, h.cars.later hb, h.outs.later hb, fun i v e => hb.cell (h.cell i v e)⟩
theorem EventIs.lt {w : World} {g : Nat} {em : EvM} {p : Plan} {cards : List Card} (h : EventIs w g em p cards) : g < w.heap.size := World.block_lt_of_cell? w _ (h.cell 1 _ rfl)
theorem EventIs.c0 {w : World} {g : Nat} {em : EvM} {p : Plan} {cards : List Card} (h : EventIs w g em p cards) : w.cell? ⟨g, 0, none⟩ = some (.slice em.m.iA p.items.length em.m.ic) := h.cell 0 _ rfl
theorem EventIs.c1 {w : World} {g : Nat} {em : EvM} {p : Plan} {cards : List Card} (h : EventIs w g em p cards) : w.cell? ⟨g, 1, none⟩ = some (.int .i64 p.classes) := h.cell 1 _ rfl
theorem EventIs.c2 {w : World} {g : Nat} {em : EvM} {p : Plan} {cards : List Card} (h : EventIs w g em p cards) : w.cell? ⟨g, 2, none⟩ = some (.int .i64 p.late) := h.cell 2 _ rfl
theorem EventIs.c3 {w : World} {g : Nat} {em : EvM} {p : Plan} {cards : List Card} (h : EventIs w g em p cards) : w.cell? ⟨g, 3, none⟩ = some (.int .i64 p.early) := h.cell 3 _ rfl
theorem EventIs.c4 {w : World} {g : Nat} {em : EvM} {p : Plan} {cards : List Card} (h : EventIs w g em p cards) : w.cell? ⟨g, 4, none⟩ = some (.int .i64 p.maxLate) := h.cell 4 _ rfl
theorem EventIs.c5 {w : World} {g : Nat} {em : EvM} {p : Plan} {cards : List Card} (h : EventIs w g em p cards) : w.cell? ⟨g, 5, none⟩ = some (.int .i64 p.legLate) := h.cell 5 _ rfl
theorem EventIs.c6 {w : World} {g : Nat} {em : EvM} {p : Plan} {cards : List Card} (h : EventIs w g em p cards) : w.cell? ⟨g, 6, none⟩ = some (.slice em.m.jA p.jumps.length em.m.jc) := h.cell 6 _ rfl
theorem EventIs.c7 {w : World} {g : Nat} {em : EvM} {p : Plan} {cards : List Card} (h : EventIs w g em p cards) : w.cell? ⟨g, 7, none⟩ = some (.bool p.ret) := h.cell 7 _ rfl
theorem EventIs.c8 {w : World} {g : Nat} {em : EvM} {p : Plan} {cards : List Card} (h : EventIs w g em p cards) : w.cell? ⟨g, 8, none⟩ = some (.int .i64 p.missed) := h.cell 8 _ rfl
theorem EventIs.c9 {w : World} {g : Nat} {em : EvM} {p : Plan} {cards : List Card} (h : EventIs w g em p cards) : w.cell? ⟨g, 9, none⟩ = some (.int .i64 p.notional) := h.cell 9 _ rfl
theorem EventIs.c10 {w : World} {g : Nat} {em : EvM} {p : Plan} {cards : List Card} (h : EventIs w g em p cards) : w.cell? ⟨g, 10, none⟩ = some (.int .i64 p.percent) := h.cell 10 _ rfl
theorem EventIs.c11 {w : World} {g : Nat} {em : EvM} {p : Plan} {cards : List Card} (h : EventIs w g em p cards) : w.cell? ⟨g, 11, none⟩ = some (.int .i64 p.power) := h.cell 11 _ rfl
theorem EventIs.c12 {w : World} {g : Nat} {em : EvM} {p : Plan} {cards : List Card} (h : EventIs w g em p cards) : w.cell? ⟨g, 12, none⟩ = some (.slice em.m.pA p.points.length em.m.pc) := h.cell 12 _ rfl
theorem EventIs.c13 {w : World} {g : Nat} {em : EvM} {p : Plan} {cards : List Card} (h : EventIs w g em p cards) : w.cell? ⟨g, 13, none⟩ = some (.slice em.m.eA p.extra.length em.m.ec) := h.cell 13 _ rfl
theorem EventIs.c14 {w : World} {g : Nat} {em : EvM} {p : Plan} {cards : List Card} (h : EventIs w g em p cards) : w.cell? ⟨g, 14, none⟩ = some (.slice em.cA cards.length em.cc) := h.cell 14 _ rfl
theorem EventIs.c15 {w : World} {g : Nat} {em : EvM} {p : Plan} {cards : List Card} (h : EventIs w g em p cards) : w.cell? ⟨g, 15, none⟩ = some (.slice em.oA cards.length em.oc) := h.cell 15 _ rfl
/-- A car's card. -/
theorem Cards.at_ {w : World} {A : Option Addr} {c : Nat} {cards : List Card} (h : Cards w A c cards) (car : Nat) (hc : car < cards.length) :
    ∃ b o, A = some ⟨b, o, none⟩ ∧ b < w.heap.size ∧ ∃ cm : CardM, CardIs w cm (nth cards car) ∧ w.cell? ⟨b, o + car * 3, none⟩ = some (.int .i64 (nth cards car).cls) ∧
      w.cell? ⟨b, o + car * 3 + 1, none⟩ = some (.slice cm.sA (nth cards car).starts.length cm.sc) ∧ w.cell? ⟨b, o + car * 3 + 2, none⟩ = some (.slice cm.lA (nth cards car).lines.length cm.lc) := by
  obtain ⟨b, o, e, hb, hcs⟩ := h.2.2 (by omega)
  obtain ⟨cm, h1, h2, h3, h4⟩ := hcs car hc
  exact ⟨b, o, e, hb, cm, h1, h2, h3, h4⟩
theorem Ints.at_ {w : World} {A : Option Addr} {c : Nat} {xs : List Int} (h : Ints w A c xs) (i : Nat) (hi : i < xs.length) : ∃ b o, A = some ⟨b, o, none⟩ ∧ b < w.heap.size ∧ w.cell? ⟨b, o + i, none⟩ = some (.int .i64 (nth xs i)) := by
  obtain ⟨b, o, e, hb, hcs⟩ := h.2.2 (by omega)
  have := hcs i hi
  rw [Nat.mul_one] at this
  exact ⟨b, o, e, hb, this⟩
theorem Lines.at_ {w : World} {A : Option Addr} {c : Nat} {xs : List Line} (h : Lines w A c xs) (i : Nat) (hi : i < xs.length) : ∃ b o, A = some ⟨b, o, none⟩ ∧ b < w.heap.size ∧ LineAt w b (o + i * 4) (nth xs i) := by
  obtain ⟨b, o, e, hb, hcs⟩ := h.2.2 (by omega)
  exact ⟨b, o, e, hb, hcs i hi⟩
theorem Items.at_ {w : World} {A : Option Addr} {c : Nat} {xs : List Item} (h : Items w A c xs) (i : Nat) (hi : i < xs.length) : ∃ b o, A = some ⟨b, o, none⟩ ∧ b < w.heap.size ∧ ItemAt w b (o + i * 4) (nth xs i) := by
  obtain ⟨b, o, e, hb, hcs⟩ := h.2.2 (by omega)
  exact ⟨b, o, e, hb, hcs i hi⟩
/-- The same, without parting on where the slice lies: a slice that is read at i begins somewhere. -/
theorem Ints.some_ {w : World} {A : Option Addr} {c : Nat} {xs : List Int} (h : Ints w A c xs) (hp : 0 < xs.length) : ∃ b o, A = some ⟨b, o, none⟩ ∧ b < w.heap.size ∧ Hid (∀ i, i < xs.length → w.cell? ⟨b, o + i, none⟩ = some (.int .i64 (nth xs i))) := by
  obtain ⟨b, o, e, hb, hcs⟩ := h.2.2 hp
  exact ⟨b, o, e, hb, fun i hi => by have := hcs i hi; rw [Nat.mul_one] at this; exact this⟩
end Go.Proofs.YtdpcdmcmpfjbjaaGreat
/- The plan and the cards of the chapter's examples. -/
namespace Go.Proofs.YtdpcdmcmpfjbjaaGreat
def exP : Plan := ⟨[⟨1, 0, 30, false⟩, ⟨2, 0, 0, false⟩, ⟨1, 0, 60, false⟩], 1, 10000, 60000, 15, 30, [10000, 60000], false, 0, 1, 100, 1, [10, 6], [3]⟩
def exA : Card := ⟨0, [600], [⟨630, 0, false, 0⟩, ⟨633, 300000, false, 0⟩, ⟨694, 0, false, 0⟩]⟩
def exB : Card := ⟨0, [600], [⟨632, 0, false, 0⟩, ⟨635, 310000, true, 0⟩, ⟨694, 0, false, 0⟩]⟩
def exC : Card := ⟨0, [600], [⟨630, 0, false, 0⟩, ⟨636, 0, false, 1⟩, ⟨696, 0, false, 0⟩]⟩
def exL : List Card := [exA, exB, exC]
def exPts : List (List Int) := [[10, 6, 0], [8, 8, 4]]
end Go.Proofs.YtdpcdmcmpfjbjaaGreat
