/- Walks: leg: the items of a leg, as an iterator; The plain law of out's two loops; a world kept but for two blocks; the marks of loops over an iterator; Walks: out; Walks: out: where a car is out. -/
import Derived.Test.YtdpcdmcmpfjbjaaGreatJA
import Derived.RangeFuncBox
import Derived.RangeFuncCalls
import Derived.RangeFuncLeaves
import Derived.RangeFuncNested
import Derived.Shelf.Abstract
import Derived.OwnWalkIn
import Derived.TacticsInMore
import Derived.LoopNIn
import Derived.LoopIn
import Derived.Test.YtdpcdmcmpfjbjaaGreatJX
/- Walks: leg: the items of a leg, as an iterator. -/
namespace Go.Proofs.YtdpcdmcmpfjbjaaGreat
open Go.RowKit Go.Shelf
set_option linter.unusedVariables false
set_option linter.unusedSimpArgs false
attribute [local go_sem] Later.cell Later.frozen Later.size Later.ne Later.cell1 Later.cell2 Later.cell3 Later.size1 Later.size2 Later.size3 Later.ne1 Later.ne2 Later.ne3
attribute [local go_sem] Oper.semAt_some

/-- The items of leg n ahead of item k. -/
def legTo (items : List Item) (n : Int) (k : Nat) : List Nat := (List.range k).filter fun i => decide ((nth items i).leg = n)
theorem legTo_succ (items : List Item) (n : Int) (k : Nat) : legTo items n (k + 1) = if (nth items k).leg = n then legTo items n k ++ [k] else legTo items n k := by
  unfold legTo
  rw [List.range_succ, List.filter_append]
  by_cases h : (nth items k).leg = n <;> simp [h]
theorem legTo_length (items : List Item) (n : Int) (k : Nat) : (legTo items n k).length ≤ k := by
  unfold legTo
  have := List.length_filter_le (fun i => decide ((nth items i).leg = n)) (List.range k)
  simpa using this

/-- What the iterator reads: its two boxes, and the items. -/
structure LegM (pb nb m : Nat) (A : Option Addr) (c : Nat) (items : List Item) (n : Int) (W : World) : Prop where
  p0 : W.cell? ⟨pb, 0, none⟩ = some (.slice A items.length c)
  n0 : W.cell? ⟨nb, 0, none⟩ = some (.int .i64 n)
  it : Items W A c items
  bp : pb < m
  bn : nb < m
  bi : ∀ b o, A = some ⟨b, o, none⟩ → b < m
/-- What a round must keep for it. -/
def LegK (pb nb m : Nat) (A : Option Addr) (c : Nat) (items : List Item) (n : Int) (W W' : World) : Prop :=
  W.heap.size ≤ W'.heap.size ∧ (LegM pb nb m A c items n W → LegM pb nb m A c items n W')

theorem LegM.later {pb nb m : Nat} {A : Option Addr} {c : Nat} {items : List Item} {n : Int} {W W' : World} (h : LegM pb nb m A c items n W) (hl : Lt W W') : LegM pb nb m A c items n W' :=
  ⟨hl.cell h.p0, hl.cell h.n0, h.it.later hl, h.bp, h.bn, h.bi⟩
theorem LegM.alloc {pb nb m : Nat} {A : Option Addr} {c : Nat} {items : List Item} {n : Int} {W : World} (h : LegM pb nb m A c items n W) (o : Obj) : LegM pb nb m A c items n (W.alloc o) := h.later ((Lt.refl W).alloc o)

set_option maxHeartbeats 400000 in
theorem c_leg (m : PlanM) (p : Plan) (n : Int) (w : World) :
    Calls Tryz.prog 118 #[planV m p, .int .i64 n] w fun e w' => e = .returned (.func (.func 139) #[] #[.pointer (some ⟨w.heap.size, 0, none⟩), .pointer (some ⟨w.heap.size + 1, 0, none⟩)]) ∧ w' = (w.alloc (.cells (planC m p) 28)).alloc (.cells #[.int .i64 n] 3) := by
  have hmf : ∀ (fn : Fn) (first cap : Array Value) (w : World), (Instr.makeFunc fn first cap).run Tryz.prog w = .ok (.func fn first cap) w := fun _ _ _ _ => rfl
  simp only [planV, planC]
  go_enter Tryz.func118, Tryz.ntmps118
  go_wp2
  go_ret
  exact ⟨rfl, rfl⟩

set_option maxRecDepth 100000 in
set_option maxHeartbeats 2000000 in
theorem c_leg1 (N : Nat) (hn : 1 ≤ N) (l pb nb m : Nat) (A : Option Addr) (c : Nat) (items : List Item) (n : Int) (J Jx : List Nat → World → Prop) (W : World) (hm : m ≤ W.heap.size)
    (hJ : AbidesFrom W.heap.size J)
    (hY : ∀ x W1, x < items.length → (nth items x).leg = n → J (legTo items n x) W1 → YieldAt Fence.wide (N - 1) Tryz.prog l #[.int .i64 (x : Nat)] W1 fun e W' =>
      (e = .returned (.bool true) ∧ J (legTo items n x ++ [x]) W' ∧ LegK pb nb m A c items n W1 W') ∨ (e = .returned (.bool false) ∧ Jx (legTo items n x ++ [x]) W'))
    (hM : LegM pb nb m A c items n W) (h0 : J [] W) :
    CallsIn Fence.wide N Tryz.prog 139 #[.func (.yield l) #[] #[], .pointer (some ⟨pb, 0, none⟩), .pointer (some ⟨nb, 0, none⟩)] W fun e W' => (∃ v, e = .returned v) ∧
      ((∃ xs, xs = legTo items n items.length ∧ J xs W') ∨ (∃ pre, (∃ k, k < items.length ∧ (nth items k).leg = n ∧ pre = legTo items n k ++ [k]) ∧ Jx pre W')) := by
  have hlm := hM.it.2.1
  have h00 : W.cell? ⟨pb, 0, none⟩ = _ := hM.p0
  refine callsIn_of_wp Tryz.func139 rfl trivial ?_ rfl
  simp only [Tryz.ntmps139, List.size_toArray, List.length_cons, List.length_nil, Nat.reduceAdd, Nat.reduceSub, Array.replicate_succ, Array.replicate_zero, List.push_toArray, List.append_toArray, List.nil_append, List.cons_append]
  gi_wp2
  gi_loopw [9] (fun i wr => ∃ k : Nat, k ≤ items.length ∧ i = .int .i64 k ∧ J (legTo items n k) wr ∧ LegM pb nb m A c items n wr ∧ W.heap.size ≤ wr.heap.size)
    (fun i _ => items.length - (intOf i).toNat)
  case atStart => exact ⟨0, Nat.zero_le _, rfl, h0, hM, Nat.le_refl _⟩
  case round =>
    obtain ⟨k, hk, rfl, hJs, hMk, hsz⟩ := hrel
    by_cases hlt : k < items.length
    · obtain ⟨b, o, rfl, hbl, a0, a1, a2, a3⟩ := hMk.it.at_ k hlt
      have hlz : (k : Int) < items.length := by omega
      have n0 := hMk.n0
      have hpl : nb < wr.heap.size := World.block_lt_of_cell? wr _ n0
      by_cases hleg : (nth items k).leg = n
      · have hb : ((nth items k).leg == n) = true := beq_iff_eq.2 hleg
        have hLk := Lib.hid (show legTo items n (k + 1) = legTo items n k ++ [k] by rw [legTo_succ, if_pos hleg])
        have hal : AbidesFrom W.heap.size J := hJ
        obtain ⟨fn, tmps, assign, body, hy, hR⟩ := hY k (wr.alloc (.cells #[.int .i64 (nth items k).kind, .int .i64 n, .int .i64 (nth items k).target, .bool (nth items k).free] 47)) hlt hleg (hJ _ _ _ none hJs (World.grownBy_alloc _ _ _) (fun r e => by cases e))
        have hR := Lib.hid hR
        have hMa := Lib.hid (hMk.alloc (.cells #[.int .i64 (nth items k).kind, .int .i64 n, .int .i64 (nth items k).target, .bool (nth items k).free] 47))
        clear hal hY hJ
        gi_wp2
        refine hR.out.mono ?_
        rintro e W3 (⟨rfl, hJ3, hk3⟩ | ⟨rfl, hJx3⟩)
        · gi_wp2
          go_roundw
          case rel => exact ⟨k + 1, by omega, by go_num, by rw [hLk.out]; exact hJ3, hk3.2 hMa.out, Nat.le_trans hsz (Nat.le_trans (by simp) hk3.1)⟩
          case measure => simp [intOf]; omega
        · gi_wp2
          refine bodyPost_ret (results_none rfl _ _ _) rfl ?_
          exact ⟨⟨_, rfl⟩, .inr ⟨_, ⟨k, hlt, hleg, rfl⟩, hJx3⟩⟩
      · have hb : ((nth items k).leg == n) = false := beq_eq_false_iff_ne.2 hleg
        have hLk := Lib.hid (show legTo items n (k + 1) = legTo items n k by rw [legTo_succ, if_neg hleg])
        have hJa := Lib.hid (hJ _ _ _ none hJs (World.grownBy_alloc wr (.cells #[.int .i64 (nth items k).kind, .int .i64 (nth items k).leg, .int .i64 (nth items k).target, .bool (nth items k).free] 47) none) (fun r e => by cases e))
        have hMa := Lib.hid (hMk.alloc (.cells #[.int .i64 (nth items k).kind, .int .i64 (nth items k).leg, .int .i64 (nth items k).target, .bool (nth items k).free] 47))
        clear hY hJ
        gi_wp2
        refine ⟨(fun f h => by cases h), ?_⟩
        gi_wp2
        go_roundw
        case rel => exact ⟨k + 1, by omega, by go_num, by rw [hLk.out]; exact hJa.out, hMa.out, Nat.le_trans hsz (by simp)⟩
        case measure => simp [intOf]; omega
    · obtain rfl : k = items.length := by omega
      gi_wp2
      go_end0
      exact ⟨⟨_, rfl⟩, .inl ⟨_, rfl, hJs⟩⟩
/-- An item of leg n. -/
structure LegX (items : List Item) (n : Int) where
  val : Nat
  lt : val < items.length
  leg : (nth items val).leg = n
def LegX.nums {items : List Item} {n : Int} (l : List (LegX items n)) : List Nat := l.map fun x => x.val
theorem LegX.nums_append {items : List Item} {n : Int} (l : List (LegX items n)) (x : LegX items n) : LegX.nums (l ++ [x]) = LegX.nums l ++ [x.val] := by simp [LegX.nums]

/-- leg's iterator, for every body that keeps what it reads. -/
theorem leg_stops (N : Nat) (hn : 1 ≤ N) (pb nb : Nat) (A : Option Addr) (c : Nat) (items : List Item) (n : Int) (w : World) (hM : LegM pb nb w.heap.size A c items n w) :
    SeqStopsK Fence.wide N Tryz.prog 139 #[.pointer (some ⟨pb, 0, none⟩), .pointer (some ⟨nb, 0, none⟩)] (fun x : LegX items n => #[.int .i64 (x.val : Nat)]) (LegK pb nb w.heap.size A c items n)
      (fun xs => LegX.nums xs = legTo items n items.length) (fun pre => ∃ k, k < items.length ∧ (nth items k).leg = n ∧ LegX.nums pre = legTo items n k ++ [k]) (items.length + 1) w := by
  intro l J Jx W hW hJ hJx hY h0
  have hM' : LegM pb nb w.heap.size A c items n W := hM.later hW
  refine (c_leg1 N hn l pb nb w.heap.size A c items n (fun ns W => ns.length ≤ items.length ∧ ∃ xs : List (LegX items n), LegX.nums xs = ns ∧ J xs W) (fun ns W => ∃ xs : List (LegX items n), LegX.nums xs = ns ∧ Jx xs W) W hW.size
    (fun s A B row ⟨hl, xs, h1, h2⟩ hg hr => ⟨hl, xs, h1, hJ xs A B row h2 hg hr⟩) ?_ hM' ⟨Nat.zero_le _, [], rfl, h0⟩).mono ?_
  · rintro x W1 hx hl ⟨hlen, xs, h1, h2⟩
    have hlx : xs.length = (legTo items n x).length := by rw [← h1]; simp [LegX.nums]
    obtain ⟨fn, tmps, assign, body, hy, hR⟩ := hY xs ⟨x, hx, hl⟩ W1 h2 (by rw [hlx]; omega)
    refine ⟨fn, tmps, assign, body, hy, hR.mono ?_⟩
    rintro e W' (⟨he, h3, h4⟩ | ⟨he, h3⟩)
    · refine .inl ⟨he, ⟨?_, xs ++ [⟨x, hx, hl⟩], ?_, h3⟩, h4⟩
      · have := legTo_length items n x
        rw [List.length_append, List.length_singleton]; omega
      · rw [LegX.nums_append, h1]
    · exact .inr ⟨he, xs ++ [⟨x, hx, hl⟩], by rw [LegX.nums_append, h1], h3⟩
  · rintro e W' ⟨he, ⟨ns, rfl, _, xs, h1, h2⟩ | ⟨ns, ⟨k, hk, hl, rfl⟩, xs, h1, h2⟩⟩
    · exact ⟨he, .inl ⟨xs, h1, h2⟩⟩
    · exact ⟨he, .inr ⟨xs, ⟨k, hk, hl, h1⟩, h2⟩⟩
end Go.Proofs.YtdpcdmcmpfjbjaaGreat
/- The plain law of out's two loops; a world kept but for two blocks; the marks of loops over an iterator. -/
namespace Go.Proofs.YtdpcdmcmpfjbjaaGreat
open Go.RowKit Go.Shelf
set_option linter.unusedVariables false
set_option linter.unusedSimpArgs false

/-- The minutes late at items. -/
def lateSum (p : Plan) (c : Card) : List Nat → Int
  | [] => 0
  | x :: l => lateP p c x + lateSum p c l
theorem lateSum_append (p : Plan) (c : Card) (l : List Nat) (x : Nat) : lateSum p c (l ++ [x]) = lateSum p c l + lateP p c x := by
  induction l with
  | nil => show lateP p c x + 0 = 0 + lateP p c x; omega
  | cons y l ih => show lateP p c y + lateSum p c (l ++ [x]) = lateP p c y + lateSum p c l + lateP p c x; rw [ih]; omega
theorem legSum_eq (p : Plan) (c : Card) (n : Int) : ∀ k, legSum p c n k = lateSum p c (legTo p.items n k) := by
  intro k
  induction k with
  | zero => rfl
  | succ k ih =>
    show legSum p c n k + (if (nth p.items k).leg = n then lateP p c k else 0) = _
    rw [legTo_succ, ih]
    split
    · rw [lateSum_append]
    · omega
/-- Here out returns, n being the leg, pre the items of it ahead. -/
def StopB (p : Plan) (c : Card) (n : Int) (pre : List Nat) (x : Nat) : Prop :=
  ((nth c.lines x).mark = 2 ∧ (p.ret = false ∨ n = legs p - 1)) ∨ (sideP p c x = 1 ∧ (p.maxLate < byP p c x ∨ p.legLate < lateSum p c (pre ++ [x])))
theorem side_by (p : Plan) (c : Card) (x : Nat) : (sideP p c x = 1 ∧ byP p c x = lateP p c x ∧ 0 < lateP p c x) ∨ (sideP p c x ≠ 1 ∧ lateP p c x = 0) := by
  unfold sideP byP lateP
  generalize offP p c x = o
  by_cases h : 0 < o
  · left
    rw [if_pos h, if_pos h]
    omega
  · right
    rw [if_neg h]
    split <;> omega
theorem stop_iff {p : Plan} {c : Card} (hP : PlanOK p) (k : Nat) : StopB p c (nth p.items k).leg (legTo p.items (nth p.items k).leg k) k ↔ OutAt p c k := by
  unfold StopB OutAt
  rw [legSum_eq, legTo_succ, if_pos rfl]
  have hm := hP.maxLate
  rcases side_by p c k with ⟨h1, h2, h3⟩ | ⟨h1, h2⟩
  · rw [h1, h2]
    constructor
    · rintro (h | ⟨_, h | h⟩)
      · exact .inr (.inr h)
      · exact .inl h
      · exact .inr (.inl ⟨h3, h⟩)
    · rintro (h | ⟨_, h⟩ | h)
      · exact .inr ⟨rfl, .inl h⟩
      · exact .inr ⟨rfl, .inr h⟩
      · exact .inl h
  · constructor
    · rintro (h | ⟨h, _⟩)
      · exact .inr (.inr h)
      · exact absurd h h1
    · rintro (h | ⟨h, _⟩ | h)
      · omega
      · omega
      · exact .inl h
/-- At none of these items out returns. -/
def Fine (p : Plan) (c : Card) (n : Int) (xs : List Nat) : Prop := ∀ pre y, pre ++ [y] <+: xs → ¬ StopB p c n pre y
theorem Fine.nil (p : Plan) (c : Card) (n : Int) : Fine p c n [] := fun pre y h => by have := h.length_le; simp at this
theorem Fine.step {p : Plan} {c : Card} {n : Int} {xs : List Nat} {x : Nat} (h : Fine p c n xs) (hx : ¬ StopB p c n xs x) : Fine p c n (xs ++ [x]) := by
  intro pre y hp
  rcases List.prefix_concat_iff.1 hp with e | e
  · obtain ⟨e1, e2⟩ := List.append_inj' e rfl
    subst e1
    cases e2
    exact hx
  · exact h pre y e
theorem legTo_prefix (items : List Item) (n : Int) (a : Nat) : ∀ d, legTo items n a <+: legTo items n (a + d) := by
  intro d
  induction d with
  | zero => exact List.prefix_refl _
  | succ d ih =>
    rw [← Nat.add_assoc, legTo_succ]
    split
    · exact ih.trans (List.prefix_append _ _)
    · exact ih
theorem fine_out {p : Plan} {c : Card} (hP : PlanOK p) {n : Int} {k : Nat} (h : Fine p c n (legTo p.items n k)) {j : Nat} (hj : j < k) (hl : (nth p.items j).leg = n) : ¬ OutAt p c j := by
  have hp : legTo p.items n j ++ [j] <+: legTo p.items n k := by
    have := legTo_prefix p.items n (j + 1) (k - (j + 1))
    rwa [show j + 1 + (k - (j + 1)) = k by omega, legTo_succ, if_pos hl] at this
  have := h _ _ hp
  subst hl
  rwa [stop_iff hP] at this
theorem lateSum_bd {p : Plan} {c : Card} (h : ∀ x, 0 ≤ lateP p c x) (hb : ∀ x, x < p.items.length → lateP p c x ≤ 101440) : ∀ l : List Nat, (∀ x, x ∈ l → x < p.items.length) → 0 ≤ lateSum p c l ∧ lateSum p c l ≤ l.length * 101440 := by
  intro l
  induction l with
  | nil => intro _; exact ⟨Int.le_refl _, by simp [lateSum]⟩
  | cons x l ih =>
    intro hl
    have h1 := ih (fun y hy => hl y (List.mem_cons_of_mem _ hy))
    have h2 := hb x (hl x (List.mem_cons_self ..))
    have h3 := h x
    show 0 ≤ lateP p c x + lateSum p c l ∧ lateP p c x + lateSum p c l ≤ ((l.length + 1 : Nat) : Int) * 101440
    omega
theorem late_bd {p : Plan} {c : Card} {i : Nat} (hP : PlanOK p) (hC : CardOK p c) (hi : i < p.items.length) : lateP p c i ≤ 101440 := by
  have h1 := due_bd hP hC i hi
  have h2 := (hC.line i hi).1
  unfold lateP offP
  split <;> omega

/-- A world grown, its blocks below m as they lay but for s and r. -/
structure Kept (m s r : Nat) (W W' : World) : Prop where
  os : W'.os = W.os
  tape : W'.tape = W.tape
  output : W'.output = W.output
  size : W.heap.size ≤ W'.heap.size
  block : ∀ k, k < m → k ≠ s → k ≠ r → W'.heap[k]? = W.heap[k]?
theorem Kept.refl (m s r : Nat) (W : World) : Kept m s r W W := ⟨rfl, rfl, rfl, Nat.le_refl _, fun _ _ _ _ => rfl⟩
theorem Kept.trans {m s r : Nat} {A B C : World} (h : Kept m s r A B) (k : Kept m s r B C) : Kept m s r A C :=
  ⟨k.os.trans h.os, k.tape.trans h.tape, k.output.trans h.output, Nat.le_trans h.size k.size, fun i hi h1 h2 => (k.block i hi h1 h2).trans (h.block i hi h1 h2)⟩
theorem Kept.later {m s r : Nat} {A B C : World} (h : Kept m s r A B) (hm : m ≤ B.heap.size) (k : Lt B C) : Kept m s r A C :=
  h.trans ⟨k.os, k.tape, k.output, k.size, fun i hi _ _ => k.block i (Nat.lt_of_lt_of_le hi hm)⟩
theorem Kept.setCell {m s r : Nat} {A B : World} (h : Kept m s r A B) (b o : Nat) (hb : b = s ∨ b = r) (u : Value) : Kept m s r A (B.setCell ⟨b, o, none⟩ u) :=
  h.trans ⟨rfl, rfl, rfl, (KeepsOthers.setCell B ⟨b, o, none⟩ u).size, fun i _ h1 h2 => Below.heap_setCell B ⟨b, o, none⟩ u i (by rcases hb with rfl | rfl <;> assumption)⟩
theorem Kept.grown {m s r : Nat} {A B C : World} {row : Option Nat} (h : Kept m s r A B) (hm : m ≤ B.heap.size) (hg : B.grownBy C row) (hr : ∀ k, row = some k → m ≤ k) : Kept m s r A C :=
  h.trans ⟨hg.os, hg.tape, hg.output, hg.size, fun i hi _ _ => hg.block i (Nat.lt_of_lt_of_le hi hm) (fun e => by have := hr i e.symm; omega)⟩
theorem Kept.wide {m s r : Nat} {A B : World} (h : Kept m s s A B) : Kept m s r A B := ⟨h.os, h.tape, h.output, h.size, fun k hk h1 _ => h.block k hk h1 h1⟩
theorem Kept.lt {m s r : Nat} {w A B : World} (h : Kept m s r A B) (hA : Lt w A) (hm : w.heap.size ≤ m) (hs : w.heap.size ≤ s) (hr : w.heap.size ≤ r) : Lt w B :=
  ⟨h.os.trans hA.os, h.tape.trans hA.tape, h.output.trans hA.output, Nat.le_trans hA.size h.size, fun k hk => (h.block k (by omega) (by omega) (by omega)).trans (hA.block k hk)⟩
theorem Kept.cell {m s r : Nat} {A B : World} (h : Kept m s r A B) {b o : Nat} (hb : b < m) (h1 : b ≠ s) (h2 : b ≠ r) : B.cell? ⟨b, o, none⟩ = A.cell? ⟨b, o, none⟩ := World.cell?_of_block (h.block b hb h1 h2)
theorem Kept.frozen {m s r : Nat} {A B : World} (h : Kept m s r A B) {b o : Nat} (hb : b < m) (h1 : b ≠ s) (h2 : b ≠ r) : B.frozen? ⟨b, o, none⟩ = A.frozen? ⟨b, o, none⟩ := World.frozen?_of_block (h.block b hb h1 h2)

/-- The blocks for deferred calls of the loops over an iterator that have ended: open and empty. -/
def Marks (B : Nat) (Ds : List Nat) (W : World) : Prop := Ds.Nodup ∧ ∀ D, D ∈ Ds → B ≤ D ∧ W.heap[D]? = some (.deferred (some []))
def marksOf (Ds : List Nat) : List Deferred := Ds.map fun D => { target := .collected D, args := #[] }
theorem Marks.nil (B : Nat) (W : World) : Marks B [] W := ⟨List.nodup_nil, fun D h => by cases h⟩
theorem Marks.kept {B : Nat} {Ds : List Nat} {W W' : World} (h : Marks B Ds W) (hk : ∀ D, B ≤ D → W.heap[D]? = some (.deferred (some [])) → W'.heap[D]? = W.heap[D]?) : Marks B Ds W' :=
  ⟨h.1, fun D hD => ⟨(h.2 D hD).1, (hk D (h.2 D hD).1 (h.2 D hD).2).trans (h.2 D hD).2⟩⟩
theorem Marks.cons {B D : Nat} {Ds : List Nat} {W : World} (h : Marks B Ds W) (hB : B ≤ D) (hn : D ∉ Ds) (hD : W.heap[D]? = some (.deferred (some []))) : Marks B (D :: Ds) W :=
  ⟨List.nodup_cons.2 ⟨hn, h.1⟩, fun D' hD' => by
    rcases List.mem_cons.1 hD' with rfl | h'
    · exact ⟨hB, hD⟩
    · exact h.2 D' h'⟩
theorem Marks.lt {B D : Nat} {Ds : List Nat} {W : World} (h : Marks B Ds W) (hD : D ∈ Ds) : D < W.heap.size := (Array.getElem?_eq_some_iff.1 (h.2 D hD).2).1
theorem leaves_marks {F : Fence} {N : Nat} {P : Program} {fn : Func} {tmps : Array Value} {R : Ending → World → Prop} (B : Nat) (Inv : World → Prop)
    (hI : ∀ W D, B ≤ D → Inv W → Inv (W.putObj D (.deferred none))) (hF : ∀ W, Inv W → LeavesIn F N P fn tmps R [] .returning W) :
    ∀ (Ds : List Nat) (W : World), Marks B Ds W → Inv W → LeavesInM F N P fn tmps R (marksOf Ds) .returning W := by
  intro Ds
  induction Ds with
  | nil => intro W _ hW; exact hF W hW
  | cons D Ds ih =>
    intro W hM hW
    have hD := hM.2 D (List.mem_cons_self ..)
    have hnd := List.nodup_cons.1 hM.1
    refine ⟨(fun h => by cases h), .inl ⟨D, _, rfl, run_takeDeferred hD.2, ih _ ⟨hnd.2, fun D' h' => ?_⟩ (hI W D hD.1 hW)⟩⟩
    have := hM.2 D' (List.mem_cons_of_mem _ h')
    exact ⟨this.1, (World.putObj_heap_other (fun e => hnd.1 (by rw [← e]; exact h'))).trans this.2⟩
theorem Lt.putObj {w W : World} (h : Lt w W) {D : Nat} (hD : w.heap.size ≤ D) (o : Obj) : Lt w (W.putObj D o) :=
  ⟨h.os, h.tape, h.output, by simpa using h.size, fun k hk => (World.putObj_heap_other (by omega)).trans (h.block k hk)⟩
end Go.Proofs.YtdpcdmcmpfjbjaaGreat
/- Walks: out. -/
namespace Go.Proofs.YtdpcdmcmpfjbjaaGreat
open Go.RowKit Go.Shelf
set_option linter.unusedVariables false
set_option linter.unusedSimpArgs false
attribute [local go_sem] Later.cell Later.frozen Later.size Later.ne Later.cell1 Later.cell2 Later.cell3 Later.cell4 Later.size1 Later.size2 Later.size3 Later.size4 Later.ne1 Later.ne2 Later.ne3 Later.ne4
attribute [local go_sem] Oper.semAt_some

theorem cell_alloc3 {w : World} {o1 o2 o3 : Obj} (b o : Nat) (h : b < w.heap.size) : (((w.alloc o1).alloc o2).alloc o3).cell? ⟨b, o, none⟩ = w.cell? ⟨b, o, none⟩ := Below.cell (p := ⟨b, o, none⟩) ((((Lt.refl w).alloc o1).alloc o2).alloc o3) h
theorem cell_alloc4 {w : World} {o1 o2 o3 o4 : Obj} (b o : Nat) (h : b < w.heap.size) : ((((w.alloc o1).alloc o2).alloc o3).alloc o4).cell? ⟨b, o, none⟩ = w.cell? ⟨b, o, none⟩ := Below.cell (p := ⟨b, o, none⟩) (((((Lt.refl w).alloc o1).alloc o2).alloc o3).alloc o4) h
theorem cell_alloc2 {w : World} {o1 o2 : Obj} (b o : Nat) (h : b < w.heap.size) : ((w.alloc o1).alloc o2).cell? ⟨b, o, none⟩ = w.cell? ⟨b, o, none⟩ := Below.cell (p := ⟨b, o, none⟩) (((Lt.refl w).alloc o1).alloc o2) h
attribute [local go_sem] cell_alloc2 cell_alloc3 cell_alloc4

/-- What out's boxes hold: the plan, the card, the result, the last leg. -/
structure OutMem (m : PlanM) (p : Plan) (cm : CardM) (c : Card) (B2 B3 B4 B5 : Nat) (W : World) : Prop where
  plan : PlanIs W m p
  card : CardIs W cm c
  c2 : ∀ i v, (planC m p)[i]? = some v → W.cell? ⟨B2, i, none⟩ = some v
  c3 : ∀ i v, (cardC cm c)[i]? = some v → W.cell? ⟨B3, i, none⟩ = some v
  c4 : W.cell? ⟨B4, 0, none⟩ = some (.int .i64 0)
  f4 : W.frozen? ⟨B4, 0, none⟩ = false
  c5 : W.cell? ⟨B5, 0, none⟩ = some (.int .i64 (legs p - 1))
theorem OutMem.later {m : PlanM} {p : Plan} {cm : CardM} {c : Card} {B2 B3 B4 B5 : Nat} {W W' : World} (h : OutMem m p cm c B2 B3 B4 B5 W) (hl : Lt W W') : OutMem m p cm c B2 B3 B4 B5 W' :=
  ⟨h.plan.later hl, h.card.later hl, fun i v e => hl.cell (h.c2 i v e), fun i v e => hl.cell (h.c3 i v e), hl.cell h.c4, (Below.frozen (p := ⟨B4, 0, none⟩) hl (World.block_lt_of_cell? W _ h.c4)).trans h.f4, hl.cell h.c5⟩

theorem ItemAt.block {W W' : World} {b o : Nat} {x : Item} (h : ItemAt W b o x) (hb : W'.heap[b]? = W.heap[b]?) : ItemAt W' b o x :=
  ⟨(World.cell?_of_block (a := ⟨b, o, none⟩) hb).trans h.1, (World.cell?_of_block (a := ⟨b, o + 1, none⟩) hb).trans h.2.1, (World.cell?_of_block (a := ⟨b, o + 2, none⟩) hb).trans h.2.2.1, (World.cell?_of_block (a := ⟨b, o + 3, none⟩) hb).trans h.2.2.2⟩
theorem Items.block {W W' : World} {A : Option Addr} {c : Nat} {items : List Item} (h : Items W A c items) (hb : ∀ b o, A = some ⟨b, o, none⟩ → W'.heap[b]? = W.heap[b]?) (hs : W.heap.size ≤ W'.heap.size) : Items W' A c items :=
  ⟨h.1, h.2.1, fun hp => by
    obtain ⟨b, o, e, hl, hc⟩ := h.2.2 hp
    exact ⟨b, o, e, Nat.lt_of_lt_of_le hl hs, fun j hj => (hc j hj).block (hb b o e)⟩⟩
theorem LegM.block {pb nb m : Nat} {A : Option Addr} {c : Nat} {items : List Item} {n : Int} {W W' : World} (h : LegM pb nb m A c items n W) (hp : W'.heap[pb]? = W.heap[pb]?) (hn : W'.heap[nb]? = W.heap[nb]?)
    (hb : ∀ b o, A = some ⟨b, o, none⟩ → W'.heap[b]? = W.heap[b]?) (hs : W.heap.size ≤ W'.heap.size) : LegM pb nb m A c items n W' :=
  ⟨(World.cell?_of_block (a := ⟨pb, 0, none⟩) hp).trans h.p0, (World.cell?_of_block (a := ⟨nb, 0, none⟩) hn).trans h.n0, h.it.block hb hs, h.bp, h.bn, h.bi⟩
theorem LegK.trans {pb nb m : Nat} {A : Option Addr} {c : Nat} {items : List Item} {n : Int} {X Y Z : World} (h : LegK pb nb m A c items n X Y) (k : LegK pb nb m A c items n Y Z) : LegK pb nb m A c items n X Z :=
  ⟨Nat.le_trans h.1 k.1, fun x => k.2 (h.2 x)⟩
theorem LegK.putObj {pb nb m : Nat} {A : Option Addr} {c : Nat} {items : List Item} {n : Int} {W : World} {l : Nat} (hl : m ≤ l) (o : Obj) : LegK pb nb m A c items n W (W.putObj l o) :=
  ⟨by simp, fun h => h.block (World.putObj_heap_other (by have := h.bp; omega)) (World.putObj_heap_other (by have := h.bn; omega)) (fun b o e => World.putObj_heap_other (by have := h.bi b o e; omega)) (by simp)⟩
theorem LegK.kept {pb nb m s : Nat} {A : Option Addr} {c : Nat} {items : List Item} {n : Int} {X Y : World} (h : Kept m s s X Y) (hp : pb ≠ s) (hn : nb ≠ s) (hb : ∀ b o, A = some ⟨b, o, none⟩ → b ≠ s) : LegK pb nb m A c items n X Y :=
  ⟨h.size, fun x => x.block (h.block pb x.bp hp hp) (h.block nb x.bn hn hn) (fun b o e => h.block b (x.bi b o e) (hb b o e) (hb b o e)) h.size⟩
theorem keepsFrom_lt {B : Nat} {X Y : World} (h : Lt X Y) : KeepsFrom B X Y := ⟨h.size, fun k o _ hk _ => (h.block k (Array.getElem?_eq_some_iff.1 hk).1).trans hk⟩
theorem OutMem.kept {m : PlanM} {p : Plan} {cm : CardM} {c : Card} {B2 B3 B4 B5 M s : Nat} {w W W' : World} (h : OutMem m p cm c B2 B3 B4 B5 W) (hk : Kept M s s W W') (hp : PlanIs w m p) (hc : CardIs w cm c) (hl : Lt w W')
    (h2 : B2 < M ∧ B2 ≠ s) (h3 : B3 < M ∧ B3 ≠ s) (h4 : B4 < M ∧ B4 ≠ s) (h5 : B5 < M ∧ B5 ≠ s) : OutMem m p cm c B2 B3 B4 B5 W' :=
  ⟨hp.later hl, hc.later hl, fun i v e => (hk.cell h2.1 h2.2 h2.2).trans (h.c2 i v e), fun i v e => (hk.cell h3.1 h3.2 h3.2).trans (h.c3 i v e), (hk.cell h4.1 h4.2 h4.2).trans h.c4, (hk.frozen h4.1 h4.2 h4.2).trans h.f4, (hk.cell h5.1 h5.2 h5.2).trans h.c5⟩

theorem OutMem.e0 {m : PlanM} {p : Plan} {cm : CardM} {c : Card} {B2 B3 B4 B5 : Nat} {W : World} (h : OutMem m p cm c B2 B3 B4 B5 W) : W.cell? ⟨B2, 0, none⟩ = some (.slice m.iA p.items.length m.ic) := h.c2 0 _ rfl
theorem OutMem.e1 {m : PlanM} {p : Plan} {cm : CardM} {c : Card} {B2 B3 B4 B5 : Nat} {W : World} (h : OutMem m p cm c B2 B3 B4 B5 W) : W.cell? ⟨B2, 1, none⟩ = some (.int .i64 p.classes) := h.c2 1 _ rfl
theorem OutMem.e2 {m : PlanM} {p : Plan} {cm : CardM} {c : Card} {B2 B3 B4 B5 : Nat} {W : World} (h : OutMem m p cm c B2 B3 B4 B5 W) : W.cell? ⟨B2, 2, none⟩ = some (.int .i64 p.late) := h.c2 2 _ rfl
theorem OutMem.e3 {m : PlanM} {p : Plan} {cm : CardM} {c : Card} {B2 B3 B4 B5 : Nat} {W : World} (h : OutMem m p cm c B2 B3 B4 B5 W) : W.cell? ⟨B2, 3, none⟩ = some (.int .i64 p.early) := h.c2 3 _ rfl
theorem OutMem.e4 {m : PlanM} {p : Plan} {cm : CardM} {c : Card} {B2 B3 B4 B5 : Nat} {W : World} (h : OutMem m p cm c B2 B3 B4 B5 W) : W.cell? ⟨B2, 4, none⟩ = some (.int .i64 p.maxLate) := h.c2 4 _ rfl
theorem OutMem.e5 {m : PlanM} {p : Plan} {cm : CardM} {c : Card} {B2 B3 B4 B5 : Nat} {W : World} (h : OutMem m p cm c B2 B3 B4 B5 W) : W.cell? ⟨B2, 5, none⟩ = some (.int .i64 p.legLate) := h.c2 5 _ rfl
theorem OutMem.e6 {m : PlanM} {p : Plan} {cm : CardM} {c : Card} {B2 B3 B4 B5 : Nat} {W : World} (h : OutMem m p cm c B2 B3 B4 B5 W) : W.cell? ⟨B2, 6, none⟩ = some (.slice m.jA p.jumps.length m.jc) := h.c2 6 _ rfl
theorem OutMem.e7 {m : PlanM} {p : Plan} {cm : CardM} {c : Card} {B2 B3 B4 B5 : Nat} {W : World} (h : OutMem m p cm c B2 B3 B4 B5 W) : W.cell? ⟨B2, 7, none⟩ = some (.bool p.ret) := h.c2 7 _ rfl
theorem OutMem.e8 {m : PlanM} {p : Plan} {cm : CardM} {c : Card} {B2 B3 B4 B5 : Nat} {W : World} (h : OutMem m p cm c B2 B3 B4 B5 W) : W.cell? ⟨B2, 8, none⟩ = some (.int .i64 p.missed) := h.c2 8 _ rfl
theorem OutMem.e9 {m : PlanM} {p : Plan} {cm : CardM} {c : Card} {B2 B3 B4 B5 : Nat} {W : World} (h : OutMem m p cm c B2 B3 B4 B5 W) : W.cell? ⟨B2, 9, none⟩ = some (.int .i64 p.notional) := h.c2 9 _ rfl
theorem OutMem.e10 {m : PlanM} {p : Plan} {cm : CardM} {c : Card} {B2 B3 B4 B5 : Nat} {W : World} (h : OutMem m p cm c B2 B3 B4 B5 W) : W.cell? ⟨B2, 10, none⟩ = some (.int .i64 p.percent) := h.c2 10 _ rfl
theorem OutMem.e11 {m : PlanM} {p : Plan} {cm : CardM} {c : Card} {B2 B3 B4 B5 : Nat} {W : World} (h : OutMem m p cm c B2 B3 B4 B5 W) : W.cell? ⟨B2, 11, none⟩ = some (.int .i64 p.power) := h.c2 11 _ rfl
theorem OutMem.e12 {m : PlanM} {p : Plan} {cm : CardM} {c : Card} {B2 B3 B4 B5 : Nat} {W : World} (h : OutMem m p cm c B2 B3 B4 B5 W) : W.cell? ⟨B2, 12, none⟩ = some (.slice m.pA p.points.length m.pc) := h.c2 12 _ rfl
theorem OutMem.e13 {m : PlanM} {p : Plan} {cm : CardM} {c : Card} {B2 B3 B4 B5 : Nat} {W : World} (h : OutMem m p cm c B2 B3 B4 B5 W) : W.cell? ⟨B2, 13, none⟩ = some (.slice m.eA p.extra.length m.ec) := h.c2 13 _ rfl
theorem OutMem.d0 {m : PlanM} {p : Plan} {cm : CardM} {c : Card} {B2 B3 B4 B5 : Nat} {W : World} (h : OutMem m p cm c B2 B3 B4 B5 W) : W.cell? ⟨B3, 0, none⟩ = some (.int .i64 c.cls) := h.c3 0 _ rfl
theorem OutMem.d1 {m : PlanM} {p : Plan} {cm : CardM} {c : Card} {B2 B3 B4 B5 : Nat} {W : World} (h : OutMem m p cm c B2 B3 B4 B5 W) : W.cell? ⟨B3, 1, none⟩ = some (.slice cm.sA c.starts.length cm.sc) := h.c3 1 _ rfl
theorem OutMem.d2 {m : PlanM} {p : Plan} {cm : CardM} {c : Card} {B2 B3 B4 B5 : Nat} {W : World} (h : OutMem m p cm c B2 B3 B4 B5 W) : W.cell? ⟨B3, 2, none⟩ = some (.slice cm.lA c.lines.length cm.lc) := h.c3 2 _ rfl
/-- The body of the (only) loop over an iterator in a code. -/
def rangeBody : Code → Option Code
  | .rangeFunc _ _ _ b => some b
  | .seq a b => match rangeBody a with
    | some c => some c
    | none => rangeBody b
  | .loop c => rangeBody c
  | .block _ c => rangeBody c
  | .scope c => rangeBody c
  | .cond _ a b => match rangeBody a with
    | some c => some c
    | none => rangeBody b
  | _ => none
noncomputable def outBody : Code := ((Tryz.f89.body.bind rangeBody).getD .skip)

set_option maxRecDepth 100000 in
set_option maxHeartbeats 4000000 in
/-- One round of out's inner loop. -/
theorem out_round (l N : Nat) (m : PlanM) (p : Plan) (cm : CardM) (c : Card) (Wc : World) (hP : PlanOK p) (hC : CardOK p c) (B2 B3 B4 B5 Bn Bs x : Nat) (n last SU : Int) (xs : List Nat)
    (hM : OutMem m p cm c B2 B3 B4 B5 Wc) (hl1 : legs p - 1 = last) (hcn : Wc.cell? ⟨Bn, 0, none⟩ = some (.int .i64 n)) (hcs : Wc.cell? ⟨Bs, 0, none⟩ = some (.int .i64 SU)) (hfs : Wc.frozen? ⟨Bs, 0, none⟩ = false)
    (hne : ¬ B4 = Bs) (hx : x < p.items.length) (hSU : SU = lateSum p c xs) (hlen : xs.length ≤ 100) (hxs : ∀ y, y ∈ xs → y < p.items.length)
    (Q : Exit → Act → World → Prop)
    (r1 : StopB p c n xs x → ∀ a, Q .ret a (Wc.setCell ⟨B4, 0, none⟩ (.int .i64 x)))
    (r2 : StopB p c n xs x → ∀ a (q : Later Wc) v, Q .ret a ((q.world.setCell ⟨Bs, 0, none⟩ v).setCell ⟨B4, 0, none⟩ (.int .i64 x)))
    (g1 : ¬ StopB p c n xs x → ∀ a (q : Later Wc), Q .normal a (q.world.setCell ⟨Bs, 0, none⟩ (.int .i64 (lateSum p c (xs ++ [x])))))
    (g2 : ¬ StopB p c n xs x → lateSum p c (xs ++ [x]) = SU → ∀ a (q : Later Wc), Q .normal a q.world)
    (v21 v22 v23 v24 v25 v26 v27 v28 u9 u10 u11 u12 u13 u14 u15 u16 u17 u18 u19 u20 u29 u30 u31 u32 u33 u34 u35 u36 u37 u38 u39 u40 u41 u42 u43 u44 u45 u46 u47 u48 u49 u50 u51 u52 u53 u54 u55 u56 u57 u58 u59 u60 u61 u62 u63 u64 u65 u66 u67 u68 u69 u70 u71 u72 u73 : Value) :
    outBody.wpIn (Fence.wide.inRound l) N Tryz.prog Q { tmps := #[planV m p, cardV cm c, (.pointer (some ⟨B2, 0, none⟩)), (.pointer (some ⟨B3, 0, none⟩)), (.pointer (some ⟨B4, 0, none⟩)), (.pointer (some ⟨B5, 0, none⟩)), (.pointer (some ⟨Bn, 0, none⟩)), (.pointer (some ⟨Bs, 0, none⟩)), (.int .i64 (x : Nat)), u9, u10, u11, u12, u13, u14, u15, u16, u17, u18, u19, u20, v21, v22, v23, v24, v25, v26, v27, v28, u29, u30, u31, u32, u33, u34, u35, u36, u37, u38, u39, u40, u41, u42, u43, u44, u45, u46, u47, u48, u49, u50, u51, u52, u53, u54, u55, u56, u57, u58, u59, u60, u61, u62, u63, u64, u65, u66, u67, u68, u69, u70, u71, u72, u73], defers := [] } Wc := by
  obtain ⟨iA, ic, jA, jc, pA, pc, eA, ec⟩ := m
  obtain ⟨sA, sc, lA, lc⟩ := cm
  have e0 := hM.e0
  have e1 := hM.e1
  have e2 := hM.e2
  have e3 := hM.e3
  have e4 := hM.e4
  have e5 := hM.e5
  have e6 := hM.e6
  have e7 := hM.e7
  have e8 := hM.e8
  have e9 := hM.e9
  have e10 := hM.e10
  have e11 := hM.e11
  have e12 := hM.e12
  have e13 := hM.e13
  have d0 := hM.d0
  have d1 := hM.d1
  have d2 := hM.d2
  have t4c := hM.c4
  have t4f := hM.f4
  have t5c := hM.c5
  rw [hl1] at t5c
  have hlm := hM.card.lines.2.1
  have hxn : x < c.lines.length := by rw [hC.lines]; exact hx
  obtain ⟨lb, lo, rfl, hlbl, l0, l1, l2, l3⟩ := hM.card.lines.at_ x hxn
  have hxz : (x : Int) < c.lines.length := by omega
  have hCS := Lib.hid (fun (N : Nat) => (callsIn_wide (n := N)).2 (c_side ⟨iA, ic, jA, jc, pA, pc, eA, ec⟩ p ⟨sA, sc, some ⟨lb, lo, none⟩, lc⟩ c x Wc hM.plan hM.card hP hC hx))
  simp only [planV, planC, cardV, cardC] at hCS ⊢
  have h4l : B4 < Wc.heap.size := World.block_lt_of_cell? Wc _ t4c
  have hsl : Bs < Wc.heap.size := World.block_lt_of_cell? Wc _ hcs
  have hsb := side_by p c x
  have hlsb := lateSum_bd (p := p) (c := c) (fun x => by unfold lateP; omega) (fun x hx => late_bd hP hC hx) xs hxs
  have hlx := late_bd hP hC hx
  have HSA := Lib.hid (lateSum_append p c xs x)
  have HST : Hid (StopB p c n xs x ↔ ((nth c.lines x).mark = 2 ∧ (p.ret = false ∨ n = last)) ∨ (sideP p c x = 1 ∧ (p.maxLate < byP p c x ∨ p.legLate < SU + lateP p c x))) := Lib.hid (by unfold StopB; rw [lateSum_append, hSU, hl1])
  rw [← hSU] at hlsb
  rw [HSA.out, ← hSU] at g1 g2
  obtain ⟨hls0, hls1⟩ := hlsb
  have hls2 : SU ≤ 10144000 := by omega
  generalize StopB p c n xs x = SB at *
  generalize lateP p c x = LT at *
  generalize sideP p c x = SI at *
  generalize byP p c x = BY at *
  have R1 := Lib.hid r1
  have R2 := Lib.hid r2
  have G1 := Lib.hid g1
  have G2 := Lib.hid g2
  clear r1 r2 g1 g2 hls1 hSU hlen hxs HSA hM hP hC hl1
  conv => arg 4; whnf
  by_cases hA : (nth c.lines x).mark = 2 ∧ (p.ret = false ∨ n = last)
  · have RR := Lib.hid (R1.out (HST.out.2 (.inl hA)))
    clear hCS HST R1 R2 G1 G2
    have mb : ((nth c.lines x).mark == 2) = true := beq_iff_eq.2 hA.1
    by_cases hr : p.ret = false
    · clear hA
      gi_wp2_with fail
      exact RR.out _
    · have hr' : p.ret = true := by simpa using hr
      have hnl : (n == last) = true := beq_iff_eq.2 (by rcases hA.2 with h | h; exact absurd h hr; exact h)
      clear hA hr
      gi_wp2_with fail
      exact RR.out _
  · have HA := Lib.hid hA
    have hcont : (nth c.lines x).mark ≠ 2 ∨ (nth c.lines x).mark = 2 ∧ p.ret = true ∧ n ≠ last := by
      by_cases h2 : (nth c.lines x).mark = 2
      · right; exact ⟨h2, by cases hr : p.ret with | true => rfl | false => exact absurd ⟨h2, .inl hr⟩ hA, fun h => hA ⟨h2, .inr h⟩⟩
      · exact .inl h2
    clear hA R1
    rcases hsb with ⟨h1, h2, h3⟩ | ⟨h1, h2⟩
    · subst h1 h2
      have hw : IntKind.i64.wrap (SU + BY) = SU + BY := IntWalk.i64_in _ (by omega)
      clear G2
      rcases hcont with hm | ⟨hm, hr, hn2⟩
      · have mb : ((nth c.lines x).mark == 2) = false := beq_eq_false_iff_ne.2 hm
        clear hm
        gi_wp2_with fail
        refine ⟨trivial, (fun h => by cases h), (CallsIn.inRound l (hCS.out _)).mono ?_⟩
        rintro e w' ⟨rfl, q, rfl⟩
        have q4 : q.world.cell? ⟨B2, 4, none⟩ = some (.int .i64 p.maxLate) := q.lt.cell e4
        have q5 : q.world.cell? ⟨B2, 5, none⟩ = some (.int .i64 p.legLate) := q.lt.cell e5
        have qs : q.world.cell? ⟨Bs, 0, none⟩ = some (.int .i64 SU) := q.lt.cell hcs
        have qsf : q.world.frozen? ⟨Bs, 0, none⟩ = false := (q.frozen _ _ hsl).trans hfs
        have qt : q.world.cell? ⟨B4, 0, none⟩ = some (.int .i64 0) := q.lt.cell t4c
        have qtf : q.world.frozen? ⟨B4, 0, none⟩ = false := (q.frozen _ _ h4l).trans t4f
        clear e0 e1 e2 e3 e4 e5 e6 e7 e8 e9 e10 e11 e12 e13 d0 d1 d2 t4c t4f t5c hcn hcs hfs l0 l1 l2 l3
        by_cases hb1 : p.maxLate < BY
        · have RR := Lib.hid (R2.out (HST.out.2 (.inr ⟨by trivial, .inl hb1⟩)))
          gi_wp2_with fail
          exact RR.out _ _ _
        · by_cases hb2 : p.legLate < SU + BY
          · have RR := Lib.hid (R2.out (HST.out.2 (.inr ⟨by trivial, .inr hb2⟩)))
            gi_wp2_with fail
            exact RR.out _ _ _
          · have RR := Lib.hid (G1.out (fun h => (HST.out.1 h).elim HA.out (fun h => h.2.elim hb1 hb2)))
            gi_wp2_with fail
            exact RR.out _ _
      · have mb : ((nth c.lines x).mark == 2) = true := beq_iff_eq.2 hm
        have nb : (n == last) = false := beq_eq_false_iff_ne.2 hn2
        clear hm hn2
        simp only [hr] at hCS
        gi_wp2_with fail
        refine ⟨trivial, (fun h => by cases h), (CallsIn.inRound l (hCS.out _)).mono ?_⟩
        rintro e w' ⟨rfl, q, rfl⟩
        have q4 : q.world.cell? ⟨B2, 4, none⟩ = some (.int .i64 p.maxLate) := q.lt.cell e4
        have q5 : q.world.cell? ⟨B2, 5, none⟩ = some (.int .i64 p.legLate) := q.lt.cell e5
        have qs : q.world.cell? ⟨Bs, 0, none⟩ = some (.int .i64 SU) := q.lt.cell hcs
        have qsf : q.world.frozen? ⟨Bs, 0, none⟩ = false := (q.frozen _ _ hsl).trans hfs
        have qt : q.world.cell? ⟨B4, 0, none⟩ = some (.int .i64 0) := q.lt.cell t4c
        have qtf : q.world.frozen? ⟨B4, 0, none⟩ = false := (q.frozen _ _ h4l).trans t4f
        clear e0 e1 e2 e3 e4 e5 e6 e7 e8 e9 e10 e11 e12 e13 d0 d1 d2 t4c t4f t5c hcn hcs hfs l0 l1 l2 l3
        by_cases hb1 : p.maxLate < BY
        · have RR := Lib.hid (R2.out (HST.out.2 (.inr ⟨by trivial, .inl hb1⟩)))
          gi_wp2_with fail
          exact RR.out _ _ _
        · by_cases hb2 : p.legLate < SU + BY
          · have RR := Lib.hid (R2.out (HST.out.2 (.inr ⟨by trivial, .inr hb2⟩)))
            gi_wp2_with fail
            exact RR.out _ _ _
          · have RR := Lib.hid (G1.out (fun h => (HST.out.1 h).elim HA.out (fun h => h.2.elim hb1 hb2)))
            gi_wp2_with fail
            exact RR.out _ _
    · have sb : (SI == 1) = false := beq_eq_false_iff_ne.2 h1
      clear R2 G1
      rcases hcont with hm | ⟨hm, hr, hn2⟩
      · have mb : ((nth c.lines x).mark == 2) = false := beq_eq_false_iff_ne.2 hm
        clear hm
        gi_wp2_with fail
        refine ⟨trivial, (fun h => by cases h), (CallsIn.inRound l (hCS.out _)).mono ?_⟩
        rintro e w' ⟨rfl, q, rfl⟩
        have q4 : q.world.cell? ⟨B2, 4, none⟩ = some (.int .i64 p.maxLate) := q.lt.cell e4
        have q5 : q.world.cell? ⟨B2, 5, none⟩ = some (.int .i64 p.legLate) := q.lt.cell e5
        have qs : q.world.cell? ⟨Bs, 0, none⟩ = some (.int .i64 SU) := q.lt.cell hcs
        have qsf : q.world.frozen? ⟨Bs, 0, none⟩ = false := (q.frozen _ _ hsl).trans hfs
        have qt : q.world.cell? ⟨B4, 0, none⟩ = some (.int .i64 0) := q.lt.cell t4c
        have qtf : q.world.frozen? ⟨B4, 0, none⟩ = false := (q.frozen _ _ h4l).trans t4f
        clear e0 e1 e2 e3 e4 e5 e6 e7 e8 e9 e10 e11 e12 e13 d0 d1 d2 t4c t4f t5c hcn hcs hfs l0 l1 l2 l3
        have RR := Lib.hid (G2.out (fun h => (HST.out.1 h).elim HA.out (fun h => h1 h.1)) (by omega))
        gi_wp2_with fail
        exact RR.out _ _
      · have mb : ((nth c.lines x).mark == 2) = true := beq_iff_eq.2 hm
        have nb : (n == last) = false := beq_eq_false_iff_ne.2 hn2
        clear hm hn2
        simp only [hr] at hCS
        gi_wp2_with fail
        refine ⟨trivial, (fun h => by cases h), (CallsIn.inRound l (hCS.out _)).mono ?_⟩
        rintro e w' ⟨rfl, q, rfl⟩
        have q4 : q.world.cell? ⟨B2, 4, none⟩ = some (.int .i64 p.maxLate) := q.lt.cell e4
        have q5 : q.world.cell? ⟨B2, 5, none⟩ = some (.int .i64 p.legLate) := q.lt.cell e5
        have qs : q.world.cell? ⟨Bs, 0, none⟩ = some (.int .i64 SU) := q.lt.cell hcs
        have qsf : q.world.frozen? ⟨Bs, 0, none⟩ = false := (q.frozen _ _ hsl).trans hfs
        have qt : q.world.cell? ⟨B4, 0, none⟩ = some (.int .i64 0) := q.lt.cell t4c
        have qtf : q.world.frozen? ⟨B4, 0, none⟩ = false := (q.frozen _ _ h4l).trans t4f
        clear e0 e1 e2 e3 e4 e5 e6 e7 e8 e9 e10 e11 e12 e13 d0 d1 d2 t4c t4f t5c hcn hcs hfs l0 l1 l2 l3
        have RR := Lib.hid (G2.out (fun h => (HST.out.1 h).elim HA.out (fun h => h1 h.1)) (by omega))
        gi_wp2_with fail
        exact RR.out _ _
end Go.Proofs.YtdpcdmcmpfjbjaaGreat
/- Walks: out: where a car is out. -/
namespace Go.Proofs.YtdpcdmcmpfjbjaaGreat
open Go.RowKit Go.Shelf
set_option linter.unusedVariables false
set_option linter.unusedSimpArgs false
attribute [local go_sem] Later.cell Later.frozen Later.size Later.ne Later.cell1 Later.cell2 Later.cell3 Later.size1 Later.size2 Later.size3 Later.ne1 Later.ne2 Later.ne3 Later.ne4
attribute [local go_sem] Oper.semAt_some
attribute [local go_sem] cell_alloc2 cell_alloc3 cell_alloc4

set_option maxRecDepth 100000 in
set_option maxHeartbeats 4000000 in
theorem c_out (m : PlanM) (p : Plan) (cm : CardM) (c : Card) (w : World) (hp : PlanIs w m p) (hc : CardIs w cm c) (hP : PlanOK p) (hC : CardOK p c) :
    Calls Tryz.prog 89 #[planV m p, cardV cm c] w fun e w' => e = .returned (.int .i64 (outP p c)) ∧ ∃ q : Later w, w' = q.world := by
  have hpos := hP.pos
  have hfew := hP.few
  have hlegs : legs p = (nth p.items (p.items.length - 1)).leg + 1 := rfl
  have hll := hP.leg (p.items.length - 1) (by omega)
  have HP := Lib.hid hp
  have HC := Lib.hid hc
  obtain ⟨iA, ic, jA, jc, pA, pc, eA, ec⟩ := m
  obtain ⟨sA, sc, lA, lc⟩ := cm
  have him := hp.items.2.1
  obtain ⟨b, o, rfl, hbl, -, a1, -, -⟩ := hp.items.at_ (p.items.length - 1) (by omega)
  have hlz : ((p.items.length - 1 : Nat) : Int) < p.items.length := by omega
  have hln : p.items.length - 1 < p.items.length := by omega
  have hw1 : IntKind.i64.wrap ((p.items.length : Int) - 1) = ((p.items.length - 1 : Nat) : Int) := by rw [show (p.items.length : Int) - 1 = ((p.items.length - 1 : Nat) : Int) by omega]; exact IntWalk.i64_in _ (by omega)
  generalize hla : (nth p.items (p.items.length - 1)).leg = last at *
  have hw2 : IntKind.i64.wrap (last + 1) = last + 1 := IntWalk.i64_in _ (by omega)
  clear hp hc
  refine (callsIn_wide (n := 20)).1 ?_
  refine callsIn_of_wp_marks Tryz.func89 rfl trivial ?_ rfl
  simp only [planV, cardV, planC, cardC, Tryz.ntmps89, List.size_toArray, List.length_cons, List.length_nil, Nat.reduceAdd, Nat.reduceSub, Array.replicate_succ, Array.replicate_zero, List.push_toArray, List.append_toArray, List.nil_append, List.cons_append]
  gi_wp2
  obtain ⟨W1, hW1⟩ : ∃ W1, ((((w.alloc (.cells (planC ⟨some ⟨b, o, none⟩, ic, jA, jc, pA, pc, eA, ec⟩ p) 28)).alloc (.cells (cardC ⟨sA, sc, lA, lc⟩ c) 31)).alloc (.cells #[.int .i64 0] 3)).alloc (.cells #[.int .i64 last] 3)) = W1 := ⟨_, rfl⟩
  have hlt1 : Lt w W1 := by rw [← hW1]; exact ((((Lt.refl w).alloc _).alloc _).alloc _).alloc _
  have hs1 : W1.heap.size = w.heap.size + 4 := by rw [← hW1]; simp
  have hM1 : OutMem ⟨some ⟨b, o, none⟩, ic, jA, jc, pA, pc, eA, ec⟩ p ⟨sA, sc, lA, lc⟩ c w.heap.size (w.heap.size + 1) (w.heap.size + 1 + 1) (w.heap.size + 1 + 1 + 1) W1 := by
    refine ⟨HP.out.later hlt1, HC.out.later hlt1, fun i v e => ?_, fun i v e => ?_, ?_, ?_, ?_⟩
    · rw [← hW1]
      exact ((((Lt.refl _).alloc _).alloc _).alloc _).cell ((World.cell?_alloc_at _ _ _ _ rfl).trans e)
    · rw [← hW1]
      exact (((Lt.refl _).alloc _).alloc _).cell ((World.cell?_alloc_at _ _ _ _ (by simp)).trans e)
    · rw [← hW1]; simp [go_sem]
    · rw [← hW1]; simp [go_sem]
    · rw [← hW1]; simp [go_sem, hlegs]
  simp only [planC, cardC] at hW1
  rw [hW1]
  clear hW1
  obtain ⟨B2, hB2⟩ : ∃ x, w.heap.size = x := ⟨_, rfl⟩
  obtain ⟨B3, hB3⟩ : ∃ x, w.heap.size + 1 = x := ⟨_, rfl⟩
  obtain ⟨B4, hB4⟩ : ∃ x, w.heap.size + 1 + 1 = x := ⟨_, rfl⟩
  obtain ⟨B5, hB5⟩ : ∃ x, w.heap.size + 1 + 1 + 1 = x := ⟨_, rfl⟩
  rw [hB5, hB4, hB3, hB2] at hM1
  rw [hB5, hB4, hB3, hB2]
  generalize hPV : (Value.agg #[Value.slice (some ⟨b, o, none⟩) p.items.length ic, _, _, _, _, _, _, _, _, _, _, _, _, _]) = P
  generalize hCV : (Value.agg #[Value.int .i64 c.cls, _, _]) = C
  refine wpIn_loop (fun a' W' => ∃ (n : Nat) (Ds : List Nat) (u6 u7 u8 u9 u10 u11 u12 u13 u14 u15 u16 u17 u18 u19 u20 u23 u24 u25 u26 u27 u28 u29 u30 u31 u32 u33 u34 u35 u36 u37 u38 u39 u40 u41 u42 u43 u44 u45 u46 u47 u48 u49 u50 u51 u52 u53 u54 u55 u56 u57 u58 u59 u60 u61 u62 u63 u64 u65 u66 u67 u68 u69 u70 u71 u72 u73 : Value), Lt W1 W' ∧ (n : Int) ≤ last + 1 ∧ Marks W1.heap.size Ds W' ∧ (∀ j, j < p.items.length → (nth p.items j).leg < n → ¬ OutAt p c j) ∧
      a' = { tmps := #[P, C, (.pointer (some ⟨B2, 0, none⟩)), (.pointer (some ⟨B3, 0, none⟩)), (.pointer (some ⟨B4, 0, none⟩)), (.pointer (some ⟨B5, 0, none⟩)), u6, u7, u8, u9, u10, u11, u12, u13, u14, u15, u16, u17, u18, u19, u20, (.int .i64 (last + 1)), (.int .i64 (n : Nat)), u23, u24, u25, u26, u27, u28, u29, u30, u31, u32, u33, u34, u35, u36, u37, u38, u39, u40, u41, u42, u43, u44, u45, u46, u47, u48, u49, u50, u51, u52, u53, u54, u55, u56, u57, u58, u59, u60, u61, u62, u63, u64, u65, u66, u67, u68, u69, u70, u71, u72, u73], defers := marksOf Ds }) (fun a' _ => (last + 1).toNat - (intOf (a'.tmps.getD 22 undef)).toNat) ?_ ?_
  · exact ⟨0, [], _, _, _, _, _, _, _, _, _, _, _, _, _, _, _, _, _, _, _, _, _, _, _, _, _, _, _, _, _, _, _, _, _, _, _, _, _, _, _, _, _, _, _, _, _, _, _, _, _, _, _, _, _, _, _, _, _, _, _, _, _, _, _, _, _, _, Lt.refl _, by omega, Marks.nil _ _, fun j hj h => absurd (hP.leg j hj).1 (by omega), rfl⟩
  rintro _ W ⟨n, Ds, u6, u7, u8, u9, u10, u11, u12, u13, u14, u15, u16, u17, u18, u19, u20, u23, u24, u25, u26, u27, u28, u29, u30, u31, u32, u33, u34, u35, u36, u37, u38, u39, u40, u41, u42, u43, u44, u45, u46, u47, u48, u49, u50, u51, u52, u53, u54, u55, u56, u57, u58, u59, u60, u61, u62, u63, u64, u65, u66, u67, u68, u69, u70, u71, u72, u73, hLW, hn, hMk, hF, rfl⟩
  by_cases hlt : (n : Int) < last + 1
  · have hM := hM1.later hLW
    have e0 : W.cell? ⟨B2, 0, none⟩ = some (.slice (some ⟨b, o, none⟩) p.items.length ic) := hM.c2 0 _ rfl
    have e1 : W.cell? ⟨B2, 1, none⟩ = some (.int .i64 p.classes) := hM.c2 1 _ rfl
    have e2 : W.cell? ⟨B2, 2, none⟩ = some (.int .i64 p.late) := hM.c2 2 _ rfl
    have e3 : W.cell? ⟨B2, 3, none⟩ = some (.int .i64 p.early) := hM.c2 3 _ rfl
    have e4 : W.cell? ⟨B2, 4, none⟩ = some (.int .i64 p.maxLate) := hM.c2 4 _ rfl
    have e5 : W.cell? ⟨B2, 5, none⟩ = some (.int .i64 p.legLate) := hM.c2 5 _ rfl
    have e6 : W.cell? ⟨B2, 6, none⟩ = some (.slice jA p.jumps.length jc) := hM.c2 6 _ rfl
    have e7 : W.cell? ⟨B2, 7, none⟩ = some (.bool p.ret) := hM.c2 7 _ rfl
    have e8 : W.cell? ⟨B2, 8, none⟩ = some (.int .i64 p.missed) := hM.c2 8 _ rfl
    have e9 : W.cell? ⟨B2, 9, none⟩ = some (.int .i64 p.notional) := hM.c2 9 _ rfl
    have e10 : W.cell? ⟨B2, 10, none⟩ = some (.int .i64 p.percent) := hM.c2 10 _ rfl
    have e11 : W.cell? ⟨B2, 11, none⟩ = some (.int .i64 p.power) := hM.c2 11 _ rfl
    have e12 : W.cell? ⟨B2, 12, none⟩ = some (.slice pA p.points.length pc) := hM.c2 12 _ rfl
    have e13 : W.cell? ⟨B2, 13, none⟩ = some (.slice eA p.extra.length ec) := hM.c2 13 _ rfl
    have d0 : W.cell? ⟨B3, 0, none⟩ = some (.int .i64 c.cls) := hM.c3 0 _ rfl
    have d1 : W.cell? ⟨B3, 1, none⟩ = some (.slice sA c.starts.length sc) := hM.c3 1 _ rfl
    have d2 : W.cell? ⟨B3, 2, none⟩ = some (.slice lA c.lines.length lc) := hM.c3 2 _ rfl
    have e5b := hM.c5
    have hBW : B2 < W.heap.size := World.block_lt_of_cell? W _ e0
    have hCL := Lib.hid (fun (N : Nat) W => (callsIn_wide (n := N)).2 (c_leg ⟨some ⟨b, o, none⟩, ic, jA, jc, pA, pc, eA, ec⟩ p n W))
    simp only [planV, planC, hPV] at hCL
    have hM := Lib.hid hM
    have hf1 : Fence.wide.fn 118 := trivial
    have hf2 : Fence.wide.fn 119 := trivial
    gi_wp2_with (first | (gi_at_call 118; refine (hCL.out _ _).mono ?_; rintro e w' ⟨rfl, rfl⟩) | fail)
    obtain ⟨W4, hW4⟩ : ∃ W4, ((((W.alloc (.cells #[.int .i64 (n : Nat)] 3)).alloc (.cells #[.int .i64 0] 3)).alloc (.cells (planC ⟨some ⟨b, o, none⟩, ic, jA, jc, pA, pc, eA, ec⟩ p) 28)).alloc (.cells #[.int .i64 (n : Nat)] 3)) = W4 := ⟨_, rfl⟩
    have hLW4 : Lt W W4 := by rw [← hW4]; exact ((((Lt.refl W).alloc _).alloc _).alloc _).alloc _
    have hs4 : W4.heap.size = W.heap.size + 4 := by rw [← hW4]; simp
    have hcs : W4.cell? ⟨W.heap.size + 1, 0, none⟩ = some (.int .i64 0) := by rw [← hW4]; simp [go_sem]
    have hfs : W4.frozen? ⟨W.heap.size + 1, 0, none⟩ = false := by rw [← hW4]; simp [go_sem]
    have hcn : W4.cell? ⟨W.heap.size, 0, none⟩ = some (.int .i64 (n : Nat)) := by rw [← hW4]; simp [go_sem]
    have hLM : LegM (W.heap.size + 1 + 1) (W.heap.size + 1 + 1 + 1) W4.heap.size (some ⟨b, o, none⟩) ic p.items n W4 := by
      refine ⟨?_, ?_, (HP.out.items.later ((hlt1.trans hLW).trans hLW4)), by omega, by omega, ?_⟩
      · rw [← hW4]; simp [go_sem, planC]
      · rw [← hW4]; simp [go_sem]
      · rintro b' o' e; cases e; have := hlt1.size; have := hLW.size; omega
    have hM4 := Lib.hid (hM.out.later hLW4)
    simp only [planC] at hW4
    rw [hW4]
    clear hW4
    refine wpIn_rangeFunc_ownG (F := Fence.wide) (α := LegX p.items n) rfl (by omega) (gf := 139) (lb := #[.pointer (some ⟨W.heap.size + 1 + 1, 0, none⟩), .pointer (some ⟨W.heap.size + 1 + 1 + 1, 0, none⟩)]) rfl trivial (enters_of Tryz.func139 (by kernel_rfl) rfl)
      (leg_stops _ (by omega) (W.heap.size + 1 + 1) (W.heap.size + 1 + 1 + 1) (some ⟨b, o, none⟩) ic p.items n W4 hLM) LegK.trans (fun _ _ _ _ hl _ _ _ => LegK.putObj hl _) (Below.refl _ _) (fun _ => rfl)
      (fun xs Wc => Kept W4.heap.size (W.heap.size + 1) (W.heap.size + 1) W4 Wc ∧ Wc.cell? ⟨W.heap.size + 1, 0, none⟩ = some (.int .i64 (lateSum p c (LegX.nums xs))) ∧ Wc.frozen? ⟨W.heap.size + 1, 0, none⟩ = false ∧ Fine p c n (LegX.nums xs))
      (fun code xs Wc => code = .ret ∧ Kept W4.heap.size (W.heap.size + 1) B4 W4 Wc ∧ ∃ pre x, LegX.nums xs = pre ++ [x] ∧ Fine p c n pre ∧ StopB p c n pre x ∧ Wc.cell? ⟨B4, 0, none⟩ = some (.int .i64 (x : Nat)))
      ?hI ?hIx ⟨Kept.refl _ _ _ _, hcs, hfs, Fine.nil _ _ _⟩
      (fun x => { tmps := #[P, C, (.pointer (some ⟨B2, 0, none⟩)), (.pointer (some ⟨B3, 0, none⟩)), (.pointer (some ⟨B4, 0, none⟩)), (.pointer (some ⟨B5, 0, none⟩)), (.pointer (some ⟨W.heap.size, 0, none⟩)), (.pointer (some ⟨W.heap.size + 1, 0, none⟩)), (.int .i64 (x.val : Nat)), u9, u10, u11, u12, u13, u14, u15, u16, u17, u18, u19, u20, (.int .i64 (last + 1)), (.int .i64 (n : Nat)), (.bool true), (.int .i64 (n : Nat)), P, (.int .i64 (n : Nat)), (.func (.func 139) #[] #[.pointer (some ⟨W.heap.size + 1 + 1, 0, none⟩), .pointer (some ⟨W.heap.size + 1 + 1 + 1, 0, none⟩)]), (.int .i64 (x.val : Nat)), u29, u30, u31, u32, u33, u34, u35, u36, u37, u38, u39, u40, u41, u42, u43, u44, u45, u46, u47, u48, u49, u50, u51, u52, u53, u54, u55, u56, u57, u58, u59, u60, u61, u62, u63, u64, u65, u66, u67, u68, u69, u70, u71, u72, u73], defers := [] }) ?assign ?body ?done ?stop
    case hI =>
      rintro xs A B row ⟨h1, h2, h3, h4⟩ hg hr
      have hk : ∀ k, row = some k → W4.heap.size ≤ k := fun k e => (hr k e).1
      have hz := h1.size
      have hkb : B.heap[W.heap.size + 1]? = A.heap[W.heap.size + 1]? := hg.block _ (by omega) (fun e => by have := hk _ e.symm; omega)
      exact ⟨h1.grown hz hg hk, (World.cell?_of_block hkb).trans h2, (World.frozen?_of_block hkb).trans h3, h4⟩
    case hIx =>
      rintro code xs A B row ⟨h0, h1, pre, x, h2, h3, h4, h5⟩ hg hr
      have hk : ∀ k, row = some k → W4.heap.size ≤ k := fun k e => (hr k e).1
      have hz := h1.size
      have hs1 := hlt1.size
      have hs2 := hLW.size
      have hkb : B.heap[B4]? = A.heap[B4]? := hg.block _ (by omega) (fun e => by have := hk _ e.symm; omega)
      exact ⟨h0, h1.grown hz hg hk, pre, x, h2, h3, h4, (World.cell?_of_block hkb).trans h5⟩
    case assign =>
      intro l x Wc K hK
      gi_wp2
      exact hK
    case body =>
      rintro l xs ⟨xv, hxl, hxleg⟩ Wc ⟨hK, hcsum, hfsum, hfine⟩ hlen
      have hs1 := hlt1.size
      have hs2 := hLW.size
      have hLc : Lt w Wc := hK.lt ((hlt1.trans hLW).trans hLW4) (by omega) (by omega) (by omega)
      have hMc := hM4.out.kept hK HP.out HC.out hLc ⟨by omega, by omega⟩ ⟨by omega, by omega⟩ ⟨by omega, by omega⟩ ⟨by omega, by omega⟩
      have hlsum : (LegX.nums xs).length ≤ 100 := by simp only [LegX.nums, List.length_map]; omega
      have HXN := LegX.nums_append xs ⟨xv, hxl, hxleg⟩
      have hsz : W4.heap.size ≤ Wc.heap.size := hK.size
      have t6c : Wc.cell? ⟨W.heap.size, 0, none⟩ = some (.int .i64 (n : Nat)) := (hK.cell (by omega) (by omega) (by omega)).trans hcn
      rw [← hPV, ← hCV]
      refine out_round l _ ⟨some ⟨b, o, none⟩, ic, jA, jc, pA, pc, eA, ec⟩ p ⟨sA, sc, lA, lc⟩ c Wc hP hC B2 B3 B4 B5 W.heap.size (W.heap.size + 1) xv n last _ (LegX.nums xs) hMc (by omega) t6c hcsum hfsum (by omega) hxl rfl hlsum
        (fun y hy => by obtain ⟨z, _, rfl⟩ := List.mem_map.1 hy; exact z.lt) _ ?r1 ?r2 ?g1 ?g2 _ _ _ _ _ _ _ _ _ _ _ _ _ _ _ _ _ _ _ _ _ _ _ _ _ _ _ _ _ _ _ _ _ _ _ _ _ _ _ _ _ _ _ _ _ _ _ _ _ _ _ _ _ _ _ _ _ _ _ _ _ _ _ _ _
      case r1 =>
        intro hst a
        exact ⟨(KeepsOthers.setCell _ _ _).from _, rfl, (hK.wide).setCell _ _ (.inr rfl) _, LegX.nums xs, xv, HXN, hfine, hst, by simp [go_sem, hMc.c4]⟩
      case r2 =>
        intro hst a q v
        refine ⟨(keepsFrom_lt q.lt).trans (((KeepsOthers.setCell _ _ _).from _).trans ((KeepsOthers.setCell _ _ _).from _)), rfl, (((hK.later hsz q.lt).wide).setCell _ _ (.inl rfl) _).setCell _ _ (.inr rfl) _, LegX.nums xs, xv, HXN, hfine, hst, ?_⟩
        have hq := q.lt.cell hMc.c4
        have hne : ¬ B4 = W.heap.size + 1 := by omega
        simp [go_sem, hq, hne]
      case g1 =>
        intro hst a q
        have hq := q.lt.cell hcsum
        have hqf := (q.frozen _ _ (World.block_lt_of_cell? Wc _ hcsum)).trans hfsum
        refine ⟨(keepsFrom_lt q.lt).trans ((KeepsOthers.setCell _ _ _).from _), LegK.kept (((Kept.refl _ _ _ Wc).later hsz q.lt).setCell _ _ (.inl rfl) _) (by omega) (by omega) (fun b' o' e => by cases e; omega), (hK.later hsz q.lt).setCell _ _ (.inl rfl) _, ?_, ?_, by rw [HXN]; exact hfine.step hst⟩
        · rw [HXN]; simp [go_sem, hq]
        · simp [go_sem, hq, hqf]
      case g2 =>
        intro hst he a q
        have hq := q.lt.cell hcsum
        have hqf := (q.frozen _ _ (World.block_lt_of_cell? Wc _ hcsum)).trans hfsum
        refine ⟨keepsFrom_lt q.lt, LegK.kept ((Kept.refl _ (W.heap.size + 1) (W.heap.size + 1) Wc).later hsz q.lt) (by omega) (by omega) (fun b' o' e => by cases e; omega), hK.later hsz q.lt, ?_, hqf, by rw [HXN]; exact hfine.step hst⟩
        rw [HXN, he]; exact hq
    case done =>
      rintro D ys Wd hD hS ⟨hKd, hcd, hfd, hfin⟩ hDk
      have hs1 := hlt1.size
      have hs2 := hLW.size
      have hLd : Lt W1 Wd := hKd.lt (hLW.trans hLW4) (by omega) (by omega) (by omega)
      have hMd : Marks W1.heap.size (D :: Ds) Wd := by
        refine Marks.cons ⟨hMk.1, fun D' h' => ?_⟩ (by omega) (fun h => by have := hMk.lt h; omega) hDk
        have h1 := hMk.2 D' h'
        have h2 := hMk.lt h'
        exact ⟨h1.1, (hKd.block D' (by omega) (by omega) (by omega)).trans ((hLW4.block D' h2).trans h1.2)⟩
      have hF2 : ∀ j, j < p.items.length → (nth p.items j).leg < ((n + 1 : Nat) : Int) → ¬ OutAt p c j := by
        intro j hj hl
        by_cases e : (nth p.items j).leg = n
        · exact fine_out hP (k := p.items.length) (by rw [← hS]; exact hfin) hj e
        · exact hF j hj (by omega)
      have HLd := Lib.hid hLd
      have HMd := Lib.hid hMd
      have HF2 := Lib.hid hF2
      have hn2 : ((n : Int) + 1) ≤ last + 1 := by omega
      have hwn : IntKind.i64.wrap ((n : Int) + 1) = (n : Int) + 1 := IntWalk.i64_in _ (by omega)
      clear hLd hMd hF2 hF hKd hcd hfd hfin hDk hS hs1 hs2
      gi_wp2_with fail
      rw [show (n : Int) + 1 = ((n + 1 : Nat) : Int) by omega]
      refine ⟨⟨n + 1, D :: Ds, _, _, _, _, _, _, _, _, _, _, _, _, _, _, _, _, _, _, _, _, _, _, _, _, _, _, _, _, _, _, _, _, _, _, _, _, _, _, _, _, _, _, _, _, _, _, _, _, _, _, _, _, _, _, _, _, _, _, _, _, _, _, _, _, _, _, HLd.out, by omega, HMd.out, HF2.out, rfl⟩, by simp [intOf]; omega⟩
    case stop =>
      rintro D code pre Wd hD ⟨k, hk, hleg, hnums⟩ ⟨rfl, hKd, pre', x, h2, h3, h4, h5⟩ hDk
      have hs1 := hlt1.size
      have hs2 := hLW.size
      have hLd : Lt w Wd := hKd.lt ((hlt1.trans hLW).trans hLW4) (by omega) (by omega) (by omega)
      have hMd : Marks W1.heap.size (D :: Ds) Wd := by
        refine Marks.cons ⟨hMk.1, fun D' h' => ?_⟩ (by omega) (fun h => by have := hMk.lt h; omega) hDk
        have h1 := hMk.2 D' h'
        have h2 := hMk.lt h'
        exact ⟨h1.1, (hKd.block D' (by omega) (by omega) (by omega)).trans ((hLW4.block D' h2).trans h1.2)⟩
      rw [hnums] at h2
      obtain ⟨e1, e2⟩ := List.append_inj' h2 rfl
      subst e1
      have e2' : k = x := by simpa using e2
      subst e2'
      have hout : outP p c = k := by
        refine outP_hit p c k hk (fun j hj => ?_) ?_
        · have h6 := leg_le hP j k (by omega) hk
          by_cases e : (nth p.items j).leg = n
          · exact fine_out hP h3 hj e
          · exact hF j (by omega) (by omega)
        · rw [← hleg] at h4
          exact (stop_iff hP k).1 h4
      have HOUT := Lib.hid hout
      have HLd := Lib.hid hLd
      have HMd := Lib.hid hMd
      clear hLd hMd hF hKd hDk hs1 hs2 hout h2 h3 h4 e2
      gi_wp2_with fail
      refine leaves_marks W1.heap.size (fun W' => Lt w W' ∧ W'.cell? ⟨B4, 0, none⟩ = some (.int .i64 (k : Nat))) ?_ ?_ (D :: Ds) _ HMd.out ⟨HLd.out, h5⟩
      · rintro W' D hD ⟨h1, h2⟩
        have := hlt1.size
        have hne : B4 ≠ D := by omega
        exact ⟨h1.putObj (by omega) _, (World.cell?_of_block (World.putObj_heap_other hne)).trans h2⟩
      · rintro W' ⟨h1, h2⟩
        refine ⟨_, ?_, by rw [HOUT.out], ⟨W', h1⟩, rfl⟩
        simp [results, Tryz.results89, go_sem, h2]
  · have hM := hM1.later hLW
    have t4c := hM.c4
    have t4f := hM.f4
    have hbl4 : B4 < W.heap.size := World.block_lt_of_cell? W _ t4c
    have hout : outP p c = -1 := outP_none p c fun j hj => hF j hj (by
      have := leg_le hP j (p.items.length - 1) (by omega) (by omega)
      rw [hla] at this; omega)
    have HOUT := Lib.hid hout
    have HF := Lib.hid hF
    have HMk := Lib.hid hMk
    have HL1 := Lib.hid hLW
    clear hM hout hF hMk hLW
    gi_wp2_with fail
    have hB4w : w.heap.size ≤ B4 := by omega
    refine leaves_marks W1.heap.size (fun W' => Lt w W' ∧ W'.cell? ⟨B4, 0, none⟩ = some (.int .i64 (-1))) ?_ ?_ Ds _ ?_ ?_
    · rintro W' D hD ⟨h1, h2⟩
      have := hlt1.size
      have hne : B4 ≠ D := by omega
      exact ⟨h1.putObj (by omega) _, (World.cell?_of_block (World.putObj_heap_other hne)).trans h2⟩
    · rintro W' ⟨h1, h2⟩
      refine ⟨_, ?_, by rw [HOUT.out], ⟨W', h1⟩, rfl⟩
      simp [results, Tryz.results89, go_sem, h2]
    · exact HMk.out.kept fun D hD h => Below.heap_setCell W ⟨B4, 0, none⟩ _ D (show D ≠ B4 by omega)
    · exact ⟨(hlt1.trans HL1.out).setCell hB4w _, by simp [go_sem, t4c]⟩
end Go.Proofs.YtdpcdmcmpfjbjaaGreat
