/- Walks: Champions, where all is as defined; Walks: Champions, where all is as defined. -/
import Derived.Test.YtdpcdmcmpfjbjaaGreatJI
/- Walks: Champions, where all is as defined. -/
namespace Go.Proofs.YtdpcdmcmpfjbjaaGreat
open Go.RowKit Go.Sort
set_option linter.unusedVariables false
set_option linter.unusedSimpArgs false
attribute [local go_sem] Later.cell Later.frozen Later.size Later.ne Later.cell1 Later.cell2 Later.cell3 Later.size1 Later.size2 Later.size3 Later.ne1 Later.ne2 Later.ne3

/-- Where the parts of Champions' own memory lie. -/
structure ChM where
  b9 : Nat
  b10 : Nat
  T : Nat
  F : Nat
  N0 : Nat
/-- They are four blocks of the call's own, ahead of N0. -/
structure ChM.OK (M : ChM) (w : World) : Prop where
  h9 : w.heap.size ≤ M.b9 ∧ M.b9 < M.N0
  h10 : w.heap.size ≤ M.b10 ∧ M.b10 < M.N0
  hT : w.heap.size ≤ M.T ∧ M.T < M.N0
  hF : w.heap.size ≤ M.F ∧ M.F < M.N0
  n1 : M.b9 ≠ M.T ∧ M.b9 ≠ M.F ∧ M.b10 ≠ M.T ∧ M.b10 ≠ M.F ∧ M.T ≠ M.F
/-- What holds when i competitors are done, k are in the order, and from m on no row is made: all that is own lies ahead of block N1. -/
structure ChSt (w : World) (M : ChM) (pts : List (List Int)) (drop n i k m N1 : Nat) (v : Value) (W : World) : Prop where
  lt : Lt w W
  n0 : M.N0 ≤ N1 ∧ N1 ≤ W.heap.size
  own : ∀ b, v.ownBlock = some b → b < N1
  c9 : W.cell? ⟨M.b9, 0, none⟩ = some (.slice (some ⟨M.T, 0, none⟩) n n)
  c10 : W.cell? ⟨M.b10, 0, none⟩ = some (.slice (some ⟨M.F, 0, none⟩) n n)
  tot : IntsF W M.T n fun j => if j < i then champT pts drop j else 0
  totf : FreeF W M.T n
  fal : ∀ j, j < n → j < i → ∃ A c, W.cell? ⟨M.F, j, none⟩ = some (.slice A (fallP (nth pts j)).length c) ∧ Ints W A c (fallP (nth pts j)) ∧ ∀ b o, A = some ⟨b, o, none⟩ → M.N0 ≤ b ∧ b < N1 ∧ v.ownBlock ≠ some b
  fal0 : ∀ j, m ≤ j → j < n → W.cell? ⟨M.F, j, none⟩ = some (.slice none 0 0)
  falf : FreeF W M.F n
  ord : OwnI W M.N0 v (nums (List.range k))
  nil : k = 0 → v = .slice none 0 0
section
variable {w : World} {M : ChM} {pts : List (List Int)} {drop n i k m N1 : Nat} {v : Value} {W W' : World}
/-- What is newer changes, or grows. -/
theorem ChSt.grown {row : Option Nat} (h : ChSt w M pts drop n i k m N1 v W) (hM : M.OK w) (hg : W.grownBy W' row) (hr : ∀ k, row = some k → N1 ≤ k) : ChSt w M pts drop n i k m N1 v W' := by
  have hn := h.n0
  have ne : ∀ b, b < N1 → some b ≠ row := fun b hb e => by have := hr b e.symm; omega
  have m1 := hM.h9; have m2 := hM.h10; have m3 := hM.hT; have m4 := hM.hF
  refine ⟨h.lt.grown hg (fun k e => by have := hr k e; omega), ⟨hn.1, Nat.le_trans hn.2 hg.size⟩, h.own, grown_cell hg h.c9 (ne _ (by omega)), grown_cell hg h.c10 (ne _ (by omega)), h.tot.grown hg (ne _ (by omega)), h.totf.grown hg (ne _ (by omega)), fun j hj hi => ?_, fun j hi hj => grown_cell hg (h.fal0 j hi hj) (ne _ (by omega)), h.falf.grown hg (ne _ (by omega)), h.ord.keep hg (fun b hb => ne b (h.own b hb)), h.nil⟩
  obtain ⟨A, c, h1, h2, h3⟩ := h.fal j hj hi
  exact ⟨A, c, grown_cell hg h1 (ne _ (by omega)), h2.grown hg (fun b o e => ne b (h3 b o e).2.1), h3⟩
theorem ChSt.later (h : ChSt w M pts drop n i k m N1 v W) (hM : M.OK w) (hl : Lt W W') : ChSt w M pts drop n i k m N1 v W' := h.grown hM (grownBy_lt hl none) (fun k e => by cases e)
/-- The order grows by one. -/
theorem ChSt.appended {v1 : Value} (h : ChSt w M pts drop n i k m N1 v W) (hM : M.OK w) (hO : OwnI W' M.N0 v1 (nums (List.range k) ++ [(k : Int)])) (hg : W.grownBy W' v.ownBlock) (ha : ∀ b, v1.ownBlock = some b → v.ownBlock = some b ∨ W.heap.size ≤ b) : ChSt w M pts drop n i (k + 1) m W'.heap.size v1 W' := by
  have hn := h.n0
  have hb := h.ord.base_le
  have ne : ∀ b, b < M.N0 → some b ≠ v.ownBlock := fun b hb' e => by have := hb b e.symm; omega
  have m1 := hM.h9; have m2 := hM.h10; have m3 := hM.hT; have m4 := hM.hF
  have hz := hg.size
  refine ⟨h.lt.grown hg (fun k e => by have := hb k e; omega), ⟨by omega, Nat.le_refl _⟩, fun b e => hO.lt b e, grown_cell hg h.c9 (ne _ m1.2), grown_cell hg h.c10 (ne _ m2.2), h.tot.grown hg (ne _ m3.2), h.totf.grown hg (ne _ m3.2), fun j hj hi => ?_, fun j hi hj => grown_cell hg (h.fal0 j hi hj) (ne _ m4.2), h.falf.grown hg (ne _ m4.2), ?_, fun e => by omega⟩
  · obtain ⟨A, c, h1, h2, h3⟩ := h.fal j hj hi
    refine ⟨A, c, grown_cell hg h1 (ne _ m4.2), h2.grown hg (fun b o e e' => (h3 b o e).2.2 e'.symm), fun b o e => ⟨(h3 b o e).1, by have := (h3 b o e).2.1; omega, fun e' => ?_⟩⟩
    rcases ha b e' with e2 | e2
    · exact (h3 b o e).2.2 e2
    · have := (h3 b o e).2.1; omega
  · rw [List.range_succ, nums_append]; exact hO
/-- A row is laid down. -/
theorem ChSt.stored (h : ChSt w M pts drop n i k i N1 v W) (hM : M.OK w) (u : Value) : ChSt w M pts drop n i k (i + 1) N1 v (W.setCell ⟨M.F, i, none⟩ u) := by
  have hn := h.n0
  have hg := grownBy_setCell W M.F i u
  have m1 := hM.h9; have m2 := hM.h10; have m3 := hM.hT; have m4 := hM.hF; have m5 := hM.n1
  have ne : ∀ b, b ≠ M.F → some b ≠ some M.F := fun b hb e => hb (Option.some.inj e)
  have hF : ∀ j v, j ≠ i → W.cell? ⟨M.F, j, none⟩ = some v → (W.setCell ⟨M.F, i, none⟩ u).cell? ⟨M.F, j, none⟩ = some v := fun j v hj h =>
    (World.cell?_setCell_other _ _ _ _ (by intro e'; simp only [Addr.mk.injEq] at e'; omega)).trans h
  refine ⟨h.lt.setCell (p := ⟨M.F, i, none⟩) m4.1 u, ⟨hn.1, by simpa using hn.2⟩, h.own, grown_cell hg h.c9 (ne _ (by omega)), grown_cell hg h.c10 (ne _ (by omega)), h.tot.grown hg (ne _ (by omega)), h.totf.set, fun j hj hi => ?_, fun j hi hj => hF j _ (by omega) (h.fal0 j (by omega) hj), h.falf.set, h.ord.keep hg (fun b hb => ne b (by have := h.ord.base_le b hb; omega)), h.nil⟩
  obtain ⟨A, c, h1, h2, h3⟩ := h.fal j hj hi
  exact ⟨A, c, hF j _ (by omega) h1, h2.grown hg (fun b o e => ne b (by have := (h3 b o e).1; omega)), h3⟩
/-- The totals change. -/
theorem ChSt.summed (h : ChSt w M pts drop n i k (i + 1) N1 v W) (hM : M.OK w) (hg : W.grownBy W' (some M.T)) (hT : IntsF W' M.T n fun j => if j < i + 1 then champT pts drop j else 0) (hTf : ∀ j, j < n → W'.frozen? ⟨M.T, j, none⟩ = false) (hi : i < n)
    {A : Option Addr} {c : Nat} (hr : W.cell? ⟨M.F, i, none⟩ = some (.slice A (fallP (nth pts i)).length c)) (hI : Ints W A c (fallP (nth pts i))) (hA : ∀ b o, A = some ⟨b, o, none⟩ → N1 ≤ b ∧ b < W.heap.size) : ChSt w M pts drop n (i + 1) k (i + 1) W'.heap.size v W' := by
  have hn := h.n0
  have m1 := hM.h9; have m2 := hM.h10; have m3 := hM.hT; have m4 := hM.hF; have m5 := hM.n1
  have hz := hg.size
  have ne : ∀ b, b ≠ M.T → some b ≠ some M.T := fun b hb e => hb (Option.some.inj e)
  refine ⟨h.lt.grown hg (fun k e => by cases e; exact m3.1), ⟨by omega, Nat.le_refl _⟩, fun b e => by have := h.own b e; omega, grown_cell hg h.c9 (ne _ (by omega)), grown_cell hg h.c10 (ne _ (by omega)), hT, ⟨by have := h.totf.1; omega, fun j hj => ?_⟩, fun j hj hij => ?_, fun j hi hj => grown_cell hg (h.fal0 j hi hj) (ne _ (by omega)), h.falf.grown hg (ne _ (by omega)), h.ord.keep hg (fun b hb => ne b (by have := h.ord.base_le b hb; omega)), h.nil⟩
  · exact hTf j hj
  · by_cases e : j = i
    · subst e
      exact ⟨A, c, grown_cell hg hr (ne _ (by omega)), hI.grown hg (fun b o e => ne b (by have := (hA b o e).1; omega)), fun b o e => ⟨by have := (hA b o e).1; omega, by have := (hA b o e).2; omega, fun e' => by have := h.own b e'; have := (hA b o e).1; omega⟩⟩
    · obtain ⟨A', c', h1, h2, h3⟩ := h.fal j hj (by omega)
      exact ⟨A', c', grown_cell hg h1 (ne _ (by omega)), h2.grown hg (fun b o e => ne b (by have := (h3 b o e).1; omega)), fun b o e => ⟨(h3 b o e).1, by have := (h3 b o e).2.1; omega, (h3 b o e).2.2⟩⟩
end
/-- The start. -/
theorem ch_start {w W : World} {pts : List (List Int)} {drop n b9 b10 : Nat} (T F : Nat) (hl : Lt w W) (h9 : w.heap.size ≤ b9 ∧ b9 < W.heap.size) (h10 : w.heap.size ≤ b10 ∧ b10 < W.heap.size) (hT : w.heap.size ≤ T ∧ T < W.heap.size) (hF : w.heap.size ≤ F ∧ F < W.heap.size)
    (n1 : b9 ≠ T ∧ b9 ≠ F ∧ b10 ≠ T ∧ b10 ≠ F ∧ T ≠ F) (c9 : W.cell? ⟨b9, 0, none⟩ = some (.slice (some ⟨T, 0, none⟩) n n)) (c10 : W.cell? ⟨b10, 0, none⟩ = some (.slice (some ⟨F, 0, none⟩) n n))
    (ct : ∀ j, j < n → W.cell? ⟨T, j, none⟩ = some (.int .i64 0) ∧ W.frozen? ⟨T, j, none⟩ = false) (cf : ∀ j, j < n → W.cell? ⟨F, j, none⟩ = some (.slice none 0 0) ∧ W.frozen? ⟨F, j, none⟩ = false) :
    ∃ M : ChM, M.OK w ∧ Value.pointer (some ⟨b9, 0, none⟩) = .pointer (some ⟨M.b9, 0, none⟩) ∧ Value.pointer (some ⟨b10, 0, none⟩) = .pointer (some ⟨M.b10, 0, none⟩) ∧ ChSt w M pts drop n 0 0 0 M.N0 (.slice none 0 0) W :=
  ⟨⟨b9, b10, T, F, W.heap.size⟩, ⟨h9, h10, hT, hF, n1⟩, rfl, rfl, hl, ⟨Nat.le_refl _, Nat.le_refl _⟩, fun b e => by simp [Value.ownBlock] at e, c9, c10, fun j hj => (ct j hj).1, ⟨hT.2, fun j hj => (ct j hj).2⟩, fun j hj hi => absurd hi (Nat.not_lt_zero _), fun j _ hj => (cf j hj).1, ⟨hF.2, fun j hj => (cf j hj).2⟩, OwnI.nil _ _, fun _ => rfl⟩
theorem pts_of : ∀ (xs : List Int), (∀ i, i < xs.length → 0 ≤ nth xs i ∧ nth xs i ≤ 100000) → ∃ l : List Pt, l.map (fun x : Pt => x.val) = xs := by
  intro xs
  induction xs with
  | nil => intro _; exact ⟨[], rfl⟩
  | cons x xs ih =>
    intro h
    obtain ⟨l, hl⟩ := ih (fun i hi => h (i + 1) (by simpa using hi))
    exact ⟨⟨x, h 0 (by simp)⟩ :: l, by rw [List.map_cons, hl]⟩
theorem fall_pts (l : List Pt) : (l.mergeSort fun x y => !ltOf fallCmp y x).map (fun x : Pt => x.val) = fallP (l.map fun x : Pt => x.val) := by
  unfold fallP
  refine List.map_mergeSort fun a _ b _ => ?_
  unfold ltOf fallCmp
  by_cases h : b.val ≤ a.val
  · rw [decide_eq_true h, decide_eq_false (by omega)]; rfl
  · rw [decide_eq_false h, decide_eq_true (by omega)]; rfl
theorem c_fall (base : Nat) (v : Value) (xs : List Int) (w : World) (hx : ∀ i, i < xs.length → 0 ≤ nth xs i ∧ nth xs i ≤ 100000) (h : OwnI w base v xs) (hn : xs.length ≤ 1000000) :
    Calls Tryz.prog 68 #[v, .func (.func 83) #[] #[]] w fun e w' => e = .returned (.tuple #[]) ∧ OwnI w' base v (fallP xs) ∧ w.grownBy w' v.ownBlock := by
  obtain ⟨l, rfl⟩ := pts_of xs hx
  have := c_sortFunc (fun x : Pt => x.val) fallCmp fallCmp_law.swo (fun x y h1 h2 => by
    unfold ltOf fallCmp at h1 h2
    rw [decide_eq_false_iff_not] at h1 h2
    exact Pt.eq (by omega)) 83 #[] (enters_of Tryz.func83 (by kernel_rfl) rfl) base v l w h (by simpa using hn) (champ1_ok w _)
  rw [fall_pts] at this
  exact this
theorem c_clone (A : Option Addr) (c : Nat) (xs : List Int) (w : World) (h : Ints w A c xs) (hp : 0 < xs.length) (hn : xs.length ≤ 1000000) :
    Calls Tryz.prog 82 #[.slice A xs.length c] w fun e w' => ∃ A' c', e = .returned (.slice A' xs.length c') ∧ OwnI w' w.heap.size (.slice A' xs.length c') xs ∧ Lt w w' := by
  obtain ⟨b, o, rfl, hbl, hc⟩ := h.some_ hp
  refine (Tryz.slices_Clone_int b o xs.length c xs w (Nat.le_refl _) (by omega) (fun j hj => by
    have := hc.out j hj
    rw [this, nth_eq xs j hj]
    simp [List.getD, hj])).mono ?_
  rintro e w' ⟨v', rfl, ho, _, hb⟩
  rw [List.take_length] at ho
  have hO : OwnI w' w.heap.size v' xs := ho
  obtain ⟨A', c', rfl⟩ := hO.form
  exact ⟨A', c', rfl, hO, hb⟩
/-- While the points of competitor i are added up. -/
structure SumSt (T : Nat) (pts : List (List Int)) (drop n i j : Nat) (W4 W : World) : Prop where
  grown : W4.grownBy W (some T)
  tot : IntsF W T n fun x => if x = i then ((fallP (nth pts i)).take j).sum else if x < i then champT pts drop x else 0
  free : ∀ x, x < n → W.frozen? ⟨T, x, none⟩ = false
theorem SumSt.start {w : World} {M : ChM} {pts : List (List Int)} {drop n i k m N1 : Nat} {v : Value} {W : World} (h : ChSt w M pts drop n i k m N1 v W) : SumSt M.T pts drop n i 0 W W := by
  refine ⟨World.grownBy.refl _ _, fun x hx => ?_, h.totf.2⟩
  have := h.tot x hx
  dsimp only at this ⊢
  rw [this]
  by_cases e : x = i
  · subst e; simp
  · rw [if_neg e]
theorem SumSt.step {T : Nat} {pts : List (List Int)} {drop n i j : Nat} {W4 W : World} (h : SumSt T pts drop n i j W4 W) (hi : i < n) (hj : j < (fallP (nth pts i)).length) : SumSt T pts drop n i (j + 1) W4 (W.setCell ⟨T, i, none⟩ (.int .i64 (((fallP (nth pts i)).take j).sum + nth (fallP (nth pts i)) j))) := by
  refine ⟨World.grownBy.trans h.grown (grownBy_setCell _ _ _ _), fun x hx => ?_, fun x hx => by rw [World.frozen?_setCell]; exact h.free x hx⟩
  have := h.tot.set (((fallP (nth pts i)).take j).sum + nth (fallP (nth pts i)) j) hi x hx
  dsimp only at this ⊢
  rw [this]
  by_cases e : x = i
  · rw [if_pos e, if_pos e, sum_take_succ _ _ hj]
  · rw [if_neg e, if_neg e, if_neg e]
theorem SumSt.done {T : Nat} {pts : List (List Int)} {drop n i : Nat} {W4 W : World} (h : SumSt T pts drop n i ((nth pts i).length - drop) W4 W) : IntsF W T n fun j => if j < i + 1 then champT pts drop j else 0 := by
  intro x hx
  have := h.tot x hx
  dsimp only at this ⊢
  rw [this]
  by_cases e : x = i
  · subst e; rw [if_pos rfl, if_pos (by omega)]; rfl
  · rw [if_neg e]
    by_cases l : x < i
    · rw [if_pos l, if_pos (by omega)]
    · rw [if_neg l, if_neg (by omega)]
theorem fin_range (n : Nat) : (List.finRange n).map (fun k : Fin n => k.val) = List.range n := by
  refine List.ext_getElem (by simp) fun i h1 h2 => by simp
theorem fin_nums (n : Nat) : (List.finRange n).map (fun k : Fin n => ((k.val : Nat) : Int)) = nums (List.range n) := by
  rw [← fin_range n]; simp [nums]
theorem champ_fin (pts : List (List Int)) (drop : Nat) (n : Nat) (hn : n = pts.length) : ((List.finRange n).mergeSort fun x y => !tie (ltOf fun a b : Fin n => champCmp pts drop a.val b.val) (fun k : Fin n => ((k.val : Nat) : Int)) y x).map (fun k : Fin n => ((k.val : Nat) : Int)) = nums (champOrder pts drop) := by
  have h : ((List.finRange n).mergeSort fun x y => !tie (ltOf fun a b : Fin n => champCmp pts drop a.val b.val) (fun k : Fin n => ((k.val : Nat) : Int)) y x).map (fun k : Fin n => k.val) = (List.range n).mergeSort fun x y => !champLt pts drop y x := by
    rw [← fin_range n]
    exact List.map_mergeSort fun a _ b _ => rfl
  have h2 := congrArg nums h
  unfold champOrder
  rw [← hn, ← h2]
  simp [nums]

set_option maxHeartbeats 1000000 in
theorem c_stable_nil (fv : Value) (w : World) :
    Calls Tryz.prog 76 #[.slice none 0 0, fv] w fun e w' => e = .returned (.tuple #[]) ∧ w' = w := by
  have H1 : Hid (Calls Tryz.prog 116 #[.slice none 0 0, .int .i64 0, fv] w fun e w' => e = .returned (.tuple #[]) ∧ w' = w) := by
    have H2 := Lib.hid (Tryz.insertionSortCmpFunc_none (α := Int) none 0 fv w)
    refine Lib.hid ?_
    go_enter Tryz.func116, Tryz.ntmps116
    go_wp2_with fail
    refine wp_loop_rounds 1 ?_
    rw [rounds_succ]
    go_wp2_with fail
    refine H2.out.mono ?_
    rintro e w' ⟨rfl, rfl⟩
    go_wp2_with fail
    refine wp_loop_rounds 1 ?_
    rw [rounds_succ]
    go_wp2_with fail
    go_end0
    exact ⟨rfl, rfl⟩
  go_enter Tryz.func76, Tryz.ntmps76
  go_wp2_with fail
  refine H1.out.mono ?_
  rintro e w' ⟨rfl, rfl⟩
  go_wp2_with fail
  go_end0
  exact ⟨rfl, rfl⟩

theorem c_champSort {w : World} {M : ChM} {pts : List (List Int)} {drop n N1 : Nat} {v : Value} {W : World} (h : ChSt w M pts drop n n n n N1 v W) (hM : M.OK w) (hn : n = pts.length) (h20 : n ≤ 20) :
    Calls Tryz.prog 76 #[v, .func (.func 84) #[] #[.pointer (some ⟨M.b9, 0, none⟩), .pointer (some ⟨M.b10, 0, none⟩)]] W fun e w' => e = .returned (.tuple #[]) ∧ OwnI w' M.N0 v (nums (champOrder pts drop)) ∧ W.grownBy w' v.ownBlock := by
  by_cases h0 : 0 < n
  · haveI : Inhabited (Fin n) := ⟨⟨0, h0⟩⟩
    have hv := h.ord.base_le
    have m1 := hM.h9; have m2 := hM.h10; have m3 := hM.hT; have m4 := hM.hF
    have ne : ∀ b, b < M.N0 → some b ≠ v.ownBlock := fun b hb' e => by have := hv b e.symm; omega
    have hO : OwnI W M.N0 v ((List.finRange n).map fun k : Fin n => ((k.val : Nat) : Int)) := by rw [fin_nums]; exact h.ord
    have := c_stable (fun k : Fin n => ((k.val : Nat) : Int)) (fun x y e => Fin.ext (by omega)) (fun a b : Fin n => champCmp pts drop a.val b.val) ((champ_law pts drop).on fun k : Fin n => k.val).swo 84 #[.pointer (some ⟨M.b9, 0, none⟩), .pointer (some ⟨M.b10, 0, none⟩)] (enters_of Tryz.func84 (by kernel_rfl) rfl)
      M.N0 v (List.finRange n) (fun i j hij hj => by simp at hj; simp [show i < n by omega, hj]; omega) W hO (by simpa using h20) (by simpa using h0) ?_
    · rw [champ_fin pts drop n hn] at this
      exact this
    · intro W' hg x y
      refine c_champ2 pts drop n M.b9 M.b10 M.T M.F x.val y.val W' (grown_cell hg h.c9 (ne _ m1.2)) (grown_cell hg h.c10 (ne _ m2.2)) (fun j hj => ?_) (fun j hj => ?_) x.isLt y.isLt (by omega)
      · have := h.tot.grown hg (ne _ m3.2) j hj
        dsimp only at this
        rwa [if_pos hj] at this
      · obtain ⟨A, c, h1, h2, h3⟩ := h.fal j hj hj
        exact ⟨A, c, grown_cell hg h1 (ne _ m4.2), h2.grown hg (fun b o e e' => (h3 b o e).2.2 e'.symm)⟩
  · have e0 : n = 0 := by omega
    have hv : v = .slice none 0 0 := h.nil e0
    have hc : champOrder pts drop = [] := by unfold champOrder; rw [← hn, e0]; simp
    rw [hv, hc]
    exact (c_stable_nil _ W).mono fun e w' ⟨he, hw⟩ => ⟨he, by rw [hw]; exact OwnI.nil _ _, by rw [hw]; exact World.grownBy.refl _ _⟩
theorem champOrder_length (pts : List (List Int)) (drop : Nat) : (champOrder pts drop).length = pts.length := by simp [champOrder]
theorem champOrder_lt {pts : List (List Int)} {drop : Nat} {k : Nat} (hk : k < pts.length) : nth (champOrder pts drop) k < pts.length := by
  have h := nth_mem (champOrder pts drop) k (by rw [champOrder_length]; exact hk)
  have h2 : nth (champOrder pts drop) k ∈ List.range pts.length := (List.mergeSort_perm _ _).mem_iff.1 h
  simpa using h2
end Go.Proofs.YtdpcdmcmpfjbjaaGreat
/- Walks: Champions, where all is as defined. -/
namespace Go.Proofs.YtdpcdmcmpfjbjaaGreat
open Go.RowKit Go.Sort
set_option linter.unusedVariables false
set_option linter.unusedSimpArgs false
attribute [local go_sem] Later.cell Later.frozen Later.size Later.ne Later.cell1 Later.cell2 Later.cell3 Later.size1 Later.size2 Later.size3 Later.ne1 Later.ne2 Later.ne3

set_option maxHeartbeats 4000000 in
set_option maxRecDepth 100000 in
theorem c_Champions (A : Option Addr) (c : Nat) (pts : List (List Int)) (drop : Nat) (w : World) (h : Mat w A c pts) (hs : seasonOK pts drop) (hn : pts.length ≤ 20) :
    Calls Tryz.prog 31 #[.slice A pts.length c, .int .i64 (drop : Nat)] w fun e w' => ∃ oA oc sA sc, e = .returned (.tuple #[.slice oA pts.length oc, .slice sA pts.length sc, .int .i64 0]) ∧ ∃ q : Later w, w' = q.world ∧ Ints q.world oA oc (nums (champOrder pts drop)) ∧ Ints q.world sA sc ((champOrder pts drop).map (champT pts drop)) := by
  have hm := h.2.1
  have HM := Lib.hid h
  have HS := Lib.hid hs
  clear h hs
  have h5z : decide ((500 : Int) < (pts.length : Int)) = false := by rw [decide_eq_false_iff_not]; omega
  have hdz : decide ((drop : Int) < 0) = false := by rw [decide_eq_false_iff_not]; omega
  have hmk1 := run_makeInts pts.length (by omega)
  have hmk2 := run_makeRows pts.length (by omega)
  go_enter Tryz.func31, Tryz.ntmps31
  go_wp2_with fail
  go_loopw [28] (fun t wr => ∃ (k : Nat) (q : Later w), t = .int .i64 k ∧ wr = q.world ∧ k ≤ pts.length) (fun t _ => pts.length - (intOf t).toNat)
  case atStart => exact ⟨0, ⟨w, Lt.refl w⟩, rfl, rfl, Nat.zero_le _⟩
  case round =>
    obtain ⟨k, q, rfl, rfl, hk⟩ := hrel
    by_cases hlt : k < pts.length
    · have hlz : (k : Int) < pts.length := by omega
      obtain ⟨b, o, rfl, hbl, A1, c1, i1, r1⟩ := HM.out.at_ k hlt
      obtain ⟨b0, o0, e0, -, A0, c0, i0, r0⟩ := HM.out.at_ 0 (by omega)
      cases e0
      rw [Nat.add_zero] at r0
      have hpz : (0 : Int) < pts.length := by omega
      have hm1 := i1.2.1
      have hm0 := i0.2.1
      have l1 := (HS.out.2.2 k hlt).1
      have l2 := (HS.out.2.2 k hlt).2.1
      have l1b : (((nth pts k).length : Int) != ((nth pts 0).length : Int)) = false := by rw [bne_eq_false_iff_eq]; omega
      have l1c : ((nth pts k).length != (nth pts 0).length) = false := by rw [bne_eq_false_iff_eq]; omega
      have l2b : decide (((nth pts k).length : Int) ≤ (drop : Int)) = false := by rw [decide_eq_false_iff_not]; omega
      have l2c : decide ((nth pts k).length ≤ drop) = false := by rw [decide_eq_false_iff_not]; omega
      clear l1 l2
      have HT := Lib.hid (times_t q.world (i1.later q.lt) ((timesB_iff _ 1 40 100000).2 (HS.out.2.2 k hlt).2.2))
      clear i1 i0
      go_wp2_with fail
      refine (Calls.later (w := w) (R := fun e => e = _) q HT.out).mono ?_
      rintro e w' ⟨rfl, q1, rfl⟩
      go_wp2_with fail
      exact ⟨⟨k + 1, q1, by go_num, rfl, by omega⟩, by simp [intOf]; omega⟩
    · have hke : k = pts.length := by omega
      subst hke
      go_upto_region 9 with (fail)
      go_cut [9, 10] (fun s9 s10 wc => ∃ M : ChM, M.OK w ∧ s9 = .pointer (some ⟨M.b9, 0, none⟩) ∧ s10 = .pointer (some ⟨M.b10, 0, none⟩) ∧ ChSt w M pts drop pts.length 0 0 0 M.N0 (.slice none 0 0) wc)
      case first =>
        have hqs := q.lt.size
        go_region
        all_goals
          go_wp2_with fail
          go_meet
          first
            | (refine ch_start (q.world.heap.size) (q.world.heap.size + 1) ?_ ?_ ?_ ?_ ?_ ?_ ?_ ?_ ?_ ?_; rotate_left 5; (refine ⟨?_, ?_, ?_, ?_, ?_⟩ <;> omega); (simp [go_sem]); (simp [go_sem]); (intro j hj; simp [go_sem, made_get _ _ _ hj]); (intro j hj; simp [go_sem, made_get _ _ _ hj]); (exact ((((q.lt.alloc _).alloc _).alloc _).alloc _).drew); (simp; omega); (simp; omega); (simp; omega); (simp; omega))
            | (refine ch_start (q.world.heap.size + 1) (q.world.heap.size) ?_ ?_ ?_ ?_ ?_ ?_ ?_ ?_ ?_ ?_; rotate_left 5; (refine ⟨?_, ?_, ?_, ?_, ?_⟩ <;> omega); (simp [go_sem]); (simp [go_sem]); (intro j hj; simp [go_sem, made_get _ _ _ hj]); (intro j hj; simp [go_sem, made_get _ _ _ hj]); (exact ((((q.lt.alloc _).alloc _).alloc _).alloc _).drew); (simp; omega); (simp; omega); (simp; omega); (simp; omega))
            | (refine ch_start (q.world.heap.size) (q.world.heap.size + 1 + 1) ?_ ?_ ?_ ?_ ?_ ?_ ?_ ?_ ?_ ?_; rotate_left 5; (refine ⟨?_, ?_, ?_, ?_, ?_⟩ <;> omega); (simp [go_sem]); (simp [go_sem]); (intro j hj; simp [go_sem, made_get _ _ _ hj]); (intro j hj; simp [go_sem, made_get _ _ _ hj]); (exact ((((q.lt.alloc _).alloc _).alloc _).alloc _).drew); (simp; omega); (simp; omega); (simp; omega); (simp; omega))
            | (refine ch_start (q.world.heap.size + 1 + 1) (q.world.heap.size) ?_ ?_ ?_ ?_ ?_ ?_ ?_ ?_ ?_ ?_; rotate_left 5; (refine ⟨?_, ?_, ?_, ?_, ?_⟩ <;> omega); (simp [go_sem]); (simp [go_sem]); (intro j hj; simp [go_sem, made_get _ _ _ hj]); (intro j hj; simp [go_sem, made_get _ _ _ hj]); (exact ((((q.lt.alloc _).alloc _).alloc _).alloc _).drew); (simp; omega); (simp; omega); (simp; omega); (simp; omega))
            | (refine ch_start (q.world.heap.size) (q.world.heap.size + 1 + 1 + 1) ?_ ?_ ?_ ?_ ?_ ?_ ?_ ?_ ?_ ?_; rotate_left 5; (refine ⟨?_, ?_, ?_, ?_, ?_⟩ <;> omega); (simp [go_sem]); (simp [go_sem]); (intro j hj; simp [go_sem, made_get _ _ _ hj]); (intro j hj; simp [go_sem, made_get _ _ _ hj]); (exact ((((q.lt.alloc _).alloc _).alloc _).alloc _).drew); (simp; omega); (simp; omega); (simp; omega); (simp; omega))
            | (refine ch_start (q.world.heap.size + 1 + 1 + 1) (q.world.heap.size) ?_ ?_ ?_ ?_ ?_ ?_ ?_ ?_ ?_ ?_; rotate_left 5; (refine ⟨?_, ?_, ?_, ?_, ?_⟩ <;> omega); (simp [go_sem]); (simp [go_sem]); (intro j hj; simp [go_sem, made_get _ _ _ hj]); (intro j hj; simp [go_sem, made_get _ _ _ hj]); (exact ((((q.lt.alloc _).alloc _).alloc _).alloc _).drew); (simp; omega); (simp; omega); (simp; omega); (simp; omega))
            | (refine ch_start (q.world.heap.size + 1) (q.world.heap.size + 1 + 1) ?_ ?_ ?_ ?_ ?_ ?_ ?_ ?_ ?_ ?_; rotate_left 5; (refine ⟨?_, ?_, ?_, ?_, ?_⟩ <;> omega); (simp [go_sem]); (simp [go_sem]); (intro j hj; simp [go_sem, made_get _ _ _ hj]); (intro j hj; simp [go_sem, made_get _ _ _ hj]); (exact ((((q.lt.alloc _).alloc _).alloc _).alloc _).drew); (simp; omega); (simp; omega); (simp; omega); (simp; omega))
            | (refine ch_start (q.world.heap.size + 1 + 1) (q.world.heap.size + 1) ?_ ?_ ?_ ?_ ?_ ?_ ?_ ?_ ?_ ?_; rotate_left 5; (refine ⟨?_, ?_, ?_, ?_, ?_⟩ <;> omega); (simp [go_sem]); (simp [go_sem]); (intro j hj; simp [go_sem, made_get _ _ _ hj]); (intro j hj; simp [go_sem, made_get _ _ _ hj]); (exact ((((q.lt.alloc _).alloc _).alloc _).alloc _).drew); (simp; omega); (simp; omega); (simp; omega); (simp; omega))
            | (refine ch_start (q.world.heap.size + 1) (q.world.heap.size + 1 + 1 + 1) ?_ ?_ ?_ ?_ ?_ ?_ ?_ ?_ ?_ ?_; rotate_left 5; (refine ⟨?_, ?_, ?_, ?_, ?_⟩ <;> omega); (simp [go_sem]); (simp [go_sem]); (intro j hj; simp [go_sem, made_get _ _ _ hj]); (intro j hj; simp [go_sem, made_get _ _ _ hj]); (exact ((((q.lt.alloc _).alloc _).alloc _).alloc _).drew); (simp; omega); (simp; omega); (simp; omega); (simp; omega))
            | (refine ch_start (q.world.heap.size + 1 + 1 + 1) (q.world.heap.size + 1) ?_ ?_ ?_ ?_ ?_ ?_ ?_ ?_ ?_ ?_; rotate_left 5; (refine ⟨?_, ?_, ?_, ?_, ?_⟩ <;> omega); (simp [go_sem]); (simp [go_sem]); (intro j hj; simp [go_sem, made_get _ _ _ hj]); (intro j hj; simp [go_sem, made_get _ _ _ hj]); (exact ((((q.lt.alloc _).alloc _).alloc _).alloc _).drew); (simp; omega); (simp; omega); (simp; omega); (simp; omega))
            | (refine ch_start (q.world.heap.size + 1 + 1) (q.world.heap.size + 1 + 1 + 1) ?_ ?_ ?_ ?_ ?_ ?_ ?_ ?_ ?_ ?_; rotate_left 5; (refine ⟨?_, ?_, ?_, ?_, ?_⟩ <;> omega); (simp [go_sem]); (simp [go_sem]); (intro j hj; simp [go_sem, made_get _ _ _ hj]); (intro j hj; simp [go_sem, made_get _ _ _ hj]); (exact ((((q.lt.alloc _).alloc _).alloc _).alloc _).drew); (simp; omega); (simp; omega); (simp; omega); (simp; omega))
            | (refine ch_start (q.world.heap.size + 1 + 1 + 1) (q.world.heap.size + 1 + 1) ?_ ?_ ?_ ?_ ?_ ?_ ?_ ?_ ?_ ?_; rotate_left 5; (refine ⟨?_, ?_, ?_, ?_, ?_⟩ <;> omega); (simp [go_sem]); (simp [go_sem]); (intro j hj; simp [go_sem, made_get _ _ _ hj]); (intro j hj; simp [go_sem, made_get _ _ _ hj]); (exact ((((q.lt.alloc _).alloc _).alloc _).alloc _).drew); (simp; omega); (simp; omega); (simp; omega); (simp; omega))
      case rest =>
        clear q
        obtain ⟨M, hM, rfl, rfl, hst⟩ := hcut
        have HMM := Lib.hid hM
        have HST := Lib.hid hst
        clear hst hM
        go_wp2_with fail
        go_loopw [11, 59] (fun v t wr => ∃ (i N1 : Nat) (u : Value), u = v ∧ t = .int .i64 i ∧ i ≤ pts.length ∧ Hid (ChSt w M pts drop pts.length i i i N1 u wr)) (fun _ t _ => pts.length - (intOf t).toNat)
        case atStart => exact ⟨0, M.N0, _, rfl, rfl, Nat.zero_le _, HST⟩
        case round =>
          clear HST
          obtain ⟨i, N1, v, rfl, rfl, hi, HST⟩ := hrel
          by_cases hlt : i < pts.length
          · have hlz : (i : Int) < pts.length := by omega
            obtain ⟨b, o, rfl, hbl, A1, c1, i1, r0⟩ := HM.out.at_ i hlt
            have r1 := HST.out.lt.cell r0
            have hrow := HS.out.2.2 i hlt
            have hrm := i1.2.1
            have HR := Lib.hid hrow
            have HI := Lib.hid i1
            have HO := Lib.hid HST.out.ord
            have HN0 := Lib.hid (Nat.le_trans HST.out.n0.1 HST.out.n0.2)
            have HLN := Lib.hid (show (nums (List.range i)).length ≤ 1000000 by rw [nums_length, List.length_range]; omega)
            clear r0 hrow i1
            go_upto_region 15 with (first | (at_builtin; refine wp_appN M.N0 rfl _ _ rfl v (nums (List.range i)) i rfl rfl HO.out HN0.out HLN.out ?_; intro v1 W1 hO1 hg1 ha1))
            have hst1 := HST.out.appended HMM.out hO1 hg1 ha1
            have HST1 := Lib.hid hst1
            clear hst1 hO1 hg1 ha1 HST
            go_cut [] (fun wc => ∃ A' c', Hid (ChSt w M pts drop pts.length i (i + 1) (i + 1) W1.heap.size v1 wc) ∧ wc.cell? ⟨M.F, i, none⟩ = some (.slice A' (nth pts i).length c') ∧ Hid (OwnI wc W1.heap.size (.slice A' (nth pts i).length c') (nth pts i)))
            case first =>
              have c10 := HST1.out.c10
              have f0 := HST1.out.fal0 i (Nat.le_refl _) hlt
              have ff := HST1.out.falf.2 i hlt
              have fl := HST1.out.falf.1
              have HCL := Lib.hid (fun (W : World) (h : Lt W1 W) => c_clone A1 c1 (nth pts i) W (HI.out.later (HST1.out.lt.trans h)) (by have := HR.out.2.2.1; omega) (by have := HR.out.2.2.2.1; omega))
              go_region_with (first | (go_at_call 82; refine (HCL.out _ (Lt.refl W1).drew).mono ?_; rintro e w2 ⟨A', c', rfl, hO2, hl2⟩; have q2 := ((Lt.refl W1).drew.trans hl2); have c10' := q2.cell c10; have f0' := q2.cell f0; have ff' := (Below.frozen (p := ⟨M.F, i, none⟩) q2 fl).trans ff))
              all_goals
                go_wp2_with fail
                go_meet
                have hF := HMM.out.hF
                have hN := HST1.out.n0
                exact ⟨A', c', Lib.hid ((HST1.out.later HMM.out q2).stored HMM.out _), World.cell?_setCell_same _ _ _ f0', Lib.hid (hO2.keep (grownBy_setCell _ _ _ _) (fun k hk e => by have h1 := hO2.base_le k hk; have h2 : W1.heap.size ≤ k := h1; have := Option.some.inj e; omega))⟩
            case rest =>
              obtain ⟨A', c', HST3, f1, HO3⟩ := hcut
              clear HST1 HO HN0 HLN
              have c10 := HST3.out.c10
              have HF := Lib.hid (c_fall W1.heap.size _ (nth pts i) wc HR.out.2.2.2.2 HO3.out (by have := HR.out.2.2.2.1; omega))
              have hla : (nth pts i).length ≤ c' := HO3.out.ints.1
              have hdl : drop < (nth pts i).length := by have := HR.out.2.1; omega
              have hl40 : (nth pts i).length ≤ 40 := HR.out.2.2.2.1
              have hwd : IntKind.i64.wrap (((nth pts i).length : Int) - (drop : Int)) = (((nth pts i).length - drop : Nat) : Int) := by rw [show ((nth pts i).length : Int) - (drop : Int) = (((nth pts i).length - drop : Nat) : Int) by omega]; exact IntWalk.i64_in _ (by omega)
              go_wp2_with fail
              refine HF.out.mono ?_
              rintro e w4 ⟨rfl, hO4, hg4⟩
              have hF := HMM.out.hF
              have hN := HST3.out.n0
              have hne : some M.F ≠ (Value.slice A' (nth pts i).length c').ownBlock := fun e => by have := HO3.out.base_le _ e.symm; omega
              have f4 := grown_cell hg4 f1 hne
              have HST4 := Lib.hid (HST3.out.grown HMM.out hg4 (fun k hk => HO3.out.base_le k hk))
              have HO4 : Hid (OwnI w4 W1.heap.size (.slice A' (fallP (nth pts i)).length c') (fallP (nth pts i))) := Lib.hid (by rw [fallP_length]; exact hO4)
              have c104 := HST4.out.c10
              have c9 := HST4.out.c9
              clear hO4 hg4 HST3 HO3 HF c10 f1 hne hF hN
              go_wp2_with fail
              obtain ⟨K, hK⟩ : ∃ K, K = (nth pts i).length - drop := ⟨_, rfl⟩
              have hKp : 0 < K := by omega
              have hfl := fallP_length (nth pts i)
              have hKl : K ≤ (fallP (nth pts i)).length := by omega
              have hK1 : K ≤ 40 := by omega
              have HKE := Lib.hid hK
              have HI4 := Lib.hid HO4.out.ints
              have hFm := HI4.out.2.1
              have HBD := Lib.hid (fun x hx => fallP_bd HR.out.2.2.2.2 x hx)
              have HSB := Lib.hid (fun k (hk : k ≤ (fallP (nth pts i)).length) => sum_take_bd (l := fallP (nth pts i)) (m := 100000) (fun x hx => by have := fallP_bd HR.out.2.2.2.2 x (by rw [hfl] at hx; exact hx); omega) k hk)
              have HFL := Lib.hid hfl
              rw [← hK]
              clear hfl hK
              go_loopw [88] (fun t wr => ∃ j : Nat, t = .int .i64 j ∧ j ≤ K ∧ Hid (SumSt M.T pts drop pts.length i j w4 wr)) (fun t _ => K - (intOf t).toNat)
              case atStart => exact ⟨0, rfl, Nat.zero_le _, Lib.hid (SumSt.start HST4.out)⟩
              case round =>
                obtain ⟨j, rfl, hj, HSS⟩ := hrel
                by_cases hjl : j < K
                · have hjz : (j : Int) < (K : Int) := by omega
                  obtain ⟨rb, ro, rfl, hrb, hrc⟩ := HI4.out.at_ j (by omega)
                  have hT := HMM.out.hT
                  have h9 := HMM.out.n1
                  have hN := HST4.out.n0
                  have hbl := HO4.out.base_le rb rfl
                  have rc := grown_cell HSS.out.grown hrc (fun e => by have := Option.some.inj e; omega)
                  have c9' := grown_cell HSS.out.grown c9 (fun e => h9.1 (Option.some.inj e))
                  have t1 := HSS.out.tot i hlt
                  dsimp only at t1
                  rw [if_pos rfl] at t1
                  have tf := HSS.out.free i hlt
                  have b1 := HBD.out j (by have := HFL.out; omega)
                  have b2 := HSB.out j (by omega)
                  have hws : IntKind.i64.wrap (((fallP (nth pts i)).take j).sum + nth (fallP (nth pts i)) j) = ((fallP (nth pts i)).take j).sum + nth (fallP (nth pts i)) j := IntWalk.i64_in _ (by omega)
                  have HNX := Lib.hid (HSS.out.step hlt (by omega : j < (fallP (nth pts i)).length))
                  clear hT h9 hN hbl b1 b2 HSB HBD
                  generalize ((fallP (nth pts i)).take j).sum = S at *
                  go_wp2_with fail
                  exact ⟨⟨j + 1, by go_num, by omega, HNX⟩, by simp [intOf]; omega⟩
                · have hke : j = K := by omega
                  subst hke
                  go_wp2_with fail
                  have hd : SumSt M.T pts drop pts.length i ((nth pts i).length - drop) w4 wr := by rw [← HKE.out]; exact HSS.out
                  exact ⟨⟨i + 1, wr.heap.size, v1, rfl, by go_num, by omega, Lib.hid (HST4.out.summed HMM.out HSS.out.grown hd.done HSS.out.free hlt (by rw [HFL.out]; exact f4) HI4.out (fun b o e => by subst e; exact ⟨HO4.out.base_le b rfl, HO4.out.lt b rfl⟩))⟩, by simp [intOf]; omega⟩
          · have hie : i = pts.length := by omega
            subst hie
            have HSO := Lib.hid (c_champSort HST.out HMM.out rfl hn)
            have HB := Lib.hid HST.out.ord.base_le
            have hmf : ∀ (fn : Fn) (first cap : Array Value) (w : World), (Instr.makeFunc fn first cap).run Tryz.prog w = .ok (.func fn first cap) w := fun _ _ _ _ => rfl
            go_wp2_with fail
            refine HSO.out.mono ?_
            rintro e w5 ⟨rfl, hO5, hg5⟩
            have hl5 : Lt w w5 := HST.out.lt.grown hg5 (fun k hk => by have := HB.out k hk; have := HMM.out.h9; omega)
            have hne : ∀ b, b < M.N0 → some b ≠ v.ownBlock := fun b hb e => by have := HB.out b e.symm; omega
            have c9 := grown_cell hg5 HST.out.c9 (hne _ HMM.out.h9.2)
            have HT := Lib.hid (fun k (hk : k < pts.length) => (by
              have := HST.out.tot.grown hg5 (hne _ HMM.out.hT.2) k hk
              dsimp only at this
              rwa [if_pos hk] at this : w5.cell? ⟨M.T, k, none⟩ = some (.int .i64 (champT pts drop k))))
            obtain ⟨vA, vc, hv⟩ := hO5.form
            have hol : (nums (champOrder pts drop)).length = pts.length := by rw [nums_length, champOrder_length]
            rw [hol] at hv
            subst hv
            have HI5 : Hid (Ints w5 vA vc (nums (champOrder pts drop))) := Lib.hid (by
              have := hO5; rw [← hol] at this; exact this.ints)
            have HOL := Lib.hid hol
            clear hol hO5 hg5 hne HST HSO HB
            have HL5 := Lib.hid hl5
            go_wp2_with fail
            go_loopw [16, 106] (fun u t wr => ∃ (k : Nat) (q : Later w5) (u' : Value), u' = u ∧ t = .int .i64 k ∧ wr = q.world ∧ k ≤ pts.length ∧ Hid (OwnI q.world w5.heap.size u' (((champOrder pts drop).take k).map (champT pts drop)))) (fun _ t _ => pts.length - (intOf t).toNat)
            case atStart => exact ⟨0, ⟨w5, Lt.refl w5⟩, _, rfl, rfl, rfl, Nat.zero_le _, Lib.hid (OwnI.nil _ _)⟩
            case round =>
              obtain ⟨k, q, u, rfl, rfl, rfl, hk, HO⟩ := hrel
              by_cases hkl : k < pts.length
              · have hkz : (k : Int) < pts.length := by omega
                obtain ⟨vb, vo, rfl, hvb, hvc⟩ := HI5.out.at_ k (by rw [HOL.out]; exact hkl)
                rw [nth_nums _ _ (by rw [champOrder_length]; exact hkl)] at hvc
                have hol := champOrder_lt (drop := drop) hkl
                have holz : ((nth (champOrder pts drop) k : Nat) : Int) < pts.length := by omega
                have tc := HT.out _ hol
                have hTl : M.T < w5.heap.size := World.block_lt_of_cell? _ _ tc
                have h9l : M.b9 < w5.heap.size := World.block_lt_of_cell? _ _ c9
                have HN : Hid (((champOrder pts drop).take (k + 1)).map (champT pts drop) = ((champOrder pts drop).take k).map (champT pts drop) ++ [champT pts drop (nth (champOrder pts drop) k)]) := Lib.hid (by
                  rw [take_succ_nth _ k (by rw [champOrder_length]; exact hkl), List.map_append]; rfl)
                have HLN := Lib.hid (show (((champOrder pts drop).take k).map (champT pts drop)).length ≤ 1000000 by simp; omega)
                go_wp2_with (first | (at_builtin; refine wp_app (w0 := w5) rfl _ _ rfl u (((champOrder pts drop).take k).map (champT pts drop)) (champT pts drop (nth (champOrder pts drop) k)) rfl rfl HO.out q.lt HLN.out ?_; intro v1 q1 hO1 _))
                exact ⟨⟨k + 1, q1, _, rfl, by go_num, rfl, by omega, by rw [HN.out]; exact Lib.hid hO1⟩, by simp [intOf]; omega⟩
              · have hke : k = pts.length := by omega
                subst hke
                have hu := HO.out
                rw [List.take_of_length_le (by rw [champOrder_length]; exact Nat.le_refl _)] at hu
                obtain ⟨uA, uc, hf⟩ := hu.form
                rw [List.length_map, champOrder_length] at hf
                subst hf
                have HU : Hid (Ints q.world uA uc ((champOrder pts drop).map (champT pts drop))) := Lib.hid (by
                  have h2 := hu; rw [← champOrder_length pts drop, ← List.length_map (f := champT pts drop)] at h2; exact h2.ints)
                clear hu
                go_wp2_with fail
                go_ret3
                exact ⟨vA, vc, uA, uc, rfl, ⟨q.world, HL5.out.trans q.lt⟩, rfl, HI5.out.later q.lt, HU.out⟩
end Go.Proofs.YtdpcdmcmpfjbjaaGreat
