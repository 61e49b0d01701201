/- How what came in reads: plans, cards, lists of numbers. -/
import Derived.Test.YtdpcdmcmpfjbjaaGreatJI
import Derived.Deep.Slices
import Derived.ChangeArms
import Derived.WideShapes
/- How what came in reads: plans, cards, lists of numbers. -/
namespace Go.Proofs.YtdpcdmcmpfjbjaaGreat
open Go.ChangeShapes Go.WideShapes Go.Deep
set_option linter.unusedVariables false
set_option linter.unusedSimpArgs false

section
variable {H : Type} (enc : TypeId × Value → H) (W : World)
/-- These cells read at that type. -/
def Rd (t : TypeId) (cs : List Value) : Prop := ∃ fuel x, DataW.trod enc Tryz.prog W 0 (fun _ => true) true fuel t cs = some x
end
section
variable {H : Type} {enc : TypeId × Value → H} {W : World}
theorem rd_int {t : TypeId} {cs : List Value} (ht : Tryz.prog.underlying t = some (.int .i64)) (h : Rd enc W t cs) : ∃ n, cs = [.int .i64 n] ∧ I64 n := by
  obtain ⟨fuel, x, h⟩ := h
  obtain ⟨n, h1, _, h2⟩ := DataW.trod_int ht h
  refine ⟨n, h1, ?_⟩
  simp only [Lit.wf, Bool.and_eq_true, decide_eq_true_iff] at h2
  exact h2
theorem rd_bool {t : TypeId} {cs : List Value} (ht : Tryz.prog.underlying t = some .bool) (h : Rd enc W t cs) : ∃ b, cs = [.bool b] := by
  obtain ⟨fuel, x, h⟩ := h
  obtain ⟨b, h1, _⟩ := DataW.trod_bool ht h
  exact ⟨b, h1⟩
theorem rd_struct {t : TypeId} {fs : Array Field} {cs : List Value} (ht : Tryz.prog.underlying t = some (.struct fs)) (h : Rd enc W t cs) :
    cs.length = Tryz.prog.cellsOf t ∧ ∀ (i : Nat) (f : Field), fs[i]? = some f → Rd enc W f.type ((cs.drop f.offset).take (Tryz.prog.cellsOf f.type)) := by
  obtain ⟨fuel, x, h⟩ := h
  obtain ⟨xs, n, _, _, hl, hx, hf⟩ := DataW.trod_struct ht h
  refine ⟨hl, fun i f hi => ?_⟩
  have hlt : i < xs.length := by rw [hx]; exact (Array.getElem?_eq_some_iff.1 hi).1
  exact ⟨n, xs[i], by rw [hf i f hi, List.getElem?_eq_getElem hlt]⟩
theorem list_cons {α : Type} {l : List α} {n : Nat} (h : l.length = n + 1) : ∃ a m, l = a :: m ∧ m.length = n := by
  cases l with
  | nil => simp at h
  | cons a m => exact ⟨a, m, rfl, by simpa using h⟩
theorem spot_of_cell {w : World} {a : Addr} {v : Value} (h : w.cell? a = some v) : a = ⟨a.block, a.off, none⟩ := by
  obtain ⟨b, o, s⟩ := a
  cases s with
  | none => rfl
  | some s =>
    unfold World.cell? at h
    split at h <;> simp at h
/-- A slice of elements of k cells each. -/
theorem rd_row {α : Type} [Inhabited α] {R : World → Nat → Nat → α → Prop} {Q : α → Prop} {k : Nat} {t e : TypeId} {cs : List Value} (ht : Tryz.prog.underlying t = some (.slice e)) (hk : Tryz.prog.cellsOf e = k) (h0 : 0 < k)
    (hel : ∀ b o cs, cs.length = k → (∀ j, j < k → W.cell? ⟨b, o + j, none⟩ = cs[j]?) → Rd enc W e cs → ∃ x, R W b o x ∧ Q x) (h : Rd enc W t cs) :
    ∃ A c xs, cs = [.slice A xs.length c] ∧ Row R k W A c xs ∧ ∀ i, i < xs.length → Q (nth xs i) := by
  obtain ⟨fuel, x, h⟩ := h
  rcases open_slice ht h with ⟨rfl, _⟩ | ⟨a, len, cap, m, n, D, Pl, rfl, _, hl, hm, hmm, _, hx⟩
  · exact ⟨none, 0, [], rfl, ⟨Nat.zero_le _, by simp, fun hp => absurd hp (by simp)⟩, fun i hi => absurd hi (by simp)⟩
  · simp only [if_true] at hmm
    have hmm' : cap = m := hmm.symm
    subst hmm'
    unfold maxLen at hm
    have hsp : 0 < len → a = ⟨a.block, a.off, none⟩ ∧ a.block < W.heap.size := fun hp => by
      obtain ⟨cs', h1, h2⟩ := hx 0 (by omega)
      obtain ⟨_, hc1, hc2⟩ := World.cells?_some h1
      have hc := hc2 0 (by omega)
      rw [List.getElem?_eq_getElem (by omega), Nat.zero_mul] at hc
      have : (a.add 0).add 0 = a := by simp [Addr.add]
      rw [this] at hc
      exact ⟨spot_of_cell hc, World.block_lt_of_cell? W a hc⟩
    have each : ∀ i, i < len → ∃ y : α, R W a.block (a.off + i * k) y ∧ Q y := fun i hi => by
      obtain ⟨cs', h1, h2⟩ := hx i (by omega)
      obtain ⟨_, hc1, hc2⟩ := World.cells?_some h1
      rw [hk] at hc1 hc2
      refine hel a.block (a.off + i * k) cs' hc1 (fun j hj => ?_) ⟨n, _, h2⟩
      have := hc2 j hj
      rw [Addr.add_add, (hsp (by omega)).1, add_plain] at this
      rw [← this, Nat.add_assoc]
    obtain ⟨f, hf⟩ := choose_lt each
    have hn : ∀ i, i < len → nth ((List.range len).map f) i = f i := fun i hi => by rw [nth_map f _ i (by simpa using hi), nth_eq _ _ (by simpa using hi)]; simp
    refine ⟨some a, cap, (List.range len).map f, by simp, ⟨by simpa using hl, by simp; omega, fun hp => ?_⟩, fun i hi => ?_⟩
    · rw [List.length_map, List.length_range] at hp
      refine ⟨a.block, a.off, by rw [← (hsp hp).1], (hsp hp).2, fun j hj => ?_⟩
      rw [List.length_map, List.length_range] at hj
      rw [hn j hj]
      exact (hf j hj).1
    · rw [List.length_map, List.length_range] at hi
      rw [hn i hi]
      exact (hf i hi).2
theorem rd_ints {t e : TypeId} {cs : List Value} (ht : Tryz.prog.underlying t = some (.slice e)) (he : Tryz.prog.underlying e = some (.int .i64)) (hk : Tryz.prog.cellsOf e = 1) (h : Rd enc W t cs) :
    ∃ A c xs, cs = [.slice A xs.length c] ∧ Ints W A c xs ∧ ∀ i, i < xs.length → I64 (nth xs i) :=
  rd_row (R := IntAt) ht hk (by omega) (fun b o cs hl hc hr => by
    obtain ⟨n, rfl, hn⟩ := rd_int he hr
    exact ⟨n, hc 0 (by omega), hn⟩) h
theorem int_ty : Tryz.prog.underlying 3 = some (.int .i64) := Tryz.underlying3
theorem cells_int : Tryz.prog.cellsOf 3 = 1 := by kernel_rfl
theorem cells_bool : Tryz.prog.cellsOf 4 = 1 := by kernel_rfl
theorem cells_ints : Tryz.prog.cellsOf 23 = 1 := by kernel_rfl
theorem cells_kind : Tryz.prog.cellsOf 45 = 1 := by kernel_rfl
theorem cells_mark : Tryz.prog.cellsOf 52 = 1 := by kernel_rfl
theorem cells_notional : Tryz.prog.cellsOf 24 = 1 := by kernel_rfl
theorem cells_items : Tryz.prog.cellsOf 22 = 1 := by kernel_rfl
theorem cells_lines : Tryz.prog.cellsOf 29 = 1 := by kernel_rfl
theorem cells_item : Tryz.prog.cellsOf 47 = 4 := by kernel_rfl
theorem cells_line : Tryz.prog.cellsOf 54 = 4 := by kernel_rfl
theorem cells_card : Tryz.prog.cellsOf 31 = 3 := by kernel_rfl
theorem cells_rules : Tryz.prog.cellsOf 26 = 12 := by kernel_rfl
theorem cells_plan : Tryz.prog.cellsOf 28 = 14 := by kernel_rfl
theorem rd_item {cs : List Value} (h : Rd enc W 47 cs) : ∃ x : Item, cs = [.int .i64 x.kind, .int .i64 x.leg, .int .i64 x.target, .bool x.free] ∧ I64 x.leg := by
  obtain ⟨hl, hf⟩ := rd_struct Tryz.underlying47 h
  rw [cells_item] at hl
  obtain ⟨c0, cs, rfl, hl1⟩ := list_cons hl
  obtain ⟨c1, cs, rfl, hl2⟩ := list_cons hl1
  obtain ⟨c2, cs, rfl, hl3⟩ := list_cons hl2
  obtain ⟨c3, cs, rfl, hl4⟩ := list_cons hl3
  obtain rfl := List.length_eq_zero_iff.1 hl4
  have f0 := hf 0 _ rfl
  have f1 := hf 1 _ rfl
  have f2 := hf 2 _ rfl
  have f3 := hf 3 _ rfl
  simp only [List.getElem_toArray, List.getElem_cons_zero, List.getElem_cons_succ, cells_kind, cells_int, cells_bool] at f0 f1 f2 f3
  obtain ⟨n0, e0, _⟩ := rd_int Tryz.underlying45 f0
  obtain ⟨n1, e1, i1⟩ := rd_int int_ty f1
  obtain ⟨n2, e2, _⟩ := rd_int int_ty f2
  obtain ⟨n3, e3⟩ := rd_bool Tryz.underlying4 f3
  simp at e0 e1 e2 e3
  subst e0 e1 e2 e3
  exact ⟨⟨n0, n1, n2, n3⟩, rfl, i1⟩
theorem rd_line {cs : List Value} (h : Rd enc W 54 cs) : ∃ x : Line, cs = [.int .i64 x.minute, .int .i64 x.time, .bool x.jump, .int .i64 x.mark] := by
  obtain ⟨hl, hf⟩ := rd_struct Tryz.underlying54 h
  rw [cells_line] at hl
  obtain ⟨c0, cs, rfl, hl1⟩ := list_cons hl
  obtain ⟨c1, cs, rfl, hl2⟩ := list_cons hl1
  obtain ⟨c2, cs, rfl, hl3⟩ := list_cons hl2
  obtain ⟨c3, cs, rfl, hl4⟩ := list_cons hl3
  obtain rfl := List.length_eq_zero_iff.1 hl4
  have f0 := hf 0 _ rfl
  have f1 := hf 1 _ rfl
  have f2 := hf 2 _ rfl
  have f3 := hf 3 _ rfl
  simp only [List.getElem_toArray, List.getElem_cons_zero, List.getElem_cons_succ, cells_mark, cells_int, cells_bool] at f0 f1 f2 f3
  obtain ⟨n0, e0, _⟩ := rd_int int_ty f0
  obtain ⟨n1, e1, _⟩ := rd_int int_ty f1
  obtain ⟨n2, e2⟩ := rd_bool Tryz.underlying4 f2
  obtain ⟨n3, e3, _⟩ := rd_int Tryz.underlying52 f3
  simp at e0 e1 e2 e3
  subst e0 e1 e2 e3
  exact ⟨⟨n0, n1, n2, n3⟩, rfl⟩
theorem rd_items {cs : List Value} (h : Rd enc W 22 cs) : ∃ A c xs, cs = [.slice A xs.length c] ∧ Items W A c xs ∧ ∀ i, i < xs.length → I64 (nth xs i).leg :=
  rd_row (R := ItemAt) (Q := fun x => I64 x.leg) Tryz.underlying22 cells_item (by omega) (fun b o cs hl hc hr => by
    obtain ⟨x, rfl, hx⟩ := rd_item hr
    exact ⟨x, ⟨hc 0 (by omega), hc 1 (by omega), hc 2 (by omega), hc 3 (by omega)⟩, hx⟩) h
theorem rd_lines {cs : List Value} (h : Rd enc W 29 cs) : ∃ A c xs, cs = [.slice A xs.length c] ∧ Lines W A c xs := by
  obtain ⟨A, c, xs, h1, h2, _⟩ := rd_row (R := LineAt) (Q := fun _ => True) Tryz.underlying29 cells_line (by omega) (fun b o cs hl hc hr => by
    obtain ⟨x, rfl⟩ := rd_line hr
    exact ⟨x, ⟨hc 0 (by omega), hc 1 (by omega), hc 2 (by omega), hc 3 (by omega)⟩, trivial⟩) h
  exact ⟨A, c, xs, h1, h2⟩
theorem rd_card {cs : List Value} (h : Rd enc W 31 cs) : ∃ (m : CardM) (x : Card), cs = (cardC m x).toList ∧ CardIs W m x ∧ CardWf x := by
  obtain ⟨hl, hf⟩ := rd_struct Tryz.underlying31 h
  rw [cells_card] at hl
  obtain ⟨c0, cs, rfl, hl1⟩ := list_cons hl
  obtain ⟨c1, cs, rfl, hl2⟩ := list_cons hl1
  obtain ⟨c2, cs, rfl, hl3⟩ := list_cons hl2
  obtain rfl := List.length_eq_zero_iff.1 hl3
  have f0 := hf 0 _ rfl
  have f1 := hf 1 _ rfl
  have f2 := hf 2 _ rfl
  simp only [List.getElem_toArray, List.getElem_cons_zero, List.getElem_cons_succ, cells_int, cells_ints, cells_lines] at f0 f1 f2
  obtain ⟨n0, e0, i0⟩ := rd_int int_ty f0
  obtain ⟨sA, sc, xs, e1, h1, _⟩ := rd_ints Tryz.underlying23 int_ty cells_int f1
  obtain ⟨lA, lc, ys, e2, h2⟩ := rd_lines f2
  simp at e0 e1 e2
  subst e0 e1 e2
  exact ⟨⟨sA, sc, lA, lc⟩, ⟨n0, xs, ys⟩, rfl, ⟨h1, h2⟩, i0⟩
theorem rd_cards {cs : List Value} (h : Rd enc W 34 cs) : ∃ A c xs, cs = [.slice A xs.length c] ∧ Cards W A c xs ∧ ∀ i, i < xs.length → CardWf (nth xs i) :=
  rd_row (R := CardAt) (Q := CardWf) Tryz.underlying34 cells_card (by omega) (fun b o cs hl hc hr => by
    obtain ⟨m, x, rfl, hx, hw⟩ := rd_card hr
    exact ⟨x, ⟨m, hx, hc 0 (by omega), hc 1 (by omega), hc 2 (by omega)⟩, hw⟩) h
theorem rd_plan {cs : List Value} (h : Rd enc W 28 cs) : ∃ (m : PlanM) (p : Plan), cs = (planC m p).toList ∧ PlanIs W m p ∧ PlanWf p := by
  obtain ⟨hl, hf⟩ := rd_struct Tryz.underlying28 h
  rw [cells_plan] at hl
  obtain ⟨c0, cs, rfl, hl1⟩ := list_cons hl
  obtain ⟨c1, cs, rfl, hl2⟩ := list_cons hl1
  obtain ⟨d0, cs, rfl, hl3⟩ := list_cons hl2
  obtain ⟨d1, cs, rfl, hl4⟩ := list_cons hl3
  obtain ⟨d2, cs, rfl, hl5⟩ := list_cons hl4
  obtain ⟨d3, cs, rfl, hl6⟩ := list_cons hl5
  obtain ⟨d4, cs, rfl, hl7⟩ := list_cons hl6
  obtain ⟨d5, cs, rfl, hl8⟩ := list_cons hl7
  obtain ⟨d6, cs, rfl, hl9⟩ := list_cons hl8
  obtain ⟨d7, cs, rfl, hl10⟩ := list_cons hl9
  obtain ⟨d8, cs, rfl, hl11⟩ := list_cons hl10
  obtain ⟨d9, cs, rfl, hl12⟩ := list_cons hl11
  obtain ⟨d10, cs, rfl, hl13⟩ := list_cons hl12
  obtain ⟨d11, cs, rfl, hl14⟩ := list_cons hl13
  obtain rfl := List.length_eq_zero_iff.1 hl14
  have f0 := hf 0 _ rfl
  have f1 := hf 1 _ rfl
  have f2 := hf 2 _ rfl
  simp only [List.getElem_toArray, List.getElem_cons_zero, List.getElem_cons_succ, cells_int, cells_items, cells_rules] at f0 f1 f2
  obtain ⟨iA, ic, xs, e0, h0, w0⟩ := rd_items f0
  obtain ⟨n1, e1, _⟩ := rd_int int_ty f1
  simp at e0 e1
  subst e0 e1
  obtain ⟨_, hg⟩ := rd_struct Tryz.underlying26 f2
  have g0 := hg 0 _ rfl
  have g1 := hg 1 _ rfl
  have g2 := hg 2 _ rfl
  have g3 := hg 3 _ rfl
  have g4 := hg 4 _ rfl
  have g5 := hg 5 _ rfl
  have g6 := hg 6 _ rfl
  have g7 := hg 7 _ rfl
  have g8 := hg 8 _ rfl
  have g9 := hg 9 _ rfl
  have g10 := hg 10 _ rfl
  have g11 := hg 11 _ rfl
  simp only [List.getElem_toArray, List.getElem_cons_zero, List.getElem_cons_succ, cells_int, cells_ints, cells_bool, cells_notional] at g0 g1 g2 g3 g4 g5 g6 g7 g8 g9 g10 g11
  obtain ⟨a0, e0, _⟩ := rd_int int_ty g0
  obtain ⟨a1, e1, _⟩ := rd_int int_ty g1
  obtain ⟨a2, e2, _⟩ := rd_int int_ty g2
  obtain ⟨a3, e3, _⟩ := rd_int int_ty g3
  obtain ⟨jA, jc, js, e4, h4, _⟩ := rd_ints Tryz.underlying23 int_ty cells_int g4
  obtain ⟨a5, e5⟩ := rd_bool Tryz.underlying4 g5
  obtain ⟨a6, e6, _⟩ := rd_int int_ty g6
  obtain ⟨a7, e7, _⟩ := rd_int Tryz.underlying24 g7
  obtain ⟨a8, e8, _⟩ := rd_int int_ty g8
  obtain ⟨a9, e9, w9⟩ := rd_int int_ty g9
  obtain ⟨pA, pc, ps, e10, h10, _⟩ := rd_ints Tryz.underlying23 int_ty cells_int g10
  obtain ⟨eA, ec, es, e11, h11, _⟩ := rd_ints Tryz.underlying23 int_ty cells_int g11
  simp at e0 e1 e2 e3 e4 e5 e6 e7 e8 e9 e10 e11
  subst e0 e1 e2 e3 e4 e5 e6 e7 e8 e9 e10 e11
  exact ⟨⟨iA, ic, jA, jc, pA, pc, eA, ec⟩, ⟨xs, n1, a0, a1, a2, a3, js, a5, a6, a7, a8, a9, ps, es⟩, rfl, ⟨h0, h4, h10, h11⟩, ⟨w0, w9⟩⟩
end
end Go.Proofs.YtdpcdmcmpfjbjaaGreat
