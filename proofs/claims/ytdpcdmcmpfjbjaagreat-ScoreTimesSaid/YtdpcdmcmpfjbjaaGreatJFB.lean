/- Plain laws of the reference's way to sort: each new one goes behind all that stay ahead of it; Walks: the reference's way to put a number into a list of its own. -/
import Derived.Test.YtdpcdmcmpfjbjaaGreatJS
import Derived.Test.YtdpcdmcmpfjbjaaGreatJG
import Derived.Test.YtdpcdmcmpfjbjaaGreatJI
import Derived.Laws.OwnMore
/- Plain laws of the reference's way to sort: each new one goes behind all that stay ahead of it. -/
namespace Go.Proofs.YtdpcdmcmpfjbjaaGreat
open Go.Sort
set_option linter.unusedVariables false
set_option linter.unusedSimpArgs false

/-- x behind all that f lets by. -/
def insW {α : Type} (f : α → Bool) (x : α) (l : List α) : List α := l.takeWhile f ++ x :: l.dropWhile f
def sortW {α : Type} (r : α → α → Bool) (l : List α) : List α := l.foldl (fun acc x => insW (fun y => r y x) x acc) []
theorem insW_perm {α : Type} (f : α → Bool) (x : α) (l : List α) : (insW f x l).Perm (x :: l) := by
  unfold insW
  refine List.perm_middle.trans ?_
  rw [List.takeWhile_append_dropWhile]
theorem insW_length {α : Type} (f : α → Bool) (x : α) (l : List α) : (insW f x l).length = l.length + 1 := (insW_perm f x l).length_eq
theorem insW_at {α : Type} [Inhabited α] (f : α → Bool) (x : α) : ∀ (l : List α) (k : Nat), k ≤ l.length → (∀ j, j < k → f (nth l j) = true) → (k = l.length ∨ k < l.length ∧ f (nth l k) = false) → insW f x l = l.take k ++ [x] ++ l.drop k := by
  intro l
  induction l with
  | nil =>
    intro k hk _ _
    obtain rfl : k = 0 := by simpa using hk
    rfl
  | cons a l ih =>
    intro k hk h1 h2
    cases k with
    | zero =>
      have : f a = false := by
        rcases h2 with h | h
        · simp at h
        · exact h.2
      unfold insW
      rw [List.takeWhile_cons, List.dropWhile_cons, this]
      rfl
    | succ k =>
      have ha : f a = true := h1 0 (by omega)
      have := ih k (by simpa using hk) (fun j hj => h1 (j + 1) (by omega)) (by
        rcases h2 with h | ⟨h, h'⟩
        · left; simpa using h
        · right; exact ⟨by simpa using h, h'⟩)
      unfold insW at this ⊢
      rw [List.takeWhile_cons, List.dropWhile_cons, ha, if_pos rfl, if_pos rfl, List.cons_append, this]
      rfl
theorem insW_sorted {α : Type} {r : α → α → Bool} (htr : ∀ a b c, r a b = true → r b c = true → r a c = true) (hto : ∀ a b, (r a b || r b a) = true) (x : α) (l : List α) (hs : l.Pairwise fun a b => r a b = true) :
    (insW (fun y => r y x) x l).Pairwise fun a b => r a b = true := by
  induction l with
  | nil => simp [insW]
  | cons a l ih =>
    unfold insW
    rw [List.takeWhile_cons, List.dropWhile_cons]
    rw [List.pairwise_cons] at hs
    cases h : r a x with
    | true =>
      simp only [if_true]
      rw [List.cons_append, List.pairwise_cons]
      refine ⟨fun y hy => ?_, ih hs.2⟩
      have := (insW_perm (fun y => r y x) x l).mem_iff.1 hy
      rw [List.mem_cons] at this
      rcases this with rfl | hy
      · exact h
      · exact hs.1 y hy
    | false =>
      simp only [Bool.false_eq_true, if_false, List.nil_append]
      have hxa : r x a = true := by have := hto x a; rw [h, Bool.or_false] at this; exact this
      rw [List.pairwise_cons]
      refine ⟨fun y hy => ?_, List.pairwise_cons.2 hs⟩
      rw [List.mem_cons] at hy
      rcases hy with rfl | hy
      · exact hxa
      · exact htr x a y hxa (hs.1 y hy)
theorem sortW_from {α : Type} {r : α → α → Bool} (htr : ∀ a b c, r a b = true → r b c = true → r a c = true) (hto : ∀ a b, (r a b || r b a) = true) : ∀ (l acc : List α), acc.Pairwise (fun a b => r a b = true) →
    (l.foldl (fun acc x => insW (fun y => r y x) x acc) acc).Perm (l ++ acc) ∧ (l.foldl (fun acc x => insW (fun y => r y x) x acc) acc).Pairwise (fun a b => r a b = true) := by
  intro l
  induction l with
  | nil => intro acc h; exact ⟨.refl _, h⟩
  | cons a l ih =>
    intro acc h
    obtain ⟨h1, h2⟩ := ih (insW (fun y => r y a) a acc) (insW_sorted htr hto a acc h)
    refine ⟨h1.trans ?_, h2⟩
    refine ((insW_perm _ a acc).append_left l).trans ?_
    exact List.perm_middle
theorem sortW_eq {α : Type} {r : α → α → Bool} (htr : ∀ a b c, r a b = true → r b c = true → r a c = true) (hto : ∀ a b, (r a b || r b a) = true) (l : List α) (han : ∀ a b, a ∈ l → b ∈ l → r a b = true → r b a = true → a = b) : l.mergeSort r = sortW r l := by
  obtain ⟨h1, h2⟩ := sortW_from htr hto l [] List.Pairwise.nil
  refine ms_eq htr hto l _ han ?_ h2
  rw [List.append_nil] at h1
  exact h1.symm
theorem sortW_snoc {α : Type} (r : α → α → Bool) (l : List α) (x : α) : sortW r (l ++ [x]) = insW (fun y => r y x) x (sortW r l) := by unfold sortW; rw [List.foldl_append]; rfl
theorem sortW_length {α : Type} (r : α → α → Bool) (l : List α) : (sortW r l).length = l.length := by
  have : ∀ (l acc : List α), (l.foldl (fun acc x => insW (fun y => r y x) x acc) acc).length = l.length + acc.length := by
    intro l
    induction l with
    | nil => intro acc; simp
    | cons a l ih => intro acc; rw [List.foldl_cons, ih, insW_length, List.length_cons]; omega
  simpa [sortW] using this l []
theorem sortP_W (l : List Int) : sortP l = sortW (fun a b => decide (a ≤ b)) l :=
  sortW_eq int_tr int_to l (fun a b _ _ h1 h2 => by rw [decide_eq_true_iff] at *; omega)
theorem fallP_W (l : List Int) : fallP l = sortW (fun a b => decide (b ≤ a)) l :=
  sortW_eq (fun a b c h1 h2 => int_tr c b a h2 h1) (fun a b => int_to b a) l (fun a b _ _ h1 h2 => by rw [decide_eq_true_iff] at *; omega)
end Go.Proofs.YtdpcdmcmpfjbjaaGreat
/- Walks: the reference's way to put a number into a list of its own. -/
namespace Go.Proofs.YtdpcdmcmpfjbjaaGreat
open Go.RowKit Go.WideShapes
set_option linter.unusedVariables false
set_option linter.unusedSimpArgs false
attribute [local go_sem] Later.cell Later.frozen Later.size Later.ne Later.cell1 Later.cell2 Later.cell3 Later.size1 Later.size2 Later.size3 Later.ne1 Later.ne2 Later.ne3

theorem Ints.takeI {w : World} {A : Option Addr} {c : Nat} {xs : List Int} (h : Ints w A c xs) (j : Nat) : Ints w A c (xs.take j) := by
  refine ⟨by rw [List.length_take]; have := h.1; omega, by rw [List.length_take]; have := h.2.1; omega, fun hp => ?_⟩
  rw [List.length_take] at hp
  obtain ⟨b, o, e, hb, hc⟩ := h.2.2 (by omega)
  refine ⟨b, o, e, hb, fun s hs => ?_⟩
  rw [List.length_take] at hs
  rw [nth_take _ _ _ (by omega)]
  exact hc s (by omega)
theorem nth_drop {α : Type} [Inhabited α] (l : List α) (k i : Nat) : nth (l.drop k) i = nth l (k + i) := by simp [nth, List.getD]
theorem Ints.dropI {w : World} {b o c : Nat} {xs : List Int} (h : Ints w (some ⟨b, o, none⟩) c xs) (j : Nat) : Ints w (some ⟨b, o + j, none⟩) (c - j) (xs.drop j) := by
  refine ⟨by rw [List.length_drop]; have := h.1; omega, by rw [List.length_drop]; have := h.2.1; omega, fun hp => ?_⟩
  rw [List.length_drop] at hp
  obtain ⟨b', o', e, hb, hc⟩ := h.2.2 (by omega)
  cases e
  refine ⟨b, o + j, rfl, hb, fun s hs => ?_⟩
  rw [List.length_drop] at hs
  rw [nth_drop]
  have := hc (j + s) (by omega)
  rw [Nat.mul_one] at this ⊢
  rw [Nat.add_assoc]; exact this
/-- The two parts of a list of numbers, cut at k, as Go cuts them. -/
theorem ints_cut {w : World} {A : Option Addr} {c : Nat} {xs : List Int} (h : Ints w A c xs) (hA : A = none → c = 0) (j : Nat) (hj : j ≤ xs.length) :
    ∃ D dc, (D = none → dc = 0) ∧ Ints w D dc (xs.drop j) ∧ (∀ W : World, (Instr.sliceAt 23 (.slice A xs.length c) none (some (.int .i64 (j : Nat))) none).run Tryz.prog W = .ok (.slice A j c) W) ∧
      ∀ W : World, (Instr.sliceAt 23 (.slice A xs.length c) (some (.int .i64 (j : Nat))) none none).run Tryz.prog W = .ok (.slice D (xs.length - j) dc) W := by
  have h1 := h.1
  have hm := h.2.1
  have e1 : ∀ W : World, (Instr.sliceAt 23 (.slice A xs.length c) none (some (.int .i64 (j : Nat))) none).run Tryz.prog W = .ok (.slice A j c) W := fun W => by
    have hjz : (0 : Int) ≤ (j : Int) := by omega
    have hjc : (j : Int) ≤ (c : Int) := by omega
    simp [go_sem, hjz, hjc]
  have e2 : ∀ W : World, (Instr.sliceAt 23 (.slice A xs.length c) (some (.int .i64 (j : Nat))) none none).run Tryz.prog W = .ok (.slice (if c = j then A else A.map fun a => a.add (j * 1)) (xs.length - j) (c - j)) W := fun W => by
    have hjz : (0 : Int) ≤ (j : Int) := by omega
    have hjl : (j : Int) ≤ (xs.length : Int) := by omega
    simp [go_sem, hjz, hjl]
  refine ⟨_, _, fun hD => ?_, ?_, e1, e2⟩
  · by_cases hc : c = j
    · rw [if_pos hc] at hD; have := hA hD; omega
    · rw [if_neg hc] at hD
      have : A = none := by cases A with
        | none => rfl
        | some a => cases hD
      have := hA this; omega
  · by_cases hp : j < xs.length
    · obtain ⟨b, o, e, hb, _⟩ := h.2.2 (by omega)
      subst e
      rw [if_neg (by omega)]
      have := h.dropI j
      have ea : (Option.map (fun a : Addr => a.add (j * 1)) (some ⟨b, o, none⟩)) = some ⟨b, o + j, none⟩ := by
        simp only [Option.map_some, Nat.mul_one]
        rw [add_plain]
      rw [ea]
      exact this
    · have hd : xs.drop j = [] := List.drop_eq_nil_of_le (by omega)
      rw [hd]
      exact ⟨Nat.zero_le _, by simp, fun h0 => absurd h0 (by simp)⟩

section
variable {ops : Array Oper} {o : Oper} {a : Act} {K : Act → World → Prop} {Q : Exit → Act → World → Prop} {E : Prop}
/-- append(s, x...), s a slice of numbers of the call's own, x any slice of numbers; as a step of a region that draws its order. -/
theorem step_appS {W : World} (base : Nat) (hgd : o.guard = none) (s x : Operand)
    (ho : o.op = .call { callee := .builtin .append, args := #[s, x], argTypes := #[23, 23] })
    (v : Value) (xs : List Int) (B : Option Addr) (n c : Nat) (ys : List Int) (hs : a.eval s = v) (hx : a.eval x = .slice B n c) (hn : ys.length = n) (hB : B = none → c = 0)
    (HO : OwnI W base v xs) (HY : Ints W B c ys) (hW : base ≤ W.heap.size) (hl : xs.length + ys.length ≤ 1000000)
    (h : ∀ (v1 : Value) (W1 : World), OwnI W1 base v1 (xs ++ ys) → W.grownBy W1 v.ownBlock → K (a.put o.dst v1) W1) :
    if Region.wanted o (yielded ops a.tmps) = true then Oper.wp Tryz.prog o a W K Q else E := by
  have hw : Region.wanted o (yielded ops a.tmps) = true := by simp [Region.wanted, hgd]
  rw [if_pos hw]
  subst hn
  obtain ⟨i0, hi, hzz⟩ := Option.map_eq_some_iff.1 info_int
  simp only [Prod.mk.injEq] at hzz
  obtain ⟨hz0, hz1, hz2⟩ := hzz
  cases B with
  | none =>
    have hc := hB rfl
    subst hc
    have hy : ys = [] := List.length_eq_zero_iff.1 (Nat.le_zero.1 HY.1)
    subst hy
    have hrun := run_append_owned_none (P := Tryz.prog) (w := W) base 23 o.type 3 i0 1 Tryz.underlying23 hi v xs.length _ HO
    unfold Oper.wp
    simp [execOp, ho, resolve, invoke, builtin, hs, hx, hrun, Result.andThen]
    exact h v W (by rw [List.append_nil]; exact HO) (World.grownBy.refl _ _)
  | some ad =>
    refine wp_append_own W s x 23 ho base 3 i0 (.int .i64 0) 1 8 Tryz.underlying23 hi hz0 hz1 hz2 rfl (by decide) v xs.length _ hs HO ad ys.length c (ys.map fun y => .int .i64 y) hx (by simp)
      (fun j u hu => ?_) (fun u hu => ?_) (by unfold maxLen; omega) (by omega) hW ?_
    · rw [List.getElem?_map, Option.map_eq_some_iff] at hu
      obtain ⟨y, hy, rfl⟩ := hu
      obtain ⟨hj, hy⟩ := List.getElem?_eq_some_iff.1 hy
      obtain ⟨b, o', e, _, hc⟩ := HY.at_ j hj
      cases e
      rw [add_plain, hc, nth_eq _ _ hj, hy]
    · rw [List.mem_map] at hu
      obtain ⟨y, _, rfl⟩ := hu
      simp [Value.oneCell']
    · intro v1 w1 hown hg _
      exact h v1 w1 (by unfold OwnI; simpa using hown) hg
end
theorem Lt.le {a b : World} (h : Lt a b) : a.heap.size ≤ b.heap.size := h.size
theorem OwnI.nil_cap {w : World} {base : Nat} {A : Option Addr} {n c : Nat} {xs : List Int} (h : OwnI w base (.slice A n c) xs) : A = none → c = 0 := by
  rintro rfl
  rcases h.2 with ⟨hv, _⟩ | ⟨g, cap, cur, hv, _⟩
  · injection hv with _ _ hc
  · injection hv with hA
    cases hA

set_option maxHeartbeats 1000000 in
set_option maxRecDepth 100000 in
theorem r_sorted (A : Option Addr) (c : Nat) (cards : List Card) (i : Nat) (L : Option Addr) (cL : Nat) (l : List Nat) (w : World) (hc : Cards w A c cards) (hl : Ints w L cL (nums l))
    (hlt : ∀ j, j < l.length → nth l j < cards.length ∧ i < (nth cards (nth l j)).lines.length) (hfew : l.length ≤ 1000) :
    Calls Tryz.prog 62 #[.slice A cards.length c, .int .i64 i, .slice L l.length cL] w fun e w' => ∃ B cap, e = .returned (.slice B l.length cap) ∧ ∃ q : Later w, w' = q.world ∧ Ints q.world B cap (sortedP cards l i) := by
  have HC := Lib.hid hc
  have HL := Lib.hid hl
  have HLT := Lib.hid hlt
  have hcm := hc.2.1
  clear hc hl hlt
  go_enter Tryz.func62, Tryz.ntmps62
  go_wp2_with fail
  go_loopw [7, 8] (fun v t wr => ∃ (k : Nat) (q : Later w) (v' : Value), v' = v ∧ t = .int .i64 k ∧ wr = q.world ∧ k ≤ l.length ∧ Hid (OwnI q.world w.heap.size v' (sortW (fun a b => decide (a ≤ b)) (timesOf cards (l.take k) i)))) (fun _ t _ => l.length - (intOf t).toNat)
  case atStart => exact ⟨0, ⟨w, Lt.refl w⟩, _, rfl, rfl, rfl, Nat.zero_le _, Lib.hid (OwnI.nil _ _)⟩
  case round =>
    obtain ⟨k, q, v, rfl, rfl, rfl, hk, HO⟩ := hrel
    by_cases hkl : k < l.length
    · have hkz : (k : Int) < l.length := by omega
      obtain ⟨lb, lo, rfl, hlb, hlc⟩ := HL.out.at_ k (by rw [nums_length]; exact hkl)
      rw [nth_nums _ _ hkl] at hlc
      obtain ⟨h1, h2⟩ := HLT.out k hkl
      obtain ⟨cb, co, rfl, hcb, cm, hcm, x0, x1, x2⟩ := HC.out.at_ _ h1
      obtain ⟨nb, no, hlA, hnb, n0, n1, n2, n3⟩ := hcm.lines.at_ i h2
      rw [hlA] at x2
      have h1z : ((nth l k : Nat) : Int) < cards.length := by omega
      have h2z : (i : Int) < (nth cards (nth l k)).lines.length := by omega
      clear hcm hlA
      obtain ⟨T, hT⟩ : ∃ T, sortW (fun a b => decide (a ≤ b)) (timesOf cards (l.take k) i) = T := ⟨_, rfl⟩
      rw [hT] at HO
      obtain ⟨vA, vc, hv⟩ := HO.out.form
      subst hv
      have HI := Lib.hid HO.out.ints
      have HNC := Lib.hid HO.out.nil_cap
      have hTl : T.length ≤ 1000 := by rw [← hT, sortW_length]; simp [timesOf]; omega
      go_wp2_with fail
      generalize hx : (nth (nth cards (nth l k)).lines i).time = x at *
      have HNX : Hid (∀ j, j ≤ T.length → (∀ s, s < j → nth T s ≤ x) → (j = T.length ∨ j < T.length ∧ ¬ nth T j ≤ x) → sortW (fun a b => decide (a ≤ b)) (timesOf cards (l.take (k + 1)) i) = T.take j ++ [x] ++ T.drop j) := Lib.hid fun j hj h1 h2 => by
        rw [take_succ_nth l k hkl]
        unfold timesOf at hT ⊢
        rw [List.map_append, List.map_cons, List.map_nil, sortW_snoc, hT, show tookP cards (nth l k) i = x from hx]
        refine insW_at _ x T j hj (fun s hs => decide_eq_true (h1 s hs)) ?_
        rcases h2 with h2 | ⟨h2, h3⟩
        · exact .inl h2
        · exact .inr ⟨h2, decide_eq_false h3⟩
      clear hx n0 n1 n2 n3 x0 x1 x2 hT
      go_loop [10] (fun t => ∃ j : Nat, t = .int .i64 j ∧ j ≤ T.length ∧ Hid (∀ s, s < j → nth T s ≤ x)) (fun t => T.length - (intOf t).toNat)
      case atStart => exact ⟨0, rfl, Nat.zero_le _, fun s hs => absurd hs (Nat.not_lt_zero _)⟩
      case round =>
        obtain ⟨j, rfl, hj, HJ⟩ := hrel
        by_cases hgo : j < T.length ∧ nth T j ≤ x
        · obtain ⟨hjl, hle⟩ := hgo
          have hjz : (j : Int) < T.length := by omega
          obtain ⟨vb, vo, rfl, hvb, hvc⟩ := HI.out.at_ j hjl
          have hleb : decide (nth T j ≤ x) = true := decide_eq_true hle
          go_wp2_with fail
          exact ⟨⟨j + 1, by go_num, by omega, fun s hs => by
            by_cases e : s = j
            · rw [e]; exact hle
            · exact HJ.out s (by omega)⟩, by simp [intOf]; omega⟩
        · have hwq := q.lt
          have HSTOP : Hid (j = T.length ∨ j < T.length ∧ ¬ nth T j ≤ x) := Lib.hid (by
            by_cases hjl : j < T.length
            · exact .inr ⟨hjl, fun h => hgo ⟨hjl, h⟩⟩
            · exact .inl (by omega))
          by_cases hjl : j < T.length
          case' pos =>
            have hjz : (j : Int) < T.length := by omega
            obtain ⟨vb, vo, hva, hvb, hvc⟩ := HI.out.at_ j hjl
            subst hva
            have hleb : decide (nth T j ≤ x) = false := decide_eq_false (fun h => hgo ⟨hjl, h⟩)
            clear hgo
            go_upto_region 9 with fail
            clear hvb hvc
            generalize (some (⟨vb, vo, none⟩ : Addr)) = vA at *
          case' neg =>
            clear hgo
            go_upto_region 9 with fail
          all_goals
            obtain ⟨D, dc, hDn, hDr, e1, e2⟩ := ints_cut HI.out HNC.out j hj
            have hTk := HI.out.takeI j
            have HTk := Lib.hid hTk
            have HDr := Lib.hid hDr
            have HDn := Lib.hid hDn
            have hlk : (T.take j).length = j := by rw [List.length_take]; omega
            have HLK := Lib.hid hlk
            have HLD := Lib.hid (show (T.drop j).length = T.length - j from List.length_drop)
            have HB0 := Lib.hid (show (Value.slice none 0 0).ownBlock = none from rfl)
            clear hDn hDr hTk hlk HI
            generalize q.world = WQ at *
            go_region_law (first
              | (refine step_appS WQ.heap.size rfl (.const (.slice none 0 0)) (.tmp 45) rfl (.slice none 0 0) [] vA j vc (T.take j) rfl ?_ HLK.out HNC.out (OwnI.nil _ _) (Ints.later HTk.out ?_) (Lt.le ?_) ?_ ?_
                 focus (simp [go_sem]; done)
                 focus (repeat (first | exact Lt.refl _ | refine Lt.alloc ?_ _ | refine Lt.drew ?_))
                 focus (repeat (first | exact Lt.refl _ | refine Lt.alloc ?_ _ | refine Lt.drew ?_))
                 focus (rw [HLK.out]; simp; omega)
                 intro v1 W1 hO1 hg1
                 have h1 : Lt WQ W1 := Lt.grown (by (repeat (first | exact Lt.refl _ | refine Lt.alloc ?_ _ | refine Lt.drew ?_))) hg1 (fun k hk => by simp [Value.ownBlock] at hk)
                 first
                 | have hX : Ints W1 (some ⟨WQ.heap.size, 0, none⟩) 1 [x] := Ints.grown (by first | exact Ints.new1 x | exact (Ints.new1 (w := WQ) x).later (Lt.refl _).drew | exact (Ints.new1 (w := WQ.drew) x)) hg1 (fun b o e e' => by simp [Value.ownBlock] at e')
                 | have hX : True := trivial)
              | (refine step_appS WQ.heap.size rfl (.tmp 46) (.tmp 48) rfl v1 (T.take j) (some ⟨W1.heap.size, 0, none⟩) 1 1 [x] rfl ?_ rfl (fun h => by cases h) (OwnI.later hO1 (Lt.trans (Lt.refl _) ?_)) ?_ (Lt.le ?_) ?_ ?_
                 focus (simp [go_sem]; done)
                 focus (repeat (first | exact Lt.refl _ | refine Lt.alloc ?_ _ | refine Lt.drew ?_))
                 focus (first | exact Ints.new1 x | exact (Ints.new1 x).later (Lt.refl _).drew)
                 focus (repeat (first | exact h1 | refine Lt.alloc ?_ _ | refine Lt.drew ?_))
                 focus (rw [HLK.out]; simp; omega)
                 intro v2 W2 hO2 hg2
                 have h2 : Lt WQ W2 := Lt.grown (by (repeat (first | exact h1 | refine Lt.alloc ?_ _ | refine Lt.drew ?_))) hg2 (fun k hk => hO1.base_le k hk))
              | (refine step_appS WQ.heap.size rfl (.tmp 46) (.tmp 48) rfl v1 (T.take j) (some ⟨WQ.heap.size, 0, none⟩) 1 1 [x] rfl ?_ rfl (fun h => by cases h) (OwnI.later hO1 (Lt.trans (Lt.refl _) ?_)) (Ints.later hX ?_) (Lt.le ?_) ?_ ?_
                 focus (simp [go_sem]; done)
                 focus (repeat (first | exact Lt.refl _ | refine Lt.alloc ?_ _ | refine Lt.drew ?_))
                 focus (repeat (first | exact Lt.refl _ | refine Lt.alloc ?_ _ | refine Lt.drew ?_))
                 focus (repeat (first | exact h1 | refine Lt.alloc ?_ _ | refine Lt.drew ?_))
                 focus (rw [HLK.out]; simp; omega)
                 intro v2 W2 hO2 hg2
                 have h2 : Lt WQ W2 := Lt.grown (by (repeat (first | exact h1 | refine Lt.alloc ?_ _ | refine Lt.drew ?_))) hg2 (fun k hk => hO1.base_le k hk))
              | (refine step_appS WQ.heap.size rfl (.tmp 49) (.tmp 52) rfl v2 (T.take j ++ [x]) D (T.length - j) dc (T.drop j) rfl ?_ HLD.out HDn.out (OwnI.later hO2 (Lt.trans (Lt.refl _) ?_)) (Ints.later HDr.out ?_) (Lt.le ?_) ?_ ?_
                 focus (simp [go_sem]; done)
                 focus (repeat (first | exact Lt.refl _ | refine Lt.alloc ?_ _ | refine Lt.drew ?_))
                 focus (repeat (first | exact h2 | refine Lt.alloc ?_ _ | refine Lt.drew ?_))
                 focus (repeat (first | exact h2 | refine Lt.alloc ?_ _ | refine Lt.drew ?_))
                 focus (simp; omega)
                 intro v3 W3 hO3 hg3
                 have h3 : Lt WQ W3 := Lt.grown (by (repeat (first | exact h2 | refine Lt.alloc ?_ _ | refine Lt.drew ?_))) hg3 (fun k hk => hO2.base_le k hk)))
            all_goals
              have HNEW := Lib.hid (show OwnI W3 w.heap.size v3 (sortW (fun a b => decide (a ≤ b)) (timesOf cards (l.take (k + 1)) i)) by
                rw [HNX.out j hj HJ.out HSTOP.out]
                exact hO3.base hwq.size)
              have hw3 := hwq.trans h3
              clear hO1 hO2 hO3 hg1 hg2 hg3 hX
              go_wp2_with fail
              exact ⟨⟨k + 1, ⟨W3, hw3⟩, v3, rfl, by go_num, rfl, by omega, HNEW⟩, by simp [intOf]; omega⟩
    · have hke : k = l.length := by omega
      subst hke
      obtain ⟨vA, vc, hv⟩ := HO.out.form
      rw [List.take_length, sortW_length] at hv
      have hlen : (timesOf cards l i).length = l.length := by simp [timesOf]
      rw [hlen] at hv
      subst hv
      have HR := Lib.hid (show Ints q.world vA vc (sortedP cards l i) by
        have h2 := HO.out
        rw [List.take_length, ← sortP_W] at h2
        unfold sortedP
        rw [← sortedP_length cards l i] at h2
        exact h2.ints)
      go_wp2_with fail
      go_ret
      exact ⟨vA, vc, rfl, q, rfl, HR.out⟩
end Go.Proofs.YtdpcdmcmpfjbjaaGreat
