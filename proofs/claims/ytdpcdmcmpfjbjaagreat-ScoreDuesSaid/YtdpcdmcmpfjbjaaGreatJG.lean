/- Walks: begin: an event of a plan and cards; Walks: begin, where a plan or a card is not as defined. -/
import Derived.Test.YtdpcdmcmpfjbjaaGreatJC
import Derived.Test.YtdpcdmcmpfjbjaaGreatJF
import Derived.Deep.RegionLaw
/- Walks: begin: an event of a plan and cards. -/
namespace Go.Proofs.YtdpcdmcmpfjbjaaGreat
open Go.RowKit
set_option linter.unusedVariables false
set_option linter.unusedSimpArgs false
attribute [local go_sem] Later.cell Later.frozen Later.size Later.ne Later.cell1 Later.cell2 Later.cell3 Later.size1 Later.size2 Later.size3 Later.ne1 Later.ne2 Later.ne3

/-- A list of numbers of the call's own, in later words of the base. -/
theorem OwnI.base {w : World} {b b' : Nat} {v : Value} {xs : List Int} (h : OwnI w b v xs) (hb : b' ≤ b) : OwnI w b' v xs := by
  obtain ⟨h1, h2⟩ := h
  refine ⟨h1, ?_⟩
  rcases h2 with h2 | ⟨g, cap, cur, rfl, hg, r⟩
  · exact .inl h2
  · exact .inr ⟨g, cap, cur, rfl, Nat.le_trans hb hg, r⟩

section
variable {ops : Array Oper} {o : Oper} {a : Act} {K : Act → World → Prop} {Q : Exit → Act → World → Prop} {E : Prop}
/-- append of one number to an own slice, as a step of a region that draws its order. -/
theorem step_app {W : World} (base : Nat) (hgd : o.guard = none) (s x : Operand)
    (ho : o.op = .call { callee := .builtin .append, args := #[s, x], argTypes := #[23, 23] })
    (v : Value) (xs : List Int) (y : Int) (hs : a.eval s = v) (hx : a.eval x = .slice (some ⟨W.heap.size, 0, none⟩) 1 1)
    (HO : OwnI W base v xs) (hW : base ≤ W.heap.size) (hl : xs.length ≤ 1000000)
    (h : ∀ (v1 : Value) (W1 : World), OwnI W1 base v1 (xs ++ [y]) → W.grownBy W1 v.ownBlock → K (a.put o.dst v1) W1) :
    if Region.wanted o (yielded ops a.tmps) = true then Oper.wp Tryz.prog o a (W.alloc (.cells #[.int .i64 y] 3)) K Q else E := by
  have hw : Region.wanted o (yielded ops a.tmps) = true := by simp [Region.wanted, hgd]
  rw [if_pos hw]
  obtain ⟨i0, hi, hzz⟩ := Option.map_eq_some_iff.1 info_int
  simp only [Prod.mk.injEq] at hzz
  obtain ⟨hz0, hz1, hz2⟩ := hzz
  refine wp_append_own (W.alloc (.cells #[.int .i64 y] 3)) s x 23 ho base 3 i0 (.int .i64 0) 1 8 Tryz.underlying23 hi hz0 hz1 hz2 rfl (by decide) v xs.length _ hs (HO.later ((Lt.refl W).alloc _)) ⟨W.heap.size, 0, none⟩ 1 1 [.int .i64 y] hx rfl
    (cell_one_new _ _ _) (by simp [Value.oneCell']) (by unfold maxLen; omega) (by omega) (by rw [World.size_alloc]; exact Nat.le_succ_of_le hW) ?_
  intro v1 w1 hown hg _
  have hg' : W.grownBy w1 v.ownBlock := World.grownBy.trans (World.grownBy_alloc W _ _) hg
  exact h v1 w1 (by unfold OwnI; simpa using hown) hg'
end

/-- What begin's event holds while its list of outs grows. -/
structure EvPart (w : World) (g : Nat) (m : PlanM) (p : Plan) (A : Option Addr) (c : Nat) (cards : List Card) (v : Value) : Prop where
  plan : PlanAt w g m p
  cars : w.cell? ⟨g, 14, none⟩ = some (.slice A cards.length c)
  outs : w.cell? ⟨g, 15, none⟩ = some v
  free : w.frozen? ⟨g, 15, none⟩ = false
theorem EvPart.later {w w1 : World} {g : Nat} {m : PlanM} {p : Plan} {A : Option Addr} {c : Nat} {cards : List Card} {v : Value} (h : EvPart w g m p A c cards v) (hl : Lt w w1) : EvPart w1 g m p A c cards v :=
  ⟨h.plan.later hl, hl.cell h.cars, hl.cell h.outs, (Below.frozen (p := ⟨g, 15, none⟩) hl (World.block_lt_of_cell? w _ h.outs)).trans h.free⟩
theorem EvPart.set {w : World} {g : Nat} {m : PlanM} {p : Plan} {A : Option Addr} {c : Nat} {cards : List Card} {v : Value} (h : EvPart w g m p A c cards v) (u : Value) : EvPart (w.setCell ⟨g, 15, none⟩ u) g m p A c cards u := by
  refine ⟨fun i x e => ?_, ?_, ?_, ?_⟩
  · have hi : i ≠ 15 := fun h => by subst h; simp [planC] at e
    have := h.plan i x e
    simp [go_sem, this, hi]
  · simp [go_sem, h.cars]
  · simp [go_sem, h.outs]
  · simp [go_sem, h.outs, h.free]

theorem EvPart.lt {w : World} {g : Nat} {m : PlanM} {p : Plan} {A : Option Addr} {c : Nat} {cards : List Card} {v : Value} (h : EvPart w g m p A c cards v) : g < w.heap.size := World.block_lt_of_cell? w _ h.outs
theorem EvPart.grown {w w1 : World} {g : Nat} {m : PlanM} {p : Plan} {A : Option Addr} {c : Nat} {cards : List Card} {v : Value} {row : Option Nat} (h : EvPart w g m p A c cards v) (hg : w.grownBy w1 row) (hr : ∀ k, row = some k → g < k) : EvPart w1 g m p A c cards v := by
  have hb : w1.heap[g]? = w.heap[g]? := hg.block g h.lt (fun e => by have := hr g e.symm; omega)
  exact ⟨fun i x e => (World.cell?_of_block (a := ⟨g, i, none⟩) hb).trans (h.plan i x e), (World.cell?_of_block (a := ⟨g, 14, none⟩) hb).trans h.cars, (World.cell?_of_block (a := ⟨g, 15, none⟩) hb).trans h.outs, (World.frozen?_of_block (a := ⟨g, 15, none⟩) hb).trans h.free⟩

theorem PlanAt.block {w w1 : World} {B : Nat} {m : PlanM} {p : Plan} (h : PlanAt w B m p) (hb : w1.heap[B]? = w.heap[B]?) : PlanAt w1 B m p := fun i v e => (World.cell?_of_block (a := ⟨B, i, none⟩) hb).trans (h i v e)

def outsTo (p : Plan) (cards : List Card) (k : Nat) : List Int := (cards.take k).map (outP p)
theorem outsTo_succ (p : Plan) (cards : List Card) (k : Nat) (h : k < cards.length) : outsTo p cards (k + 1) = outsTo p cards k ++ [outP p (nth cards k)] := by
  unfold outsTo; rw [take_succ_nth cards k h, List.map_append]; rfl
theorem outsTo_all (p : Plan) (cards : List Card) : outsTo p cards cards.length = cards.map (outP p) := by unfold outsTo; rw [List.take_length]

set_option maxHeartbeats 4000000 in
set_option maxRecDepth 100000 in
theorem c_begin (m : PlanM) (p : Plan) (A : Option Addr) (c : Nat) (cards : List Card) (w : World) (hp : PlanIs w m p) (wf : PlanWf p) (hc : Cards w A c cards) (hP : PlanOK p) (hO : cardsOK p cards) :
    Calls Tryz.prog 53 #[planV m p, .slice A cards.length c] w fun e w' => ∃ (g : Nat) (oA : Option Addr) (oc : Nat), e = .returned (.tuple #[.pointer (some ⟨g, 0, none⟩), .bool true]) ∧ ∃ q : Later w, w' = q.world ∧ EventIs q.world g ⟨m, A, c, oA, oc⟩ p cards := by
  have HK := Lib.hid (fun W (h : Lt w W) => check_yes (m := m) (p := p) W (hp.later h) wf hP)
  have HA := Lib.hid (fun W (h : Lt w W) (B : Nat) (hB : PlanAt W B m p) => (by
    have := c_cardAny m p A c cards B W hB (hp.later h) wf (hc.later h)
    rwa [prb_yes (show AllTo p cards cards.length from fun j hj => ⟨hP, hO.2 j hj⟩)] at this :
    Calls Tryz.prog 101 #[.slice A cards.length c, .func (.func 102) #[] #[.pointer (some ⟨B, 0, none⟩)]] W fun e w' => e = .returned (.bool false) ∧ ∃ q : Later W, w' = q.world))
  have HOUT := Lib.hid (fun W (h : Lt w W) (k : Nat) (hk : k < cards.length) (cm : CardM) (hci : CardIs w cm (nth cards k)) => c_out m p cm (nth cards k) W (hp.later h) (hci.later h) hP (hO.2 k hk))
  have HP := Lib.hid hp
  have HC := Lib.hid hc
  have hcm := hc.2.1
  have h200 := hO.1
  have h200z : decide ((200 : Int) < cards.length) = false := by rw [decide_eq_false_iff_not]; omega
  have hPN : PlanAt (w.alloc (.cells (planC m p) 28)) w.heap.size m p := PlanAt.new
  have HPN := Lib.hid hPN
  have hmf : ∀ (fn : Fn) (first cap : Array Value) (w : World), (Instr.makeFunc fn first cap).run Tryz.prog w = .ok (.func fn first cap) w := fun _ _ _ _ => rfl
  clear hp hc hP hO hPN
  obtain ⟨iA, ic, jA, jc, pA, pc, eA, ec⟩ := m
  simp only [planV, planC] at HK HOUT HPN ⊢
  go_enter Tryz.func53, Tryz.ntmps53
  go_wp2_with fail
  refine (HK.out _ ((Lt.refl w).alloc _)).mono ?_
  rintro e w' ⟨rfl, q, rfl⟩
  go_wp2_with fail
  refine (HA.out _ (q.to ((Lt.refl w).alloc _)) _ (HPN.out.later q.lt)).mono ?_
  rintro e w' ⟨rfl, q1, rfl⟩
  go_wp2_with fail
  obtain ⟨W2, hW2⟩ : ∃ W2, q1.world.alloc (.cells #[Value.slice iA p.items.length ic, Value.int IntKind.i64 p.classes, Value.int IntKind.i64 p.late, Value.int IntKind.i64 p.early, Value.int IntKind.i64 p.maxLate, Value.int IntKind.i64 p.legLate, Value.slice jA p.jumps.length jc, Value.bool p.ret, Value.int IntKind.i64 p.missed, Value.int IntKind.i64 p.notional, Value.int IntKind.i64 p.percent, Value.int IntKind.i64 p.power, Value.slice pA p.points.length pc, Value.slice eA p.extra.length ec, .slice A cards.length c, .slice none 0 0] 99) = W2 := ⟨_, rfl⟩
  have hl2 : Lt w W2 := by rw [← hW2]; exact (q1.to (q.to ((Lt.refl w).alloc _))).alloc _
  obtain ⟨g, hg⟩ : ∃ g, q1.world.heap.size = g := ⟨_, rfl⟩
  have hgw : w.heap.size < g := by have := (q1.to q.lt).size; simp at this; omega
  have hEv : EvPart W2 g ⟨iA, ic, jA, jc, pA, pc, eA, ec⟩ p A c cards (.slice none 0 0) := by
    rw [← hW2, ← hg]
    refine ⟨fun i x e => ?_, ?_, ?_, ?_⟩
    · rw [World.cell?_alloc_at _ _ _ _ rfl]
      have hi : i < 14 := by
        have := (Array.getElem?_eq_some_iff.1 e).1
        simpa [planC] using this
      have hc : i = 0 ∨ i = 1 ∨ i = 2 ∨ i = 3 ∨ i = 4 ∨ i = 5 ∨ i = 6 ∨ i = 7 ∨ i = 8 ∨ i = 9 ∨ i = 10 ∨ i = 11 ∨ i = 12 ∨ i = 13 := by omega
      rcases hc with rfl | rfl | rfl | rfl | rfl | rfl | rfl | rfl | rfl | rfl | rfl | rfl | rfl | rfl <;> exact e
    · rw [World.cell?_alloc_at _ _ _ _ rfl]; rfl
    · rw [World.cell?_alloc_at _ _ _ _ rfl]; rfl
    · simp [go_sem]
  have hPW : PlanAt W2 w.heap.size ⟨iA, ic, jA, jc, pA, pc, eA, ec⟩ p := by rw [← hW2]; exact ((HPN.out.later q.lt).later q1.lt).later ((Lt.refl _).alloc _)
  have HEv := Lib.hid hEv
  have HPW := Lib.hid hPW
  rw [hW2, hg]
  clear hW2 hg hEv hPW
  go_loopw [28] (fun t wr => ∃ (k : Nat) (q : Later w) (v : Value), t = .int .i64 k ∧ wr = q.world ∧ k ≤ cards.length ∧ Hid (EvPart q.world g ⟨iA, ic, jA, jc, pA, pc, eA, ec⟩ p A c cards v) ∧ Hid (OwnI q.world (g + 1) v (outsTo p cards k)) ∧ Hid (PlanAt q.world w.heap.size ⟨iA, ic, jA, jc, pA, pc, eA, ec⟩ p)) (fun t _ => cards.length - (intOf t).toNat)
  case atStart => exact ⟨0, ⟨W2, hl2⟩, _, rfl, rfl, Nat.zero_le _, HEv, Lib.hid (OwnI.nil _ _), HPW⟩
  case round =>
    clear HEv HPW hl2
    obtain ⟨k, q, v, rfl, rfl, hk, HE, HO, HPW⟩ := hrel
    by_cases hlt : k < cards.length
    · have hlz : (k : Int) < cards.length := by omega
      obtain ⟨b, o, rfl, hbl, ⟨sA, sc, lA, lc⟩, hci, d0, d1, d2⟩ := HC.out.at_ k hlt
      have c0 := q.lt.cell d0
      have c1 := q.lt.cell d1
      have c2 := q.lt.cell d2
      have HOK := Lib.hid (fun W h => HOUT.out W h k hlt ⟨sA, sc, lA, lc⟩ hci)
      simp only [cardV, cardC] at HOK
      clear hci d0 d1 d2
      have p0 := HPW.out.c0
      have p1 := HPW.out.c1
      have p2 := HPW.out.c2
      have p3 := HPW.out.c3
      have p4 := HPW.out.c4
      have p5 := HPW.out.c5
      have p6 := HPW.out.c6
      have p7 := HPW.out.c7
      have p8 := HPW.out.c8
      have p9 := HPW.out.c9
      have p10 := HPW.out.c10
      have p11 := HPW.out.c11
      have p12 := HPW.out.c12
      have p13 := HPW.out.c13
      have g15 := HE.out.outs
      have hgl := HE.out.lt
      have hwl : w.heap.size < q.world.heap.size := World.block_lt_of_cell? _ _ p0
      have HN := Lib.hid (outsTo_succ p cards k hlt)
      have HLN := Lib.hid (show (outsTo p cards k).length ≤ 1000000 by unfold outsTo; simp; omega)
      go_wp2_with fail
      have HEo := Lib.hid (fun W (h : Lt q.world W) => HE.out.later h)
      have HOo := Lib.hid (fun W (h : Lt q.world W) => HO.out.later h)
      go_region_law (first
        | (refine step_app (g + 1) rfl (.tmp 36) (.tmp 40) rfl v (outsTo p cards k) _ rfl rfl ?_ ?_ HLN.out ?_; exact HOo.out _ (((Lt.refl _).alloc _).drew.trans q2.lt); exact Nat.le_trans hgl (((Lt.refl _).alloc _).drew.trans q2.lt).size; intro v1 W1 hO1 hg1; have hE1 := (HEo.out _ (((Lt.refl _).alloc _).drew.trans q2.lt)).grown hg1 (fun k hk => (HOo.out q.world (Lt.refl _)).base_le k hk); have g15' := hE1.outs; have f15' := hE1.free; obtain ⟨A1, c1, rfl⟩ := hO1.form)
        | (go_simp; go_at_call 89; refine (HOK.out _ ?_).mono ?_; exact (q.lt.alloc _).drew; rintro e w1 ⟨rfl, q2, rfl⟩; have hEq := HEo.out _ (((Lt.refl _).alloc _).drew.trans q2.lt); have g15q := hEq.outs; have hglq := hEq.lt; clear hEq))
      all_goals
        go_wp2_with fail
        have hq := ((Lt.refl q.world).alloc (.cells #[.int .i64 (nth cards k).cls, .slice sA (nth cards k).starts.length sc, .slice lA (nth cards k).lines.length lc] 31)).drew.trans q2.lt
        have hbase := (HO.out).base_le
        rw [List.length_append, List.length_singleton] at hO1
        have hW1 : Lt w W1 := (q.lt.trans hq).grown hg1 (fun j hj => by have := hbase j hj; omega)
        have hb1 : W1.heap[w.heap.size]? = q.world.heap[w.heap.size]? := (hg1.block _ (Nat.lt_of_lt_of_le hwl hq.size) (fun e => by have := hbase _ e.symm; omega)).trans (hq.block _ hwl)
        exact ⟨⟨k + 1, ⟨_, hW1.setCell (p := ⟨g, 15, none⟩) (Nat.le_of_lt hgw) _⟩, _, by go_num, rfl, by omega, Lib.hid (hE1.set _), Lib.hid (by rw [HN.out]; exact hO1.move fun j hj => Below.heap_setCell _ ⟨g, 15, none⟩ _ j (show j ≠ g by have := hO1.base_le j hj; omega)),
          Lib.hid ((HPW.out.block hb1).block (Below.heap_setCell _ ⟨g, 15, none⟩ _ _ (show w.heap.size ≠ g by omega)))⟩, by simp [intOf]; omega⟩
    · have hke : k = cards.length := by omega
      subst hke
      obtain ⟨oA, oc, rfl⟩ := HO.out.form
      have HF := Lib.hid (by have := HO.out.ints; rwa [outsTo_all] at this : Ints q.world oA oc (cards.map (outP p)))
      have HL : Hid ((outsTo p cards cards.length).length = cards.length) := Lib.hid (by rw [outsTo_all, List.length_map])
      go_wp2_with fail
      go_ret2
      refine ⟨g, oA, oc, rfl, q, rfl, HP.out.later q.lt, HC.out.later q.lt, HF.out, fun i x e => ?_⟩
      by_cases h14 : i = 14
      · subst h14
        have : x = _ := (Option.some.inj e).symm
        rw [this]; exact HE.out.cars
      · by_cases h15 : i = 15
        · subst h15
          have : x = .slice oA cards.length oc := (Option.some.inj e).symm
          rw [this, ← HL.out]; exact HE.out.outs
        · refine HE.out.plan i x ?_
          have hi : i < 16 := by
            have := (Array.getElem?_eq_some_iff.1 e).1
            simpa [evC] using this
          have hc : i = 0 ∨ i = 1 ∨ i = 2 ∨ i = 3 ∨ i = 4 ∨ i = 5 ∨ i = 6 ∨ i = 7 ∨ i = 8 ∨ i = 9 ∨ i = 10 ∨ i = 11 ∨ i = 12 ∨ i = 13 := by omega
          rcases hc with rfl | rfl | rfl | rfl | rfl | rfl | rfl | rfl | rfl | rfl | rfl | rfl | rfl | rfl <;> exact e
end Go.Proofs.YtdpcdmcmpfjbjaaGreat
/- Walks: begin, where a plan or a card is not as defined. -/
namespace Go.Proofs.YtdpcdmcmpfjbjaaGreat
open Go.RowKit
set_option linter.unusedVariables false
set_option linter.unusedSimpArgs false
attribute [local go_sem] Later.cell Later.frozen Later.size Later.ne Later.cell1 Later.cell2 Later.cell3 Later.size1 Later.size2 Later.size3 Later.ne1 Later.ne2 Later.ne3

set_option maxHeartbeats 2000000 in
set_option maxRecDepth 100000 in
theorem c_begin_no (m : PlanM) (p : Plan) (A : Option Addr) (c : Nat) (cards : List Card) (w : World) (hp : PlanIs w m p) (wf : PlanWf p) (hc : Cards w A c cards) (h : ¬ (PlanOK p ∧ cardsOK p cards)) :
    Calls Tryz.prog 53 #[planV m p, .slice A cards.length c] w fun e w' => e = .returned (.tuple #[.pointer none, .bool false]) ∧ ∃ q : Later w, w' = q.world := by
  have hmf : ∀ (fn : Fn) (first cap : Array Value) (w : World), (Instr.makeFunc fn first cap).run Tryz.prog w = .ok (.func fn first cap) w := fun _ _ _ _ => rfl
  have hcm := hc.2.1
  by_cases hP : PlanOK p
  · have HK := Lib.hid (fun W (h : Lt w W) => check_yes (m := m) (p := p) W (hp.later h) wf hP)
    by_cases hl : cards.length ≤ 200
    · have hO : ¬ AllTo p cards cards.length := fun g => h ⟨hP, hl, fun i hi => (g i hi).2⟩
      have HA := Lib.hid (fun W (h : Lt w W) (B : Nat) (hB : PlanAt W B m p) => (by
        have := c_cardAny m p A c cards B W hB (hp.later h) wf (hc.later h)
        rwa [prb_no hO] at this :
        Calls Tryz.prog 101 #[.slice A cards.length c, .func (.func 102) #[] #[.pointer (some ⟨B, 0, none⟩)]] W fun e w' => e = .returned (.bool true) ∧ ∃ q : Later W, w' = q.world))
      have h200z : decide ((200 : Int) < cards.length) = false := by rw [decide_eq_false_iff_not]; omega
      have HPN := Lib.hid (show PlanAt (w.alloc (.cells (planC m p) 28)) w.heap.size m p from PlanAt.new)
      clear hp hc hP h hO
      obtain ⟨iA, ic, jA, jc, pA, pc, eA, ec⟩ := m
      simp only [planV, planC] at HK HPN ⊢
      go_enter Tryz.func53, Tryz.ntmps53
      go_wp2_with fail
      refine (HK.out _ ((Lt.refl w).alloc _)).mono ?_
      rintro e w' ⟨rfl, q, rfl⟩
      go_wp2_with fail
      refine (HA.out _ (q.to ((Lt.refl w).alloc _)) _ (HPN.out.later q.lt)).mono ?_
      rintro e w' ⟨rfl, q1, rfl⟩
      go_wp2_with fail
      go_ret2
      exact ⟨rfl, ⟨q1.world, q1.to (q.to ((Lt.refl w).alloc _))⟩, rfl⟩
    · have h200z : decide ((200 : Int) < cards.length) = true := by rw [decide_eq_true_iff]; omega
      clear hp hc hP h
      obtain ⟨iA, ic, jA, jc, pA, pc, eA, ec⟩ := m
      simp only [planV, planC] at HK ⊢
      go_enter Tryz.func53, Tryz.ntmps53
      go_wp2_with fail
      refine (HK.out _ ((Lt.refl w).alloc _)).mono ?_
      rintro e w' ⟨rfl, q, rfl⟩
      go_wp2_with fail
      go_ret2
      exact ⟨rfl, ⟨q.world, q.to ((Lt.refl w).alloc _)⟩, rfl⟩
  · have HK := Lib.hid (fun W (h : Lt w W) => check_no (m := m) (p := p) W (hp.later h) wf hP)
    clear hp hc hP h
    obtain ⟨iA, ic, jA, jc, pA, pc, eA, ec⟩ := m
    simp only [planV, planC] at HK ⊢
    go_enter Tryz.func53, Tryz.ntmps53
    go_wp2_with fail
    refine (HK.out _ ((Lt.refl w).alloc _)).mono ?_
    rintro e w' ⟨rfl, q, rfl⟩
    go_wp2_with fail
    go_ret2
    exact ⟨rfl, ⟨q.world, q.to ((Lt.refl w).alloc _)⟩, rfl⟩
end Go.Proofs.YtdpcdmcmpfjbjaaGreat
