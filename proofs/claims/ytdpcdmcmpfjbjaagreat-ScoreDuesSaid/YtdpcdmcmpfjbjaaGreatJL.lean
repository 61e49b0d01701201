/- The plain meaning of the results; Walks: the comparisons of Results, and order, which puts them behind one another; Walks: order, and what it hands back; the comparison by times; What lies where while Results goes through the cars. -/
import Derived.Test.YtdpcdmcmpfjbjaaGreatJI
import Derived.Test.YtdpcdmcmpfjbjaaGreatJX
import Derived.LoopN
/- The plain meaning of the results. -/
namespace Go.Proofs.YtdpcdmcmpfjbjaaGreat
open Go.Sort
set_option linter.unusedVariables false
set_option linter.unusedSimpArgs false
instance : Inhabited Placing := ⟨⟨0, false, 0, 0, 0, 0, 0⟩⟩

def countsB (p : Plan) (cards : List Card) (c : Nat) : Bool := decide (outP p (nth cards c) < 0)
def countTo (p : Plan) (cards : List Card) (k : Nat) : List Nat := (List.range k).filter (countsB p cards)
def otherTo (p : Plan) (cards : List Card) (k : Nat) : List Nat := (List.range k).filter fun c => !countsB p cards c
theorem countTo_succ (p : Plan) (cards : List Card) (k : Nat) : countTo p cards (k + 1) = if countsB p cards k = true then countTo p cards k ++ [k] else countTo p cards k := by
  unfold countTo
  rw [List.range_succ, List.filter_append]
  by_cases h : countsB p cards k = true <;> simp [h]
theorem otherTo_succ (p : Plan) (cards : List Card) (k : Nat) : otherTo p cards (k + 1) = if countsB p cards k = true then otherTo p cards k else otherTo p cards k ++ [k] := by
  unfold otherTo
  rw [List.range_succ, List.filter_append]
  by_cases h : countsB p cards k = true <;> simp [h]
theorem countTo_length (p : Plan) (cards : List Card) (k : Nat) : (countTo p cards k).length ≤ k := by
  have := List.length_filter_le (countsB p cards) (List.range k)
  simpa [countTo] using this
theorem otherTo_length (p : Plan) (cards : List Card) (k : Nat) : (otherTo p cards k).length ≤ k := by
  have := List.length_filter_le (fun c => !countsB p cards c) (List.range k)
  simpa [otherTo] using this
theorem count_other (p : Plan) (cards : List Card) (k : Nat) : (countTo p cards k).length + (otherTo p cards k).length = k := by
  induction k with
  | zero => rfl
  | succ k ih =>
    rw [countTo_succ, otherTo_succ]
    by_cases h : countsB p cards k = true
    · rw [if_pos h, if_pos h, List.length_append, List.length_singleton]; omega
    · rw [if_neg h, if_neg h, List.length_append, List.length_singleton]; omega
def stageB (p : Plan) (i : Nat) : Bool := (nth p.items i).kind == 2
/-- A car's times in the stages ahead of item k. -/
def stagesTo (p : Plan) (cards : List Card) (car k : Nat) : List Int := ((List.range k).filter (stageB p)).map (timeP p cards car)
theorem stagesTo_succ (p : Plan) (cards : List Card) (car k : Nat) : stagesTo p cards car (k + 1) = if stageB p k = true then stagesTo p cards car k ++ [timeP p cards car k] else stagesTo p cards car k := by
  unfold stagesTo
  rw [List.range_succ, List.filter_append]
  by_cases h : stageB p k = true <;> simp [h]
theorem stagesTo_length (p : Plan) (cards : List Card) (car k : Nat) : (stagesTo p cards car k).length ≤ k := by
  have := List.length_filter_le (stageB p) (List.range k)
  simpa [stagesTo] using this
/-- A car has won a stage. -/
def wonB (p : Plan) (cards : List Card) (car i : Nat) : Bool := (realP p cards i (-1)).contains car && decide (tookP cards car i = nth (sortedP cards (realP p cards i (-1)) i) 0)
def winB (p : Plan) (cards : List Card) (car i : Nat) : Bool := stageB p i && wonB p cards car i
def winsTo (p : Plan) (cards : List Card) (car k : Nat) : Nat := ((List.range k).filter (winB p cards car)).length
theorem winsTo_succ (p : Plan) (cards : List Card) (car k : Nat) : winsTo p cards car (k + 1) = if winB p cards car k = true then winsTo p cards car k + 1 else winsTo p cards car k := by
  unfold winsTo
  rw [List.range_succ, List.filter_append]
  by_cases h : winB p cards car k = true <;> simp [h]
theorem winsTo_le (p : Plan) (cards : List Card) (car k : Nat) : winsTo p cards car k ≤ k := by
  have := List.length_filter_le (winB p cards car) (List.range k)
  simpa [winsTo] using this
def rowR (p : Plan) (cards : List Card) (car : Nat) : List Int := if countsB p cards car = true then stagesTo p cards car p.items.length else []
def winsR (p : Plan) (cards : List Card) (car : Nat) : Int := if countsB p cards car = true then winsTo p cards car p.items.length else 0
def resCmp (p : Plan) (cards : List Card) (a b : Nat) : Int := orI (cmpI (totalP p cards a) (totalP p cards b)) (orI (cmpI (winsR p cards b) (winsR p cards a)) (orI (cmpL (rowR p cards a) (rowR p cards b)) (cmpI (a : Int) (b : Int))))
theorem res_law (p : Plan) (cards : List Card) : CmpLaw (resCmp p cards) := by
  have h1 := cmpI_law.on (totalP p cards)
  have h2 := (cmpI_law.on (winsR p cards)).flip
  have h3 := cmpR_law.on (rowR p cards)
  have h4 := cmpI_law.on (fun k : Nat => (k : Int))
  have := h1.or (h2.or (h3.or h4))
  have e : resCmp p cards = fun a b => orI (cmpI (totalP p cards a) (totalP p cards b)) (orI (cmpI (winsR p cards b) (winsR p cards a)) (orI (cmpR (rowR p cards a) (rowR p cards b)) (cmpI (a : Int) (b : Int)))) := by
    funext a b; unfold resCmp; rw [cmpL_eq]
  rw [e]; exact this
theorem res_total (p : Plan) (cards : List Card) (a b : Nat) (h1 : ltOf (resCmp p cards) a b = false) (h2 : ltOf (resCmp p cards) b a = false) : a = b := by
  unfold ltOf at h1 h2
  rw [decide_eq_false_iff_not] at h1 h2
  have n1 := (res_law p cards).neg a b
  have h0 : resCmp p cards a b = 0 := by have := (res_law p cards).neg b a; omega
  unfold resCmp orI at h0
  split at h0
  · split at h0
    · split at h0
      · have := cmpI_zero.1 h0; omega
      · contradiction
    · contradiction
  · contradiction
def resOrder (p : Plan) (cards : List Card) : List Nat := (countTo p cards cards.length).mergeSort fun x y => !ltOf (resCmp p cards) y x
theorem resOrder_length (p : Plan) (cards : List Card) : (resOrder p cards).length = (countTo p cards cards.length).length := by simp [resOrder]
theorem mem_countTo {p : Plan} {cards : List Card} {k c : Nat} : c ∈ countTo p cards k ↔ c < k ∧ outP p (nth cards c) < 0 := by simp [countTo, countsB]
theorem mem_otherTo {p : Plan} {cards : List Card} {k c : Nat} : c ∈ otherTo p cards k ↔ c < k ∧ ¬ outP p (nth cards c) < 0 := by simp [otherTo, countsB]
theorem mem_resOrder {p : Plan} {cards : List Card} {c : Nat} : c ∈ resOrder p cards ↔ c < cards.length ∧ outP p (nth cards c) < 0 := by
  unfold resOrder
  rw [(List.mergeSort_perm _ _).mem_iff, mem_countTo]
/-- The cars of the power stage, the fastest first. -/
def timeLt (cards : List Card) (i a b : Nat) : Bool := tie (ltOf fun a b : Nat => cmpI (tookP cards a i) (tookP cards b i)) (fun k : Nat => (k : Int)) a b
def powerP (p : Plan) (cards : List Card) : List Nat :=
  if 0 ≤ p.power then (realP p cards p.power.toNat (-1)).mergeSort fun x y => !timeLt cards p.power.toNat y x else []
theorem mem_powerP {p : Plan} {cards : List Card} {c : Nat} (h : c ∈ powerP p cards) : c < cards.length := by
  unfold powerP at h
  split at h
  · rw [(List.mergeSort_perm _ _).mem_iff] at h
    exact (mem_realP.1 h).1
  · cases h
theorem powerP_nodup (p : Plan) (cards : List Card) : (powerP p cards).Nodup := by
  unfold powerP
  split
  · refine (List.mergeSort_perm _ _).nodup_iff.2 ?_
    unfold realP
    exact List.Nodup.sublist List.filter_sublist List.nodup_range
  · exact List.nodup_nil
/-- What a car has of Extra when k cars of the power stage have theirs. -/
def extraTo (p : Plan) (cards : List Card) (k c : Nat) : Int := if c ∈ (powerP p cards).take k then atP p.extra ((powerP p cards).idxOf c) else 0
def extraP (p : Plan) (cards : List Card) (c : Nat) : Int := extraTo p cards (powerP p cards).length c
theorem extraTo_succ {p : Plan} {cards : List Card} {k : Nat} (hk : k < (powerP p cards).length) (c : Nat) : extraTo p cards (k + 1) c = if c = nth (powerP p cards) k then atP p.extra k else extraTo p cards k c := by
  have hnd := powerP_nodup p cards
  have hi : (powerP p cards).idxOf (nth (powerP p cards) k) = k := by
    rw [nth_eq _ _ hk]
    exact hnd.idxOf_getElem k hk
  unfold extraTo
  rw [take_succ_nth _ k hk]
  by_cases h : c = nth (powerP p cards) k
  · rw [if_pos h, if_pos (by simp [h]), h, hi]
  · rw [if_neg h]
    by_cases h2 : c ∈ (powerP p cards).take k
    · rw [if_pos (by simp [h2]), if_pos h2]
    · rw [if_neg (by simp [h2, h]), if_neg h2]
def clsTo (p : Plan) (cards : List Card) (k : Nat) (c : Int) : Nat := (((resOrder p cards).take k).filter fun x => decide ((nth cards x).cls = c)).length
theorem clsTo_succ {p : Plan} {cards : List Card} {k : Nat} (hk : k < (resOrder p cards).length) (c : Int) : clsTo p cards (k + 1) c = if (nth cards (nth (resOrder p cards) k)).cls = c then clsTo p cards k c + 1 else clsTo p cards k c := by
  unfold clsTo
  rw [take_succ_nth _ k hk, List.filter_append]
  by_cases h : (nth cards (nth (resOrder p cards) k)).cls = c <;> simp [h]
theorem clsTo_le (p : Plan) (cards : List Card) (k : Nat) (c : Int) : clsTo p cards k c ≤ k := by
  unfold clsTo
  refine Nat.le_trans (List.length_filter_le _ _) ?_
  rw [List.length_take]; omega
/-- The k-th of those that count. -/
def placeP (p : Plan) (cards : List Card) (k : Nat) : Placing :=
  ⟨((nth (resOrder p cards) k : Nat) : Int), true, -1, totalP p cards (nth (resOrder p cards) k), (k : Int) + 1, clsTo p cards (k + 1) (nth cards (nth (resOrder p cards) k)).cls, atP p.points k + extraP p cards (nth (resOrder p cards) k)⟩
def outPl (p : Plan) (cards : List Card) (c : Nat) : Placing := ⟨(c : Int), false, outP p (nth cards c), totalP p cards c, 0, 0, 0⟩
def placesTo (p : Plan) (cards : List Card) (k : Nat) : List Placing := (List.range k).map (placeP p cards)
theorem placesTo_succ (p : Plan) (cards : List Card) (k : Nat) : placesTo p cards (k + 1) = placesTo p cards k ++ [placeP p cards k] := by unfold placesTo; rw [List.range_succ, List.map_append]; rfl
def resultsTo (p : Plan) (cards : List Card) (k : Nat) : List Placing := placesTo p cards (resOrder p cards).length ++ ((otherTo p cards cards.length).take k).map (outPl p cards)
theorem resultsTo_succ {p : Plan} {cards : List Card} {k : Nat} (hk : k < (otherTo p cards cards.length).length) : resultsTo p cards (k + 1) = resultsTo p cards k ++ [outPl p cards (nth (otherTo p cards cards.length) k)] := by
  unfold resultsTo; rw [take_succ_nth _ k hk, List.map_append, List.append_assoc]; rfl
def resultsP (p : Plan) (cards : List Card) : List Placing := resultsTo p cards (otherTo p cards cards.length).length
theorem resultsP_length (p : Plan) (cards : List Card) : (resultsP p cards).length = cards.length := by
  unfold resultsP resultsTo placesTo
  rw [List.length_append, List.length_map, List.length_map, List.length_range, List.take_length, resOrder_length, count_other]
end Go.Proofs.YtdpcdmcmpfjbjaaGreat
/- Walks: the comparisons of Results, and order, which puts them behind one another. -/
namespace Go.Proofs.YtdpcdmcmpfjbjaaGreat
open Go.RowKit Go.Sort
set_option linter.unusedVariables false
set_option linter.unusedSimpArgs false
attribute [local go_sem] Later.cell Later.frozen Later.size Later.ne Later.cell1 Later.cell2 Later.cell3 Later.size1 Later.size2 Later.size3 Later.ne1 Later.ne2 Later.ne3

theorem cmp_calls : ∀ x y : Int, ∀ w : World, Calls Tryz.prog 71 #[.int .i64 x, .int .i64 y] w fun e w' => e = .returned (.int .i64 (cmpI x y)) ∧ w' = w := fun x y w => by
  rw [← cmpI_lib]; exact Tryz.cmp_Compare_int x y w

set_option maxHeartbeats 1000000 in
theorem c_res1 (G : Nat → Int) (n bx T a b : Nat) (W : World) (h : W.cell? ⟨bx, 0, none⟩ = some (.slice (some ⟨T, 0, none⟩) n n)) (hT : IntsF W T n G) (ha : a < n) (hb : b < n) (hn : n ≤ 1000000) :
    Calls Tryz.prog 70 #[.int .i64 (a : Nat), .int .i64 (b : Nat), .pointer (some ⟨bx, 0, none⟩)] W fun e w' => e = .returned (.int .i64 (cmpI (G a) (G b))) ∧ ∃ q, w' = W.drewN q := by
  have ta := hT a ha
  have tb := hT b hb
  have haz : (a : Int) < (n : Int) := by omega
  have hbz : (b : Int) < (n : Int) := by omega
  have HC := Lib.hid cmp_calls
  clear hT ha hb
  go_enter Tryz.func70, Tryz.ntmps70
  go_wp2_with fail
  go_quiet ((go_at_call 71; exact Calls.quiet_of_same (HC.out _ _ _)))
  go_wp2_with fail
  go_ret
  exact ⟨rfl, _, rfl⟩
set_option maxHeartbeats 1000000 in
theorem c_res2 (G : Nat → Int) (n bx T a b : Nat) (W : World) (h : W.cell? ⟨bx, 0, none⟩ = some (.slice (some ⟨T, 0, none⟩) n n)) (hT : IntsF W T n G) (ha : a < n) (hb : b < n) (hn : n ≤ 1000000) :
    Calls Tryz.prog 72 #[.int .i64 (a : Nat), .int .i64 (b : Nat), .pointer (some ⟨bx, 0, none⟩)] W fun e w' => e = .returned (.int .i64 (cmpI (G b) (G a))) ∧ ∃ q, w' = W.drewN q := by
  have ta := hT a ha
  have tb := hT b hb
  have haz : (a : Int) < (n : Int) := by omega
  have hbz : (b : Int) < (n : Int) := by omega
  have HC := Lib.hid cmp_calls
  clear hT ha hb
  go_enter Tryz.func72, Tryz.ntmps72
  go_wp2_with fail
  go_quiet ((go_at_call 71; exact Calls.quiet_of_same (HC.out _ _ _)))
  go_wp2_with fail
  go_ret
  exact ⟨rfl, _, rfl⟩
theorem Ints.drewN {W : World} {A : Option Addr} {c : Nat} {xs : List Int} (h : Ints W A c xs) (n : Nat) : Ints (W.drewN n) A c xs := h.later ((Lt.refl W).drewN n)
set_option maxHeartbeats 1000000 in
theorem c_res3 (G : Nat → List Int) (n bx F a b : Nat) (W : World) (h : W.cell? ⟨bx, 0, none⟩ = some (.slice (some ⟨F, 0, none⟩) n n)) (hF : RowsF W F n G) (ha : a < n) (hb : b < n) (hn : n ≤ 1000000) :
    Calls Tryz.prog 73 #[.int .i64 (a : Nat), .int .i64 (b : Nat), .pointer (some ⟨bx, 0, none⟩)] W fun e w' => e = .returned (.int .i64 (cmpL (G a) (G b))) ∧ ∃ q, w' = W.drewN q := by
  obtain ⟨Aa, ca, fa, ia⟩ := hF a ha
  obtain ⟨Ab, cb, fb, ib⟩ := hF b hb
  have haz : (a : Int) < (n : Int) := by omega
  have hbz : (b : Int) < (n : Int) := by omega
  have HL := Lib.hid (fun n => c_cmpL Aa Ab ca cb (G a) (G b) (W.drewN n) (ia.drewN n) (ib.drewN n))
  clear hF ha hb ia ib
  go_enter Tryz.func73, Tryz.ntmps73
  go_wp2_with fail
  go_quiet ((go_at_call 74; exact Calls.quiet_of_same (HL.out _)))
  go_wp2_with fail
  go_ret
  exact ⟨rfl, _, rfl⟩
set_option maxHeartbeats 1000000 in
theorem c_res4 (a b : Int) (W : World) : Calls Tryz.prog 75 #[.int .i64 a, .int .i64 b] W fun e w' => e = .returned (.int .i64 (cmpI a b)) ∧ w' = W := by
  have HC := Lib.hid cmp_calls
  go_enter Tryz.func75, Tryz.ntmps75
  go_wp2_with (first | (go_at_call 71; refine (HC.out _ _ _).mono ?_; rintro e w' ⟨rfl, rfl⟩) | fail)
  go_ret
  exact ⟨rfl, rfl⟩
end Go.Proofs.YtdpcdmcmpfjbjaaGreat
/- Walks: order, and what it hands back; the comparison by times. -/
namespace Go.Proofs.YtdpcdmcmpfjbjaaGreat
open Go.RowKit Go.Sort
set_option linter.unusedVariables false
set_option linter.unusedSimpArgs false
attribute [local go_sem] Later.cell Later.frozen Later.size Later.ne Later.cell1 Later.cell2 Later.cell3 Later.size1 Later.size2 Later.size3 Later.ne1 Later.ne2 Later.ne3

set_option maxHeartbeats 400000 in
theorem c_order (l : Value) (A : Option Addr) (n c : Nat) (w : World) (hl : l = .slice A n c) :
    Calls Tryz.prog 69 #[l] w fun e w' => e = .returned (.func (.func 114) #[] #[.pointer (some ⟨w.heap.size, 0, none⟩)]) ∧ w' = w.alloc (.cells #[l] 135) := by
  subst hl
  have hmf : ∀ (fn : Fn) (first cap : Array Value) (w : World), (Instr.makeFunc fn first cap).run Tryz.prog w = .ok (.func fn first cap) w := fun _ _ _ _ => rfl
  go_enter Tryz.func69, Tryz.ntmps69
  go_wp2
  go_ret
  exact ⟨rfl, rfl⟩

/-- The four comparisons, behind one another. -/
def or4 (c0 c1 c2 c3 : Int) : Int := orI c0 (orI c1 (orI c2 c3))

set_option maxHeartbeats 4000000 in
set_option maxRecDepth 100000 in
theorem c_order1 (GT GW : Nat → Int) (GS : Nat → List Int) (n b10 b11 b12 T Wn F Bl L a b : Nat) (W : World) (hl : W.cell? ⟨Bl, 0, none⟩ = some (.slice (some ⟨L, 0, none⟩) 4 4))
    (l0 : W.cell? ⟨L, 0, none⟩ = some (.func (.func 70) #[] #[.pointer (some ⟨b10, 0, none⟩)])) (l1 : W.cell? ⟨L, 1, none⟩ = some (.func (.func 72) #[] #[.pointer (some ⟨b11, 0, none⟩)]))
    (l2 : W.cell? ⟨L, 2, none⟩ = some (.func (.func 73) #[] #[.pointer (some ⟨b12, 0, none⟩)])) (l3 : W.cell? ⟨L, 3, none⟩ = some (.func (.func 75) #[] #[]))
    (h10 : W.cell? ⟨b10, 0, none⟩ = some (.slice (some ⟨T, 0, none⟩) n n)) (hT : IntsF W T n GT) (h11 : W.cell? ⟨b11, 0, none⟩ = some (.slice (some ⟨Wn, 0, none⟩) n n)) (hW : IntsF W Wn n GW)
    (h12 : W.cell? ⟨b12, 0, none⟩ = some (.slice (some ⟨F, 0, none⟩) n n)) (hF : RowsF W F n GS) (ha : a < n) (hb : b < n) (hn : n ≤ 1000000) :
    Calls Tryz.prog 114 #[.int .i64 (a : Nat), .int .i64 (b : Nat), .pointer (some ⟨Bl, 0, none⟩)] W fun e w' => e = .returned (.int .i64 (or4 (cmpI (GT a) (GT b)) (cmpI (GW b) (GW a)) (cmpL (GS a) (GS b)) (cmpI a b))) ∧ ∃ q, w' = W.drewN q := by
  have kc : ∀ q b o v, W.cell? ⟨b, o, none⟩ = some v → (W.drewN q).cell? ⟨b, o, none⟩ = some v := fun q b o v h => ((Lt.refl W).drewN q).cell h
  have H1 := Lib.hid (fun q => c_res1 GT n b10 T a b (W.drewN q) (kc q _ _ _ h10) (fun j hj => kc q _ _ _ (hT j hj)) ha hb hn)
  have H2 := Lib.hid (fun q => c_res2 GW n b11 Wn a b (W.drewN q) (kc q _ _ _ h11) (fun j hj => kc q _ _ _ (hW j hj)) ha hb hn)
  have H3 := Lib.hid (fun q => c_res3 GS n b12 F a b (W.drewN q) (kc q _ _ _ h12) (fun j hj => by
    obtain ⟨A, c, x1, x2⟩ := hF j hj
    exact ⟨A, c, kc q _ _ _ x1, x2.drewN q⟩) ha hb hn)
  have H4 := Lib.hid (fun q => c_res4 a b (W.drewN q))
  have g1 : ∀ args w, (callFunc 70 args).run Tryz.prog w = .ok (.enter 70 args) w := enters_of Tryz.func70 (by kernel_rfl) rfl
  have g2 : ∀ args w, (callFunc 72 args).run Tryz.prog w = .ok (.enter 72 args) w := enters_of Tryz.func72 (by kernel_rfl) rfl
  have g3 : ∀ args w, (callFunc 73 args).run Tryz.prog w = .ok (.enter 73 args) w := enters_of Tryz.func73 (by kernel_rfl) rfl
  have g4 : ∀ args w, (callFunc 75 args).run Tryz.prog w = .ok (.enter 75 args) w := enters_of Tryz.func75 (by kernel_rfl) rfl
  have HR := Lib.hid (show or4 (cmpI (GT a) (GT b)) (cmpI (GW b) (GW a)) (cmpL (GS a) (GS b)) (cmpI a b) = orI (cmpI (GT a) (GT b)) (orI (cmpI (GW b) (GW a)) (orI (cmpL (GS a) (GS b)) (cmpI a b))) from rfl)
  generalize or4 (cmpI (GT a) (GT b)) (cmpI (GW b) (GW a)) (cmpL (GS a) (GS b)) (cmpI a b) = R at *
  generalize cmpI (GT a) (GT b) = C0 at *
  generalize cmpI (GW b) (GW a) = C1 at *
  generalize cmpL (GS a) (GS b) = C2 at *
  generalize cmpI (a : Int) (b : Int) = C3 at *
  have d1 : ∀ q r, (W.drewN q).drewN r = W.drewN (q + r) := fun q r => World.drewN_drewN _ _ _
  have HD := Lib.hid d1
  clear kc h10 hT h11 hW h12 hF ha hb d1
  have H10 := H1.out 0
  have H1 := Lib.hid (show Calls Tryz.prog 70 #[.int .i64 (a : Nat), .int .i64 (b : Nat), .pointer (some ⟨b10, 0, none⟩)] W fun e w' => e = .returned (.int .i64 C0) ∧ ∃ q, w' = (W.drewN 0).drewN q from H10)
  clear H10
  go_enter Tryz.func114, Tryz.ntmps114
  go_wp2_with fail
  refine wp_loop_rounds 5 ?_
  rw [rounds_succ]
  go_wp2_with fail
  refine H1.out.mono ?_
  rintro e w' ⟨rfl, q0, rfl⟩
  rw [HD.out]
  generalize 0 + q0 = q1
  by_cases z0 : C0 = 0
  · have z0b : (C0 != 0) = false := by rw [bne_eq_false_iff_eq]; exact z0
    have HR := Lib.hid (show R = orI C1 (orI C2 C3) by rw [HR.out]; exact if_pos z0)
    clear z0
    go_wp2_with fail
    rw [rounds_succ]
    go_wp2_with fail
    refine (H2.out q1).mono ?_
    rintro e w' ⟨rfl, q2, rfl⟩
    rw [HD.out]
    generalize q1 + q2 = q3
    by_cases z1 : C1 = 0
    · have z1b : (C1 != 0) = false := by rw [bne_eq_false_iff_eq]; exact z1
      have HR := Lib.hid (show R = orI C2 C3 by rw [HR.out]; exact if_pos z1)
      clear z1
      go_wp2_with fail
      rw [rounds_succ]
      go_wp2_with fail
      refine (H3.out q3).mono ?_
      rintro e w' ⟨rfl, q4, rfl⟩
      rw [HD.out]
      generalize q3 + q4 = q5
      by_cases z2 : C2 = 0
      · have z2b : (C2 != 0) = false := by rw [bne_eq_false_iff_eq]; exact z2
        have HR := Lib.hid (show R = C3 by rw [HR.out]; exact if_pos z2)
        clear z2
        go_wp2_with fail
        rw [rounds_succ]
        go_wp2_with fail
        refine (H4.out q5).mono ?_
        rintro e w' ⟨rfl, rfl⟩
        by_cases z3 : C3 = 0
        · have z3b : (C3 != 0) = false := by rw [bne_eq_false_iff_eq]; exact z3
          have HR := Lib.hid (show R = 0 by rw [HR.out]; exact z3)
          clear z3
          go_wp2_with fail
          rw [rounds_succ]
          go_wp2_with fail
          go_ret
          exact ⟨ret_int HR.out.symm, q5, rfl⟩
        · have z3b : (C3 != 0) = true := by rw [bne_iff_ne]; exact z3
          clear z3
          go_wp2_with fail
          go_ret
          exact ⟨ret_int HR.out.symm, q5, rfl⟩
      · have z2b : (C2 != 0) = true := by rw [bne_iff_ne]; exact z2
        have HR := Lib.hid (show R = C2 by rw [HR.out]; exact if_neg z2)
        clear z2
        go_wp2_with fail
        go_ret
        exact ⟨ret_int HR.out.symm, q5, rfl⟩
    · have z1b : (C1 != 0) = true := by rw [bne_iff_ne]; exact z1
      have HR := Lib.hid (show R = C1 by rw [HR.out]; exact if_neg z1)
      clear z1
      go_wp2_with fail
      go_ret
      exact ⟨ret_int HR.out.symm, q3, rfl⟩
  · have z0b : (C0 != 0) = true := by rw [bne_iff_ne]; exact z0
    have HR := Lib.hid (show R = C0 by rw [HR.out]; exact if_neg z0)
    clear z0
    go_wp2_with fail
    go_ret
    exact ⟨ret_int HR.out.symm, q1, rfl⟩

set_option maxHeartbeats 1000000 in
set_option maxRecDepth 100000 in
theorem c_res5 (g : Nat) (em : EvM) (p : Plan) (cards : List Card) (b6 BP a b : Nat) (w W : World) (he : EventIs W g em p cards) (h6 : W.cell? ⟨b6, 0, none⟩ = some (.pointer (some ⟨g, 0, none⟩))) (i : Nat) (hp : W.cell? ⟨BP, 11, none⟩ = some (.int .i64 (i : Nat)))
    (hi : ∀ j, j < cards.length → i < (nth cards j).lines.length) (ha : a < cards.length) (hb : b < cards.length) :
    Calls Tryz.prog 77 #[.int .i64 (a : Nat), .int .i64 (b : Nat), .pointer (some ⟨b6, 0, none⟩), .pointer (some ⟨BP, 0, none⟩)] W fun e w' => e = .returned (.int .i64 (cmpI (tookP cards a i) (tookP cards b i))) ∧ ∃ q, w' = W.drewN q := by
  have HTa := Lib.hid (fun n => c_took g em p cards a i (W.drewN n) (he.later ((Lt.refl W).drewN n)) ha (hi a ha))
  have HTb := Lib.hid (fun n => c_took g em p cards b i (W.drewN n) (he.later ((Lt.refl W).drewN n)) hb (hi b hb))
  have HC := Lib.hid cmp_calls
  clear he hi
  generalize tookP cards a i = ta at *
  generalize tookP cards b i = tb at *
  go_enter Tryz.func77, Tryz.ntmps77
  go_wp2_with fail
  go_quiet ((first | (go_at_call 66; first | (with_reducible exact Calls.quiet_of_same (HTa.out _)) | (with_reducible exact Calls.quiet_of_same (HTb.out _))) | (go_at_call 71; exact Calls.quiet_of_same (HC.out _ _ _))))
  go_wp2_with fail
  go_ret
  exact ⟨rfl, _, rfl⟩
end Go.Proofs.YtdpcdmcmpfjbjaaGreat
/- What lies where while Results goes through the cars. -/
namespace Go.Proofs.YtdpcdmcmpfjbjaaGreat
open Go.RowKit Go.Sort
set_option linter.unusedVariables false
set_option linter.unusedSimpArgs false

structure RM where
  b10 : Nat
  b11 : Nat
  b12 : Nat
  T : Nat
  Wn : Nat
  S : Nat
  N0 : Nat
structure RM.OK (M : RM) (w : World) : Prop where
  h10 : w.heap.size ≤ M.b10 ∧ M.b10 < M.N0
  h11 : w.heap.size ≤ M.b11 ∧ M.b11 < M.N0
  h12 : w.heap.size ≤ M.b12 ∧ M.b12 < M.N0
  hT : w.heap.size ≤ M.T ∧ M.T < M.N0
  hW : w.heap.size ≤ M.Wn ∧ M.Wn < M.N0
  hS : w.heap.size ≤ M.S ∧ M.S < M.N0
  nT : M.b10 ≠ M.T ∧ M.b11 ≠ M.T ∧ M.b12 ≠ M.T ∧ M.Wn ≠ M.T ∧ M.S ≠ M.T
  nW : M.b10 ≠ M.Wn ∧ M.b11 ≠ M.Wn ∧ M.b12 ≠ M.Wn ∧ M.S ≠ M.Wn
  nS : M.b10 ≠ M.S ∧ M.b11 ≠ M.S ∧ M.b12 ≠ M.S
/-- The totals, the wins, the times in the stages (but for car x's), the cars that count, and the others. -/
structure RSt (w : World) (M : RM) (n N1 x : Nat) (GT GW : Nat → Int) (R : Nat → List Int) (v8 v9 : Value) (l8 l9 : List Nat) (W : World) : Prop where
  lt : Lt w W
  n0 : M.N0 ≤ N1 ∧ N1 ≤ W.heap.size
  c10 : W.cell? ⟨M.b10, 0, none⟩ = some (.slice (some ⟨M.T, 0, none⟩) n n)
  c11 : W.cell? ⟨M.b11, 0, none⟩ = some (.slice (some ⟨M.Wn, 0, none⟩) n n)
  c12 : W.cell? ⟨M.b12, 0, none⟩ = some (.slice (some ⟨M.S, 0, none⟩) n n)
  tot : IntsF W M.T n GT
  totf : FreeF W M.T n
  win : IntsF W M.Wn n GW
  winf : FreeF W M.Wn n
  rows : ∀ j, j < n → j ≠ x → ∃ A c, W.cell? ⟨M.S, j, none⟩ = some (.slice A (R j).length c) ∧ Ints W A c (R j) ∧ ∀ b o, A = some ⟨b, o, none⟩ → M.N0 ≤ b ∧ b < N1 ∧ v8.ownBlock ≠ some b ∧ v9.ownBlock ≠ some b
  stf : FreeF W M.S n
  o8 : OwnI W M.N0 v8 (nums l8)
  o9 : OwnI W M.N0 v9 (nums l9)
  w8 : ∀ b, v8.ownBlock = some b → b < N1
  w9 : ∀ b, v9.ownBlock = some b → b < N1
  ap : ∀ b, v8.ownBlock = some b → v9.ownBlock ≠ some b
  new : ∀ j, j < n → j ≠ x → l8.length + l9.length ≤ j → W.cell? ⟨M.S, j, none⟩ = some (.slice none 0 0)
section
variable {w : World} {M : RM} {n N1 x : Nat} {GT GW : Nat → Int} {R : Nat → List Int} {v8 v9 : Value} {l8 l9 : List Nat} {W W' : World}
/-- What is newer changes, or grows. -/
theorem RSt.grown {row : Option Nat} (h : RSt w M n N1 x GT GW R v8 v9 l8 l9 W) (hM : M.OK w) (hg : W.grownBy W' row) (hr : ∀ k, row = some k → N1 ≤ k) : RSt w M n N1 x GT GW R v8 v9 l8 l9 W' := by
  have hn := h.n0
  have ne : ∀ b, b < N1 → some b ≠ row := fun b hb e => by have := hr b e.symm; omega
  have m1 := hM.h10; have m2 := hM.h11; have m3 := hM.h12; have m4 := hM.hT; have m5 := hM.hW; have m6 := hM.hS
  refine ⟨h.lt.grown hg (fun k e => by have := hr k e; omega), ⟨hn.1, Nat.le_trans hn.2 hg.size⟩, grown_cell hg h.c10 (ne _ (by omega)), grown_cell hg h.c11 (ne _ (by omega)), grown_cell hg h.c12 (ne _ (by omega)), h.tot.grown hg (ne _ (by omega)), h.totf.grown hg (ne _ (by omega)), h.win.grown hg (ne _ (by omega)), h.winf.grown hg (ne _ (by omega)), fun j hj hi => ?_, h.stf.grown hg (ne _ (by omega)),
    h.o8.keep hg (fun b hb => ne b (h.w8 b hb)), h.o9.keep hg (fun b hb => ne b (h.w9 b hb)), h.w8, h.w9, h.ap, fun j hj hx hs => grown_cell hg (h.new j hj hx hs) (ne _ (by omega))⟩
  obtain ⟨A, c, h1, h2, h3⟩ := h.rows j hj hi
  exact ⟨A, c, grown_cell hg h1 (ne _ (by omega)), h2.grown hg (fun b o e => ne b (h3 b o e).2.1), h3⟩
theorem RSt.later (h : RSt w M n N1 x GT GW R v8 v9 l8 l9 W) (hM : M.OK w) (hl : Lt W W') : RSt w M n N1 x GT GW R v8 v9 l8 l9 W' := h.grown hM (grownBy_lt hl none) (fun k e => by cases e)
/-- One car more that counts. -/
theorem RSt.app8 {v1 : Value} {y : Nat} (h : RSt w M n N1 x GT GW R v8 v9 l8 l9 W) (hM : M.OK w) (hO : OwnI W' M.N0 v1 (nums l8 ++ [(y : Int)])) (hg : W.grownBy W' v8.ownBlock) (ha : ∀ b, v1.ownBlock = some b → v8.ownBlock = some b ∨ W.heap.size ≤ b) : RSt w M n W'.heap.size x GT GW R v1 v9 (l8 ++ [y]) l9 W' := by
  have hn := h.n0
  have hb := h.o8.base_le
  have hz := hg.size
  have ne : ∀ b, b < M.N0 → some b ≠ v8.ownBlock := fun b hb' e => by have := hb b e.symm; omega
  have m1 := hM.h10; have m2 := hM.h11; have m3 := hM.h12; have m4 := hM.hT; have m5 := hM.hW; have m6 := hM.hS
  refine ⟨h.lt.grown hg (fun k e => by have := hb k e; omega), ⟨by omega, Nat.le_refl _⟩, grown_cell hg h.c10 (ne _ m1.2), grown_cell hg h.c11 (ne _ m2.2), grown_cell hg h.c12 (ne _ m3.2), h.tot.grown hg (ne _ m4.2), h.totf.grown hg (ne _ m4.2), h.win.grown hg (ne _ m5.2), h.winf.grown hg (ne _ m5.2), fun j hj hi => ?_, h.stf.grown hg (ne _ m6.2),
    by rw [nums_append]; exact hO, h.o9.keep hg (fun b hb e => h.ap b e.symm hb), fun b e => hO.lt b e, fun b e => by have := h.w9 b e; omega, fun b e e' => ?_, fun j hj hx hs => grown_cell hg (h.new j hj hx (by rw [List.length_append, List.length_singleton] at hs; omega)) (ne _ m6.2)⟩
  · obtain ⟨A, c, h1, h2, h3⟩ := h.rows j hj hi
    refine ⟨A, c, grown_cell hg h1 (ne _ m6.2), h2.grown hg (fun b o e e' => (h3 b o e).2.2.1 e'.symm), fun b o e => ⟨(h3 b o e).1, by have := (h3 b o e).2.1; omega, fun e' => ?_, (h3 b o e).2.2.2⟩⟩
    rcases ha b e' with e2 | e2
    · exact (h3 b o e).2.2.1 e2
    · have := (h3 b o e).2.1; omega
  · rcases ha b e with e2 | e2
    · exact h.ap b e2 e'
    · have := h.w9 b e'; omega
/-- One car more that does not count. -/
theorem RSt.app9 {v1 : Value} {y : Nat} (h : RSt w M n N1 x GT GW R v8 v9 l8 l9 W) (hM : M.OK w) (hO : OwnI W' M.N0 v1 (nums l9 ++ [(y : Int)])) (hg : W.grownBy W' v9.ownBlock) (ha : ∀ b, v1.ownBlock = some b → v9.ownBlock = some b ∨ W.heap.size ≤ b) : RSt w M n W'.heap.size x GT GW R v8 v1 l8 (l9 ++ [y]) W' := by
  have hn := h.n0
  have hb := h.o9.base_le
  have hz := hg.size
  have ne : ∀ b, b < M.N0 → some b ≠ v9.ownBlock := fun b hb' e => by have := hb b e.symm; omega
  have m1 := hM.h10; have m2 := hM.h11; have m3 := hM.h12; have m4 := hM.hT; have m5 := hM.hW; have m6 := hM.hS
  refine ⟨h.lt.grown hg (fun k e => by have := hb k e; omega), ⟨by omega, Nat.le_refl _⟩, grown_cell hg h.c10 (ne _ m1.2), grown_cell hg h.c11 (ne _ m2.2), grown_cell hg h.c12 (ne _ m3.2), h.tot.grown hg (ne _ m4.2), h.totf.grown hg (ne _ m4.2), h.win.grown hg (ne _ m5.2), h.winf.grown hg (ne _ m5.2), fun j hj hi => ?_, h.stf.grown hg (ne _ m6.2),
    h.o8.keep hg (fun b hb e => h.ap b hb e.symm), by rw [nums_append]; exact hO, fun b e => by have := h.w8 b e; omega, fun b e => hO.lt b e, fun b e e' => ?_, fun j hj hx hs => grown_cell hg (h.new j hj hx (by rw [List.length_append, List.length_singleton] at hs; omega)) (ne _ m6.2)⟩
  · obtain ⟨A, c, h1, h2, h3⟩ := h.rows j hj hi
    refine ⟨A, c, grown_cell hg h1 (ne _ m6.2), h2.grown hg (fun b o e e' => (h3 b o e).2.2.2 e'.symm), fun b o e => ⟨(h3 b o e).1, by have := (h3 b o e).2.1; omega, (h3 b o e).2.2.1, fun e' => ?_⟩⟩
    rcases ha b e' with e2 | e2
    · exact (h3 b o e).2.2.2 e2
    · have := (h3 b o e).2.1; omega
  · rcases ha b e' with e2 | e2
    · exact h.ap b e e2
    · have := h.w8 b e; omega
/-- A total is written. -/
theorem RSt.setT {i : Nat} (h : RSt w M n N1 x GT GW R v8 v9 l8 l9 W) (hM : M.OK w) (y : Int) (hi : i < n) : RSt w M n N1 x (fun j => if j = i then y else GT j) GW R v8 v9 l8 l9 (W.setCell ⟨M.T, i, none⟩ (.int .i64 y)) := by
  have hn := h.n0
  have hg := grownBy_setCell W M.T i (.int .i64 y)
  have ne : ∀ b, b ≠ M.T → some b ≠ some M.T := fun b hb e => hb (Option.some.inj e)
  have m4 := hM.hT; have m7 := hM.nT
  refine ⟨h.lt.setCell (p := ⟨M.T, i, none⟩) m4.1 _, ⟨hn.1, by simpa using hn.2⟩, grown_cell hg h.c10 (ne _ (by omega)), grown_cell hg h.c11 (ne _ (by omega)), grown_cell hg h.c12 (ne _ (by omega)), h.tot.set y hi, h.totf.set, h.win.grown hg (ne _ (by omega)), h.winf.set, fun j hj hi => ?_, h.stf.set,
    h.o8.keep hg (fun b hb => ne b (by have := h.o8.base_le b hb; omega)), h.o9.keep hg (fun b hb => ne b (by have := h.o9.base_le b hb; omega)), h.w8, h.w9, h.ap, fun j hj hx hs => grown_cell hg (h.new j hj hx hs) (ne _ (by omega))⟩
  obtain ⟨A, c, h1, h2, h3⟩ := h.rows j hj hi
  exact ⟨A, c, grown_cell hg h1 (ne _ (by omega)), h2.grown hg (fun b o e => ne b (by have := (h3 b o e).1; omega)), h3⟩
/-- A number of wins is written. -/
theorem RSt.setW {i : Nat} (h : RSt w M n N1 x GT GW R v8 v9 l8 l9 W) (hM : M.OK w) (y : Int) (hi : i < n) : RSt w M n N1 x GT (fun j => if j = i then y else GW j) R v8 v9 l8 l9 (W.setCell ⟨M.Wn, i, none⟩ (.int .i64 y)) := by
  have hn := h.n0
  have hg := grownBy_setCell W M.Wn i (.int .i64 y)
  have ne : ∀ b, b ≠ M.Wn → some b ≠ some M.Wn := fun b hb e => hb (Option.some.inj e)
  have m4 := hM.hW; have m7 := hM.nT; have m8 := hM.nW
  refine ⟨h.lt.setCell (p := ⟨M.Wn, i, none⟩) m4.1 _, ⟨hn.1, by simpa using hn.2⟩, grown_cell hg h.c10 (ne _ (by omega)), grown_cell hg h.c11 (ne _ (by omega)), grown_cell hg h.c12 (ne _ (by omega)), h.tot.grown hg (ne _ (by omega)), h.totf.set, h.win.set y hi, h.winf.set, fun j hj hi => ?_, h.stf.set,
    h.o8.keep hg (fun b hb => ne b (by have := h.o8.base_le b hb; omega)), h.o9.keep hg (fun b hb => ne b (by have := h.o9.base_le b hb; omega)), h.w8, h.w9, h.ap, fun j hj hx hs => grown_cell hg (h.new j hj hx hs) (ne _ (by omega))⟩
  obtain ⟨A, c, h1, h2, h3⟩ := h.rows j hj hi
  exact ⟨A, c, grown_cell hg h1 (ne _ (by omega)), h2.grown hg (fun b o e => ne b (by have := (h3 b o e).1; omega)), h3⟩
/-- Car x's row is written. -/
theorem RSt.setS (h : RSt w M n N1 x GT GW R v8 v9 l8 l9 W) (hM : M.OK w) (u : Value) : RSt w M n N1 x GT GW R v8 v9 l8 l9 (W.setCell ⟨M.S, x, none⟩ u) := by
  have hn := h.n0
  have hg := grownBy_setCell W M.S x u
  have ne : ∀ b, b ≠ M.S → some b ≠ some M.S := fun b hb e => hb (Option.some.inj e)
  have m4 := hM.hS; have m7 := hM.nT; have m8 := hM.nW; have m9 := hM.nS
  refine ⟨h.lt.setCell (p := ⟨M.S, x, none⟩) m4.1 _, ⟨hn.1, by simpa using hn.2⟩, grown_cell hg h.c10 (ne _ (by omega)), grown_cell hg h.c11 (ne _ (by omega)), grown_cell hg h.c12 (ne _ (by omega)), h.tot.grown hg (ne _ (by omega)), h.totf.set, h.win.grown hg (ne _ (by omega)), h.winf.set, fun j hj hi => ?_, h.stf.set,
    h.o8.keep hg (fun b hb => ne b (by have := h.o8.base_le b hb; omega)), h.o9.keep hg (fun b hb => ne b (by have := h.o9.base_le b hb; omega)), h.w8, h.w9, h.ap, fun j hj hx hs => (World.cell?_setCell_other _ _ _ _ (by intro e'; simp only [Addr.mk.injEq] at e'; omega)).trans (h.new j hj hx hs)⟩
  obtain ⟨A, c, h1, h2, h3⟩ := h.rows j hj hi
  exact ⟨A, c, (World.cell?_setCell_other _ _ _ _ (by intro e'; simp only [Addr.mk.injEq] at e'; omega)).trans h1, h2.grown hg (fun b o e => ne b (by have := (h3 b o e).1; omega)), h3⟩
/-- One row is taken out. -/
theorem RSt.open_ (h : RSt w M n N1 n GT GW R v8 v9 l8 l9 W) (i : Nat) (hi : i < n) : RSt w M n N1 i GT GW R v8 v9 l8 l9 W :=
  ⟨h.lt, h.n0, h.c10, h.c11, h.c12, h.tot, h.totf, h.win, h.winf, fun j hj hij => h.rows j hj (by omega), h.stf, h.o8, h.o9, h.w8, h.w9, h.ap, fun j hj hx hs => h.new j hj (by omega) hs⟩
/-- It is put back. -/
theorem RSt.close {R' : Nat → List Int} (h : RSt w M n N1 x GT GW R v8 v9 l8 l9 W) (hxs : x < l8.length + l9.length) (hR : ∀ j, j ≠ x → R' j = R j) {A : Option Addr} {c : Nat} (hc : W.cell? ⟨M.S, x, none⟩ = some (.slice A (R' x).length c)) (hI : Ints W A c (R' x)) (hA : ∀ b o, A = some ⟨b, o, none⟩ → N1 ≤ b ∧ b < W.heap.size) : RSt w M n W.heap.size n GT GW R' v8 v9 l8 l9 W := by
  have hn := h.n0
  refine ⟨h.lt, ⟨by omega, Nat.le_refl _⟩, h.c10, h.c11, h.c12, h.tot, h.totf, h.win, h.winf, fun j hj _ => ?_, h.stf, h.o8, h.o9, fun b e => by have := h.w8 b e; omega, fun b e => by have := h.w9 b e; omega, h.ap, fun j hj _ hs => h.new j hj (by omega) hs⟩
  by_cases e : j = x
  · subst e
    exact ⟨A, c, hc, hI, fun b o e => ⟨by have := (hA b o e).1; omega, (hA b o e).2, fun e' => by have := h.w8 b e'; have := (hA b o e).1; omega, fun e' => by have := h.w9 b e'; have := (hA b o e).1; omega⟩⟩
  · obtain ⟨A', c', h1, h2, h3⟩ := h.rows j hj e
    rw [hR j e]
    exact ⟨A', c', h1, h2, fun b o e => ⟨(h3 b o e).1, by have := (h3 b o e).2.1; omega, (h3 b o e).2.2⟩⟩
theorem RSt.congr {GT' GW' : Nat → Int} {R' : Nat → List Int} (h : RSt w M n N1 x GT GW R v8 v9 l8 l9 W) (h1 : ∀ j, j < n → GT' j = GT j) (h2 : ∀ j, j < n → GW' j = GW j) (h3 : ∀ j, j < n → j ≠ x → R' j = R j) : RSt w M n N1 x GT' GW' R' v8 v9 l8 l9 W :=
  ⟨h.lt, h.n0, h.c10, h.c11, h.c12, fun j hj => by rw [h1 j hj]; exact h.tot j hj, h.totf, fun j hj => by rw [h2 j hj]; exact h.win j hj, h.winf, fun j hj hx => by rw [h3 j hj hx]; exact h.rows j hj hx, h.stf, h.o8, h.o9, h.w8, h.w9, h.ap, h.new⟩
end
end Go.Proofs.YtdpcdmcmpfjbjaaGreat
