/- Walks: Results: those that count; Walks: Results: its lists are made. -/
import Derived.Test.YtdpcdmcmpfjbjaaGreatJO
import Derived.Deep.RegionHeldLaw
import Derived.Test.YtdpcdmcmpfjbjaaGreatJN
/- Walks: Results: those that count. -/
namespace Go.Proofs.YtdpcdmcmpfjbjaaGreat
open Go.RowKit Go.Sort
set_option linter.unusedVariables false
set_option linter.unusedSimpArgs false
attribute [local go_sem] Later.cell Later.frozen Later.size Later.ne Later.cell1 Later.cell2 Later.cell3 Later.size1 Later.size2 Later.size3 Later.ne1 Later.ne2 Later.ne3

theorem atP_bd {l : List Int} {lo hi mx : Nat} (h : ints l lo hi mx) (i : Nat) : 0 ≤ atP l i ∧ atP l i ≤ mx := by
  unfold atP
  split
  · omega
  · exact h.2.2 i (by omega)
theorem extraP_bd {p : Plan} (h : PlanOK p) (cards : List Card) (c : Nat) : 0 ≤ extraP p cards c ∧ extraP p cards c ≤ 1000 := by
  unfold extraP extraTo
  split
  · exact atP_bd h.extra _
  · omega

theorem pl_newb (W : World) (y : Placing) (b : Nat) (hb : b = W.heap.size) : ∀ j u, (plCells y)[j]? = some u → (W.alloc (.cells #[.int .i64 y.car, .bool y.counts, .int .i64 y.out, .int .i64 y.total, .int .i64 y.place, .int .i64 y.inClass, .int .i64 y.points] 60)).cell? ⟨b, j, none⟩ = some u := by subst hb; exact pl_new W y
theorem pl_newbd (W : World) (y : Placing) (b : Nat) (hb : b = W.heap.size) : ∀ j u, (plCells y)[j]? = some u → (W.alloc (.cells #[.int .i64 y.car, .bool y.counts, .int .i64 y.out, .int .i64 y.total, .int .i64 y.place, .int .i64 y.inClass, .int .i64 y.points] 60)).drew.cell? ⟨b, j, none⟩ = some u := by subst hb; exact pl_newd W y

set_option maxHeartbeats 16000000 in
set_option maxRecDepth 100000 in
theorem c_resPlaces (We W3 W0 : World) (m : PlanM) (p : Plan) (cards : List Card) (BP b10 T E C : Nat) (A oA : Option Addr) (c oc : Nat) (v20 : Value)
    (hp : PlanIs We m p) (hB : PlanAt We BP m p) (hCa : Cards We A c cards) (hP : PlanOK p) (hO : cardsOK p cards) (hl3 : Lt We W3) (hl : Lt W3 W0) (h10 : W3.cell? ⟨b10, 0, none⟩ = some (.slice (some ⟨T, 0, none⟩) cards.length cards.length)) (hT : IntsF W3 T cards.length (totalP p cards))
    (hE : IntsF W3 E cards.length (extraP p cards)) (hOr : Ints W3 oA oc (nums (resOrder p cards))) (hC : W3.heap.size ≤ C) (hc0 : IntsF W0 C p.classes.toNat fun _ => 0) (hcf : FreeF W0 C p.classes.toNat) (hOw : OwnPl W0 (C + 1) v20 (placesTo p cards 0)) (c0 c3 c4 c5 c6 c7 c8 c9 c11 c12 c13 c14 c15 c17 c18 c19 c25 c26 c27 c28 c29 c30 c31 c32 c33 c34 c35 c36 c37 c38 c39 c40 c41 c42 c43 c44 c45 c46 c47 c48 c49 c50 c51 c52 c53 c54 c55 c56 c57 c58 c59 c60 c61 c62 c63 c64 c65 c66 c67 c68 c69 c70 c71 c72 c73 c74 c75 c76 c77 c78 c79 c80 c81 c82 c83 c84 c85 c86 c87 c88 c89 c90 c91 c92 c93 c94 c95 c96 c97 c98 c99 c100 c101 c102 c103 c104 c105 c106 c107 c108 c109 c110 c111 c112 c113 c114 c115 c116 c117 c118 c119 c120 c121 c122 c123 c124 c125 c126 c127 c128 c129 c130 c131 c132 c133 c134 c135 c136 c137 c138 c139 c140 c141 c142 c143 c144 c145 c146 c147 c148 c149 c150 c151 c152 c153 c154 c155 c156 c157 c158 c159 c160 c161 c206 c207 c208 c209 c210 c211 c212 c213 c214 c215 c216 c217 c218 c219 c220 c221 c222 c223 c224 c225 c226 c227 c228 c229 : Value) (u22 u23 u24 u165 u166 u167 u168 u169 u170 u171 u172 u173 u174 u175 u176 u177 u178 u179 u180 u181 u182 u183 u184 u185 u186 u187 u188 u189 u190 u191 u192 u193 u194 u195 u196 u197 u198 u199 u200 u201 u202 u203 u204 u205 : Value)
    (Q : Exit → Act → World → Prop)
    (hex : ∀ (v20 : Value) (u22 u23 u24 u164 u165 u166 u167 u168 u169 u170 u171 u172 u173 u174 u175 u176 u177 u178 u179 u180 u181 u182 u183 u184 u185 u186 u187 u188 u189 u190 u191 u192 u193 u194 u195 u196 u197 u198 u199 u200 u201 u202 u203 u204 u205 : Value) (W : World), Lt W3 W → C + 1 ≤ W.heap.size → OwnPl W (C + 1) v20 (placesTo p cards (resOrder p cards).length) → Q (.exit 6) { tmps := #[c0, (.slice A cards.length c), (.pointer (some ⟨BP, 0, none⟩)), c3, c4, c5, c6, c7, c8, c9, (.pointer (some ⟨b10, 0, none⟩)), c11, c12, c13, c14, c15, (.slice (some ⟨E, 0, none⟩) cards.length cards.length), c17, c18, c19, v20, (.slice (some ⟨C, 0, none⟩) p.classes.toNat p.classes.toNat), u22, u23, u24, c25, c26, c27, c28, c29, c30, c31, c32, c33, c34, c35, c36, c37, c38, c39, c40, c41, c42, c43, c44, c45, c46, c47, c48, c49, c50, c51, c52, c53, c54, c55, c56, c57, c58, c59, c60, c61, c62, c63, c64, c65, c66, c67, c68, c69, c70, c71, c72, c73, c74, c75, c76, c77, c78, c79, c80, c81, c82, c83, c84, c85, c86, c87, c88, c89, c90, c91, c92, c93, c94, c95, c96, c97, c98, c99, c100, c101, c102, c103, c104, c105, c106, c107, c108, c109, c110, c111, c112, c113, c114, c115, c116, c117, c118, c119, c120, c121, c122, c123, c124, c125, c126, c127, c128, c129, c130, c131, c132, c133, c134, c135, c136, c137, c138, c139, c140, c141, c142, c143, c144, c145, c146, c147, c148, c149, c150, c151, c152, c153, c154, c155, c156, c157, c158, c159, c160, c161, (.slice oA (resOrder p cards).length oc), (.int .i64 ((resOrder p cards).length : Nat)), u164, u165, u166, u167, u168, u169, u170, u171, u172, u173, u174, u175, u176, u177, u178, u179, u180, u181, u182, u183, u184, u185, u186, u187, u188, u189, u190, u191, u192, u193, u194, u195, u196, u197, u198, u199, u200, u201, u202, u203, u204, u205, c206, c207, c208, c209, c210, c211, c212, c213, c214, c215, c216, c217, c218, c219, c220, c221, c222, c223, c224, c225, c226, c227, c228, c229], defers := [] } W) :
    (resLoop 3).wp Tryz.prog Q { tmps := #[c0, (.slice A cards.length c), (.pointer (some ⟨BP, 0, none⟩)), c3, c4, c5, c6, c7, c8, c9, (.pointer (some ⟨b10, 0, none⟩)), c11, c12, c13, c14, c15, (.slice (some ⟨E, 0, none⟩) cards.length cards.length), c17, c18, c19, v20, (.slice (some ⟨C, 0, none⟩) p.classes.toNat p.classes.toNat), u22, u23, u24, c25, c26, c27, c28, c29, c30, c31, c32, c33, c34, c35, c36, c37, c38, c39, c40, c41, c42, c43, c44, c45, c46, c47, c48, c49, c50, c51, c52, c53, c54, c55, c56, c57, c58, c59, c60, c61, c62, c63, c64, c65, c66, c67, c68, c69, c70, c71, c72, c73, c74, c75, c76, c77, c78, c79, c80, c81, c82, c83, c84, c85, c86, c87, c88, c89, c90, c91, c92, c93, c94, c95, c96, c97, c98, c99, c100, c101, c102, c103, c104, c105, c106, c107, c108, c109, c110, c111, c112, c113, c114, c115, c116, c117, c118, c119, c120, c121, c122, c123, c124, c125, c126, c127, c128, c129, c130, c131, c132, c133, c134, c135, c136, c137, c138, c139, c140, c141, c142, c143, c144, c145, c146, c147, c148, c149, c150, c151, c152, c153, c154, c155, c156, c157, c158, c159, c160, c161, (.slice oA (resOrder p cards).length oc), (.int .i64 ((resOrder p cards).length : Nat)), (.int .i64 0), u165, u166, u167, u168, u169, u170, u171, u172, u173, u174, u175, u176, u177, u178, u179, u180, u181, u182, u183, u184, u185, u186, u187, u188, u189, u190, u191, u192, u193, u194, u195, u196, u197, u198, u199, u200, u201, u202, u203, u204, u205, c206, c207, c208, c209, c210, c211, c212, c213, c214, c215, c216, c217, c218, c219, c220, c221, c222, c223, c224, c225, c226, c227, c228, c229], defers := [] } W0 := by
  have HAT := Lib.hid (fun (W : World) (h : Lt We W) (k : Nat) => c_at m.pA m.pc p.points k W (hp.points.later h))
  have HH := Lib.hid hOw
  have HC0 : Hid (IntsF W0 C p.classes.toNat fun j => (clsTo p cards 0 (j : Nat) : Nat)) := Lib.hid (fun j hj => by rw [hc0 j hj]; simp [clsTo])
  have HOR := Lib.hid hOr
  have HB := Lib.hid hB
  have HT := Lib.hid hT
  have HE := Lib.hid hE
  have HCA := Lib.hid hCa
  have HPO := Lib.hid hP
  have HOO := Lib.hid hO
  have HEX := Lib.hid hex
  have HCF := Lib.hid hcf
  have hcm := hCa.2.1
  have hrm := hOr.2.1
  have h200 := hO.1
  have hrl : (resOrder p cards).length ≤ cards.length := by rw [resOrder_length]; exact countTo_length p cards cards.length
  clear hOw hOr hex hT hE hB hCa hP hO hcf hc0
  dsimp only
  conv => arg 2; whnf
  go_loopw [20, 164] (fun v t wr => ∃ (k : Nat) (u : Value), u = v ∧ t = .int .i64 k ∧ k ≤ (resOrder p cards).length ∧ Lt W3 wr ∧ Hid (IntsF wr C p.classes.toNat fun j => (clsTo p cards k (j : Nat) : Nat)) ∧ FreeF wr C p.classes.toNat ∧ Hid (OwnPl wr (C + 1) u (placesTo p cards k))) (fun _ t _ => (resOrder p cards).length - (intOf t).toNat)
  case atStart => exact ⟨0, _, rfl, rfl, Nat.zero_le _, hl, HC0, HCF.out, HH⟩
  case round =>
    clear HH hl HC0 HCF
    obtain ⟨k, v, rfl, rfl, hk, hl, HI, hfr, HO⟩ := hrel
    by_cases hlt : k < (resOrder p cards).length
    · have hkz : (k : Int) < (resOrder p cards).length := by omega
      obtain ⟨vb, vo, rfl, hvb, hvc⟩ := HOR.out.at_ k (by rw [nums_length]; exact hlt)
      rw [nth_nums _ _ hlt] at hvc
      have hvc2 := hl.cell hvc
      have hcar : nth (resOrder p cards) k < cards.length := (mem_resOrder.1 (nth_mem _ k hlt)).1
      have hcz : ((nth (resOrder p cards) k : Nat) : Int) < cards.length := by omega
      have HL := Lib.hid hl
      have hll := hl3.trans hl
      obtain ⟨ab, ao, rfl, hab, cm, hcm2, a0, a1, a2⟩ := HCA.out.at_ _ hcar
      have a0' := hll.cell a0
      have hcls := (HOO.out.2 _ hcar).cls
      have hpc := HPO.out.cls
      obtain ⟨cl, hcl⟩ : ∃ cl : Nat, (nth cards (nth (resOrder p cards) k)).cls = cl := ⟨_, (Int.toNat_of_nonneg hcls.1).symm⟩
      have hclt : cl < p.classes.toNat := by omega
      have hclz : (cl : Int) < (p.classes.toNat : Int) := by omega
      rw [hcl] at a0'
      have hcc : wr.cell? ⟨C, cl, none⟩ = some (.int .i64 ((clsTo p cards k (cl : Nat) : Nat) : Int)) := HI.out cl hclt
      have hcff := hfr.2 cl hclt
      have hcfl := hfr.1
      have hcle := clsTo_le p cards k cl
      have hwc : IntKind.i64.wrap ((clsTo p cards k (cl : Nat) : Nat) + 1) = (clsTo p cards k (cl : Nat) : Nat) + 1 := IntWalk.i64_in _ (by omega)
      have hwk : IntKind.i64.wrap ((k : Int) + 1) = (k : Int) + 1 := IntWalk.i64_in _ (by omega)
      have hb1 := atP_bd HPO.out.points k
      have hb2 := extraP_bd HPO.out cards (nth (resOrder p cards) k)
      have hwp : IntKind.i64.wrap (atP p.points k + extraP p cards (nth (resOrder p cards) k)) = atP p.points k + extraP p cards (nth (resOrder p cards) k) := IntWalk.i64_in _ (by omega)
      have HN : Hid (placesTo p cards (k + 1) = placesTo p cards k ++ [⟨((nth (resOrder p cards) k : Nat) : Int), true, -1, totalP p cards (nth (resOrder p cards) k), (k : Int) + 1, ((clsTo p cards k (cl : Nat) : Nat) : Int) + 1, atP p.points k + extraP p cards (nth (resOrder p cards) k)⟩]) := Lib.hid (by
        rw [placesTo_succ]
        unfold placeP
        rw [hcl, clsTo_succ hlt, hcl, if_pos rfl]
        rfl)
      have HI2 : Hid (IntsF (wr.setCell ⟨C, cl, none⟩ (.int .i64 ((clsTo p cards k (cl : Nat) : Nat) + 1))) C p.classes.toNat fun j => (clsTo p cards (k + 1) (j : Nat) : Nat)) := Lib.hid (by
        have h2 := HI.out.set (((clsTo p cards k (cl : Nat) : Nat) : Int) + 1) hclt
        intro j hj
        rw [h2 j hj]
        dsimp only
        rw [clsTo_succ hlt, hcl]
        by_cases e : j = cl
        · subst e; simp
        · rw [if_neg e, if_neg (by omega)])
      have hf2 : FreeF (wr.setCell ⟨C, cl, none⟩ (.int .i64 ((clsTo p cards k (cl : Nat) : Nat) + 1))) C p.classes.toNat := hfr.set
      have HLN := Lib.hid (show (placesTo p cards k).length ≤ 1000000 by unfold placesTo; rw [List.length_map, List.length_range]; omega)
      have hl2 : Lt W3 (wr.setCell ⟨C, cl, none⟩ (.int .i64 ((clsTo p cards k (cl : Nat) : Nat) + 1))) := hl.setCell (p := ⟨C, cl, none⟩) hC _
      have hcb2 : C + 1 ≤ (wr.setCell ⟨C, cl, none⟩ (.int .i64 ((clsTo p cards k (cl : Nat) : Nat) + 1))).heap.size := Nat.succ_le_of_lt (by simpa using hcfl)
      have HO2 : Hid (OwnPl (wr.setCell ⟨C, cl, none⟩ (.int .i64 ((clsTo p cards k (cl : Nat) : Nat) + 1))) (C + 1) v (placesTo p cards k)) := Lib.hid (HO.out.keep (grownBy_setCell _ _ _ _) (fun b hb e => by have := HO.out.base_le b hb; have := Option.some.inj e; omega))
      have h10w := hl2.cell h10
      have htc := hl2.cell (HT.out _ hcar)
      have hec := hl2.cell (HE.out _ hcar)
      have hbp := (hl3.trans hl2).cell HB.out.c12
      have hcc2 : (wr.setCell ⟨C, cl, none⟩ (.int .i64 ((clsTo p cards k (cl : Nat) : Nat) + 1))).cell? ⟨C, cl, none⟩ = _ := World.cell?_setCell_same _ _ _ hcc
      have HAT1 := Lib.hid (fun W (h : Lt (wr.setCell ⟨C, cl, none⟩ (.int .i64 ((clsTo p cards k (cl : Nat) : Nat) + 1))) W) => HAT.out W ((hl3.trans hl2).trans h) k)
      clear hvc hab hll HAT hcm2 a0 a1 a2 hcls hpc hb1 hb2 HI HO hcl hclt
      generalize p.classes.toNat = NC at *
      generalize hCR : nth (resOrder p cards) k = CAR at *
      generalize atP p.points k = PT at *
      generalize extraP p cards CAR = EX at *
      generalize clsTo p cards k (cl : Nat) = CT at *
      have hne : ∀ b, b ≤ C → some b ≠ v.ownBlock := fun b hb e => by have := HO2.out.base_le b e.symm; omega
      have B10 : b10 ≤ C := by have := World.block_lt_of_cell? _ _ h10; (try dsimp only at this); omega
      have BT : T ≤ C := by have := World.block_lt_of_cell? _ _ (HT.out _ hcar); (try dsimp only at this); omega
      have BE : E ≤ C := by have := World.block_lt_of_cell? _ _ (HE.out _ hcar); (try dsimp only at this); omega
      have BBP : BP ≤ C := by have h1 := World.block_lt_of_cell? _ _ HB.out.c12; have h2 := hl3.size; (try dsimp only at h1); omega
      go_upto_region 41 with fail
      generalize (wr.setCell ⟨C, cl, none⟩ (.int .i64 ((CT : Nat) + 1))) = WX at *
      generalize totalP p cards CAR = TT at *
      refine wp_region_noPanic ?_
      go_region_held_law (fun w' => w'.cell? ⟨b10, 0, none⟩ = some (.slice (some ⟨T, 0, none⟩) cards.length cards.length) ∧ w'.cell? ⟨T, CAR, none⟩ = some (.int .i64 TT) ∧ w'.cell? ⟨C, cl, none⟩ = some (.int .i64 ((CT : Nat) + 1)) ∧ w'.cell? ⟨BP, 12, none⟩ = some (.slice m.pA p.points.length m.pc) ∧ w'.cell? ⟨E, CAR, none⟩ = some (.int .i64 EX))
        (first | go_keep | (go_split_ands; exact ⟨grown_cell hg1 (by assumption) (hne _ B10), grown_cell hg1 (by assumption) (hne _ BT), grown_cell hg1 (by assumption) (hne _ (Nat.le_refl _)), grown_cell hg1 (by assumption) (hne _ BBP), grown_cell hg1 (by assumption) (hne _ BE)⟩))
        (first
        | (refine step_appP WX.heap.size (C + 1) rfl (.tmp 180) (.tmp 203) rfl _ (placesTo p cards k) ⟨(CAR : Int), true, -1, TT, (k : Int) + 1, (CT : Int) + 1, PT + EX⟩ rfl rfl ?_ ?_ ?_ HLN.out ?_; (first | exact pl_newd WX _ | exact pl_new WX.drew _ | exact pl_new WX _); (first | exact HO2.out.later ((Lt.refl _).alloc _).drew | exact HO2.out.later ((Lt.refl _).drew.alloc _)); (first | exact Nat.le_trans hcb2 ((Lt.refl WX).alloc _).drew.size | exact Nat.le_trans hcb2 ((Lt.refl WX).drew.alloc _).size); intro v1 W1 hO1 hg1; have hgw : WX.grownBy W1 v.ownBlock := (by first | exact World.grownBy.trans (grownBy_lt ((Lt.refl WX).alloc _).drew _) hg1 | exact World.grownBy.trans (grownBy_lt ((Lt.refl WX).drew.alloc _) _) hg1))
        | (go_simp; go_at_call 78; refine (HAT1.out _ ?_).mono ?_; (first | exact (Lt.refl _).drew | exact Lt.refl _); rintro e w1 ⟨rfl, rfl⟩))
      all_goals
        refine NoPanic.normal ?_
        go_wp2_with fail
        exact ⟨⟨k + 1, v1, rfl, by go_num, by omega, hl2.grown hgw (fun b hb => by have := HO2.out.base_le b hb; omega), Lib.hid (HI2.out.grown hgw (hne _ (Nat.le_refl _))), hf2.grown hgw (hne _ (Nat.le_refl _)), Lib.hid (by rw [HN.out]; exact hO1)⟩, by simp [intOf]; omega⟩
    · have hke : k = (resOrder p cards).length := by omega
      subst hke
      go_wp2_with fail
      exact HEX.out _ _ _ _ _ _ _ _ _ _ _ _ _ _ _ _ _ _ _ _ _ _ _ _ _ _ _ _ _ _ _ _ _ _ _ _ _ _ _ _ _ _ _ _ _ _ _ hl hfr.1 HO.out
end Go.Proofs.YtdpcdmcmpfjbjaaGreat
/- Walks: Results: its lists are made. -/
namespace Go.Proofs.YtdpcdmcmpfjbjaaGreat
open Go.RowKit Go.Sort
set_option linter.unusedVariables false
set_option linter.unusedSimpArgs false
attribute [local go_sem] Later.cell Later.frozen Later.size Later.ne Later.cell1 Later.cell2 Later.cell3 Later.size1 Later.size2 Later.size3 Later.ne1 Later.ne2 Later.ne3

/-- The totals and the wins are made. -/
structure ResMk (w : World) (n b10 b11 T Wn : Nat) (W : World) : Prop where
  lt : Lt w W
  h10 : w.heap.size ≤ b10 ∧ b10 < W.heap.size
  h11 : w.heap.size ≤ b11 ∧ b11 < W.heap.size
  hT : w.heap.size ≤ T ∧ T < W.heap.size
  hW : w.heap.size ≤ Wn ∧ Wn < W.heap.size
  ne : b10 ≠ T ∧ b11 ≠ T ∧ Wn ≠ T ∧ b10 ≠ Wn ∧ b11 ≠ Wn
  c10 : W.cell? ⟨b10, 0, none⟩ = some (.slice (some ⟨T, 0, none⟩) n n)
  c11 : W.cell? ⟨b11, 0, none⟩ = some (.slice (some ⟨Wn, 0, none⟩) n n)
  ct : ∀ j, j < n → W.cell? ⟨T, j, none⟩ = some (.int .i64 0) ∧ W.frozen? ⟨T, j, none⟩ = false
  cw : ∀ j, j < n → W.cell? ⟨Wn, j, none⟩ = some (.int .i64 0) ∧ W.frozen? ⟨Wn, j, none⟩ = false
theorem res_made {w W : World} {n : Nat} {b10 b11 T Wn : Nat} (c10 : W.cell? ⟨b10, 0, none⟩ = some (.slice (some ⟨T, 0, none⟩) n n)) (c11 : W.cell? ⟨b11, 0, none⟩ = some (.slice (some ⟨Wn, 0, none⟩) n n))
    (ct : ∀ j, j < n → W.cell? ⟨T, j, none⟩ = some (.int .i64 0) ∧ W.frozen? ⟨T, j, none⟩ = false) (cw : ∀ j, j < n → W.cell? ⟨Wn, j, none⟩ = some (.int .i64 0) ∧ W.frozen? ⟨Wn, j, none⟩ = false) (ne : b10 ≠ T ∧ b11 ≠ T ∧ Wn ≠ T ∧ b10 ≠ Wn ∧ b11 ≠ Wn)
    (lt : Lt w W) (h10 : w.heap.size ≤ b10 ∧ b10 < W.heap.size) (h11 : w.heap.size ≤ b11 ∧ b11 < W.heap.size) (hT : w.heap.size ≤ T ∧ T < W.heap.size) (hW : w.heap.size ≤ Wn ∧ Wn < W.heap.size) :
    ResMk w n b10 b11 T Wn W := ⟨lt, h10, h11, hT, hW, ne, c10, c11, ct, cw⟩
theorem res_begin {We wc : World} {n b10 b11 T Wn : Nat} (p : Plan) (cards : List Card) (hn : n = cards.length) (h : ResMk We n b10 b11 T Wn wc) :
    ∃ b12 S N0, Value.pointer (some ⟨wc.heap.size + 1, 0, none⟩) = .pointer (some ⟨b12, 0, none⟩) ∧ (RM.mk b10 b11 b12 T Wn S N0).OK We ∧ CarSt We (RM.mk b10 b11 b12 T Wn S N0) p cards 0 N0 (.slice none 0 0) (.slice none 0 0) ((wc.alloc (.cells (madeCells #[.slice none 0 0] n) 23)).alloc (.cells #[.slice (some ⟨wc.heap.size, 0, none⟩) n n] 61)) := by
  have hs := h.lt.size
  have h1 := h.h10; have h2 := h.h11; have h3 := h.hT; have h4 := h.hW; have h5 := h.ne
  have hl : Lt wc ((wc.alloc (.cells (madeCells #[.slice none 0 0] n) 23)).alloc (.cells #[.slice (some ⟨wc.heap.size, 0, none⟩) n n] 61)) := ((Lt.refl wc).alloc _).alloc _
  have hcs : ∀ j, j < n → ((wc.alloc (.cells (madeCells #[.slice none 0 0] n) 23)).alloc (.cells #[.slice (some ⟨wc.heap.size, 0, none⟩) n n] 61)).cell? ⟨wc.heap.size, j, none⟩ = some (.slice none 0 0) := fun j hj => by simp [go_sem, made_get _ _ _ hj]
  refine ⟨wc.heap.size + 1, wc.heap.size, wc.heap.size + 2, rfl, ⟨?_, ?_, ?_, ?_, ?_, ?_, ?_, ?_, ?_⟩, ?_⟩
  · exact ⟨h1.1, by show b10 < wc.heap.size + 2; omega⟩
  · exact ⟨h2.1, by show b11 < wc.heap.size + 2; omega⟩
  · exact ⟨by show We.heap.size ≤ wc.heap.size + 1; omega, by show wc.heap.size + 1 < wc.heap.size + 2; omega⟩
  · exact ⟨h3.1, by show T < wc.heap.size + 2; omega⟩
  · exact ⟨h4.1, by show Wn < wc.heap.size + 2; omega⟩
  · exact ⟨hs, by show wc.heap.size < wc.heap.size + 2; omega⟩
  · refine ⟨h5.1, h5.2.1, ?_, h5.2.2.1, ?_⟩
    · show wc.heap.size + 1 ≠ T; omega
    · show wc.heap.size ≠ T; omega
  · refine ⟨h5.2.2.2.1, h5.2.2.2.2, ?_, ?_⟩
    · show wc.heap.size + 1 ≠ Wn; omega
    · show wc.heap.size ≠ Wn; omega
  · refine ⟨?_, ?_, ?_⟩
    · show b10 ≠ wc.heap.size; omega
    · show b11 ≠ wc.heap.size; omega
    · show wc.heap.size + 1 ≠ wc.heap.size; omega
  · unfold CarSt
    rw [← hn]
    refine ⟨h.lt.trans hl, ⟨Nat.le_refl _, by simp⟩, hl.cell h.c10, hl.cell h.c11, by simp [go_sem], fun j hj => ?_, ⟨by simp; omega, fun j hj => ?_⟩, fun j hj => ?_, ⟨by simp; omega, fun j hj => ?_⟩, fun j hj _ => ?_, ⟨by simp; omega, fun j hj => ?_⟩, by simp [countTo]; exact OwnI.nil _ _, by simp [otherTo]; exact OwnI.nil _ _, fun b e => by simp [Value.ownBlock] at e, fun b e => by simp [Value.ownBlock] at e, fun b e => by simp [Value.ownBlock] at e, fun j hj _ _ => hcs j hj⟩
    · simpa using hl.cell (h.ct j hj).1
    · exact (Below.frozen (p := ⟨T, j, none⟩) hl h3.2).trans (h.ct j hj).2
    · simpa using hl.cell (h.cw j hj).1
    · exact (Below.frozen (p := ⟨Wn, j, none⟩) hl h4.2).trans (h.cw j hj).2
    · refine ⟨none, 0, by simpa using hcs j hj, ?_, fun b o e => by cases e⟩
      simpa using (OwnI.nil wc 0).ints.later hl
    · simp [go_sem, made_get _ _ _ hj]


set_option maxHeartbeats 16000000 in
set_option maxRecDepth 100000 in
theorem c_resMk (We : World) (A : Option Addr) (c : Nat) (cards : List Card) (h20 : cards.length ≤ 1000000) (c0 c2 c3 c4 c5 c6 c7 c8 c9 c12 c13 c14 c15 c16 c17 c18 c19 c20 c21 c22 c23 c24 c25 c26 c27 c28 c29 c30 c31 c32 c33 c34 c41 c42 c43 c44 c45 c46 c47 c48 c49 c50 c51 c52 c53 c54 c55 c56 c57 c58 c59 c60 c61 c62 c63 c64 c65 c66 c67 c68 c69 c70 c71 c72 c73 c74 c75 c76 c77 c78 c79 c80 c81 c82 c83 c84 c85 c86 c87 c88 c89 c90 c91 c92 c93 c94 c95 c96 c97 c98 c99 c100 c101 c102 c103 c104 c105 c106 c107 c108 c109 c110 c111 c112 c113 c114 c115 c116 c117 c118 c119 c120 c121 c122 c123 c124 c125 c126 c127 c128 c129 c130 c131 c132 c133 c134 c135 c136 c137 c138 c139 c140 c141 c142 c143 c144 c145 c146 c147 c148 c149 c150 c151 c152 c153 c154 c155 c156 c157 c158 c159 c160 c161 c162 c163 c164 c165 c166 c167 c168 c169 c170 c171 c172 c173 c174 c175 c176 c177 c178 c179 c180 c181 c182 c183 c184 c185 c186 c187 c188 c189 c190 c191 c192 c193 c194 c195 c196 c197 c198 c199 c200 c201 c202 c203 c204 c205 c206 c207 c208 c209 c210 c211 c212 c213 c214 c215 c216 c217 c218 c219 c220 c221 c222 c223 c224 c225 c226 c227 c228 c229 : Value) (u10 u11 u35 u36 u37 u38 u39 u40 : Value)
    (Q : Exit → Act → World → Prop)
    (hex : ∀ (b10 b11 T Wn : Nat) (u35 u36 u37 u38 u39 u40 : Value) (W : World), ResMk We cards.length b10 b11 T Wn W → Q .normal { tmps := #[c0, (.slice A cards.length c), c2, c3, c4, c5, c6, c7, c8, c9, (.pointer (some ⟨b10, 0, none⟩)), (.pointer (some ⟨b11, 0, none⟩)), c12, c13, c14, c15, c16, c17, c18, c19, c20, c21, c22, c23, c24, c25, c26, c27, c28, c29, c30, c31, c32, c33, c34, u35, u36, u37, u38, u39, u40, c41, c42, c43, c44, c45, c46, c47, c48, c49, c50, c51, c52, c53, c54, c55, c56, c57, c58, c59, c60, c61, c62, c63, c64, c65, c66, c67, c68, c69, c70, c71, c72, c73, c74, c75, c76, c77, c78, c79, c80, c81, c82, c83, c84, c85, c86, c87, c88, c89, c90, c91, c92, c93, c94, c95, c96, c97, c98, c99, c100, c101, c102, c103, c104, c105, c106, c107, c108, c109, c110, c111, c112, c113, c114, c115, c116, c117, c118, c119, c120, c121, c122, c123, c124, c125, c126, c127, c128, c129, c130, c131, c132, c133, c134, c135, c136, c137, c138, c139, c140, c141, c142, c143, c144, c145, c146, c147, c148, c149, c150, c151, c152, c153, c154, c155, c156, c157, c158, c159, c160, c161, c162, c163, c164, c165, c166, c167, c168, c169, c170, c171, c172, c173, c174, c175, c176, c177, c178, c179, c180, c181, c182, c183, c184, c185, c186, c187, c188, c189, c190, c191, c192, c193, c194, c195, c196, c197, c198, c199, c200, c201, c202, c203, c204, c205, c206, c207, c208, c209, c210, c211, c212, c213, c214, c215, c216, c217, c218, c219, c220, c221, c222, c223, c224, c225, c226, c227, c228, c229], defers := [] } W) :
    (resRegion 5).wp Tryz.prog Q { tmps := #[c0, (.slice A cards.length c), c2, c3, c4, c5, c6, c7, c8, c9, u10, u11, c12, c13, c14, c15, c16, c17, c18, c19, c20, c21, c22, c23, c24, c25, c26, c27, c28, c29, c30, c31, c32, c33, c34, u35, u36, u37, u38, u39, u40, c41, c42, c43, c44, c45, c46, c47, c48, c49, c50, c51, c52, c53, c54, c55, c56, c57, c58, c59, c60, c61, c62, c63, c64, c65, c66, c67, c68, c69, c70, c71, c72, c73, c74, c75, c76, c77, c78, c79, c80, c81, c82, c83, c84, c85, c86, c87, c88, c89, c90, c91, c92, c93, c94, c95, c96, c97, c98, c99, c100, c101, c102, c103, c104, c105, c106, c107, c108, c109, c110, c111, c112, c113, c114, c115, c116, c117, c118, c119, c120, c121, c122, c123, c124, c125, c126, c127, c128, c129, c130, c131, c132, c133, c134, c135, c136, c137, c138, c139, c140, c141, c142, c143, c144, c145, c146, c147, c148, c149, c150, c151, c152, c153, c154, c155, c156, c157, c158, c159, c160, c161, c162, c163, c164, c165, c166, c167, c168, c169, c170, c171, c172, c173, c174, c175, c176, c177, c178, c179, c180, c181, c182, c183, c184, c185, c186, c187, c188, c189, c190, c191, c192, c193, c194, c195, c196, c197, c198, c199, c200, c201, c202, c203, c204, c205, c206, c207, c208, c209, c210, c211, c212, c213, c214, c215, c216, c217, c218, c219, c220, c221, c222, c223, c224, c225, c226, c227, c228, c229], defers := [] } We := by
  have hmi := fun w => run_makeInts cards.length (by omega) w
  have HEX := Lib.hid hex
  clear hex
  dsimp only
  conv => arg 2; whnf
  refine wp_region_noPanic ?_
  go_region
  all_goals
    refine NoPanic.normal ?_
    first
    | (refine HEX.out _ _ We.heap.size (We.heap.size + 1) _ _ _ _ _ _ _ (res_made ?_ ?_ ?_ ?_ ?_ ?_ ?_ ?_ ?_ ?_); (simp [go_sem]); (simp [go_sem]); (intro j hj; simp [go_sem, made_get _ _ _ hj]); (intro j hj; simp [go_sem, made_get _ _ _ hj]); (refine ⟨?_, ?_, ?_, ?_, ?_⟩ <;> omega); (exact (((((Lt.refl We).alloc _).alloc _).alloc _).alloc _).drew); (simp [go_sem] <;> omega); (simp [go_sem] <;> omega); (simp [go_sem] <;> omega); (simp [go_sem] <;> omega))
    | (refine HEX.out _ _ We.heap.size (We.heap.size + 1 + 1) _ _ _ _ _ _ _ (res_made ?_ ?_ ?_ ?_ ?_ ?_ ?_ ?_ ?_ ?_); (simp [go_sem]); (simp [go_sem]); (intro j hj; simp [go_sem, made_get _ _ _ hj]); (intro j hj; simp [go_sem, made_get _ _ _ hj]); (refine ⟨?_, ?_, ?_, ?_, ?_⟩ <;> omega); (exact (((((Lt.refl We).alloc _).alloc _).alloc _).alloc _).drew); (simp [go_sem] <;> omega); (simp [go_sem] <;> omega); (simp [go_sem] <;> omega); (simp [go_sem] <;> omega))
    | (refine HEX.out _ _ We.heap.size (We.heap.size + 1 + 1 + 1) _ _ _ _ _ _ _ (res_made ?_ ?_ ?_ ?_ ?_ ?_ ?_ ?_ ?_ ?_); (simp [go_sem]); (simp [go_sem]); (intro j hj; simp [go_sem, made_get _ _ _ hj]); (intro j hj; simp [go_sem, made_get _ _ _ hj]); (refine ⟨?_, ?_, ?_, ?_, ?_⟩ <;> omega); (exact (((((Lt.refl We).alloc _).alloc _).alloc _).alloc _).drew); (simp [go_sem] <;> omega); (simp [go_sem] <;> omega); (simp [go_sem] <;> omega); (simp [go_sem] <;> omega))
    | (refine HEX.out _ _ (We.heap.size + 1) We.heap.size _ _ _ _ _ _ _ (res_made ?_ ?_ ?_ ?_ ?_ ?_ ?_ ?_ ?_ ?_); (simp [go_sem]); (simp [go_sem]); (intro j hj; simp [go_sem, made_get _ _ _ hj]); (intro j hj; simp [go_sem, made_get _ _ _ hj]); (refine ⟨?_, ?_, ?_, ?_, ?_⟩ <;> omega); (exact (((((Lt.refl We).alloc _).alloc _).alloc _).alloc _).drew); (simp [go_sem] <;> omega); (simp [go_sem] <;> omega); (simp [go_sem] <;> omega); (simp [go_sem] <;> omega))
    | (refine HEX.out _ _ (We.heap.size + 1) (We.heap.size + 1 + 1) _ _ _ _ _ _ _ (res_made ?_ ?_ ?_ ?_ ?_ ?_ ?_ ?_ ?_ ?_); (simp [go_sem]); (simp [go_sem]); (intro j hj; simp [go_sem, made_get _ _ _ hj]); (intro j hj; simp [go_sem, made_get _ _ _ hj]); (refine ⟨?_, ?_, ?_, ?_, ?_⟩ <;> omega); (exact (((((Lt.refl We).alloc _).alloc _).alloc _).alloc _).drew); (simp [go_sem] <;> omega); (simp [go_sem] <;> omega); (simp [go_sem] <;> omega); (simp [go_sem] <;> omega))
    | (refine HEX.out _ _ (We.heap.size + 1) (We.heap.size + 1 + 1 + 1) _ _ _ _ _ _ _ (res_made ?_ ?_ ?_ ?_ ?_ ?_ ?_ ?_ ?_ ?_); (simp [go_sem]); (simp [go_sem]); (intro j hj; simp [go_sem, made_get _ _ _ hj]); (intro j hj; simp [go_sem, made_get _ _ _ hj]); (refine ⟨?_, ?_, ?_, ?_, ?_⟩ <;> omega); (exact (((((Lt.refl We).alloc _).alloc _).alloc _).alloc _).drew); (simp [go_sem] <;> omega); (simp [go_sem] <;> omega); (simp [go_sem] <;> omega); (simp [go_sem] <;> omega))
    | (refine HEX.out _ _ (We.heap.size + 1 + 1) We.heap.size _ _ _ _ _ _ _ (res_made ?_ ?_ ?_ ?_ ?_ ?_ ?_ ?_ ?_ ?_); (simp [go_sem]); (simp [go_sem]); (intro j hj; simp [go_sem, made_get _ _ _ hj]); (intro j hj; simp [go_sem, made_get _ _ _ hj]); (refine ⟨?_, ?_, ?_, ?_, ?_⟩ <;> omega); (exact (((((Lt.refl We).alloc _).alloc _).alloc _).alloc _).drew); (simp [go_sem] <;> omega); (simp [go_sem] <;> omega); (simp [go_sem] <;> omega); (simp [go_sem] <;> omega))
    | (refine HEX.out _ _ (We.heap.size + 1 + 1) (We.heap.size + 1) _ _ _ _ _ _ _ (res_made ?_ ?_ ?_ ?_ ?_ ?_ ?_ ?_ ?_ ?_); (simp [go_sem]); (simp [go_sem]); (intro j hj; simp [go_sem, made_get _ _ _ hj]); (intro j hj; simp [go_sem, made_get _ _ _ hj]); (refine ⟨?_, ?_, ?_, ?_, ?_⟩ <;> omega); (exact (((((Lt.refl We).alloc _).alloc _).alloc _).alloc _).drew); (simp [go_sem] <;> omega); (simp [go_sem] <;> omega); (simp [go_sem] <;> omega); (simp [go_sem] <;> omega))
    | (refine HEX.out _ _ (We.heap.size + 1 + 1) (We.heap.size + 1 + 1 + 1) _ _ _ _ _ _ _ (res_made ?_ ?_ ?_ ?_ ?_ ?_ ?_ ?_ ?_ ?_); (simp [go_sem]); (simp [go_sem]); (intro j hj; simp [go_sem, made_get _ _ _ hj]); (intro j hj; simp [go_sem, made_get _ _ _ hj]); (refine ⟨?_, ?_, ?_, ?_, ?_⟩ <;> omega); (exact (((((Lt.refl We).alloc _).alloc _).alloc _).alloc _).drew); (simp [go_sem] <;> omega); (simp [go_sem] <;> omega); (simp [go_sem] <;> omega); (simp [go_sem] <;> omega))
    | (refine HEX.out _ _ (We.heap.size + 1 + 1 + 1) We.heap.size _ _ _ _ _ _ _ (res_made ?_ ?_ ?_ ?_ ?_ ?_ ?_ ?_ ?_ ?_); (simp [go_sem]); (simp [go_sem]); (intro j hj; simp [go_sem, made_get _ _ _ hj]); (intro j hj; simp [go_sem, made_get _ _ _ hj]); (refine ⟨?_, ?_, ?_, ?_, ?_⟩ <;> omega); (exact (((((Lt.refl We).alloc _).alloc _).alloc _).alloc _).drew); (simp [go_sem] <;> omega); (simp [go_sem] <;> omega); (simp [go_sem] <;> omega); (simp [go_sem] <;> omega))
    | (refine HEX.out _ _ (We.heap.size + 1 + 1 + 1) (We.heap.size + 1) _ _ _ _ _ _ _ (res_made ?_ ?_ ?_ ?_ ?_ ?_ ?_ ?_ ?_ ?_); (simp [go_sem]); (simp [go_sem]); (intro j hj; simp [go_sem, made_get _ _ _ hj]); (intro j hj; simp [go_sem, made_get _ _ _ hj]); (refine ⟨?_, ?_, ?_, ?_, ?_⟩ <;> omega); (exact (((((Lt.refl We).alloc _).alloc _).alloc _).alloc _).drew); (simp [go_sem] <;> omega); (simp [go_sem] <;> omega); (simp [go_sem] <;> omega); (simp [go_sem] <;> omega))
    | (refine HEX.out _ _ (We.heap.size + 1 + 1 + 1) (We.heap.size + 1 + 1) _ _ _ _ _ _ _ (res_made ?_ ?_ ?_ ?_ ?_ ?_ ?_ ?_ ?_ ?_); (simp [go_sem]); (simp [go_sem]); (intro j hj; simp [go_sem, made_get _ _ _ hj]); (intro j hj; simp [go_sem, made_get _ _ _ hj]); (refine ⟨?_, ?_, ?_, ?_, ?_⟩ <;> omega); (exact (((((Lt.refl We).alloc _).alloc _).alloc _).alloc _).drew); (simp [go_sem] <;> omega); (simp [go_sem] <;> omega); (simp [go_sem] <;> omega); (simp [go_sem] <;> omega))
end Go.Proofs.YtdpcdmcmpfjbjaaGreat
