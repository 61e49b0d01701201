/- Walks: Results: a car's time is put behind its others. -/
import Derived.Test.YtdpcdmcmpfjbjaaGreatJL
import Derived.Test.YtdpcdmcmpfjbjaaGreatJE
import Derived.Deep.DeepCutAuto
import Derived.Deep.RegionLaw
import Derived.Test.YtdpcdmcmpfjbjaaGreatJG
/- Walks: Results: a car's time is put behind its others. -/
namespace Go.Proofs.YtdpcdmcmpfjbjaaGreat
open Go.RowKit Go.Sort
set_option linter.unusedVariables false
set_option linter.unusedSimpArgs false
attribute [local go_sem] Later.cell Later.frozen Later.size Later.ne Later.cell1 Later.cell2 Later.cell3 Later.size1 Later.size2 Later.size3 Later.ne1 Later.ne2 Later.ne3

/-- All loops of a code, each ahead of those within it. -/
def loopsOf : Code → List Code
  | .loop c => .loop c :: loopsOf c
  | .seq a b => loopsOf a ++ loopsOf b
  | .block _ c => loopsOf c
  | .scope c => loopsOf c
  | .cond _ a b => loopsOf a ++ loopsOf b
  | _ => []
noncomputable def resLoop (k : Nat) : Code := (((Tryz.f29.body.map loopsOf).getD [])[k]?).getD .skip

/-- What holds when k items of car x are done. -/
structure InSt (w : World) (M : RM) (p : Plan) (cards : List Card) (n N1 x k : Nat) (GT GW : Nat → Int) (R : Nat → List Int) (v8 v9 : Value) (l8 l9 : List Nat) (W : World) : Prop where
  st : RSt w M n N1 x GT (fun j => if j = x then (winsTo p cards x k : Int) else GW j) R v8 v9 l8 l9 W
  row : ∃ A c, W.cell? ⟨M.S, x, none⟩ = some (.slice A (stagesTo p cards x k).length c) ∧ OwnI W N1 (.slice A (stagesTo p cards x k).length c) (stagesTo p cards x k)
theorem InSt.later {w : World} {M : RM} {p : Plan} {cards : List Card} {n N1 x k : Nat} {GT GW : Nat → Int} {R : Nat → List Int} {v8 v9 : Value} {l8 l9 : List Nat} {W W' : World} (h : InSt w M p cards n N1 x k GT GW R v8 v9 l8 l9 W) (hM : M.OK w) (hl : Lt W W') : InSt w M p cards n N1 x k GT GW R v8 v9 l8 l9 W' := by
  obtain ⟨A, c, h1, h2⟩ := h.row
  exact ⟨h.st.later hM hl, A, c, hl.cell h1, h2.later hl⟩

/-- All regions of a code. -/
def regionsOf : Code → List Code
  | .region n o b => [.region n o b]
  | .loop c => regionsOf c
  | .seq a b => regionsOf a ++ regionsOf b
  | .block _ c => regionsOf c
  | .scope c => regionsOf c
  | .cond _ a b => regionsOf a ++ regionsOf b
  | _ => []
noncomputable def resRegion (k : Nat) : Code := (((Tryz.f29.body.map regionsOf).getD [])[k]?).getD .skip

set_option maxHeartbeats 16000000 in
set_option maxRecDepth 100000 in
theorem c_resR18 (We wr : World) (g : Nat) (em : EvM) (p : Plan) (cards : List Card) (M : RM) (N1 car k b6 : Nat) (GT GW : Nat → Int) (R : Nat → List Int) (v8 v9 : Value) (l8 l9 : List Nat)
    (he : EventIs We g em p cards) (hP : PlanOK p) (hO : cardsOK p cards) (hM : M.OK We) (h6 : We.cell? ⟨b6, 0, none⟩ = some (.pointer (some ⟨g, 0, none⟩))) (hcar : car < cards.length) (hlt : k < p.items.length) (hst : ((nth p.items k).kind == 2) = true)
    (HS : InSt We M p cards cards.length N1 car k GT GW R v8 v9 l8 l9 wr) (c0 c1 c2 c3 c4 c5 c7 c8 c9 c10 c11 c15 c16 c17 c18 c19 c20 c21 c22 c23 c24 c25 c26 c27 c28 c29 c30 c31 c32 c33 c34 c35 c36 c37 c38 c39 c40 c41 c42 c43 c44 c45 c46 c47 c48 c49 c50 c51 c52 c53 c54 c55 c56 c57 c58 c59 c60 c61 c62 c63 c64 c65 c66 c67 c68 c69 c70 c71 c72 c73 c74 c75 c76 c77 c78 c79 c80 c94 c95 c96 c97 c98 c99 c100 c101 c102 c103 c104 c105 c106 c107 c108 c109 c110 c111 c112 c113 c114 c115 c116 c117 c118 c119 c120 c121 c122 c123 c124 c125 c126 c127 c128 c129 c130 c131 c132 c133 c134 c135 c136 c137 c138 c139 c140 c141 c142 c143 c144 c145 c146 c147 c148 c149 c150 c151 c152 c153 c154 c155 c156 c157 c158 c159 c160 c161 c162 c163 c164 c165 c166 c167 c168 c169 c170 c171 c172 c173 c174 c175 c176 c177 c178 c179 c180 c181 c182 c183 c184 c185 c186 c187 c188 c189 c190 c191 c192 c193 c194 c195 c196 c197 c198 c199 c200 c201 c202 c203 c204 c205 c206 c207 c208 c209 c210 c211 c212 c213 c214 c215 c216 c217 c218 c219 c220 c221 c222 c223 c224 c225 c226 c227 c228 c229 : Value) (u81 u82 u83 u84 u85 u86 u87 u88 u89 u90 u91 u92 u93 : Value)
    (Q : Exit → Act → World → Prop)
    (hex : ∀ (u81 u82 u83 u84 u85 u86 u87 u88 u89 u90 u91 u92 u93 : Value) (wc : World), RSt We M cards.length N1 car GT (fun j => if j = car then (winsTo p cards car k : Int) else GW j) R v8 v9 l8 l9 wc → (∃ rA rc, wc.cell? ⟨M.S, car, none⟩ = some (.slice rA (stagesTo p cards car (k + 1)).length rc) ∧ OwnI wc N1 (.slice rA (stagesTo p cards car (k + 1)).length rc) (stagesTo p cards car (k + 1))) → Q .normal { tmps := #[c0, c1, c2, c3, c4, c5, (.pointer (some ⟨b6, 0, none⟩)), c7, c8, c9, c10, c11, (.pointer (some ⟨M.b12, 0, none⟩)), (.int .i64 (car : Nat)), (.int .i64 (k : Nat)), c15, c16, c17, c18, c19, c20, c21, c22, c23, c24, c25, c26, c27, c28, c29, c30, c31, c32, c33, c34, c35, c36, c37, c38, c39, c40, c41, c42, c43, c44, c45, c46, c47, c48, c49, c50, c51, c52, c53, c54, c55, c56, c57, c58, c59, c60, c61, c62, c63, c64, c65, c66, c67, c68, c69, c70, c71, c72, c73, c74, c75, c76, c77, c78, c79, c80, u81, u82, u83, u84, u85, u86, u87, u88, u89, u90, u91, u92, u93, c94, c95, c96, c97, c98, c99, c100, c101, c102, c103, c104, c105, c106, c107, c108, c109, c110, c111, c112, c113, c114, c115, c116, c117, c118, c119, c120, c121, c122, c123, c124, c125, c126, c127, c128, c129, c130, c131, c132, c133, c134, c135, c136, c137, c138, c139, c140, c141, c142, c143, c144, c145, c146, c147, c148, c149, c150, c151, c152, c153, c154, c155, c156, c157, c158, c159, c160, c161, c162, c163, c164, c165, c166, c167, c168, c169, c170, c171, c172, c173, c174, c175, c176, c177, c178, c179, c180, c181, c182, c183, c184, c185, c186, c187, c188, c189, c190, c191, c192, c193, c194, c195, c196, c197, c198, c199, c200, c201, c202, c203, c204, c205, c206, c207, c208, c209, c210, c211, c212, c213, c214, c215, c216, c217, c218, c219, c220, c221, c222, c223, c224, c225, c226, c227, c228, c229], defers := [] } wc) :
    (resRegion 18).wp Tryz.prog Q { tmps := #[c0, c1, c2, c3, c4, c5, (.pointer (some ⟨b6, 0, none⟩)), c7, c8, c9, c10, c11, (.pointer (some ⟨M.b12, 0, none⟩)), (.int .i64 (car : Nat)), (.int .i64 (k : Nat)), c15, c16, c17, c18, c19, c20, c21, c22, c23, c24, c25, c26, c27, c28, c29, c30, c31, c32, c33, c34, c35, c36, c37, c38, c39, c40, c41, c42, c43, c44, c45, c46, c47, c48, c49, c50, c51, c52, c53, c54, c55, c56, c57, c58, c59, c60, c61, c62, c63, c64, c65, c66, c67, c68, c69, c70, c71, c72, c73, c74, c75, c76, c77, c78, c79, c80, u81, u82, u83, u84, u85, u86, u87, u88, u89, u90, u91, u92, u93, c94, c95, c96, c97, c98, c99, c100, c101, c102, c103, c104, c105, c106, c107, c108, c109, c110, c111, c112, c113, c114, c115, c116, c117, c118, c119, c120, c121, c122, c123, c124, c125, c126, c127, c128, c129, c130, c131, c132, c133, c134, c135, c136, c137, c138, c139, c140, c141, c142, c143, c144, c145, c146, c147, c148, c149, c150, c151, c152, c153, c154, c155, c156, c157, c158, c159, c160, c161, c162, c163, c164, c165, c166, c167, c168, c169, c170, c171, c172, c173, c174, c175, c176, c177, c178, c179, c180, c181, c182, c183, c184, c185, c186, c187, c188, c189, c190, c191, c192, c193, c194, c195, c196, c197, c198, c199, c200, c201, c202, c203, c204, c205, c206, c207, c208, c209, c210, c211, c212, c213, c214, c215, c216, c217, c218, c219, c220, c221, c222, c223, c224, c225, c226, c227, c228, c229], defers := [] } wr := by
  have HT1 := Lib.hid (fun (W : World) (h : Lt We W) => c_time g em p cards car k W (he.later h) hP hO hcar hlt)
  have HM := Lib.hid hM
  have HEX := Lib.hid hex
  have h100 := hP.few
  have hcz : (car : Int) < cards.length := by omega
  have hc2 : cards.length ≤ 200 := hO.1
  have H6 := HS.st.lt.cell h6
  obtain ⟨rA, rc, r1, r2⟩ := HS.row
  have HRO := Lib.hid r2
  have c12 := HS.st.c12
  have hrf := HS.st.stf.2 car hcar
  have hrl := HS.st.stf.1
  have HN0 := Lib.hid HS.st.n0
  have HLN := Lib.hid (show (stagesTo p cards car k).length ≤ 1000000 by have := stagesTo_length p cards car k; omega)
  have HSN := Lib.hid (show stagesTo p cards car (k + 1) = stagesTo p cards car k ++ [timeP p cards car k] by rw [stagesTo_succ, if_pos (by unfold stageB; exact hst)])
  have HSS := Lib.hid HS
  clear r2 hM hex he hP hO HS hst
  generalize timeP p cards car k = TM at *
  generalize stagesTo p cards car (k + 1) = L1 at *
  obtain rfl := HSN.out
  clear HSN
  dsimp only
  conv => arg 2; whnf
  refine wp_region_noPanic ?_
  go_region_law (first
    | (refine step_app N1 rfl (.tmp 86) (.tmp 91) rfl _ (stagesTo p cards car k) TM rfl rfl ?_ ?_ HLN.out ?_; exact HRO.out.later ((Lt.refl _).drew.trans q.lt); exact Nat.le_trans HN0.out.2 ((Lt.refl _).drew.trans q.lt).size; intro v1 W1 hO1 hg1; have hS1 := (HSS.out.st.later HM.out ((Lt.refl _).drew.trans q.lt)).grown HM.out hg1 (fun b hb => HRO.out.base_le b hb); have hr1 := grown_cell hg1 hrq (fun e => by have := HRO.out.base_le _ e.symm; have := HM.out.hS; have := HN0.out; omega); have hf1 := hS1.stf.2 car hcar; have c121 := hS1.c12; obtain ⟨A1, c1, rfl⟩ := hO1.form)
    | (go_simp; go_at_call 56; refine (HT1.out _ ?_).mono ?_; exact HSS.out.st.lt.trans (Lt.refl _).drew; rintro e w1 ⟨rfl, q, rfl⟩; have hrq := ((Lt.refl _).drew.trans q.lt).cell r1; have c12q := ((Lt.refl _).drew.trans q.lt).cell c12; have hlS := World.block_lt_of_cell? _ _ hrq; have hl12 := World.block_lt_of_cell? _ _ c12q))
  all_goals
    refine NoPanic.normal ?_
    refine HEX.out _ _ _ _ _ _ _ _ _ _ _ _ _ _ (hS1.setS HM.out _) ⟨A1, c1, ?_, ?_⟩
    · rw [List.length_append, List.length_singleton]; exact World.cell?_setCell_same _ _ _ hr1
    · have h2 := hO1.keep (grownBy_setCell W1 M.S car (.slice A1 ((stagesTo p cards car k).length + 1) c1)) (fun b hb e => by have := hO1.base_le b hb; have := HM.out.hS; have := HN0.out; have := Option.some.inj e; omega)
      exact h2
end Go.Proofs.YtdpcdmcmpfjbjaaGreat
