/- Walks: Results: those that do not count. -/
import Derived.Test.YtdpcdmcmpfjbjaaGreatJO
/- Walks: Results: those that do not count. -/
namespace Go.Proofs.YtdpcdmcmpfjbjaaGreat
open Go.RowKit Go.Sort
set_option linter.unusedVariables false
set_option linter.unusedSimpArgs false
attribute [local go_sem] Later.cell Later.frozen Later.size Later.ne Later.cell1 Later.cell2 Later.cell3 Later.size1 Later.size2 Later.size3 Later.ne1 Later.ne2 Later.ne3

set_option maxHeartbeats 16000000 in
set_option maxRecDepth 100000 in
theorem c_resOthers (We W3 W0 : World) (g : Nat) (em : EvM) (p : Plan) (cards : List Card) (b6 b10 T base : Nat) (oA : Option Addr) (oc : Nat) (v20 : Value)
    (he : EventIs We g em p cards) (h6 : We.cell? ⟨b6, 0, none⟩ = some (.pointer (some ⟨g, 0, none⟩))) (hl3 : Lt We W3) (hl : Lt W3 W0) (h10 : W3.cell? ⟨b10, 0, none⟩ = some (.slice (some ⟨T, 0, none⟩) cards.length cards.length)) (hT : IntsF W3 T cards.length (totalP p cards))
    (hOt : Ints W3 oA oc (nums (otherTo p cards cards.length))) (h200 : cards.length ≤ 200) (hb : W3.heap.size ≤ base ∧ base ≤ W0.heap.size) (hO : OwnPl W0 base v20 (resultsTo p cards 0)) (c0 c1 c2 c3 c4 c5 c7 c8 c9 c11 c12 c13 c14 c15 c16 c17 c18 c19 c21 c22 c23 c24 c25 c27 c28 c29 c30 c31 c32 c33 c34 c35 c36 c37 c38 c39 c40 c41 c42 c43 c44 c45 c46 c47 c48 c49 c50 c51 c52 c53 c54 c55 c56 c57 c58 c59 c60 c61 c62 c63 c64 c65 c66 c67 c68 c69 c70 c71 c72 c73 c74 c75 c76 c77 c78 c79 c80 c81 c82 c83 c84 c85 c86 c87 c88 c89 c90 c91 c92 c93 c94 c95 c96 c97 c98 c99 c100 c101 c102 c103 c104 c105 c106 c107 c108 c109 c110 c111 c112 c113 c114 c115 c116 c117 c118 c119 c120 c121 c122 c123 c124 c125 c126 c127 c128 c129 c130 c131 c132 c133 c134 c135 c136 c137 c138 c139 c140 c141 c142 c143 c144 c145 c146 c147 c148 c149 c150 c151 c152 c153 c154 c155 c156 c157 c158 c159 c160 c161 c162 c163 c164 c165 c166 c167 c168 c169 c170 c171 c172 c173 c174 c175 c176 c177 c178 c179 c180 c181 c182 c183 c184 c185 c186 c187 c188 c189 c190 c191 c192 c193 c194 c195 c196 c197 c198 c199 c200 c201 c202 c203 c204 c205 c229 : Value) (u26 u209 u210 u211 u212 u213 u214 u215 u216 u217 u218 u219 u220 u221 u222 u223 u224 u225 u226 u227 u228 : Value)
    (Q : Exit → Act → World → Prop)
    (hex : ∀ (v20 : Value) (u26 u208 u209 u210 u211 u212 u213 u214 u215 u216 u217 u218 u219 u220 u221 u222 u223 u224 u225 u226 u227 u228 : Value) (W : World), Lt W3 W → OwnPl W base v20 (resultsP p cards) → Q (.exit 8) { tmps := #[c0, c1, c2, c3, c4, c5, (.pointer (some ⟨b6, 0, none⟩)), c7, c8, c9, (.pointer (some ⟨b10, 0, none⟩)), c11, c12, c13, c14, c15, c16, c17, c18, c19, v20, c21, c22, c23, c24, c25, u26, c27, c28, c29, c30, c31, c32, c33, c34, c35, c36, c37, c38, c39, c40, c41, c42, c43, c44, c45, c46, c47, c48, c49, c50, c51, c52, c53, c54, c55, c56, c57, c58, c59, c60, c61, c62, c63, c64, c65, c66, c67, c68, c69, c70, c71, c72, c73, c74, c75, c76, c77, c78, c79, c80, c81, c82, c83, c84, c85, c86, c87, c88, c89, c90, c91, c92, c93, c94, c95, c96, c97, c98, c99, c100, c101, c102, c103, c104, c105, c106, c107, c108, c109, c110, c111, c112, c113, c114, c115, c116, c117, c118, c119, c120, c121, c122, c123, c124, c125, c126, c127, c128, c129, c130, c131, c132, c133, c134, c135, c136, c137, c138, c139, c140, c141, c142, c143, c144, c145, c146, c147, c148, c149, c150, c151, c152, c153, c154, c155, c156, c157, c158, c159, c160, c161, c162, c163, c164, c165, c166, c167, c168, c169, c170, c171, c172, c173, c174, c175, c176, c177, c178, c179, c180, c181, c182, c183, c184, c185, c186, c187, c188, c189, c190, c191, c192, c193, c194, c195, c196, c197, c198, c199, c200, c201, c202, c203, c204, c205, (.slice oA (otherTo p cards cards.length).length oc), (.int .i64 ((otherTo p cards cards.length).length : Nat)), u208, u209, u210, u211, u212, u213, u214, u215, u216, u217, u218, u219, u220, u221, u222, u223, u224, u225, u226, u227, u228, c229], defers := [] } W) :
    (resLoop 4).wp Tryz.prog Q { tmps := #[c0, c1, c2, c3, c4, c5, (.pointer (some ⟨b6, 0, none⟩)), c7, c8, c9, (.pointer (some ⟨b10, 0, none⟩)), c11, c12, c13, c14, c15, c16, c17, c18, c19, v20, c21, c22, c23, c24, c25, u26, c27, c28, c29, c30, c31, c32, c33, c34, c35, c36, c37, c38, c39, c40, c41, c42, c43, c44, c45, c46, c47, c48, c49, c50, c51, c52, c53, c54, c55, c56, c57, c58, c59, c60, c61, c62, c63, c64, c65, c66, c67, c68, c69, c70, c71, c72, c73, c74, c75, c76, c77, c78, c79, c80, c81, c82, c83, c84, c85, c86, c87, c88, c89, c90, c91, c92, c93, c94, c95, c96, c97, c98, c99, c100, c101, c102, c103, c104, c105, c106, c107, c108, c109, c110, c111, c112, c113, c114, c115, c116, c117, c118, c119, c120, c121, c122, c123, c124, c125, c126, c127, c128, c129, c130, c131, c132, c133, c134, c135, c136, c137, c138, c139, c140, c141, c142, c143, c144, c145, c146, c147, c148, c149, c150, c151, c152, c153, c154, c155, c156, c157, c158, c159, c160, c161, c162, c163, c164, c165, c166, c167, c168, c169, c170, c171, c172, c173, c174, c175, c176, c177, c178, c179, c180, c181, c182, c183, c184, c185, c186, c187, c188, c189, c190, c191, c192, c193, c194, c195, c196, c197, c198, c199, c200, c201, c202, c203, c204, c205, (.slice oA (otherTo p cards cards.length).length oc), (.int .i64 ((otherTo p cards cards.length).length : Nat)), (.int .i64 0), u209, u210, u211, u212, u213, u214, u215, u216, u217, u218, u219, u220, u221, u222, u223, u224, u225, u226, u227, u228, c229], defers := [] } W0 := by
  have HH := Lib.hid hO
  have HOT := Lib.hid hOt
  have HEV := Lib.hid he
  have HT := Lib.hid hT
  have HEX := Lib.hid hex
  have HB := Lib.hid hb
  have hOl := otherTo_length p cards cards.length
  have hOm := hOt.2.1
  clear hO hOt hex he hT hb
  dsimp only
  conv => arg 2; whnf
  go_loopw [20, 208] (fun v t wr => ∃ (k : Nat) (u : Value), u = v ∧ t = .int .i64 k ∧ k ≤ (otherTo p cards cards.length).length ∧ Lt W3 wr ∧ base ≤ wr.heap.size ∧ Hid (OwnPl wr base u (resultsTo p cards k))) (fun _ t _ => (otherTo p cards cards.length).length - (intOf t).toNat)
  case atStart => exact ⟨0, _, rfl, rfl, Nat.zero_le _, hl, HB.out.2, HH⟩
  case round =>
    clear HH hl
    obtain ⟨k, v, rfl, rfl, hk, hl, hbs, HO⟩ := hrel
    by_cases hlt : k < (otherTo p cards cards.length).length
    · have hkz : (k : Int) < (otherTo p cards cards.length).length := by omega
      obtain ⟨vb, vo, rfl, hvb, hvc⟩ := HOT.out.at_ k (by rw [nums_length]; exact hlt)
      rw [nth_nums _ _ hlt] at hvc
      have hvc2 := hl.cell hvc
      have hcar : nth (otherTo p cards cards.length) k < cards.length := (mem_otherTo.1 (nth_mem _ k hlt)).1
      have hcz : ((nth (otherTo p cards cards.length) k : Nat) : Int) < cards.length := by omega
      have HL := Lib.hid hl
      have hll := hl3.trans hl
      have H6 := hll.cell h6
      have e15 := hll.cell HEV.out.c15
      obtain ⟨ob, oo, hoe, hob, hoc⟩ := HEV.out.outs.at_ (nth (otherTo p cards cards.length) k) (by rw [List.length_map]; exact hcar)
      have hoc2 := hll.cell hoc
      rw [hoe] at e15
      rw [nth_map _ _ _ hcar] at hoc2
      have h10w := hl.cell h10
      have htc := hl.cell (HT.out _ hcar)
      have HN := Lib.hid (resultsTo_succ hlt)
      have HLN := Lib.hid (show (resultsTo p cards k).length ≤ 1000000 by
        unfold resultsTo placesTo
        rw [List.length_append, List.length_map, List.length_map, List.length_range, resOrder_length, List.length_take]
        have := countTo_length p cards cards.length
        omega)
      clear hvc hoc hob hll hoe hl
      generalize nth (otherTo p cards cards.length) k = CAR at *
      go_upto_region 46 with fail
      refine wp_region_noPanic ?_
      go_region_law (first
        | (refine step_appP wr.heap.size base rfl (.tmp 212) (.tmp 226) rfl _ (resultsTo p cards k) (outPl p cards CAR) rfl rfl ?_ ?_ ?_ HLN.out ?_; (first | exact pl_newd wr (outPl p cards CAR) | exact pl_new wr.drew (outPl p cards CAR)); (first | exact HO.out.later ((Lt.refl _).alloc _).drew | exact HO.out.later ((Lt.refl _).drew.alloc _)); (first | exact Nat.le_trans hbs ((Lt.refl wr).alloc _).drew.size | exact Nat.le_trans hbs ((Lt.refl wr).drew.alloc _).size); intro v1 W1 hO1 hg1; have hl1 : Lt W3 W1 := (by first | exact (HL.out.trans ((Lt.refl wr).alloc _).drew).grown hg1 (fun k hk => by have := HO.out.base_le k hk; have := HB.out.1; omega) | exact (HL.out.trans ((Lt.refl wr).drew.alloc _)).grown hg1 (fun k hk => by have := HO.out.base_le k hk; have := HB.out.1; omega)); have hb1 : base ≤ W1.heap.size := (by first | exact Nat.le_trans hbs (Nat.le_trans ((Lt.refl wr).alloc _).drew.size hg1.size) | exact Nat.le_trans hbs (Nat.le_trans ((Lt.refl wr).drew.alloc _).size hg1.size))))
      all_goals
        refine NoPanic.normal ?_
        go_wp2_with fail
        exact ⟨⟨k + 1, v1, rfl, by go_num, by omega, hl1, hb1, Lib.hid (by rw [HN.out]; exact hO1)⟩, by simp [intOf]; omega⟩
    · have hke : k = (otherTo p cards cards.length).length := by omega
      subst hke
      go_wp2_with fail
      exact HEX.out _ _ _ _ _ _ _ _ _ _ _ _ _ _ _ _ _ _ _ _ _ _ _ _ hl HO.out
end Go.Proofs.YtdpcdmcmpfjbjaaGreat
