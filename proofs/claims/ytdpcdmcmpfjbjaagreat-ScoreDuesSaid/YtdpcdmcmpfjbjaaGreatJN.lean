/- Walks: Results: one car's times and wins, item by item; Walks: Results: the loop over the cars. -/
import Derived.Test.YtdpcdmcmpfjbjaaGreatJM
/- Walks: Results: one car's times and wins, item by item. -/
namespace Go.Proofs.YtdpcdmcmpfjbjaaGreat
open Go.RowKit Go.Sort
set_option linter.unusedVariables false
set_option linter.unusedSimpArgs false
attribute [local go_sem] Later.cell Later.frozen Later.size Later.ne Later.cell1 Later.cell2 Later.cell3 Later.size1 Later.size2 Later.size3 Later.ne1 Later.ne2 Later.ne3

theorem nums_contains (l : List Nat) (x : Nat) : (nums l).contains (x : Int) = l.contains x := by
  rw [Bool.eq_iff_iff]
  rw [List.contains_iff_mem, List.contains_iff_mem]
  unfold nums
  rw [List.mem_map]
  constructor
  · rintro ⟨a, ha, e⟩
    have : a = x := by omega
    exact this ▸ ha
  · intro h
    exact ⟨x, h, rfl⟩
theorem c_contains (A : Option Addr) (c : Nat) (xs : List Int) (x : Int) (w : World) (h : Ints w A c xs) :
    Calls Tryz.prog 65 #[.slice A xs.length c, .int .i64 x] w fun e w' => e = .returned (.bool (xs.contains x)) ∧ w' = w := by
  by_cases hp : 0 < xs.length
  · obtain ⟨b, o, rfl, hbl, hc⟩ := h.some_ hp
    have := Tryz.slices_Contains_int b o xs.length c xs x w (Nat.le_refl _) h.2.1 (fun j hj => by
      have := hc.out j hj
      rw [this, nth_eq xs j hj]
      simp [List.getD, hj])
    rwa [List.take_length] at this
  · have hx : xs = [] := List.length_eq_zero_iff.1 (by omega)
    subst hx
    exact Tryz.slices_Contains_int_empty A c x w

set_option maxHeartbeats 16000000 in
set_option maxRecDepth 100000 in
theorem c_resIn (We W0 : World) (g : Nat) (em : EvM) (p : Plan) (cards : List Card) (M : RM) (N1 car b6 BP : Nat) (GT GW : Nat → Int) (R : Nat → List Int) (v8 v9 : Value) (l8 l9 : List Nat) (A : Option Addr) (c : Nat)
    (he : EventIs We g em p cards) (hP : PlanOK p) (hO : cardsOK p cards) (hM : M.OK We) (h6 : We.cell? ⟨b6, 0, none⟩ = some (.pointer (some ⟨g, 0, none⟩))) (hcar : car < cards.length)
    (h : InSt We M p cards cards.length N1 car 0 GT GW R v8 v9 l8 l9 W0) (c3 c4 c5 c7 c16 c17 c18 c19 c20 c21 c22 c23 c24 c25 c26 c27 c28 c29 c30 c31 c32 c33 c34 c35 c36 c37 c38 c39 c40 c41 c42 c43 c44 c45 c46 c47 c48 c49 c50 c51 c52 c53 c54 c55 c56 c57 c58 c59 c60 c61 c62 c63 c64 c65 c66 c67 c68 c69 c70 c71 c72 c120 c121 c122 c123 c124 c125 c126 c127 c128 c129 c130 c131 c132 c133 c134 c135 c136 c137 c138 c139 c140 c141 c142 c143 c144 c145 c146 c147 c148 c149 c150 c151 c152 c153 c154 c155 c156 c157 c158 c159 c160 c161 c162 c163 c164 c165 c166 c167 c168 c169 c170 c171 c172 c173 c174 c175 c176 c177 c178 c179 c180 c181 c182 c183 c184 c185 c186 c187 c188 c189 c190 c191 c192 c193 c194 c195 c196 c197 c198 c199 c200 c201 c202 c203 c204 c205 c206 c207 c208 c209 c210 c211 c212 c213 c214 c215 c216 c217 c218 c219 c220 c221 c222 c223 c224 c225 c226 c227 c228 c229 : Value) (u14 u15 u75 u76 u77 u78 u79 u80 u81 u82 u83 u84 u85 u86 u87 u88 u89 u90 u91 u92 u93 u94 u95 u96 u97 u98 u99 u100 u101 u102 u103 u104 u105 u106 u107 u108 u109 u110 u111 u112 u113 u114 u115 u116 u117 u118 u119 : Value)
    (Q : Exit → Act → World → Prop)
    (hex : ∀ (u14 u15 u74 u75 u76 u77 u78 u79 u80 u81 u82 u83 u84 u85 u86 u87 u88 u89 u90 u91 u92 u93 u94 u95 u96 u97 u98 u99 u100 u101 u102 u103 u104 u105 u106 u107 u108 u109 u110 u111 u112 u113 u114 u115 u116 u117 u118 u119 : Value) (W : World), InSt We M p cards cards.length N1 car p.items.length GT GW R v8 v9 l8 l9 W → Q (.exit 2) { tmps := #[planV em.m p, (.slice A cards.length c), (.pointer (some ⟨BP, 0, none⟩)), c3, c4, c5, (.pointer (some ⟨b6, 0, none⟩)), c7, v8, v9, (.pointer (some ⟨M.b10, 0, none⟩)), (.pointer (some ⟨M.b11, 0, none⟩)), (.pointer (some ⟨M.b12, 0, none⟩)), (.int .i64 (car : Nat)), u14, u15, c16, c17, c18, c19, c20, c21, c22, c23, c24, c25, c26, c27, c28, c29, c30, c31, c32, c33, c34, c35, c36, c37, c38, c39, c40, c41, c42, c43, c44, c45, c46, c47, c48, c49, c50, c51, c52, c53, c54, c55, c56, c57, c58, c59, c60, c61, c62, c63, c64, c65, c66, c67, c68, c69, c70, c71, c72, (.int .i64 (p.items.length : Nat)), u74, u75, u76, u77, u78, u79, u80, u81, u82, u83, u84, u85, u86, u87, u88, u89, u90, u91, u92, u93, u94, u95, u96, u97, u98, u99, u100, u101, u102, u103, u104, u105, u106, u107, u108, u109, u110, u111, u112, u113, u114, u115, u116, u117, u118, u119, c120, c121, c122, c123, c124, c125, c126, c127, c128, c129, c130, c131, c132, c133, c134, c135, c136, c137, c138, c139, c140, c141, c142, c143, c144, c145, c146, c147, c148, c149, c150, c151, c152, c153, c154, c155, c156, c157, c158, c159, c160, c161, c162, c163, c164, c165, c166, c167, c168, c169, c170, c171, c172, c173, c174, c175, c176, c177, c178, c179, c180, c181, c182, c183, c184, c185, c186, c187, c188, c189, c190, c191, c192, c193, c194, c195, c196, c197, c198, c199, c200, c201, c202, c203, c204, c205, c206, c207, c208, c209, c210, c211, c212, c213, c214, c215, c216, c217, c218, c219, c220, c221, c222, c223, c224, c225, c226, c227, c228, c229], defers := [] } W) :
    (resLoop 1).wp Tryz.prog Q { tmps := #[planV em.m p, (.slice A cards.length c), (.pointer (some ⟨BP, 0, none⟩)), c3, c4, c5, (.pointer (some ⟨b6, 0, none⟩)), c7, v8, v9, (.pointer (some ⟨M.b10, 0, none⟩)), (.pointer (some ⟨M.b11, 0, none⟩)), (.pointer (some ⟨M.b12, 0, none⟩)), (.int .i64 (car : Nat)), u14, u15, c16, c17, c18, c19, c20, c21, c22, c23, c24, c25, c26, c27, c28, c29, c30, c31, c32, c33, c34, c35, c36, c37, c38, c39, c40, c41, c42, c43, c44, c45, c46, c47, c48, c49, c50, c51, c52, c53, c54, c55, c56, c57, c58, c59, c60, c61, c62, c63, c64, c65, c66, c67, c68, c69, c70, c71, c72, (.int .i64 (p.items.length : Nat)), (.int .i64 0), u75, u76, u77, u78, u79, u80, u81, u82, u83, u84, u85, u86, u87, u88, u89, u90, u91, u92, u93, u94, u95, u96, u97, u98, u99, u100, u101, u102, u103, u104, u105, u106, u107, u108, u109, u110, u111, u112, u113, u114, u115, u116, u117, u118, u119, c120, c121, c122, c123, c124, c125, c126, c127, c128, c129, c130, c131, c132, c133, c134, c135, c136, c137, c138, c139, c140, c141, c142, c143, c144, c145, c146, c147, c148, c149, c150, c151, c152, c153, c154, c155, c156, c157, c158, c159, c160, c161, c162, c163, c164, c165, c166, c167, c168, c169, c170, c171, c172, c173, c174, c175, c176, c177, c178, c179, c180, c181, c182, c183, c184, c185, c186, c187, c188, c189, c190, c191, c192, c193, c194, c195, c196, c197, c198, c199, c200, c201, c202, c203, c204, c205, c206, c207, c208, c209, c210, c211, c212, c213, c214, c215, c216, c217, c218, c219, c220, c221, c222, c223, c224, c225, c226, c227, c228, c229], defers := [] } W0 := by
  have HT := Lib.hid (fun (W : World) (h : Lt We W) (k : Nat) (hk : k < p.items.length) => c_time g em p cards car k W (he.later h) hP hO hcar hk)
  have HST := Lib.hid (fun (W : World) (h : Lt We W) (k : Nat) (hk : k < p.items.length) => c_stage g em p cards k W (he.later h) hk)
  have HH := Lib.hid h
  have HEV := Lib.hid he
  have HPP := Lib.hid hP
  have HOO := Lib.hid hO
  have HM := Lib.hid hM
  have HEX := Lib.hid hex
  have h100 := hP.few
  have hcz : (car : Int) < cards.length := by omega
  have hc2 : cards.length ≤ 200 := hO.1
  clear h hM hex he hP hO
  dsimp only
  conv => arg 2; whnf
  go_loopw [74] (fun t wr => ∃ k : Nat, t = .int .i64 k ∧ k ≤ p.items.length ∧ Hid (InSt We M p cards cards.length N1 car k GT GW R v8 v9 l8 l9 wr)) (fun t _ => p.items.length - (intOf t).toNat)
  case atStart => exact ⟨0, rfl, Nat.zero_le _, HH⟩
  case round =>
    clear HH
    obtain ⟨k, rfl, hk, HS⟩ := hrel
    by_cases hlt : k < p.items.length
    · have hkz : (k : Int) < p.items.length := by omega
      have H6 := HS.out.st.lt.cell h6
      cases hst : ((nth p.items k).kind == 2) with
      | false =>
        have HN : Hid (InSt We M p cards cards.length N1 car (k + 1) GT GW R v8 v9 l8 l9 wr) := Lib.hid (by
          have e1 : stagesTo p cards car (k + 1) = stagesTo p cards car k := by rw [stagesTo_succ, if_neg (by unfold stageB; rw [hst]; decide)]
          have e2 : winsTo p cards car (k + 1) = winsTo p cards car k := by rw [winsTo_succ, if_neg (by unfold winB stageB; rw [hst]; simp)]
          exact ⟨by rw [e2]; exact HS.out.st, by rw [e1]; exact HS.out.row⟩)
        have HST1 := Lib.hid (HST.out wr HS.out.st.lt k hlt)
        rw [hst] at HST1
        go_wp2_with (first | (go_at_call 54; refine HST1.out.mono ?_; rintro e w' ⟨rfl, rfl⟩) | fail)
        exact ⟨⟨k + 1, by go_num, by omega, HN⟩, by simp [intOf]; omega⟩
      | true =>
        have HST1 := Lib.hid (HST.out wr HS.out.st.lt k hlt)
        rw [hst] at HST1
        obtain ⟨rA, rc, r1, r2⟩ := HS.out.row
        have HRO := Lib.hid r2
        clear r2
        have c12 := HS.out.st.c12
        go_upto_region 18 with (first | (go_at_call 54; refine HST1.out.mono ?_; rintro e w' ⟨rfl, rfl⟩) | fail)
        have HR18 := Lib.hid (fun wr (HS : InSt We M p cards cards.length N1 car k GT GW R v8 v9 l8 l9 wr) => c_resR18 We wr g em p cards M N1 car k b6 GT GW R v8 v9 l8 l9 HEV.out HPP.out HOO.out HM.out h6 hcar hlt hst HS)
        refine HR18.out _ HS.out _ _ _ _ _ _ _ _ _ _ _ _ _ _ _ _ _ _ _ _ _ _ _ _ _ _ _ _ _ _ _ _ _ _ _ _ _ _ _ _ _ _ _ _ _ _ _ _ _ _ _ _ _ _ _ _ _ _ _ _ _ _ _ _ _ _ _ _ _ _ _ _ _ _ _ _ _ _ _ _ _ _ _ _ _ _ _ _ _ _ _ _ _ _ _ _ _ _ _ _ _ _ _ _ _ _ _ _ _ _ _ _ _ _ _ _ _ _ _ _ _ _ _ _ _ _ _ _ _ _ _ _ _ _ _ _ _ _ _ _ _ _ _ _ _ _ _ _ _ _ _ _ _ _ _ _ _ _ _ _ _ _ _ _ _ _ _ _ _ _ _ _ _ _ _ _ _ _ _ _ _ _ _ _ _ _ _ _ _ _ _ _ _ _ _ _ _ _ _ _ _ _ _ _ _ _ _ _ _ _ _ _ _ _ _ _ _ _ _ _ _ _ _ _ _ _ _ ?_
        intro t81 t82 t83 t84 t85 t86 t87 t88 t89 t90 t91 t92 t93 wc hst2 hrow2
        dsimp only
        obtain ⟨rA2, rc2, r21, r22⟩ := hrow2
        have HR2 := Lib.hid r22
        have HS2 := Lib.hid hst2
        have H62 := hst2.lt.cell h6
        have HRE := Lib.hid (fun (W : World) (h : Lt We W) => c_real g em p cards k (-1) W (HEV.out.later h) (fun j hj => by rw [(HOO.out.2 j hj).lines]; exact hlt) hc2)
        clear hst2 r22 HS HRO HR18 HST1
        go_wp2_with fail
        refine (HRE.out _ HS2.out.lt).mono ?_
        rintro e w3 ⟨lA, lc, rfl, q3, rfl, hI3⟩
        have HI3 := Lib.hid hI3
        have HS3 := Lib.hid (HS2.out.later HM.out q3.lt)
        have HR3 := Lib.hid (HR2.out.later q3.lt)
        have r31 := q3.lt.cell r21
        have H63 := HS3.out.lt.cell h6
        clear hI3 HS2 HR2 r21 H62 HRE
        go_upto_region 20 with (fail)
        go_cut [112] from 75 to 119 (fun s112 wc => s112 = .bool (wonB p cards car k) ∧ Hid (RSt We M cards.length N1 car GT (fun j => if j = car then (winsTo p cards car k : Int) else GW j) R v8 v9 l8 l9 wc) ∧ ∃ rA rc, Hid (wc.cell? ⟨M.S, car, none⟩ = some (.slice rA (stagesTo p cards car (k + 1)).length rc)) ∧ Hid (OwnI wc N1 (.slice rA (stagesTo p cards car (k + 1)).length rc) (stagesTo p cards car (k + 1))))
        case first =>
          have HW := Lib.hid (show wonB p cards car k = ((realP p cards k (-1)).contains car && decide (tookP cards car k = nth (sortedP cards (realP p cards k (-1)) k) 0)) from rfl)
          have HCO := Lib.hid (fun (W : World) (h : Lt _ W) => c_contains lA lc (nums (realP p cards k (-1))) (car : Int) W (HI3.out.later h))
          rw [nums_contains, nums_length] at HCO
          have hil : ∀ j, j < cards.length → k < (nth cards j).lines.length := fun j hj => by rw [(HOO.out.2 j hj).lines]; exact hlt
          have hrl : ∀ j, j ∈ realP p cards k (-1) → j < cards.length := fun j hj => (mem_realP.1 hj).1
          have hrn : (realP p cards k (-1)).length ≤ 200 := realP_few hc2
          have HTK := Lib.hid (fun (W : World) (h : Lt We W) => c_took g em p cards car k W (HEV.out.later h) hcar (hil car hcar))
          have HSO := Lib.hid (fun (W : World) (h : Lt We W) (h2 : Lt q3.world W) => c_sorted g em p cards lA lc (realP p cards k (-1)) k W (HEV.out.later h) (HI3.out.later h2) hrl hil hrn)
          have hSL := sortedP_length cards (realP p cards k (-1)) k
          have hmem : (realP p cards k (-1)).contains car = true → 0 < (realP p cards k (-1)).length := fun h => by
            have := List.contains_iff_mem.1 h
            exact List.length_pos_of_mem this
          clear hil hrl hrn
          generalize wonB p cards car k = WB at *
          generalize realP p cards k (-1) = RL at *
          generalize sortedP cards RL k = SL at *
          generalize tookP cards car k = TK at *
          cases hcon : RL.contains car with
          | false =>
            have HW2 : Hid (WB = false) := Lib.hid (by rw [HW.out, hcon]; rfl)
            rw [hcon] at HCO
            clear hmem hSL
            go_quiet ((go_at_call 65; exact Calls.quiet_of_same (HCO.out _ ((Lt.refl _).drewN _))))
            go_wp2_with fail
            go_meet
            exact ⟨by rw [HW2.out], Lib.hid (HS3.out.later HM.out ((Lt.refl _).drewN _)), rA2, rc2, Lib.hid (((Lt.refl _).drewN _).cell r31), Lib.hid (HR3.out.later ((Lt.refl _).drewN _))⟩
          | true =>
            have hpos := hmem hcon
            have hz3 : 0 < SL.length := by omega
            have hz2 : (0 : Int) < (SL.length : Int) := by omega
            have HW2 : Hid (WB = decide (TK = nth SL 0)) := Lib.hid (by rw [HW.out, hcon]; rfl)
            rw [hcon] at HCO
            clear hmem hSL
            refine wp_region_noPanic ?_
            go_region_with (first
              | (go_at_call 65; refine (HCO.out _ (Lt.refl _).drew).mono ?_; rintro e w4 ⟨rfl, rfl⟩)
              | (go_at_call 66; refine (HTK.out _ (HS3.out.lt.trans (Lt.refl _).drew)).mono ?_; rintro e w4 ⟨rfl, rfl⟩)
              | (go_at_call 67; refine (HSO.out _ (HS3.out.lt.trans (Lt.refl _).drew) (Lt.refl _).drew).mono ?_; rintro e w4 ⟨sA, sc, rfl, q4, rfl, hI4⟩; obtain ⟨sb, so, rfl, hsb, hsc⟩ := hI4.at_ 0 hz3; simp only [Nat.add_zero] at hsc; clear hI4; have h6q := ((Lt.refl _).drew.trans q4.lt).cell H63))
            all_goals
              refine NoPanic.normal ?_
              go_wp2_with fail
              go_meet
              exact ⟨by rw [HW2.out]; rfl, Lib.hid (HS3.out.later HM.out ((Lt.refl _).drew.trans q4.lt)), rA2, rc2, Lib.hid (((Lt.refl _).drew.trans q4.lt).cell r31), Lib.hid (HR3.out.later ((Lt.refl _).drew.trans q4.lt))⟩
        case rest =>
          obtain ⟨rfl, HSc, rA4, rc4, HR41, HR4⟩ := hcut
          clear HS3 HR3 r31 HI3
          have e1 : stagesTo p cards car (k + 1) = stagesTo p cards car (k + 1) := rfl
          have e2 : winsTo p cards car (k + 1) = if wonB p cards car k = true then winsTo p cards car k + 1 else winsTo p cards car k := by
            rw [winsTo_succ]; unfold winB stageB; rw [hst]; rfl
          cases hwb : wonB p cards car k with
          | false =>
            rw [hwb] at e2
            have HN : Hid (InSt We M p cards cards.length N1 car (k + 1) GT GW R v8 v9 l8 l9 wc) := Lib.hid ⟨by rw [e2]; exact HSc.out, rA4, rc4, HR41.out, HR4.out⟩
            go_wp2_with fail
            exact ⟨⟨k + 1, by go_num, by omega, HN⟩, by simp [intOf]; omega⟩
          | true =>
            rw [hwb, if_pos rfl] at e2
            have c11 := HSc.out.c11
            have hwc : wc.cell? ⟨M.Wn, car, none⟩ = some (.int .i64 (winsTo p cards car k)) := by
              have := HSc.out.win car hcar
              rwa [if_pos rfl] at this
            have hwf := HSc.out.winf.2 car hcar
            have hwl := HSc.out.winf.1
            have hwle := winsTo_le p cards car k
            have hwr : IntKind.i64.wrap ((winsTo p cards car k : Int) + 1) = (winsTo p cards car k : Int) + 1 := IntWalk.i64_in _ (by omega)
            have HN : Hid (InSt We M p cards cards.length N1 car (k + 1) GT GW R v8 v9 l8 l9 (wc.setCell ⟨M.Wn, car, none⟩ (.int .i64 ((winsTo p cards car k : Int) + 1)))) := Lib.hid ⟨by
              refine (HSc.out.setW HM.out ((winsTo p cards car k : Int) + 1) hcar).congr (fun j _ => rfl) (fun j hj => ?_) (fun j _ _ => rfl)
              rw [e2]
              by_cases e : j = car
              · simp [e]
              · simp [e], rA4, rc4, (World.cell?_setCell_other _ _ _ _ (by intro e'; have := HM.out.nW; simp only [Addr.mk.injEq] at e'; omega)).trans HR41.out, HR4.out.keep (grownBy_setCell wc M.Wn car _) (fun b hb e => by have := HR4.out.base_le b hb; have := HM.out.hW; have := HSc.out.n0; have := Option.some.inj e; omega)⟩
            go_wp2_with fail
            exact ⟨⟨k + 1, by go_num, by omega, HN⟩, by simp [intOf]; omega⟩
    · have hke : k = p.items.length := by omega
      subst hke
      go_wp2_with fail
      exact HEX.out _ _ _ _ _ _ _ _ _ _ _ _ _ _ _ _ _ _ _ _ _ _ _ _ _ _ _ _ _ _ _ _ _ _ _ _ _ _ _ _ _ _ _ _ _ _ _ _ _ HS.out
end Go.Proofs.YtdpcdmcmpfjbjaaGreat
/- Walks: Results: the loop over the cars. -/
namespace Go.Proofs.YtdpcdmcmpfjbjaaGreat
open Go.RowKit Go.Sort
set_option linter.unusedVariables false
set_option linter.unusedSimpArgs false
attribute [local go_sem] Later.cell Later.frozen Later.size Later.ne Later.cell1 Later.cell2 Later.cell3 Later.size1 Later.size2 Later.size3 Later.ne1 Later.ne2 Later.ne3

/-- k cars are done. -/
def CarSt (w : World) (M : RM) (p : Plan) (cards : List Card) (k N1 : Nat) (v8 v9 : Value) (W : World) : Prop :=
  RSt w M cards.length N1 cards.length (fun j => if j < k then totalP p cards j else 0) (fun j => if j < k then winsR p cards j else 0) (fun j => if j < k then rowR p cards j else []) v8 v9 (countTo p cards k) (otherTo p cards k) W
theorem CarSt.out {w : World} {M : RM} {p : Plan} {cards : List Card} {k N1 : Nat} {v8 v9 : Value} {W : World} (hc : countsB p cards k = false)
    (h : RSt w M cards.length N1 cards.length (fun j => if j = k then totalP p cards k else if j < k then totalP p cards j else 0) (fun j => if j < k then winsR p cards j else 0) (fun j => if j < k then rowR p cards j else []) v8 v9 (countTo p cards k) (otherTo p cards k ++ [k]) W) : CarSt w M p cards (k + 1) N1 v8 v9 W := by
  unfold CarSt
  rw [countTo_succ, otherTo_succ, hc, if_neg (by decide), if_neg (by decide)]
  refine h.congr (fun j _ => ?_) (fun j _ => ?_) (fun j _ _ => ?_)
  · try dsimp only
    by_cases e : j = k
    · subst e; simp
    · simp [e, show j < k + 1 ↔ j < k by omega]
  · try dsimp only
    by_cases e : j = k
    · subst e; simp [winsR, hc]
    · simp [show j < k + 1 ↔ j < k by omega]
  · try dsimp only
    by_cases e : j = k
    · subst e; simp [rowR, hc]
    · simp [show j < k + 1 ↔ j < k by omega]
/-- A car that counts is ready for its items. -/
theorem CarSt.open_ {w : World} {M : RM} {p : Plan} {cards : List Card} {k N1 : Nat} {v8 v9 : Value} {l8 l9 : List Nat} {W : World} {GT : Nat → Int} (hk : k < cards.length)
    (h : RSt w M cards.length N1 cards.length GT (fun j => if j < k then winsR p cards j else 0) (fun j => if j < k then rowR p cards j else []) v8 v9 l8 l9 W)
    (hc : W.cell? ⟨M.S, k, none⟩ = some (.slice none 0 0)) : InSt w M p cards cards.length N1 k 0 GT (fun j => if j < k then winsR p cards j else 0) (fun j => if j < k then rowR p cards j else []) v8 v9 l8 l9 W := by
  refine ⟨(h.open_ k hk).congr (fun j _ => rfl) (fun j _ => ?_) (fun j _ _ => rfl), none, 0, ?_, ?_⟩
  · try dsimp only
    by_cases e : j = k
    · subst e; simp [winsTo]
    · simp [e]
  · simpa [stagesTo] using hc
  · have : stagesTo p cards k 0 = [] := by simp [stagesTo]
    rw [this]
    exact OwnI.nil _ _
theorem CarSt.counted {w : World} {M : RM} {p : Plan} {cards : List Card} {k N1 : Nat} {v8 v9 : Value} {W : World} (hk : k < cards.length) (hc : countsB p cards k = true)
    (h : InSt w M p cards cards.length N1 k p.items.length (fun j => if j = k then totalP p cards k else if j < k then totalP p cards j else 0) (fun j => if j < k then winsR p cards j else 0) (fun j => if j < k then rowR p cards j else []) v8 v9 (countTo p cards k ++ [k]) (otherTo p cards k) W) : CarSt w M p cards (k + 1) W.heap.size v8 v9 W := by
  obtain ⟨hs, A, c, h1, h2⟩ := h
  unfold CarSt
  rw [countTo_succ, otherTo_succ, hc, if_pos rfl, if_pos rfl]
  have hr : rowR p cards k = stagesTo p cards k p.items.length := by simp [rowR, hc]
  have hl := count_other p cards k
  refine (hs.close (R' := fun j => if j < k + 1 then rowR p cards j else []) (by rw [List.length_append, List.length_singleton]; omega) (fun j hj => ?_) (A := A) (c := c) ?_ ?_ ?_).congr (fun j _ => ?_) (fun j _ => ?_) (fun j _ _ => rfl)
  · try dsimp only
    simp [show j < k + 1 ↔ j < k by omega]
  · try dsimp only
    rw [if_pos (by omega), hr]; exact h1
  · try dsimp only
    rw [if_pos (by omega), hr]; exact h2.ints
  · intro b o e
    subst e
    exact ⟨h2.base_le b rfl, h2.lt b rfl⟩
  · try dsimp only
    by_cases e : j = k
    · subst e; simp
    · simp [e, show j < k + 1 ↔ j < k by omega]
  · try dsimp only
    by_cases e : j = k
    · subst e; simp [winsR, hc]
    · simp [e, show j < k + 1 ↔ j < k by omega]

set_option maxHeartbeats 16000000 in
set_option maxRecDepth 100000 in
theorem c_resCars (We W0 : World) (g : Nat) (em : EvM) (p : Plan) (cards : List Card) (M : RM) (b6 BP : Nat) (A : Option Addr) (c : Nat)
    (he : EventIs We g em p cards) (hP : PlanOK p) (hO : cardsOK p cards) (hM : M.OK We) (h6 : We.cell? ⟨b6, 0, none⟩ = some (.pointer (some ⟨g, 0, none⟩))) (hB : PlanAt We BP em.m p)
    (h : CarSt We M p cards 0 M.N0 (.slice none 0 0) (.slice none 0 0) W0) (c3 c4 c5 c7 c16 c17 c18 c19 c20 c21 c22 c23 c24 c25 c26 c27 c28 c29 c30 c31 c32 c33 c34 c35 c36 c37 c38 c39 c40 c41 c42 c43 c44 c121 c122 c123 c124 c125 c126 c127 c128 c129 c130 c131 c132 c133 c134 c135 c136 c137 c138 c139 c140 c141 c142 c143 c144 c145 c146 c147 c148 c149 c150 c151 c152 c153 c154 c155 c156 c157 c158 c159 c160 c161 c162 c163 c164 c165 c166 c167 c168 c169 c170 c171 c172 c173 c174 c175 c176 c177 c178 c179 c180 c181 c182 c183 c184 c185 c186 c187 c188 c189 c190 c191 c192 c193 c194 c195 c196 c197 c198 c199 c200 c201 c202 c203 c204 c205 c206 c207 c208 c209 c210 c211 c212 c213 c214 c215 c216 c217 c218 c219 c220 c221 c222 c223 c224 c225 c226 c227 c228 c229 : Value) (u13 u14 u15 u47 u48 u49 u50 u51 u52 u53 u54 u55 u56 u57 u58 u59 u60 u61 u62 u63 u64 u65 u66 u67 u68 u69 u70 u71 u72 u73 u74 u75 u76 u77 u78 u79 u80 u81 u82 u83 u84 u85 u86 u87 u88 u89 u90 u91 u92 u93 u94 u95 u96 u97 u98 u99 u100 u101 u102 u103 u104 u105 u106 u107 u108 u109 u110 u111 u112 u113 u114 u115 u116 u117 u118 u119 u120 : Value)
    (Q : Exit → Act → World → Prop)
    (hex : ∀ (v8 v9 : Value) (u13 u14 u15 u46 u47 u48 u49 u50 u51 u52 u53 u54 u55 u56 u57 u58 u59 u60 u61 u62 u63 u64 u65 u66 u67 u68 u69 u70 u71 u72 u73 u74 u75 u76 u77 u78 u79 u80 u81 u82 u83 u84 u85 u86 u87 u88 u89 u90 u91 u92 u93 u94 u95 u96 u97 u98 u99 u100 u101 u102 u103 u104 u105 u106 u107 u108 u109 u110 u111 u112 u113 u114 u115 u116 u117 u118 u119 u120 : Value) (N1 : Nat) (W : World), (cards.length = 0 → v8 = .slice none 0 0) → CarSt We M p cards cards.length N1 v8 v9 W → Q (.exit 0) { tmps := #[planV em.m p, (.slice A cards.length c), (.pointer (some ⟨BP, 0, none⟩)), c3, c4, c5, (.pointer (some ⟨b6, 0, none⟩)), c7, v8, v9, (.pointer (some ⟨M.b10, 0, none⟩)), (.pointer (some ⟨M.b11, 0, none⟩)), (.pointer (some ⟨M.b12, 0, none⟩)), u13, u14, u15, c16, c17, c18, c19, c20, c21, c22, c23, c24, c25, c26, c27, c28, c29, c30, c31, c32, c33, c34, c35, c36, c37, c38, c39, c40, c41, c42, c43, c44, (.int .i64 (cards.length : Nat)), u46, u47, u48, u49, u50, u51, u52, u53, u54, u55, u56, u57, u58, u59, u60, u61, u62, u63, u64, u65, u66, u67, u68, u69, u70, u71, u72, u73, u74, u75, u76, u77, u78, u79, u80, u81, u82, u83, u84, u85, u86, u87, u88, u89, u90, u91, u92, u93, u94, u95, u96, u97, u98, u99, u100, u101, u102, u103, u104, u105, u106, u107, u108, u109, u110, u111, u112, u113, u114, u115, u116, u117, u118, u119, u120, c121, c122, c123, c124, c125, c126, c127, c128, c129, c130, c131, c132, c133, c134, c135, c136, c137, c138, c139, c140, c141, c142, c143, c144, c145, c146, c147, c148, c149, c150, c151, c152, c153, c154, c155, c156, c157, c158, c159, c160, c161, c162, c163, c164, c165, c166, c167, c168, c169, c170, c171, c172, c173, c174, c175, c176, c177, c178, c179, c180, c181, c182, c183, c184, c185, c186, c187, c188, c189, c190, c191, c192, c193, c194, c195, c196, c197, c198, c199, c200, c201, c202, c203, c204, c205, c206, c207, c208, c209, c210, c211, c212, c213, c214, c215, c216, c217, c218, c219, c220, c221, c222, c223, c224, c225, c226, c227, c228, c229], defers := [] } W) :
    (resLoop 0).wp Tryz.prog Q { tmps := #[planV em.m p, (.slice A cards.length c), (.pointer (some ⟨BP, 0, none⟩)), c3, c4, c5, (.pointer (some ⟨b6, 0, none⟩)), c7, (.slice none 0 0), (.slice none 0 0), (.pointer (some ⟨M.b10, 0, none⟩)), (.pointer (some ⟨M.b11, 0, none⟩)), (.pointer (some ⟨M.b12, 0, none⟩)), u13, u14, u15, c16, c17, c18, c19, c20, c21, c22, c23, c24, c25, c26, c27, c28, c29, c30, c31, c32, c33, c34, c35, c36, c37, c38, c39, c40, c41, c42, c43, c44, (.int .i64 (cards.length : Nat)), (.int .i64 0), u47, u48, u49, u50, u51, u52, u53, u54, u55, u56, u57, u58, u59, u60, u61, u62, u63, u64, u65, u66, u67, u68, u69, u70, u71, u72, u73, u74, u75, u76, u77, u78, u79, u80, u81, u82, u83, u84, u85, u86, u87, u88, u89, u90, u91, u92, u93, u94, u95, u96, u97, u98, u99, u100, u101, u102, u103, u104, u105, u106, u107, u108, u109, u110, u111, u112, u113, u114, u115, u116, u117, u118, u119, u120, c121, c122, c123, c124, c125, c126, c127, c128, c129, c130, c131, c132, c133, c134, c135, c136, c137, c138, c139, c140, c141, c142, c143, c144, c145, c146, c147, c148, c149, c150, c151, c152, c153, c154, c155, c156, c157, c158, c159, c160, c161, c162, c163, c164, c165, c166, c167, c168, c169, c170, c171, c172, c173, c174, c175, c176, c177, c178, c179, c180, c181, c182, c183, c184, c185, c186, c187, c188, c189, c190, c191, c192, c193, c194, c195, c196, c197, c198, c199, c200, c201, c202, c203, c204, c205, c206, c207, c208, c209, c210, c211, c212, c213, c214, c215, c216, c217, c218, c219, c220, c221, c222, c223, c224, c225, c226, c227, c228, c229], defers := [] } W0 := by
  have HT := Lib.hid (fun (W : World) (h : Lt We W) (k : Nat) (hk : k < cards.length) => c_total g em p cards k W (he.later h) hP hO hk)
  have HIN := Lib.hid (fun W N1 car GT GW R v8 v9 l8 l9 hcar h => c_resIn We W g em p cards M N1 car b6 BP GT GW R v8 v9 l8 l9 A c he hP hO hM h6 hcar h)
  have HH := Lib.hid h
  have HEV := Lib.hid he
  have HB := Lib.hid hB
  have HM := Lib.hid hM
  have HEX := Lib.hid hex
  have hc2 : cards.length ≤ 200 := hO.1
  clear h hM hex he hP hO hB
  dsimp only
  conv => arg 2; whnf
  go_loopw [8, 9, 46] (fun x y t wr => ∃ (k N1 : Nat) (a b : Value), a = x ∧ b = y ∧ t = .int .i64 k ∧ k ≤ cards.length ∧ (k = 0 → a = .slice none 0 0) ∧ Hid (CarSt We M p cards k N1 a b wr)) (fun _ _ t _ => cards.length - (intOf t).toNat)
  case atStart => exact ⟨0, M.N0, _, _, rfl, rfl, rfl, Nat.zero_le _, fun _ => rfl, HH⟩
  case round =>
    clear HH
    obtain ⟨k, N1, v8, v9, rfl, rfl, rfl, hk, hnil, HS⟩ := hrel
    by_cases hlt : k < cards.length
    · have hkz : (k : Int) < cards.length := by omega
      go_upto_region 10 with fail
      go_cut [] from 47 to 120 (fun wc => Hid (RSt We M cards.length N1 cards.length (fun j => if j = k then totalP p cards k else if j < k then totalP p cards j else 0) (fun j => if j < k then winsR p cards j else 0) (fun j => if j < k then rowR p cards j else []) v8 v9 (countTo p cards k) (otherTo p cards k) wc))
      case first =>
        have c10 := HS.out.c10
        have t0 := HS.out.tot k hlt
        try dsimp only at t0
        rw [if_neg (Nat.lt_irrefl k)] at t0
        have tf := HS.out.totf.2 k hlt
        have tl := HS.out.totf.1
        have H6 := HS.out.lt.cell h6
        refine wp_region_noPanic ?_
        go_region_law (first | (go_simp; go_at_call 57; refine (HT.out _ (HS.out.lt.trans (Lt.refl wr).drew) k hlt).mono ?_; rintro e w2 ⟨rfl, q, rfl⟩; have q2 := ((Lt.refl wr).drew.trans q.lt); have c10' := q2.cell c10; have H6' := q2.cell H6; have t0' := q2.cell t0; have tf' := (Below.frozen (p := ⟨M.T, k, none⟩) q2 tl).trans tf))
        all_goals
          refine NoPanic.normal ?_
          go_wp2_with fail
          go_meet
          exact Lib.hid ((RSt.later HS.out HM.out q2).setT HM.out _ hlt)
      case rest =>
        have HS2 := hcut
        clear HS hcut
        have H6 := HS2.out.lt.cell h6
        have e15 := HS2.out.lt.cell HEV.out.c15
        obtain ⟨ob, oo, hoe, hob, hoc⟩ := HEV.out.outs.at_ k (by rw [List.length_map]; exact hlt)
        have hoc2 := HS2.out.lt.cell hoc
        rw [hoe] at e15
        rw [nth_map _ _ _ hlt] at hoc2
        have HN0 := Lib.hid (Nat.le_trans HS2.out.n0.1 HS2.out.n0.2)
        have hl := count_other p cards k
        have hCB : countsB p cards k = decide (outP p (nth cards k) < 0) := rfl
        by_cases h0 : 0 ≤ outP p (nth cards k)
        · have hcb : countsB p cards k = false := by rw [hCB, decide_eq_false_iff_not]; omega
          have HO9 := Lib.hid HS2.out.o9
          have HLN := Lib.hid (show (nums (otherTo p cards k)).length ≤ 1000000 by rw [nums_length]; omega)
          clear hoc hob hl hCB
          generalize outP p (nth cards k) = OP at *
          go_wp2_with (first | (at_builtin; refine wp_appN M.N0 rfl _ _ rfl v9 (nums (otherTo p cards k)) k rfl rfl HO9.out HN0.out HLN.out ?_; intro v1 W1 hO1 hg1 ha1))
          exact ⟨⟨k + 1, W1.heap.size, v8, v1, rfl, rfl, by go_num, by omega, fun e => by omega, Lib.hid (CarSt.out hcb (HS2.out.app9 HM.out hO1 hg1 ha1))⟩, by simp [intOf]; omega⟩
        · have hcb : countsB p cards k = true := by rw [hCB, decide_eq_true_iff]; omega
          have HO8 := Lib.hid HS2.out.o8
          have HLN := Lib.hid (show (nums (countTo p cards k)).length ≤ 1000000 by rw [nums_length]; omega)
          have hnone := HS2.out.new k hlt (by omega) (by omega)
          clear hoc hob hl hCB
          generalize outP p (nth cards k) = OP at *
          go_upto_region 14 with (first | (at_builtin; refine wp_appN M.N0 rfl _ _ rfl v8 (nums (countTo p cards k)) k rfl rfl HO8.out HN0.out HLN.out ?_; intro v1 W1 hO1 hg1 ha1))
          have hn1 := grown_cell hg1 hnone (fun e => by have := HO8.out.base_le _ e.symm; have := HM.out.hS; omega)
          have hin := CarSt.open_ (p := p) hlt (HS2.out.app8 HM.out hO1 hg1 ha1) hn1
          have b0 := hin.st.lt.cell HB.out.c0
          have HIN1 := Lib.hid (HIN.out W1 _ k _ _ _ v1 v9 _ _ hlt hin)
          clear hO1 hg1 ha1 hin hnone hn1 HO8 HLN HN0 HS2 HIN HT e15 hoc2 H6
          go_wp2_with fail
          refine HIN1.out _ _ _ _ _ _ _ _ _ _ _ _ _ _ _ _ _ _ _ _ _ _ _ _ _ _ _ _ _ _ _ _ _ _ _ _ _ _ _ _ _ _ _ _ _ _ _ _ _ _ _ _ _ _ _ _ _ _ _ _ _ _ _ _ _ _ _ _ _ _ _ _ _ _ _ _ _ _ _ _ _ _ _ _ _ _ _ _ _ _ _ _ _ _ _ _ _ _ _ _ _ _ _ _ _ _ _ _ _ _ _ _ _ _ _ _ _ _ _ _ _ _ _ _ _ _ _ _ _ _ _ _ _ _ _ _ _ _ _ _ _ _ _ _ _ _ _ _ _ _ _ _ _ _ _ _ _ _ _ _ _ _ _ _ _ _ _ _ _ _ _ _ _ _ _ _ _ _ _ _ _ _ _ _ _ _ _ _ _ _ _ _ _ _ _ _ _ _ _ _ _ _ _ _ _ _ _ _ _ _ _ _ _ _ _ _ _ _ _ ?_
          intro t14 t15 t74 t75 t76 t77 t78 t79 t80 t81 t82 t83 t84 t85 t86 t87 t88 t89 t90 t91 t92 t93 t94 t95 t96 t97 t98 t99 t100 t101 t102 t103 t104 t105 t106 t107 t108 t109 t110 t111 t112 t113 t114 t115 t116 t117 t118 t119 Wn hIn
          dsimp only
          go_wp2_with fail
          exact ⟨⟨k + 1, Wn.heap.size, v1, v9, rfl, rfl, by go_num, by omega, fun e => by omega, Lib.hid (CarSt.counted hlt hcb hIn)⟩, by simp [intOf]; omega⟩
    · have hke : k = cards.length := by omega
      subst hke
      go_wp2_with fail
      exact HEX.out _ _ _ _ _ _ _ _ _ _ _ _ _ _ _ _ _ _ _ _ _ _ _ _ _ _ _ _ _ _ _ _ _ _ _ _ _ _ _ _ _ _ _ _ _ _ _ _ _ _ _ _ _ _ _ _ _ _ _ _ _ _ _ _ _ _ _ _ _ _ _ _ _ _ _ _ _ _ _ _ _ _ hnil HS.out
end Go.Proofs.YtdpcdmcmpfjbjaaGreat
