/- Walks: Results; Walks: Results, where a plan or a card is not as defined. -/
import Derived.Test.YtdpcdmcmpfjbjaaGreatJQ
import Derived.Test.YtdpcdmcmpfjbjaaGreatJO
import Derived.Test.YtdpcdmcmpfjbjaaGreatJP
import Derived.Test.YtdpcdmcmpfjbjaaGreatJG
/- Walks: Results. -/
namespace Go.Proofs.YtdpcdmcmpfjbjaaGreat
open Go.RowKit Go.Sort
set_option linter.unusedVariables false
set_option linter.unusedSimpArgs false
attribute [local go_sem] Later.cell Later.frozen Later.size Later.ne Later.cell1 Later.cell2 Later.cell3 Later.size1 Later.size2 Later.size3 Later.ne1 Later.ne2 Later.ne3

/-- The cars that count are put in another order. -/
theorem RSt.sorted8 {w : World} {M : RM} {n N1 x : Nat} {GT GW : Nat → Int} {R : Nat → List Int} {v8 v9 : Value} {l8 l9 l8' : List Nat} {W W' : World} (h : RSt w M n N1 x GT GW R v8 v9 l8 l9 W) (hM : M.OK w) (hO : OwnI W' M.N0 v8 (nums l8')) (hlen : l8'.length = l8.length) (hg : W.grownBy W' v8.ownBlock) : RSt w M n N1 x GT GW R v8 v9 l8' l9 W' := by
  have hn := h.n0
  have hb := h.o8.base_le
  have hz := hg.size
  have ne : ∀ b, b < M.N0 → some b ≠ v8.ownBlock := fun b hb' e => by have := hb b e.symm; omega
  have m1 := hM.h10; have m2 := hM.h11; have m3 := hM.h12; have m4 := hM.hT; have m5 := hM.hW; have m6 := hM.hS
  refine ⟨h.lt.grown hg (fun k e => by have := hb k e; omega), ⟨hn.1, Nat.le_trans hn.2 hz⟩, grown_cell hg h.c10 (ne _ m1.2), grown_cell hg h.c11 (ne _ m2.2), grown_cell hg h.c12 (ne _ m3.2), h.tot.grown hg (ne _ m4.2), h.totf.grown hg (ne _ m4.2), h.win.grown hg (ne _ m5.2), h.winf.grown hg (ne _ m5.2), fun j hj hi => ?_, h.stf.grown hg (ne _ m6.2),
    hO, h.o9.keep hg (fun b hb e => h.ap b e.symm hb), h.w8, h.w9, h.ap, fun j hj hx hs => grown_cell hg (h.new j hj hx (by omega)) (ne _ m6.2)⟩
  obtain ⟨A, c, h1, h2, h3⟩ := h.rows j hj hi
  exact ⟨A, c, grown_cell hg h1 (ne _ m6.2), h2.grown hg (fun b o e e' => (h3 b o e).2.2.1 e'.symm), h3⟩

set_option maxHeartbeats 16000000 in
set_option maxRecDepth 100000 in
theorem c_Results_yes (m : PlanM) (p : Plan) (A : Option Addr) (c : Nat) (cards : List Card) (w : World) (hp : PlanIs w m p) (wf : PlanWf p) (hc : Cards w A c cards) (hP : PlanOK p) (hO : cardsOK p cards) (h20 : cards.length ≤ 20) :
    Calls Tryz.prog 29 #[planV m p, .slice A cards.length c] w fun e w' => ∃ (B : Option Addr) (cap : Nat), e = .returned (.tuple #[.slice B (resultsP p cards).length cap, .int .i64 0]) ∧ ∃ q : Later w, w' = q.world ∧ Places q.world B cap (resultsP p cards) := by
  have hcm := hc.2.1
  have HB := Lib.hid (fun W (h : Lt w W) => c_begin m p A c cards W (hp.later h) wf (hc.later h) hP hO)
  have HP := Lib.hid hp
  have HC := Lib.hid hc
  have HPO := Lib.hid hP
  have HOO := Lib.hid hO
  have hPN : PlanAt (w.alloc (.cells (planC m p) 28)) w.heap.size m p := PlanAt.new
  have HPN := Lib.hid hPN
  have hmf : ∀ (fn : Fn) (first cap : Array Value) (w : World), (Instr.makeFunc fn first cap).run Tryz.prog w = .ok (.func fn first cap) w := fun _ _ _ _ => rfl
  have hmi := fun w => run_makeInts cards.length (by omega) w
  have hmr := fun w => run_makeRows cards.length (by omega) w
  clear hp hc hP hO hPN
  obtain ⟨iA, ic, jA, jc, pA, pc, eA, ec⟩ := m
  simp only [planV, planC] at HB HPN ⊢
  go_enter Tryz.func29, Tryz.ntmps29
  go_wp2_with fail
  refine (HB.out _ ((Lt.refl w).alloc _)).mono ?_
  rintro e w' ⟨g, oA, oc, rfl, q, rfl, he⟩
  have HE := Lib.hid he
  have HPN1 := Lib.hid (HPN.out.later q.lt)
  have hq := q.to ((Lt.refl w).alloc _)
  clear he HB HPN
  go_upto_region 4 with fail
  obtain ⟨b6, hb6⟩ : ∃ b6, q.world.heap.size = b6 := ⟨_, rfl⟩
  obtain ⟨We, hWe⟩ : ∃ We, q.world.alloc (.cells #[.pointer (some ⟨g, 0, none⟩)] 90) = We := ⟨_, rfl⟩
  have hqe : Lt q.world We := by rw [← hWe]; exact (Lt.refl _).alloc _
  have h6 : We.cell? ⟨b6, 0, none⟩ = some (.pointer (some ⟨g, 0, none⟩)) := by rw [← hWe, ← hb6]; exact World.cell?_alloc_at _ _ _ _ rfl
  have HEV := Lib.hid (HE.out.later hqe)
  have HBP := Lib.hid (HPN1.out.later hqe)
  have hwe := hq.trans hqe
  rw [hWe, hb6]
  clear HE HPN1 hb6 hWe hqe hq
  generalize w.heap.size = BP at *
  clear q
  go_upto_region 5 with fail
  refine c_resMk We A c cards (by omega) _ _ _ _ _ _ _ _ _ _ _ _ _ _ _ _ _ _ _ _ _ _ _ _ _ _ _ _ _ _ _ _ _ _ _ _ _ _ _ _ _ _ _ _ _ _ _ _ _ _ _ _ _ _ _ _ _ _ _ _ _ _ _ _ _ _ _ _ _ _ _ _ _ _ _ _ _ _ _ _ _ _ _ _ _ _ _ _ _ _ _ _ _ _ _ _ _ _ _ _ _ _ _ _ _ _ _ _ _ _ _ _ _ _ _ _ _ _ _ _ _ _ _ _ _ _ _ _ _ _ _ _ _ _ _ _ _ _ _ _ _ _ _ _ _ _ _ _ _ _ _ _ _ _ _ _ _ _ _ _ _ _ _ _ _ _ _ _ _ _ _ _ _ _ _ _ _ _ _ _ _ _ _ _ _ _ _ _ _ _ _ _ _ _ _ _ _ _ _ _ _ _ _ _ _ _ _ _ _ _ _ _ _ _ _ _ _ _ _ _ _ _ _ _ _ _ _ _ _ _ ?_
  intro b10 b11 T Wn t35 t36 t37 t38 t39 t40 wc hmk
  dsimp only
  go_upto_region 6 with fail
  go_cut [12] (fun s12 wd => ∃ b12 S N0, s12 = .pointer (some ⟨b12, 0, none⟩) ∧ (RM.mk b10 b11 b12 T Wn S N0).OK We ∧ CarSt We (RM.mk b10 b11 b12 T Wn S N0) p cards 0 N0 (.slice none 0 0) (.slice none 0 0) wd)
  case first =>
    go_wp2_with fail
    go_meet
    exact res_begin p cards rfl hmk
  case rest =>
    obtain ⟨b12, S, N0, rfl, hM, hcs⟩ := hcut
    go_upto_region 7 with fail
    go_wp2_with fail
    refine c_resCars We _ g ⟨⟨iA, ic, jA, jc, pA, pc, eA, ec⟩, A, c, oA, oc⟩ p cards (RM.mk b10 b11 b12 T Wn S N0) b6 BP A c HEV.out HPO.out HOO.out hM h6 HBP.out hcs _ _ _ _ _ _ _ _ _ _ _ _ _ _ _ _ _ _ _ _ _ _ _ _ _ _ _ _ _ _ _ _ _ _ _ _ _ _ _ _ _ _ _ _ _ _ _ _ _ _ _ _ _ _ _ _ _ _ _ _ _ _ _ _ _ _ _ _ _ _ _ _ _ _ _ _ _ _ _ _ _ _ _ _ _ _ _ _ _ _ _ _ _ _ _ _ _ _ _ _ _ _ _ _ _ _ _ _ _ _ _ _ _ _ _ _ _ _ _ _ _ _ _ _ _ _ _ _ _ _ _ _ _ _ _ _ _ _ _ _ _ _ _ _ _ _ _ _ _ _ _ _ _ _ _ _ _ _ _ _ _ _ _ _ _ _ _ _ _ _ _ _ _ _ _ _ _ _ _ _ _ _ _ _ _ _ _ _ _ _ _ _ _ _ _ _ _ _ _ _ _ _ _ _ _ _ _ _ _ _ _ _ _ _ _ _ _ _ _ _ ?_
    intro v8 v9 t13 t14 t15 t46 t47 t48 t49 t50 t51 t52 t53 t54 t55 t56 t57 t58 t59 t60 t61 t62 t63 t64 t65 t66 t67 t68 t69 t70 t71 t72 t73 t74 t75 t76 t77 t78 t79 t80 t81 t82 t83 t84 t85 t86 t87 t88 t89 t90 t91 t92 t93 t94 t95 t96 t97 t98 t99 t100 t101 t102 t103 t104 t105 t106 t107 t108 t109 t110 t111 t112 t113 t114 t115 t116 t117 t118 t119 t120 N1 wd2 hnil hcs2
    dsimp only
    go_upto_region 24 with fail
    go_wp2_with (first | (go_at_call 69; refine (c_order _ (some ⟨wd2.heap.size, 0, none⟩) 4 4 _ rfl).mono ?_; rintro e w' ⟨rfl, rfl⟩) | fail)
    have hN1 := RSt.n0 hcs2
    have HSO := Lib.hid (fun W (hl : Lt wd2 W) (a1) (a2) (a3) (a4) (a5) => c_resSort cards.length rfl hnil hM (by omega) (wd2.heap.size + 1) wd2.heap.size (RSt.later hcs2 hM hl) (W := W) hN1.2 (by have := hN1.2; omega) a1 a2 a3 a4 a5)
    refine (HSO.out _ (((Lt.refl wd2).alloc _).alloc _) ?_ ?_ ?_ ?_ ?_).mono ?_
    · simp [go_sem]
    · simp [go_sem]
    · simp [go_sem]
    · simp [go_sem]
    · simp [go_sem]
    rintro e w5 ⟨rfl, hO8, hg5⟩
    have hr5 := RSt.sorted8 (RSt.later hcs2 hM (((Lt.refl wd2).alloc _).alloc _)) hM hO8 (resOrder_length p cards) hg5
    have HR5 := Lib.hid hr5
    clear HSO hcs2 hO8 hg5 hr5 hN1 hnil
    go_upto_region 26 with fail
    obtain ⟨w6, hw6⟩ : ∃ w6, w5.alloc (.cells (madeCells #[.int .i64 0] cards.length) 3) = w6 := ⟨_, rfl⟩
    have h56 : Lt w5 w6 := by rw [← hw6]; exact (Lt.refl _).alloc _
    have hE0 : IntsF w6 w5.heap.size cards.length fun _ => 0 := fun j hj => by rw [← hw6]; simp [go_sem, made_get _ _ _ hj]
    have hEf : FreeF w6 w5.heap.size cards.length := ⟨by rw [← hw6]; simp, fun j hj => by rw [← hw6]; simp [go_sem, made_get _ _ _ hj]⟩
    rw [hw6]
    have HR6 := Lib.hid (HR5.out.later hM h56)
    clear hw6
    by_cases hpow : 0 ≤ p.power
    · obtain ⟨i, hi⟩ : ∃ i : Nat, p.power = i := ⟨p.power.toNat, (Int.toNat_of_nonneg hpow).symm⟩
      have hilt : i < p.items.length := by have := HPO.out.power; omega
      have hil : ∀ j, j < cards.length → i < (nth cards j).lines.length := fun j hj => by rw [(HOO.out.2 j hj).lines]; exact hilt
      have hp11 := HR6.out.lt.cell HBP.out.c11
      rw [hi] at hp11
      have h66 := HR6.out.lt.cell h6
      have hiz : decide ((0 : Int) ≤ (i : Int)) = true := by rw [decide_eq_true_iff]; omega
      have HRE := Lib.hid (c_realO g ⟨⟨iA, ic, jA, jc, pA, pc, eA, ec⟩, A, c, oA, oc⟩ p cards i (-1) w6 (HEV.out.later HR6.out.lt) hil (by omega))
      go_wp2_with fail
      refine HRE.out.mono ?_
      rintro e w9 ⟨PA, PC, rfl, q9, rfl, hO9p, hnil9⟩
      have HSP := Lib.hid (c_resPower We q9.world g ⟨⟨iA, ic, jA, jc, pA, pc, eA, ec⟩, A, c, oA, oc⟩ p cards b6 BP i w6.heap.size cards.length rfl (.slice PA (realP p cards i (-1)).length PC) HEV.out h6 HBP.out hi (HR6.out.lt.trans q9.lt) hil h20 HR6.out.lt.size hO9p (fun e => by obtain ⟨e1, e2⟩ := hnil9 e; rw [e1, e2, e]; rfl))
      have hbp := hO9p.base_le
      go_wp2_with fail
      refine HSP.out.mono ?_
      rintro e w10 ⟨rfl, hO10, hg10⟩
      have hlp : (powerP p cards).length = (realP p cards i (-1)).length := by
        unfold powerP
        rw [hi, if_pos (by omega), List.length_mergeSort]
        simp
      rw [← hlp] at hO10 hg10 hbp ⊢
      clear hlp
      have HP10 : Hid (Ints w10 PA PC (nums (powerP p cards))) := Lib.hid (by
        have h2 := hO10; rw [← nums_length (powerP p cards)] at h2; exact h2.ints)
      have hn6 := HR6.out.n0
      have hn5 := HR5.out.n0
      have hs56 : w5.heap.size < w6.heap.size := hEf.1
      have HR10 := Lib.hid ((HR6.out.later hM q9.lt).grown hM hg10 (fun k hk => by have := hbp k hk; omega))
      have hneE : some w5.heap.size ≠ (Value.slice PA (powerP p cards).length PC).ownBlock := fun e => by have := hbp _ e.symm; omega
      have hE10 := IntsF.grown (IntsF.grown hE0 (grownBy_lt q9.lt none) (by simp)) hg10 hneE
      have hF10 := FreeF.grown (FreeF.grown hEf (grownBy_lt q9.lt none) (by simp)) hg10 hneE
      have hPA : ∀ b o, PA = some ⟨b, o, none⟩ → b ≠ w5.heap.size := fun b o e => by
        have := hbp b (by rw [e]; rfl)
        omega
      have hwe5 := HR5.out.lt.size
      have hmp := HP10.out.2.1
      clear HRE HSP hO10 hO9p
      go_wp2_with fail
      refine c_resExtra We w10 ⟨iA, ic, jA, jc, pA, pc, eA, ec⟩ p cards BP w5.heap.size PA PC HEV.out.plan HBP.out HR10.out.lt hwe5 HP10.out hPA hE10 hF10 (by omega) _ _ _ _ _ _ _ _ _ _ _ _ _ _ _ _ _ _ _ _ _ _ _ _ _ _ _ _ _ _ _ _ _ _ _ _ _ _ _ _ _ _ _ _ _ _ _ _ _ _ _ _ _ _ _ _ _ _ _ _ _ _ _ _ _ _ _ _ _ _ _ _ _ _ _ _ _ _ _ _ _ _ _ _ _ _ _ _ _ _ _ _ _ _ _ _ _ _ _ _ _ _ _ _ _ _ _ _ _ _ _ _ _ _ _ _ _ _ _ _ _ _ _ _ _ _ _ _ _ _ _ _ _ _ _ _ _ _ _ _ _ _ _ _ _ _ _ _ _ _ _ _ _ _ _ _ _ _ _ _ _ _ _ _ _ _ _ _ _ _ _ _ _ _ _ _ _ _ _ _ _ _ _ _ _ _ _ _ _ _ _ _ _ _ _ _ _ _ _ _ _ _ _ _ _ _ _ _ _ _ _ _ _ _ _ _ _ _ _ _ _ _ _ _ _ _ ?_
      intro t18___ t19___ t145___ t146___ t147___ t148___ t149___ t150___ t151___ t152___ t153___ t154___ t155___ t156___ t157___ t158___ w11 hg11 hE11 hF11
      dsimp only
      have HR7 := Lib.hid (HR10.out.grown hM hg11 (fun k hk => by have := Option.some.inj hk; omega))
      have HE7 := Lib.hid hE11
      clear hg11 hE11 hF11 hE10 hF10 HR10 hg10
      have hp1 := HR7.out.lt.cell HBP.out.c1
      have hmc : ∀ W : World, (Instr.makeSlice 23 (.int .i64 p.classes) (.int .i64 p.classes)).run Tryz.prog W = .ok (.slice (some ⟨W.heap.size, 0, none⟩) p.classes.toNat p.classes.toNat) (W.alloc (.cells (madeCells #[.int .i64 0] p.classes.toNat) 3)) := fun W => by
        have h1 := HPO.out.cls
        have := run_makeInts p.classes.toNat (by omega) W
        rwa [Int.toNat_of_nonneg (by omega)] at this
      go_upto_region 36 with fail
      obtain ⟨A8, c8, hv8⟩ := HR7.out.o8.form
      rw [nums_length] at hv8
      subst hv8
      have HO8 : Hid (Ints w11 A8 c8 (nums (resOrder p cards))) := Lib.hid (by
        have h2 := HR7.out.o8; rw [← nums_length (resOrder p cards)] at h2; exact h2.ints)
      obtain ⟨A9, c9, hv9⟩ := HR7.out.o9.form
      rw [nums_length] at hv9
      subst hv9
      have HO9 : Hid (Ints w11 A9 c9 (nums (otherTo p cards cards.length))) := Lib.hid (by
        have h2 := HR7.out.o9; rw [← nums_length (otherTo p cards cards.length)] at h2; exact h2.ints)
      have HT6 : Hid (IntsF w11 T cards.length (totalP p cards)) := Lib.hid (fun j hj => by
        have := HR7.out.tot j hj
        dsimp only at this
        rwa [if_pos hj] at this)
      have c10 := HR7.out.c10
      have hm8 := HO8.out.2.1
      have hm9 := HO9.out.2.1
      go_wp2_with fail
      refine c_resPlaces We w11 _ ⟨iA, ic, jA, jc, pA, pc, eA, ec⟩ p cards BP b10 T w5.heap.size w11.heap.size A A8 c c8 (.slice none 0 0) HEV.out.plan HBP.out HEV.out.cars HPO.out HOO.out HR7.out.lt ((Lt.refl w11).alloc _) c10 HT6.out HE7.out HO8.out (Nat.le_refl _) ?_ ?_ (OwnPl.nil _ _) _ _ _ _ _ _ _ _ _ _ _ _ _ _ _ _ _ _ _ _ _ _ _ _ _ _ _ _ _ _ _ _ _ _ _ _ _ _ _ _ _ _ _ _ _ _ _ _ _ _ _ _ _ _ _ _ _ _ _ _ _ _ _ _ _ _ _ _ _ _ _ _ _ _ _ _ _ _ _ _ _ _ _ _ _ _ _ _ _ _ _ _ _ _ _ _ _ _ _ _ _ _ _ _ _ _ _ _ _ _ _ _ _ _ _ _ _ _ _ _ _ _ _ _ _ _ _ _ _ _ _ _ _ _ _ _ _ _ _ _ _ _ _ _ _ _ _ _ _ _ _ _ _ _ _ _ _ _ _ _ _ _ _ _ _ _ _ _ _ _ _ _ _ _ _ _ _ _ _ _ _ _ _ _ _ _ _ _ _ _ _ _ _ _ _ _ _ _ _ _ _ _ _ _ _ _ _ _ _ _ _ _ _ _ _ _ _ _ _ _ _ _ ?_
      · exact fun j hj => by simp [go_sem, made_get _ _ _ hj]
      · exact ⟨by simp, fun j hj => by simp [go_sem, made_get _ _ _ hj]⟩
      · intro v20 t22_ t23_ t24_ t164_ t165_ t166_ t167_ t168_ t169_ t170_ t171_ t172_ t173_ t174_ t175_ t176_ t177_ t178_ t179_ t180_ t181_ t182_ t183_ t184_ t185_ t186_ t187_ t188_ t189_ t190_ t191_ t192_ t193_ t194_ t195_ t196_ t197_ t198_ t199_ t200_ t201_ t202_ t203_ t204_ t205_ w7 hl7 hz7 hO7
        dsimp only
        have HO7 := Lib.hid (show OwnPl w7 (w11.heap.size + 1) v20 (resultsTo p cards 0) by simpa [resultsTo] using hO7)
        clear hO7
        go_wp2_with fail
        refine c_resOthers We w11 w7 g ⟨⟨iA, ic, jA, jc, pA, pc, eA, ec⟩, A, c, oA, oc⟩ p cards b6 b10 T (w11.heap.size + 1) A9 c9 v20 HEV.out h6 HR7.out.lt hl7 c10 HT6.out HO9.out (by omega) ⟨Nat.le_succ _, hz7⟩ HO7.out _ _ _ _ _ _ _ _ _ _ _ _ _ _ _ _ _ _ _ _ _ _ _ _ _ _ _ _ _ _ _ _ _ _ _ _ _ _ _ _ _ _ _ _ _ _ _ _ _ _ _ _ _ _ _ _ _ _ _ _ _ _ _ _ _ _ _ _ _ _ _ _ _ _ _ _ _ _ _ _ _ _ _ _ _ _ _ _ _ _ _ _ _ _ _ _ _ _ _ _ _ _ _ _ _ _ _ _ _ _ _ _ _ _ _ _ _ _ _ _ _ _ _ _ _ _ _ _ _ _ _ _ _ _ _ _ _ _ _ _ _ _ _ _ _ _ _ _ _ _ _ _ _ _ _ _ _ _ _ _ _ _ _ _ _ _ _ _ _ _ _ _ _ _ _ _ _ _ _ _ _ _ _ _ _ _ _ _ _ _ _ _ _ _ _ _ _ _ _ _ _ _ _ _ _ _ _ _ _ _ _ _ _ _ _ _ _ _ _ _ _ _ _ _ _ ?_
        intro v21 t26__ t208__ t209__ t210__ t211__ t212__ t213__ t214__ t215__ t216__ t217__ t218__ t219__ t220__ t221__ t222__ t223__ t224__ t225__ t226__ t227__ t228__ w8 hl8 hO8
        dsimp only
        obtain ⟨B, cap, rfl, hPl⟩ := hO8.form
        have HPL := Lib.hid hPl
        have hw8 := hwe.trans (HR7.out.lt.trans hl8)
        clear hO8 hPl
        go_wp2_with fail
        go_ret2
        exact ⟨B, cap, rfl, ⟨w8, hw8⟩, rfl, HPL.out⟩
    · have hpw : powerP p cards = [] := by unfold powerP; rw [if_neg hpow]
      have HE6 : Hid (IntsF w6 w5.heap.size cards.length (extraP p cards)) := Lib.hid (fun j hj => by rw [hE0 j hj]; simp [extraP, extraTo, hpw])
      have hp11 := HR6.out.lt.cell HBP.out.c11
      have hp1 := HR6.out.lt.cell HBP.out.c1
      have hmc : ∀ W : World, (Instr.makeSlice 23 (.int .i64 p.classes) (.int .i64 p.classes)).run Tryz.prog W = .ok (.slice (some ⟨W.heap.size, 0, none⟩) p.classes.toNat p.classes.toNat) (W.alloc (.cells (madeCells #[.int .i64 0] p.classes.toNat) 3)) := fun W => by
        have h1 := HPO.out.cls
        have := run_makeInts p.classes.toNat (by omega) W
        rwa [Int.toNat_of_nonneg (by omega)] at this
      go_upto_region 36 with fail
      obtain ⟨A8, c8, hv8⟩ := HR6.out.o8.form
      rw [nums_length] at hv8
      subst hv8
      have HO8 : Hid (Ints w6 A8 c8 (nums (resOrder p cards))) := Lib.hid (by
        have h2 := HR6.out.o8; rw [← nums_length (resOrder p cards)] at h2; exact h2.ints)
      obtain ⟨A9, c9, hv9⟩ := HR6.out.o9.form
      rw [nums_length] at hv9
      subst hv9
      have HO9 : Hid (Ints w6 A9 c9 (nums (otherTo p cards cards.length))) := Lib.hid (by
        have h2 := HR6.out.o9; rw [← nums_length (otherTo p cards cards.length)] at h2; exact h2.ints)
      have HT6 : Hid (IntsF w6 T cards.length (totalP p cards)) := Lib.hid (fun j hj => by
        have := HR6.out.tot j hj
        dsimp only at this
        rwa [if_pos hj] at this)
      have c10 := HR6.out.c10
      have hm8 := HO8.out.2.1
      have hm9 := HO9.out.2.1
      go_wp2_with fail
      refine c_resPlaces We w6 _ ⟨iA, ic, jA, jc, pA, pc, eA, ec⟩ p cards BP b10 T w5.heap.size w6.heap.size A A8 c c8 (.slice none 0 0) HEV.out.plan HBP.out HEV.out.cars HPO.out HOO.out HR6.out.lt ((Lt.refl w6).alloc _) c10 HT6.out HE6.out HO8.out (Nat.le_refl _) ?_ ?_ (OwnPl.nil _ _) _ _ _ _ _ _ _ _ _ _ _ _ _ _ _ _ _ _ _ _ _ _ _ _ _ _ _ _ _ _ _ _ _ _ _ _ _ _ _ _ _ _ _ _ _ _ _ _ _ _ _ _ _ _ _ _ _ _ _ _ _ _ _ _ _ _ _ _ _ _ _ _ _ _ _ _ _ _ _ _ _ _ _ _ _ _ _ _ _ _ _ _ _ _ _ _ _ _ _ _ _ _ _ _ _ _ _ _ _ _ _ _ _ _ _ _ _ _ _ _ _ _ _ _ _ _ _ _ _ _ _ _ _ _ _ _ _ _ _ _ _ _ _ _ _ _ _ _ _ _ _ _ _ _ _ _ _ _ _ _ _ _ _ _ _ _ _ _ _ _ _ _ _ _ _ _ _ _ _ _ _ _ _ _ _ _ _ _ _ _ _ _ _ _ _ _ _ _ _ _ _ _ _ _ _ _ _ _ _ _ _ _ _ _ _ _ _ _ _ _ _ _ ?_
      · exact fun j hj => by simp [go_sem, made_get _ _ _ hj]
      · exact ⟨by simp, fun j hj => by simp [go_sem, made_get _ _ _ hj]⟩
      · intro v20 t22_ t23_ t24_ t164_ t165_ t166_ t167_ t168_ t169_ t170_ t171_ t172_ t173_ t174_ t175_ t176_ t177_ t178_ t179_ t180_ t181_ t182_ t183_ t184_ t185_ t186_ t187_ t188_ t189_ t190_ t191_ t192_ t193_ t194_ t195_ t196_ t197_ t198_ t199_ t200_ t201_ t202_ t203_ t204_ t205_ w7 hl7 hz7 hO7
        dsimp only
        have HO7 := Lib.hid (show OwnPl w7 (w6.heap.size + 1) v20 (resultsTo p cards 0) by simpa [resultsTo] using hO7)
        clear hO7
        go_wp2_with fail
        refine c_resOthers We w6 w7 g ⟨⟨iA, ic, jA, jc, pA, pc, eA, ec⟩, A, c, oA, oc⟩ p cards b6 b10 T (w6.heap.size + 1) A9 c9 v20 HEV.out h6 HR6.out.lt hl7 c10 HT6.out HO9.out (by omega) ⟨Nat.le_succ _, hz7⟩ HO7.out _ _ _ _ _ _ _ _ _ _ _ _ _ _ _ _ _ _ _ _ _ _ _ _ _ _ _ _ _ _ _ _ _ _ _ _ _ _ _ _ _ _ _ _ _ _ _ _ _ _ _ _ _ _ _ _ _ _ _ _ _ _ _ _ _ _ _ _ _ _ _ _ _ _ _ _ _ _ _ _ _ _ _ _ _ _ _ _ _ _ _ _ _ _ _ _ _ _ _ _ _ _ _ _ _ _ _ _ _ _ _ _ _ _ _ _ _ _ _ _ _ _ _ _ _ _ _ _ _ _ _ _ _ _ _ _ _ _ _ _ _ _ _ _ _ _ _ _ _ _ _ _ _ _ _ _ _ _ _ _ _ _ _ _ _ _ _ _ _ _ _ _ _ _ _ _ _ _ _ _ _ _ _ _ _ _ _ _ _ _ _ _ _ _ _ _ _ _ _ _ _ _ _ _ _ _ _ _ _ _ _ _ _ _ _ _ _ _ _ _ _ _ _ _ _ ?_
        intro v21 t26__ t208__ t209__ t210__ t211__ t212__ t213__ t214__ t215__ t216__ t217__ t218__ t219__ t220__ t221__ t222__ t223__ t224__ t225__ t226__ t227__ t228__ w8 hl8 hO8
        dsimp only
        obtain ⟨B, cap, rfl, hPl⟩ := hO8.form
        have HPL := Lib.hid hPl
        have hw8 := hwe.trans (HR6.out.lt.trans hl8)
        clear hO8 hPl
        go_wp2_with fail
        go_ret2
        exact ⟨B, cap, rfl, ⟨w8, hw8⟩, rfl, HPL.out⟩
end Go.Proofs.YtdpcdmcmpfjbjaaGreat
/- Walks: Results, where a plan or a card is not as defined. -/
namespace Go.Proofs.YtdpcdmcmpfjbjaaGreat
open Go.RowKit
set_option linter.unusedVariables false
set_option linter.unusedSimpArgs false
attribute [local go_sem] Later.cell Later.frozen Later.size Later.ne Later.cell1 Later.cell2 Later.cell3 Later.size1 Later.size2 Later.size3 Later.ne1 Later.ne2 Later.ne3

set_option maxHeartbeats 2000000 in
set_option maxRecDepth 100000 in
theorem c_Results_no (m : PlanM) (p : Plan) (A : Option Addr) (c : Nat) (cards : List Card) (w : World) (hp : PlanIs w m p) (wf : PlanWf p) (hc : Cards w A c cards) (hO : ¬ (PlanOK p ∧ cardsOK p cards)) :
    Calls Tryz.prog 29 #[planV m p, .slice A cards.length c] w fun e w' => e = .returned (.tuple #[.slice none 0 0, .int .i64 2]) ∧ ∃ q : Later w, w' = q.world := by
  have HB := Lib.hid (fun W (h : Lt w W) => c_begin_no m p A c cards W (hp.later h) wf (hc.later h) hO)
  clear hp hc hO wf
  obtain ⟨iA, ic, jA, jc, pA, pc, eA, ec⟩ := m
  simp only [planV, planC] at HB ⊢
  go_enter Tryz.func29, Tryz.ntmps29
  go_wp2_with fail
  refine (HB.out _ ((Lt.refl w).alloc _)).mono ?_
  rintro e w' ⟨rfl, q, rfl⟩
  go_wp2_with fail
  go_ret2
  exact ⟨rfl, ⟨_, (q.to ((Lt.refl w).alloc _)).alloc _⟩, rfl⟩
end Go.Proofs.YtdpcdmcmpfjbjaaGreat
