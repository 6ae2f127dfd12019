/- The program's WorldCalm returns what the reference's returns, for every run; it turns nothing that it was handed and shares no memory. No condition. -/
import Derived.Deep.DeepCutAuto
import Derived.Test.YtfledddejfpopaaGreatDoorM31
import Derived.Test.YtfledddejfpopaaGreatDoorM33
set_option linter.unusedVariables false
set_option linter.unusedSimpArgs false
set_option maxHeartbeats 4000000
set_option maxRecDepth 100000
namespace Go.Proofs.YtfledddejfpopaaGreatDoor
open Go Go.RowKit
section
open Go.ChangeShapes Go.WideShapes Go.ChangeAt
theorem clmW_sm (x : Wd) : qS (clmW x) := by
 unfold clmW
 cases h : wdB x with
 | true => rw [if_pos rfl]; exact (calm_ok (mm.1 h)).sm
 | false =>
  rw [if_neg (by simp)]
  exact ⟨⟨Nat.zero_le _, fun _ h => by cases h⟩, Nat.zero_le _, ⟨Nat.zero_le _, fun _ h => by cases h⟩, Nat.zero_le _⟩
theorem FnExactWorldCalm_c (v : Value) (x : Wd) (w : World) (hg : uE w) (h : WdB w.heap.size w v x) (_ : True) :
  Calls Tryz.prog 4 #[v] w (ok true w.heap.size w) := by
 have hw0 : 0 < w.heap.size := World.block_lt_of_cell? _ _ hg
 have Hg := hid (fun (wx : World) (hb : Below w.heap.size w wx) => show eQ wx from (hb.cell (p := ⟨0, 0, none⟩) hw0).trans hg)
 have H := hid (fun (wx : World) (hb : Below w.heap.size w wx) => h.go hb)
 have hym := lp (clmW_sm x)
 obtain ⟨y, hy⟩ : ∃ y, clmW x = y := ⟨_, rfl⟩
 rw [hy] at hym
 have Hy := hid hy
 obtain ⟨vm, vs, vn, vg, rfl, h1, h2, h3, h4⟩ := h
 clear h1 h2 h3 h4 hg hy
 go_enter Tryz.func4, Tryz.ntmps4
 go_wp2_with fail
 refine (qV x _ 1048576 _ (H.out _ bc) (by omega) (by omega)).mono ?_
 rintro e w1 ⟨r, rfl, hr, hb1⟩
 have hc : Below w.heap.size w w1 := bt bc hb1
 have e0 := ac hb1 (heap_alloc_new w _)
 rcases hr with rfl | ⟨r0, r1, hs⟩
 ·have Hc := hid hc
  clear hb1 hc e0
  go_wp2
  go_ret
  exact ⟨rfl, Hc.out⟩
 have hgl : x.got.length ≤ 1073741824 := by have := hs.2.2.2; unfold cd at this; omega
 have hxm := lp hs
 have HS := hid hs; have Hc := hid hc; have Hgl := hid hgl
 have K0 := hid (fun (wx : World) (hb : Below w1.heap.size w1 wx) => al (ac hb e0)); have K00 := hid e0
 have y1 : w.heap.size < w1.heap.size := (Array.getElem?_eq_some_iff.1 e0).1
 clear hb1 hc hs hgl
 obtain ⟨k0, k1, k2, k3, k4, k5, _⟩ := K0.out _ (Below.refl _ _)
 clear e0
 go_wp2_with fail
 refine (gA x _ _ (H.out _ Hc.out) HS.out).mono ?_
 rintro e w2 ⟨um, us, un, ug, rfl, n2, hb2⟩
 obtain ⟨A2, p2, A2b, p2b, A2c, p2c, A2d, p2d, rfl, rfl, rfl, rfl⟩ := oWd_form n2
 have D2 := hid (ib n2)
 have s2 := hb2.size; have Hb2 := hid hb2
 clear n2 hb2 k0 k1 k2 k3 k4 k5
 go_wp2_with fail
 refine (specCalm_c x _ _ D2.out Hgl.out).mono ?_
 rw [Hy.out]
 rintro e w3 ⟨a3, b3, c3, d3, rfl, n3, hb3⟩
 obtain ⟨A3, p3, A3b, p3b, A3c, p3c, A3d, p3d, rfl, rfl, rfl, rfl⟩ := oWd_form n3
 have N3 := hid n3; have Hb3 := hid (bt Hb2.out hb3)
 have s3 := hb3.size
 clear n3 hb3 Hb2 D2
 go_upto_region 6 with fail
 generalize hgw : World.alloc w3 _ = w4
 obtain ⟨e4, r4, _, hb4, s4⟩ := vQ N3.out Hb3.out (by omega) hgw
 obtain ⟨k0, k1, k2, k3, k4, k5, _⟩ := K0.out _ hb4
 have E4 := hid e4; have R4 := hid r4; have Hb4 := hid hb4
 have y4 : w.heap.size < w4.heap.size := by omega
 clear hgw e4 r4 hb4 N3 Hb3
 go_wp2_with fail
 refine (gA x _ _ (H.out _ (bt Hc.out Hb4.out)) HS.out).mono ?_
 rintro e w5 ⟨um, us, un, ug, rfl, n5, hb5⟩
 obtain ⟨A0, p0, A0b, p0b, A0c, p0c, A0d, p0d, rfl, rfl, rfl, rfl⟩ := oWd_form n5
 have N5 := hid n5; have Hb5 := hid (bt Hb4.out hb5)
 replace E4 := hid (ac hb5 E4.out)
 replace R4 := hid (R4.out.go hb5 (by omega))
 have s5 := hb5.size
 clear n5 hb5 Hb4 k0 k1 k2 k3 k4 k5
 go_upto_region 7 with fail
 generalize hgw : World.alloc w5 _ = w6
 obtain ⟨e6, r6, hb56, hb6, s6⟩ := vQ N5.out Hb5.out (by omega) hgw
 have E7 := hid e6; have N0 := hid r6
 replace E4 := hid (ac hb56 E4.out)
 replace R4 := hid (R4.out.go hb56 (by omega))
 have Hb6 := hid hb6
 obtain ⟨k0, k1, k2, k3, k4, k5, _⟩ := al e6
 have y6 : w5.heap.size < w6.heap.size := by omega
 clear hgw e6 r6 hb6 hb56 N5 Hb5
 go_wp2_with fail
 refine (implCalm_c x _ _ (Hg.out _ (bt Hc.out Hb6.out)) N0.out.wdB Hgl.out).mono ?_
 rw [Hy.out]
 rintro e w7 ⟨a7, b7, c7, d7, rfl, n7, hb7⟩
 obtain ⟨A8, p8, A8b, p8b, A8c, p8c, A8d, p8d, rfl, rfl, rfl, rfl⟩ := oWd_form n7
 have N7 := hid n7; have Hb7 := hid (bt Hb6.out hb7)
 replace E4 := hid (ac hb7 E4.out)
 replace R4 := hid (R4.out.go hb7 (by omega))
 replace E7 := hid (ac hb7 E7.out)
 replace N0 := hid (N0.out.go hb7 (by omega))
 have s7 := hb7.size
 clear n7 hb7 Hb6 k0 k1 k2 k3 k4 k5
 go_upto_region 8 with fail
 generalize hgw : World.alloc w7 _ = wB
 obtain ⟨e8, r8, hb78, hbB, sB⟩ := vQ N7.out Hb7.out (by omega) hgw
 have E8 := hid e8; have R8 := hid r8
 have E6 := hid (ac hb78 E4.out)
 have R6 := hid (R4.out.go hb78 (by omega))
 replace E7 := hid (ac hb78 E7.out)
 replace N0 := hid (N0.out.go hb78 (by omega))
 have E0 := hid (ac hbB K00.out)
 replace Hc := hid (bt Hc.out hbB)
 obtain ⟨k0, k1, k2, k3, k4, k5, _⟩ := al e8
 obtain ⟨q0, q1, q2, q3, q4, q5, _⟩ := al E6.out
 have g8B : w7.heap.size < wB.heap.size := by omega
 have g6B : w3.heap.size < wB.heap.size := by omega
 clear hgw e8 r8 hb78 hbB N7 Hb7 E4 R4 K0 K00
 go_wp2_with fail
 refine (gd y _ _ _ R8.out.wdB R6.out.wdB).mono ?_
 rintro e wC ⟨rfl, hbC⟩
 replace Hc := hid (bt Hc.out hbC)
 replace E0 := hid (ac hbC E0.out)
 replace E6 := hid (ac hbC E6.out)
 replace E7 := hid (ac hbC E7.out)
 replace E8 := hid (ac hbC E8.out)
 replace R6 := hid (R6.out.go hbC (by omega))
 replace N0 := hid (N0.out.go hbC (by omega))
 replace R8 := hid (R8.out.go hbC (by omega))
 have sC := hbC.size
 clear hbC k0 k1 k2 k3 k4 k5 q0 q1 q2 q3 q4 q5
 have HX := hid (fun (wx : World) (hT : Tch [] wC wx) => And.intro (al (ac hT.nil E7.out)) (And.intro (al (ac hT.nil E0.out)) (show w.heap.size < wx.heap.size ∧ w5.heap.size < wx.heap.size by have := hT.size; omega)))
 go_wp2_with fail
 refine rgN [] 5 fun wd hHeld hbwd swd => ?_
 simp only [pw]
 refine tr 0 HX.out ?_
 refine tr 1 HX.out ?_
 try simp only [pw]
 refine ro 2 fun K hK => ?_
 go_simp
 (go_at_call 17; refine (gA x _ _ (H.out _ (bt Hc.out hHeld.nil)) HS.out).mono ?_; rintro e wt ⟨um, us, un, ug, rfl, n5, hbC⟩; have d5 := ib n5)
 refine hK.out _ _ (hHeld.trans (Tch.of hbC)) (fun hHeld => ?_)
 clear hK K
 refine ro 3 fun K hK => ?_
 go_simp
 (go_at_call 10; refine (gd x _ _ _ (N0.out.wdB.go hHeld.nil) d5).mono ?_; rintro e wq ⟨rfl, hbC⟩)
 refine hK.out _ _ (hHeld.trans (Tch.of hbC)) (fun hHeld => ?_)
 clear hK K
 refine tr 4 HX.out ?_
 try simp only [pw]
 refine dm ?_
 have hbD := hHeld.nil
 replace Hc := hid (bt Hc.out hbD)
 replace E0 := hid (ac hbD E0.out)
 replace E6 := hid (ac hbD E6.out)
 replace E7 := hid (ac hbD E7.out)
 replace E8 := hid (ac hbD E8.out)
 replace R6 := hid (R6.out.go hbD (by omega))
 replace N0 := hid (N0.out.go hbD (by omega))
 replace R8 := hid (R8.out.go hbD (by omega))
 have sD := hbD.size
 clear hbD hHeld hbC d5 n5 HX swd
 obtain ⟨k0, k1, k2, k3, k4, k5, _⟩ := al E7.out
 have x0 : (0 : Int) ≤ 1 + (cWd x : Int) := by omega
 have x1 : decide ((1 : Int) + (cWd x : Int) < 0) = false := decide_eq_false (by omega)
 have x2 : decide ((1 : Int) + (cWd y : Int) < 0) = false := decide_eq_false (by omega)
 have x3 : ((1 : Int) + (cWd y : Int) != 1 + (cWd y : Int)) = false := cw _
 go_wp2_with fail
 refine (rV w4.heap.size w5.heap.size x _ _ _ _ 1 _ N0.out (by omega) (by omega)).mono ?_
 rintro e wD ⟨rfl, _, tin⟩
 replace E0 := hid (tin.row E0.out (by omega))
 replace E6 := hid (tin.row E6.out (by omega))
 replace R6 := hid (R6.out.keep (fun c h1 h2 => tin.block (by omega) (.inl (by omega))))
 replace R8 := hid (R8.out.keep (fun c h1 h2 => tin.block (by omega) (.inr (by omega))))
 replace E8 := hid (tin.row E8.out (by omega))
 replace Hc := hid (Hc.out.trans ((tin.below (by omega)).mono (by omega)))
 have sD2 := tin.size
 clear tin k0 k1 k2 k3 k4 k5 N0 E7
 obtain ⟨k0, k1, k2, k3, k4, k5, _⟩ := al E8.out
 obtain ⟨q0, q1, q2, q3, q4, q5, _⟩ := al E6.out
 have z8D : w7.heap.size < wD.heap.size := by omega
 have z6D : w3.heap.size < wD.heap.size := by omega
 go_wp2_with fail
 refine (gd y _ _ _ R8.out.wdB R6.out.wdB).mono ?_
 rintro e wE ⟨rfl, hbE⟩
 replace Hc := hid (bt Hc.out hbE)
 replace E0 := hid (ac hbE E0.out)
 replace E6 := hid (ac hbE E6.out)
 replace E8 := hid (ac hbE E8.out)
 replace R6 := hid (R6.out.go hbE (by omega))
 replace R8 := hid (R8.out.go hbE (by omega))
 have sE := hbE.size
 clear hbE k0 k1 k2 k3 k4 k5 q0 q1 q2 q3 q4 q5
 obtain ⟨k0, k1, k2, k3, k4, k5, _⟩ := al E8.out
 have z8E : w7.heap.size < wE.heap.size := by omega
 go_wp2_with fail
 refine (rV w6.heap.size w7.heap.size y _ _ _ _ 1 _ R8.out (by omega) (by omega)).mono ?_
 rintro e wF ⟨rfl, r8, tin⟩
 replace E0 := hid (tin.row E0.out (by omega))
 replace E6 := hid (tin.row E6.out (by omega))
 replace R6 := hid (R6.out.keep (fun c h1 h2 => tin.block (by omega) (.inl (by omega))))
 replace R8 := hid r8
 replace E8 := hid (tin.row E8.out (by omega))
 replace Hc := hid (Hc.out.trans ((tin.below (by omega)).mono (by omega)))
 have sF := tin.size
 clear tin r8 k0 k1 k2 k3 k4 k5
 obtain ⟨k0, k1, k2, k3, k4, k5, _⟩ := al E8.out
 have z8F : w7.heap.size < wF.heap.size := by omega
 go_wp2_with fail
 refine (iT y _ 1 _ R8.out.wdB (by omega) (by omega)).mono ?_
 rintro e wG ⟨rfl, hbG⟩
 replace Hc := hid (bt Hc.out hbG)
 replace E0 := hid (ac hbG E0.out)
 replace E6 := hid (ac hbG E6.out)
 replace E8 := hid (ac hbG E8.out)
 replace R6 := hid (R6.out.go hbG (by omega))
 replace R8 := hid (R8.out.go hbG (by omega))
 have sG := hbG.size
 clear hbG k0 k1 k2 k3 k4 k5
 obtain ⟨k0, k1, k2, k3, k4, k5, _⟩ := al E0.out
 have yL : w.heap.size < wG.heap.size := by have := sG; omega
 go_wp2_with fail
 refine (gA x _ _ (H.out _ Hc.out) HS.out).mono ?_
 rintro e wL ⟨um, us, un, ug, rfl, nL, hbL⟩
 obtain ⟨AL, pL, ALb, pLb, ALc, pLc, ALd, pLd, rfl, rfl, rfl, rfl⟩ := oWd_form nL
 have DL := hid (ib nL)
 replace Hc := hid (bt Hc.out hbL)
 replace E0 := hid (ac hbL E0.out)
 replace E6 := hid (ac hbL E6.out)
 replace E8 := hid (ac hbL E8.out)
 replace R6 := hid (R6.out.go hbL (by omega))
 replace R8 := hid (R8.out.go hbL (by omega))
 have sL := hbL.size
 clear nL hbL k0 k1 k2 k3 k4 k5
 go_wp2_with fail
 refine (implCalm_c x _ _ (Hg.out _ Hc.out) DL.out Hgl.out).mono ?_
 rw [Hy.out]
 rintro e wM ⟨a9, b9, c9, d9, rfl, n9, hbM⟩
 obtain ⟨A9, p9, A9b, p9b, A9c, p9c, A9d, p9d, rfl, rfl, rfl, rfl⟩ := oWd_form n9
 have N9 := hid n9
 replace Hc := hid (bt Hc.out hbM)
 replace E0 := hid (ac hbM E0.out)
 replace E6 := hid (ac hbM E6.out)
 replace E8 := hid (ac hbM E8.out)
 replace R6 := hid (R6.out.go hbM (by omega))
 replace R8 := hid (R8.out.go hbM (by omega))
 have sM := hbM.size
 clear n9 hbM DL
 go_upto_region 25 with fail
 generalize hgw : World.alloc wM _ = wH
 obtain ⟨e9, r9, hb9, _, sH⟩ := vQ N9.out (Below.refl _ _) (Nat.le_refl _) hgw
 clear hgw N9
 replace Hc := hid (bt Hc.out hb9)
 replace E0 := hid (ac hb9 E0.out)
 replace E6 := hid (ac hb9 E6.out)
 replace E8 := hid (ac hb9 E8.out)
 replace R6 := hid (R6.out.go hb9 (by omega))
 replace R8 := hid (R8.out.go hb9 (by omega))
 have g9H : wM.heap.size < wH.heap.size := (Array.getElem?_eq_some_iff.1 e9).1
 have z6H : w3.heap.size < wH.heap.size := by omega
 obtain ⟨k0, k1, k2, k3, k4, k5, _⟩ := al e9
 obtain ⟨q0, q1, q2, q3, q4, q5, _⟩ := al E6.out
 have R9 := hid r9
 clear hb9 e9
 go_wp2_with fail
 refine (gd y _ _ _ R9.out.wdB R6.out.wdB).mono ?_
 rintro e wI ⟨rfl, hbI⟩
 replace Hc := hid (bt Hc.out hbI)
 replace E0 := hid (ac hbI E0.out)
 replace E6 := hid (ac hbI E6.out)
 replace E8 := hid (ac hbI E8.out)
 replace R6 := hid (R6.out.go hbI (by omega))
 replace R8 := hid (R8.out.go hbI (by omega))
 have sI := hbI.size
 clear hbI k0 k1 k2 k3 k4 k5 q0 q1 q2 q3 q4 q5
 obtain ⟨k0, k1, k2, k3, k4, k5, _⟩ := al E8.out
 have z8I : w7.heap.size < wI.heap.size := by omega
 go_wp2_with fail
 refine (iT y _ 1 _ R8.out.wdB (by omega) (by omega)).mono ?_
 rintro e wJ ⟨rfl, hbJ⟩
 replace Hc := hid (bt Hc.out hbJ)
 clear hbJ k0 k1 k2 k3 k4 k5
 go_wp2_with fail
 go_ret
 exact ⟨rfl, Hc.out⟩
theorem FnExactWorldCalm_lifted (os : Os) (started : os.Started) (H : Type) (enc : TypeId × Value → H) :
  ReturnsInHanded {} Tryz.checked os 4 .any (fun w args => (Rows.fnExactWorldCalmSpec.pre enc Tryz.prog Tryz.f4 [] false w args ∧ laidMetH Tryz.prog lh w) ∧ sizedMet enc Tryz.prog Tryz.f4 (OpenSpec.ofChange Rows.fnExactWorldCalmSpec) false w args) (Rows.fnExactWorldCalmSpec.post enc Tryz.prog Tryz.f4 false true false false) := by
 refine returnsInHanded_of_change_and (C := Tryz.checked) (X := fun w _ => laidMetH Tryz.prog lh w) (fun _ _ _ hh h => h.of_heap hh) su started (by kernel_rfl) Tryz.func4
  (ChangeSpec.witness_at (enc := enc) (C := Tryz.checked) (os := os) (X := fun w _ => laidMetH Tryz.prog lh w) false (lj os) #[.agg #[.slice none 0 0, .slice none 0 0, .slice none 0 0, .slice none 0 0, .int .i64 0, .int .i64 0]] 8 rfl (by kernel_rfl) (by kernel_rfl) (by kernel_rfl) (by kernel_rfl) (by kernel_rfl) (kH os _)) ?_
 intro W base args ds gs before hval0 hW _ _ hL _
 have hg := jz hL
 have hval : ∀ (j : Nat) t v, Tryz.f4.params[j]? = some t → args[j]? = some v → Value.okWide Tryz.prog W .any base t v := hval0
 have hW' := hW
 obtain ⟨p, q, hA0, hV, rfl, hfz, hnd⟩ := hW
 have hA : DataW.TrodAll enc Tryz.prog W 0 (fun _ => true) true Tryz.f4.params.toList args.toList ds p := hA0
 rw [Tryz.params4] at hA hval
 obtain ⟨v0, vs0, d0, ds0, p0, q0, hargs, rfl, rfl, h0, r0⟩ := trodAll_cons hA
 obtain ⟨rfl, rfl, rfl⟩ := trodAll_nil r0
 obtain rfl : args = #[v0] := by cases args; simp_all
 obtain ⟨rfl, rfl⟩ : gs = [] ∧ q = [] := by
  cases gs with
  | nil => exact ⟨rfl, hV⟩
  | cons g r => exact absurd hV (by intro h; cases h)
 have k0 := h0
 have lt0 : ∀ x ∈ p0, x.block < W.heap.size := by obtain ⟨m, hm⟩ := k0; exact DataW.trod_lt m _ _ _ hm
 obtain ⟨x0, s0, f0⟩ := vq (hval 0 42 v0 rfl rfl) h0
 clear hA0 hval0
 refine (FnExactWorldCalm_c v0 x0 W hg s0 f0).mono fun e W' ⟨he, bel⟩ => ?_
 subst he
 exact ⟨_, rfl, _, _, _, [], _, [], hW', trodAll_mk1 (shut_bool Tryz.underlying4 _), (trodAll_cons_mk (Below.trod mU (by kernel_rfl) (of_decide_eq_true (by kernel_rfl)) k0 bel lt0) trodAll_mk0), rfl, bel.frame _, fun h => by cases h⟩
theorem FnExactWorldCalm_facts : joinedFacts Tryz.prog 4 Tryz.f4 Rows.fnExactWorldCalmSpec Rows.fnExactWorldCalmRow = true := by
 unfold joinedFacts
 simp only [Bool.and_eq_true]
 repeat' apply And.intro
 ·as_aux_lemma => kernel_rfl
 ·as_aux_lemma => kernel_rfl
 ·as_aux_lemma => kernel_rfl
 ·as_aux_lemma => kernel_rfl
 ·as_aux_lemma => kernel_rfl
 ·as_aux_lemma => kernel_rfl
 ·as_aux_lemma => kernel_rfl
 ·as_aux_lemma => kernel_rfl
 ·as_aux_lemma => kernel_rfl
 ·as_aux_lemma => kernel_rfl
 ·as_aux_lemma => kernel_rfl
 ·as_aux_lemma => kernel_rfl
 ·as_aux_lemma => kernel_rfl
 ·as_aux_lemma => kernel_rfl
 ·as_aux_lemma => kernel_rfl
 ·as_aux_lemma => kernel_rfl
 ·as_aux_lemma => kernel_rfl
 ·as_aux_lemma => kernel_rfl
 ·as_aux_lemma => kernel_rfl
 ·as_aux_lemma => kernel_rfl
 ·as_aux_lemma => kernel_rfl
 ·as_aux_lemma => kernel_rfl
 ·as_aux_lemma => kernel_rfl
 ·as_aux_lemma => kernel_rfl
 ·as_aux_lemma => kernel_rfl
 ·exact oo
 ·rw [ot]; rfl
 ·rw [ql]; rfl
 ·as_aux_lemma => kernel_rfl
 ·as_aux_lemma => kernel_rfl
 ·as_aux_lemma => kernel_rfl
 ·as_aux_lemma => kernel_rfl
theorem FnExactWorldCalm_named : Tryz.prog.funcNamed Rows.fnExactWorldCalmRow.func = some 4 := by kernel_rfl
theorem FnExactWorldCalm_wrap : Tryz.f4.isWrapper Tryz.prog Rows.fnExactWorldCalmRow.wrapper Rows.fnExactWorldCalmRow.mainSum := (by unfold Func.isWrapper; first | (rw [if_pos (by decide +kernel)]; kernel_rfl) | (rw [if_neg (by decide +kernel)]; exact ⟨rfl, rfl⟩))
theorem FnExactWorldCalm_over : Rows.fnExactWorldCalmRow.holds Tryz.pinned (OpenSpec.ofChange Rows.fnExactWorldCalmSpec) :=
 OpenClaim.holds_of_wide (p := Tryz.pinned) 4 Tryz.f4 rfl rfl rfl rfl rfl rfl rfl ⟨rfl, rfl, rfl, rfl, rfl⟩ rfl rfl rfl rfl rfl FnExactWorldCalm_named Tryz.func4 FnExactWorldCalm_facts
  (of_decide_eq_true (by kernel_rfl)) FnExactWorldCalm_wrap
  (fun os started H enc _ => FnExactWorldCalm_lifted os started H enc)
theorem FnExactWorldCalm_holds : Rows.FnExactWorldCalmCardSaid :=
 Claim7.holds_tied_plain_at .later [] [.handle] true (true, "7f92a0a9953bcf8421b53ea28064d59a1af2c672f4f4d58016ed4b0cd9757e76") true
  FnExactWorldCalm_over (fun _ h => by cases h) (by kernel_rfl) (fun _ h => by cases h) fnExactWorldCalm_row_tie rfl ⟨rfl, rfl⟩ (by kernel_rfl) rfl
  (fun f fn hf hfn => by
   obtain rfl : f = 4 := Option.some.inj ((show Tryz.prog.funcNamed Rows.fnExactWorldCalmRow.func = some 4 by kernel_rfl).symm.trans hf) |>.symm
   obtain rfl : fn = Tryz.f4 := (Option.some.inj (Tryz.func4.symm.trans hfn)).symm
   exact ⟨by kernel_rfl, fun j t ht => by
    rw [Tryz.params4] at ht
    rcases j with _ | _ | j
    all_goals (first | (simp at ht; done) | (simp at ht; subst ht; exact (show Tryz.prog.wantsStandIn _ = false by kernel_rfl)))⟩)
  (by kernel_rfl)
#print axioms FnExactWorldCalm_holds
end
end Go.Proofs.YtfledddejfpopaaGreatDoor
