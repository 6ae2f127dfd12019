/- The program's WorldPlay returns what the reference's returns, for every list of events; it turns nothing that it was handed and shares no memory. No condition. -/
import Derived.Deep.DeepCutAuto
import Derived.Test.YtfledddejfpopaaGreatDoorM31
import Derived.Test.YtfledddejfpopaaGreatDoorM35
import Derived.Test.YtfledddejfpopaaGreatDoorM36
set_option linter.unusedVariables false
set_option linter.unusedSimpArgs false
set_option maxHeartbeats 4000000
set_option maxRecDepth 100000
namespace Go.Proofs.YtfledddejfpopaaGreatDoor
open Go Go.RowKit
section
open Go.ChangeShapes Go.WideShapes Go.ChangeAt
theorem wm (xs : List Ev) : qS (plW xs) := by
 unfold plW
 split
 ·exact (vT xs).sm
 ·exact ⟨⟨Nat.zero_le _, fun _ h => by cases h⟩, Nat.zero_le _, ⟨Nat.zero_le _, fun _ h => by cases h⟩, Nat.zero_le _⟩
theorem cntEv (xs : List Ev) : ay cEv xs = 4 * xs.length := by
 unfold ay cEv
 induction xs with
 | nil => rfl
 | cons x xs ih => simp at ih ⊢; omega
theorem wn {B : Nat} {w w' W : World} {v : Value} {xs : List Ev} {G : List Nat} (h : Own tEv 50 B w v xs G) (hG : ∀ b ∈ G, B ≤ b) (ht : Tch (v.ownBlock.toList ++ G) W w') : gY B w.heap.size W w' := by
 obtain ⟨cs, h1, h2, h3⟩ := h
 refine ⟨_, ht, fun c hc => ?_⟩
 rcases List.mem_append.1 hc with hc | hc
 ·exact Own.top ⟨cs, h1, h2, h3⟩ c (aM.1 hc)
 ·exact ⟨hG c hc, Ty.els_lt h2 c hc⟩
theorem FnExactWorldPlay_c (v : Value) (xs : List Ev) (w : World) (hg : uE w) (h : SlB tEv w.heap.size w v xs) (_ : ∀ x ∈ xs, True) :
  Calls Tryz.prog 3 #[v] w (ok true w.heap.size w) := by
 have hw0 : 0 < w.heap.size := World.block_lt_of_cell? _ _ hg
 have Hg := hid (fun (wx : World) (hb : Below w.heap.size w wx) => show eQ wx from (hb.cell (p := ⟨0, 0, none⟩) hw0).trans hg)
 have H := hid (fun (wx : World) (hb : Below w.heap.size w wx) => h.go hb)
 have hym := lp (wm xs)
 have hpp : (decide (xs.length ≤ 80) != decide (xs.length ≤ 80)) = false := bne_self_eq_false _
 obtain ⟨y, hy⟩ : ∃ y, plW xs = y := ⟨_, rfl⟩
 obtain ⟨pb, hp⟩ : ∃ pb, decide (xs.length ≤ 80) = pb := ⟨_, rfl⟩
 rw [hy] at hym
 rw [hp] at hpp
 have Hy := hid hy; have Hp := hid hp
 obtain ⟨A, c, rfl, _, _, _⟩ := h.form
 clear hg hy hp
 go_enter Tryz.func3, Tryz.ntmps3
 go_wp2_with fail
 refine (vS _ xs 1048576 _ h (by omega) (by omega)).mono ?_
 rintro e w1 ⟨r, rfl, hr, hb1⟩
 clear h
 rcases hr with rfl | ⟨r0, r1, hs⟩
 ·have Hc := hid hb1
  clear hb1
  go_wp2
  go_ret
  exact ⟨rfl, Hc.out⟩
 have hxm : (ay cEv xs : Int) ≤ 3000000000000000000 := by rw [cntEv]; unfold cd at hs; omega
 have HS := hid hs; have Hc := hid hb1
 clear hb1 hs
 go_wp2_with fail
 refine (toEventS_c _ xs _ (H.out _ Hc.out) HS.out).mono ?_
 rintro e w2 ⟨v2, rfl, n2, hb2⟩
 obtain ⟨A2, c2, rfl, _, _, _⟩ := n2.slB.form
 have D2 := hid n2.slB
 have s2 := hb2.size; have Hb2 := hid hb2
 clear n2 hb2
 go_wp2_with fail
 refine (vR xs _ _ D2.out).mono ?_
 unfold wv
 rw [Hy.out, Hp.out]
 rintro e w3 ⟨a3, b3, c3, d3, rfl, n3, hb3⟩
 obtain ⟨A3, p3, A3b, p3b, A3c, p3c, A3d, p3d, rfl, rfl, rfl, rfl⟩ := oWd_form n3
 have N3 := hid n3; have Hb3 := hid (bt Hb2.out hb3)
 have s3 := hb3.size
 clear n3 hb3 Hb2 D2
 go_upto_region 6 with fail
 generalize hgw : World.alloc w3 _ = w4
 obtain ⟨e4, r4, _, hb4, s4⟩ := vQ N3.out Hb3.out (by omega) hgw
 have E4 := hid e4; have R4 := hid r4
 replace Hc := hid (bt Hc.out hb4)
 have y4 := Hc.out.size
 clear hgw e4 r4 hb4 N3 Hb3
 go_wp2_with fail
 refine (toEventS_c _ xs _ (H.out _ Hc.out) HS.out).mono ?_
 rintro e w5 ⟨v5, rfl, n5, hb5⟩
 obtain ⟨A5, c5, rfl, _, _, _⟩ := n5.slB.form
 have s5 := hb5.size
 have D5 := hid n5.slB
 obtain ⟨G5, O5, hn5, hG5⟩ := n5
 have O5' := hid O5; have HG5 := hid hG5
 replace E4 := hid (ac hb5 E4.out)
 replace R4 := hid (R4.out.go hb5 (by omega))
 replace Hc := hid (bt Hc.out hb5)
 clear hb5 O5 hG5 hn5
 go_wp2_with fail
 refine (vE xs _ _ (Hg.out _ Hc.out) D5.out).mono ?_
 unfold wv
 rw [Hy.out, Hp.out]
 rintro e w7 ⟨a7, b7, c7, d7, rfl, n7, hb7⟩
 obtain ⟨A8, p8, A8b, p8b, A8c, p8c, A8d, p8d, rfl, rfl, rfl, rfl⟩ := oWd_form n7
 have N7 := hid n7; have Hb7 := hid hb7
 replace E4 := hid (ac hb7 E4.out)
 replace R4 := hid (R4.out.go hb7 (by omega))
 have s7 := hb7.size
 clear n7 hb7
 go_upto_region 8 with fail
 generalize hgw : World.alloc w7 _ = wB
 obtain ⟨e8, r8, hb78, hbB, sB⟩ := vQ N7.out Hb7.out (by omega) hgw
 have E8 := hid e8; have R8 := hid r8
 have E6 := hid (ac hb78 E4.out)
 have R6 := hid (R4.out.go hb78 (by omega))
 have HbB := hid hbB
 replace Hc := hid (bt Hc.out hbB)
 obtain ⟨k0, k1, k2, k3, k4, k5, _⟩ := al e8
 obtain ⟨q0, q1, q2, q3, q4, q5, _⟩ := al E6.out
 have g8B : w7.heap.size < wB.heap.size := by omega
 have g6B : w3.heap.size < wB.heap.size := by omega
 clear hgw e8 r8 hb78 hbB N7 Hb7 E4 R4
 go_wp2_with fail
 refine (gd y _ _ _ R8.out.wdB R6.out.wdB).mono ?_
 rintro e wC ⟨rfl, hbC⟩
 replace Hc := hid (bt Hc.out hbC)
 replace E6 := hid (ac hbC E6.out)
 replace E8 := hid (ac hbC E8.out)
 replace R6 := hid (R6.out.go hbC (by omega))
 replace R8 := hid (R8.out.go hbC (by omega))
 replace HbB := hid (bt HbB.out hbC)
 have sC := hbC.size
 clear hbC k0 k1 k2 k3 k4 k5 q0 q1 q2 q3 q4 q5
 go_wp2_with fail
 refine (toEventS_c _ xs _ (H.out _ Hc.out) HS.out).mono ?_
 rintro e wc1 ⟨vc, rfl, nc, hbc1⟩
 replace Hc := hid (bt Hc.out hbc1)
 replace E6 := hid (ac hbc1 E6.out)
 replace E8 := hid (ac hbc1 E8.out)
 replace R6 := hid (R6.out.go hbc1 (by omega))
 replace R8 := hid (R8.out.go hbc1 (by omega))
 replace HbB := hid (bt HbB.out hbc1)
 have sc1 := hbc1.size
 obtain ⟨Ac, cc, rfl, _, _, _⟩ := nc.slB.form
 have DC := hid nc.slB
 clear nc hbc1
 go_wp2_with fail
 refine (vP _ _ xs _ (D5.out.go HbB.out) DC.out).mono ?_
 rintro e wD0 ⟨rfl, hbD⟩
 replace Hc := hid (bt Hc.out hbD)
 replace E6 := hid (ac hbD E6.out)
 replace E8 := hid (ac hbD E8.out)
 replace R6 := hid (R6.out.go hbD (by omega))
 replace R8 := hid (R8.out.go hbD (by omega))
 replace HbB := hid (bt HbB.out hbD)
 have sD := hbD.size
 clear hbD DC
 have x0 : (0 : Int) ≤ 1 + (ay cEv xs : Int) := by omega
 have x1 : decide ((1 : Int) + (ay cEv xs : Int) < 0) = false := decide_eq_false (by omega)
 have x2 : decide ((1 : Int) + (cWd y : Int) < 0) = false := decide_eq_false (by omega)
 have x3 : ((1 : Int) + (cWd y : Int) != 1 + (cWd y : Int)) = false := cw _
 go_wp2_with fail
 refine (vJ 50 _ xs G5 1 _ ((O5'.out.go HbB.out).base (Nat.zero_le _)) (by omega) (by omega)).mono ?_
 rintro e wD ⟨rfl, tt⟩
 have tin := wn O5'.out HG5.out tt
 replace E6 := hid (tin.row E6.out (by omega))
 replace R6 := hid (R6.out.keep (fun c h1 h2 => tin.block (by omega) (.inl (by omega))))
 replace R8 := hid (R8.out.keep (fun c h1 h2 => tin.block (by omega) (.inr (by omega))))
 replace E8 := hid (tin.row E8.out (by omega))
 replace Hc := hid (Hc.out.trans ((tin.below (by omega)).mono (by omega)))
 have sD2 := tin.size
 clear tin tt O5' HG5 D5 HbB
 obtain ⟨k0, k1, k2, k3, k4, k5, _⟩ := al E8.out
 obtain ⟨q0, q1, q2, q3, q4, q5, _⟩ := al E6.out
 have z8D : w7.heap.size < wD.heap.size := by omega
 have z6D : w3.heap.size < wD.heap.size := by omega
 go_wp2_with fail
 refine (gd y _ _ _ R8.out.wdB R6.out.wdB).mono ?_
 rintro e wE ⟨rfl, hbE⟩
 replace Hc := hid (bt Hc.out hbE)
 replace E6 := hid (ac hbE E6.out)
 replace E8 := hid (ac hbE E8.out)
 replace R6 := hid (R6.out.go hbE (by omega))
 replace R8 := hid (R8.out.go hbE (by omega))
 have sE := hbE.size
 clear hbE k0 k1 k2 k3 k4 k5 q0 q1 q2 q3 q4 q5
 obtain ⟨k0, k1, k2, k3, k4, k5, _⟩ := al E8.out
 have z8E : w7.heap.size < wE.heap.size := by omega
 go_wp2_with fail
 refine (rV w5.heap.size w7.heap.size y _ _ _ _ 1 _ R8.out (by omega) (by omega)).mono ?_
 rintro e wF ⟨rfl, r8, tin⟩
 replace E6 := hid (tin.row E6.out (by omega))
 replace R6 := hid (R6.out.keep (fun c h1 h2 => tin.block (by omega) (.inl (by omega))))
 replace R8 := hid r8
 replace E8 := hid (tin.row E8.out (by omega))
 replace Hc := hid (Hc.out.trans ((tin.below (by omega)).mono (by omega)))
 have sF := tin.size
 clear tin r8 k0 k1 k2 k3 k4 k5
 obtain ⟨k0, k1, k2, k3, k4, k5, _⟩ := al E8.out
 have z8F : w7.heap.size < wF.heap.size := by omega
 go_wp2_with fail
 refine (iT y _ 1 _ R8.out.wdB (by omega) (by omega)).mono ?_
 rintro e wG ⟨rfl, hbG⟩
 replace Hc := hid (bt Hc.out hbG)
 replace E6 := hid (ac hbG E6.out)
 replace E8 := hid (ac hbG E8.out)
 replace R6 := hid (R6.out.go hbG (by omega))
 replace R8 := hid (R8.out.go hbG (by omega))
 have sG := hbG.size
 clear hbG k0 k1 k2 k3 k4 k5
 go_wp2_with fail
 refine (toEventS_c _ xs _ (H.out _ Hc.out) HS.out).mono ?_
 rintro e wL ⟨vL, rfl, nL, hbL⟩
 obtain ⟨AL, cL, rfl, _, _, _⟩ := nL.slB.form
 have DL := hid nL.slB
 replace Hc := hid (bt Hc.out hbL)
 replace E6 := hid (ac hbL E6.out)
 replace E8 := hid (ac hbL E8.out)
 replace R6 := hid (R6.out.go hbL (by omega))
 replace R8 := hid (R8.out.go hbL (by omega))
 have sL := hbL.size
 clear nL hbL
 go_wp2_with fail
 refine (vE xs _ _ (Hg.out _ Hc.out) DL.out).mono ?_
 unfold wv
 rw [Hy.out, Hp.out]
 rintro e wM ⟨a9, b9, c9, d9, rfl, n9, hbM⟩
 obtain ⟨A9, p9, A9b, p9b, A9c, p9c, A9d, p9d, rfl, rfl, rfl, rfl⟩ := oWd_form n9
 have N9 := hid n9
 replace Hc := hid (bt Hc.out hbM)
 replace E6 := hid (ac hbM E6.out)
 replace E8 := hid (ac hbM E8.out)
 replace R6 := hid (R6.out.go hbM (by omega))
 replace R8 := hid (R8.out.go hbM (by omega))
 have sM := hbM.size
 clear n9 hbM DL
 go_upto_region 25 with fail
 generalize hgw : World.alloc wM _ = wH
 obtain ⟨e9, r9, hb9, _, sH⟩ := vQ N9.out (Below.refl _ _) (Nat.le_refl _) hgw
 clear hgw N9
 replace Hc := hid (bt Hc.out hb9)
 replace E6 := hid (ac hb9 E6.out)
 replace E8 := hid (ac hb9 E8.out)
 replace R6 := hid (R6.out.go hb9 (by omega))
 replace R8 := hid (R8.out.go hb9 (by omega))
 have g9H : wM.heap.size < wH.heap.size := (Array.getElem?_eq_some_iff.1 e9).1
 have z6H : w3.heap.size < wH.heap.size := by omega
 obtain ⟨k0, k1, k2, k3, k4, k5, _⟩ := al e9
 obtain ⟨q0, q1, q2, q3, q4, q5, _⟩ := al E6.out
 have R9 := hid r9
 clear hb9 e9
 go_wp2_with fail
 refine (gd y _ _ _ R9.out.wdB R6.out.wdB).mono ?_
 rintro e wI ⟨rfl, hbI⟩
 replace Hc := hid (bt Hc.out hbI)
 replace E6 := hid (ac hbI E6.out)
 replace E8 := hid (ac hbI E8.out)
 replace R6 := hid (R6.out.go hbI (by omega))
 replace R8 := hid (R8.out.go hbI (by omega))
 have sI := hbI.size
 clear hbI k0 k1 k2 k3 k4 k5 q0 q1 q2 q3 q4 q5
 obtain ⟨k0, k1, k2, k3, k4, k5, _⟩ := al E8.out
 have z8I : w7.heap.size < wI.heap.size := by omega
 go_wp2_with fail
 refine (iT y _ 1 _ R8.out.wdB (by omega) (by omega)).mono ?_
 rintro e wJ ⟨rfl, hbJ⟩
 replace Hc := hid (bt Hc.out hbJ)
 clear hbJ k0 k1 k2 k3 k4 k5
 go_wp2_with fail
 go_ret
 exact ⟨rfl, Hc.out⟩
theorem FnExactWorldPlay_lifted (os : Os) (started : os.Started) (H : Type) (enc : TypeId × Value → H) :
  ReturnsInHanded {} Tryz.checked os 3 .any (fun w args => (Rows.fnExactWorldPlaySpec.pre enc Tryz.prog Tryz.f3 [] false w args ∧ laidMetH Tryz.prog lh w) ∧ sizedMet enc Tryz.prog Tryz.f3 (OpenSpec.ofChange Rows.fnExactWorldPlaySpec) false w args) (Rows.fnExactWorldPlaySpec.post enc Tryz.prog Tryz.f3 false true false false) := by
 refine returnsInHanded_of_change_and (C := Tryz.checked) (X := fun w _ => laidMetH Tryz.prog lh w) (fun _ _ _ hh h => h.of_heap hh) su started (by kernel_rfl) Tryz.func3
  (ChangeSpec.witness_at (enc := enc) (C := Tryz.checked) (os := os) (X := fun w _ => laidMetH Tryz.prog lh w) false (lj os) #[.slice none 0 0] 8 rfl (by kernel_rfl) (by kernel_rfl) (by kernel_rfl) (by kernel_rfl) (by kernel_rfl) (kH os _)) ?_
 intro W base args ds gs before hval0 hW _ _ hL _
 have hg := jz hL
 have hval : ∀ (j : Nat) t v, Tryz.f3.params[j]? = some t → args[j]? = some v → Value.okWide Tryz.prog W .any base t v := hval0
 have hW' := hW
 obtain ⟨p, q, hA0, hV, rfl, hfz, hnd⟩ := hW
 have hA : DataW.TrodAll enc Tryz.prog W 0 (fun _ => true) true Tryz.f3.params.toList args.toList ds p := hA0
 rw [Tryz.params3] at hA hval
 obtain ⟨v0, vs0, d0, ds0, p0, q0, hargs, rfl, rfl, h0, r0⟩ := trodAll_cons hA
 obtain ⟨rfl, rfl, rfl⟩ := trodAll_nil r0
 obtain rfl : args = #[v0] := by cases args; simp_all
 obtain ⟨rfl, rfl⟩ : gs = [] ∧ q = [] := by
  cases gs with
  | nil => exact ⟨rfl, hV⟩
  | cons g r => exact absurd hV (by intro h; cases h)
 have k0 := h0
 have lt0 : ∀ x ∈ p0, x.block < W.heap.size := by obtain ⟨m, hm⟩ := k0; exact DataW.trod_lt m _ _ _ hm
 obtain ⟨xs0, s0, f0⟩ := vW vM Tryz.underlying22 (hval 0 22 v0 rfl rfl) h0
 clear hA0 hval0
 refine (FnExactWorldPlay_c v0 xs0 W hg s0 f0).mono fun e W' ⟨he, bel⟩ => ?_
 subst he
 exact ⟨_, rfl, _, _, _, [], _, [], hW', trodAll_mk1 (shut_bool Tryz.underlying4 _), (trodAll_cons_mk (Below.trod mU (by kernel_rfl) (of_decide_eq_true (by kernel_rfl)) k0 bel lt0) trodAll_mk0), rfl, bel.frame _, fun h => by cases h⟩
theorem FnExactWorldPlay_facts : joinedFacts Tryz.prog 3 Tryz.f3 Rows.fnExactWorldPlaySpec Rows.fnExactWorldPlayRow = true := by
 unfold joinedFacts
 simp only [Bool.and_eq_true]
 repeat' apply And.intro
 ·as_aux_lemma => kernel_rfl
 ·as_aux_lemma => kernel_rfl
 ·as_aux_lemma => kernel_rfl
 ·as_aux_lemma => kernel_rfl
 ·as_aux_lemma => kernel_rfl
 ·as_aux_lemma => kernel_rfl
 ·as_aux_lemma => kernel_rfl
 ·as_aux_lemma => kernel_rfl
 ·as_aux_lemma => kernel_rfl
 ·as_aux_lemma => kernel_rfl
 ·as_aux_lemma => kernel_rfl
 ·as_aux_lemma => kernel_rfl
 ·as_aux_lemma => kernel_rfl
 ·as_aux_lemma => kernel_rfl
 ·as_aux_lemma => kernel_rfl
 ·as_aux_lemma => kernel_rfl
 ·as_aux_lemma => kernel_rfl
 ·as_aux_lemma => kernel_rfl
 ·as_aux_lemma => kernel_rfl
 ·as_aux_lemma => kernel_rfl
 ·as_aux_lemma => kernel_rfl
 ·as_aux_lemma => kernel_rfl
 ·as_aux_lemma => kernel_rfl
 ·as_aux_lemma => kernel_rfl
 ·as_aux_lemma => kernel_rfl
 ·exact oo
 ·rw [ot]; rfl
 ·rw [ql]; rfl
 ·as_aux_lemma => kernel_rfl
 ·as_aux_lemma => kernel_rfl
 ·as_aux_lemma => kernel_rfl
 ·as_aux_lemma => kernel_rfl
theorem FnExactWorldPlay_named : Tryz.prog.funcNamed Rows.fnExactWorldPlayRow.func = some 3 := by kernel_rfl
theorem FnExactWorldPlay_wrap : Tryz.f3.isWrapper Tryz.prog Rows.fnExactWorldPlayRow.wrapper Rows.fnExactWorldPlayRow.mainSum := (by unfold Func.isWrapper; first | (rw [if_pos (by decide +kernel)]; kernel_rfl) | (rw [if_neg (by decide +kernel)]; exact ⟨rfl, rfl⟩))
theorem FnExactWorldPlay_over : Rows.fnExactWorldPlayRow.holds Tryz.pinned (OpenSpec.ofChange Rows.fnExactWorldPlaySpec) :=
 OpenClaim.holds_of_wide (p := Tryz.pinned) 3 Tryz.f3 rfl rfl rfl rfl rfl rfl rfl ⟨rfl, rfl, rfl, rfl, rfl⟩ rfl rfl rfl rfl rfl FnExactWorldPlay_named Tryz.func3 FnExactWorldPlay_facts
  (of_decide_eq_true (by kernel_rfl)) FnExactWorldPlay_wrap
  (fun os started H enc _ => FnExactWorldPlay_lifted os started H enc)
theorem FnExactWorldPlay_holds : Rows.FnExactWorldPlayCardSaid :=
 Claim7.holds_tied_plain_at .later [] [.handle] true (true, "7f92a0a9953bcf8421b53ea28064d59a1af2c672f4f4d58016ed4b0cd9757e76") true
  FnExactWorldPlay_over (fun _ h => by cases h) (by kernel_rfl) (fun _ h => by cases h) fnExactWorldPlay_row_tie rfl ⟨rfl, rfl⟩ (by kernel_rfl) rfl
  (fun f fn hf hfn => by
   obtain rfl : f = 3 := Option.some.inj ((show Tryz.prog.funcNamed Rows.fnExactWorldPlayRow.func = some 3 by kernel_rfl).symm.trans hf) |>.symm
   obtain rfl : fn = Tryz.f3 := (Option.some.inj (Tryz.func3.symm.trans hfn)).symm
   exact ⟨by kernel_rfl, fun j t ht => by
    rw [Tryz.params3] at ht
    rcases j with _ | _ | j
    all_goals (first | (simp at ht; done) | (simp at ht; subst ht; exact (show Tryz.prog.wantsStandIn _ = false by kernel_rfl)))⟩)
  (by kernel_rfl)
#print axioms FnExactWorldPlay_holds
end
end Go.Proofs.YtfledddejfpopaaGreatDoor
