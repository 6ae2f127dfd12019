/- A run is valid in both texts or in neither; one that is not gives the empty run. No condition. -/
import Derived.Deep.DeepCutAuto
import Derived.Test.YtolgbefghbddeaaGreatDoorM11
import Derived.Test.YtolgbefghbddeaaGreatDoorM34
import Derived.Test.YtolgbefghbddeaaGreatDoorM35
import Derived.Test.YtolgbefghbddeaaGreatDoorM37
set_option linter.unusedVariables false
set_option linter.unusedSimpArgs false
set_option maxHeartbeats 4000000
set_option maxRecDepth 100000
namespace Go.Proofs.YtolgbefghbddeaaGreatDoor
open Go Go.RowKit
section
open Go.ChangeShapes Go.WideShapes Go.ChangeAt
theorem FnWorldInvalid_c (v0 : Value) (xs0 : List Int) (w : World) (hg : kG w) (s0 : SlB cR w.heap.size w v0 xs0) (hx0 : ∀ x ∈ xs0, (Lit.int .u8 x).wf = true) :
  Calls Tryz.prog 14 #[v0] w (ok true w.heap.size w) := by
 have hw0 : 0 < w.heap.size := World.block_lt_of_cell? _ _ hg
 have Hg := hid (fun (wx : World) (hb : Below w.heap.size w wx) => show dj wx from (hb.cell (p := ⟨0, 0, none⟩) hw0).trans hg)
 have HX := hid (fun x hx => gZ (hx0 x hx))
 obtain ⟨A, c, rfl, _, _, _⟩ := s0.form
 have S0 := hid s0
 clear hg s0 hx0
 by_cases hl : 1048576 < xs0.length
 ·go_enter Tryz.func14, Tryz.ntmps14
  go_wp2
  go_ret
  exact ⟨rfl, ah⟩
 go_enter Tryz.func14, Tryz.ntmps14
 go_wp2_with fail
 refine (kh _ xs0 _ S0.out HX.out).mono ?_
 rintro e w1 ⟨v1, x, rfl, d1, hgl, hb1⟩
 obtain ⟨A1, c1, A1b, c1b, A1c, c1c, A1d, c1d, rfl⟩ := d1.form
 have D1 := hid d1; have Hc := hid hb1; have Hgl := hid hgl
 clear d1 hb1 S0 HX hgl
 go_upto_region 4 with fail
 generalize hgw : World.alloc w1 _ = w2
 obtain ⟨e2, hb2, s2⟩ := an hgw
 have EW := hid e2; have DW := hid (D1.out.go hb2)
 replace Hc := hid (bt Hc.out hb2)
 clear hgw e2 hb2 D1
 obtain ⟨k0, k1, k2, k3, k4, k5, _⟩ := ai EW.out
 have zw := (al EW.out)
 go_wp2_with fail
 refine (gD x _ _ DW.out.wdB Hgl.out).mono ?_
 rintro e w3 ⟨rfl, hb3⟩
 replace Hc := hid (bt Hc.out hb3)
 replace EW := hid (ab hb3 EW.out)
 replace DW := hid (DW.out.go hb3)
 clear hb3 k0 k1 k2 k3 k4 k5 zw
 obtain ⟨k0, k1, k2, k3, k4, k5, _⟩ := ai EW.out
 have zw := (al EW.out)
 go_wp2_with fail
 refine (cQ x _ _ DW.out.wdB Hgl.out).mono ?_
 rintro e w5 ⟨rfl, hb5⟩
 replace Hc := hid (bt Hc.out hb5)
 replace EW := hid (ab hb5 EW.out)
 replace DW := hid (DW.out.go hb5)
 clear hb5 k0 k1 k2 k3 k4 k5 zw
 cases hv : wdB x with
 | true =>
  go_wp2_with fail
  go_ret
  exact ⟨rfl, Hc.out⟩
 | false =>
  have Hst := hid (show aW x ⟨0, 0, 0, 0⟩ = zWd by unfold aW; rw [hv]; rfl)
  have Hcl := hid (show iG x = zWd by unfold iG; rw [hv]; rfl)
  clear hv
  go_upto_region 9 with fail
  generalize hgw : World.alloc w5 _ = w6
  obtain ⟨e6, hb6, s6⟩ := an hgw
  replace Hc := hid (bt Hc.out hb6)
  replace EW := hid (ab hb6 EW.out)
  replace DW := hid (DW.out.go hb6)
  have E6 := hid e6
  clear hgw e6 hb6
  have HS := hid (fun (wx : World) (hT : Tch [] w6 wx) => And.intro (ai (hT.row EW.out (by simp))) (ai (hT.row E6.out (by simp))))
  go_wp2_with fail
  refine rgN [] 12 (by kernel_rfl) rfl (fun | none, _, _, _, _ => id | some _, _, _, _, _ => id) fun wd hHeld hbwd swd => ?_
  simp only [pw]
  refine ag [0, 1, 3] ?_
  iterate 3 (refine ra HS.out rfl (by kernel_rfl) rfl (fun _ f => by go_simp; try with_reducible rfl) ?_; try simp only [pw])
  refine rq 2 (by kernel_rfl) rfl fun K hK => ?_
  go_simp
  (go_at_call 16; refine (bE x _ ⟨0, 0, 0, 0⟩ _ (Hg.out _ (bt Hc.out hHeld.nil)) (DW.out.go hHeld.nil).wdB Hgl.out).mono ?_; rw [Hst.out]; rintro e wa ⟨a3, b3, c3, d3, rfl, n3, hbC⟩; have N3 := hid (jT n3); clear n3)
  refine hK.out _ _ (hHeld.trans (Tch.of hbC)) (fun hHeld => ?_)
  clear hK K
  refine rq 4 (by kernel_rfl) rfl fun K hK => ?_
  go_simp
  (go_at_call 18; refine (aq zWd _ _ _ N3.out (vE _ _)).mono ?_; rintro e wa ⟨rfl, hbC⟩)
  refine hK.out _ _ (hHeld.trans (Tch.of hbC)) (fun hHeld => ?_)
  clear hK K
  refine ag [5, 6, 8] ?_
  iterate 3 (refine ra HS.out rfl (by kernel_rfl) rfl (fun _ f => by go_simp; try with_reducible rfl) ?_; try simp only [pw])
  refine rq 7 (by kernel_rfl) rfl fun K hK => ?_
  go_simp
  (go_at_call 28; refine (lE x _ _ (Hg.out _ (bt Hc.out hHeld.nil)) (DW.out.go hHeld.nil).wdB Hgl.out).mono ?_; rw [Hcl.out]; rintro e wa ⟨a4, b4, c4, d4, rfl, n4, hbC⟩; have N4 := hid (jT n4); clear n4)
  refine hK.out _ _ (hHeld.trans (Tch.of hbC)) (fun hHeld => ?_)
  clear hK K
  refine rq 9 (by kernel_rfl) rfl fun K hK => ?_
  go_simp
  (go_at_call 18; refine (aq zWd _ _ _ N4.out (vE _ _)).mono ?_; rintro e wa ⟨rfl, hbC⟩)
  refine hK.out _ _ (hHeld.trans (Tch.of hbC)) (fun hHeld => ?_)
  clear hK K
  refine ag [10, 11] ?_
  iterate 2 (refine ra HS.out rfl (by kernel_rfl) rfl (fun _ f => by go_simp; try with_reducible rfl) ?_; try simp only [pw])
  refine dm (by kernel_rfl) ?_
  have hF := hHeld.nil
  go_wp2_with fail
  go_ret
  exact ⟨rfl, bt Hc.out hF⟩
theorem fZ (os : Os) (started : os.Started) (H : Type) (enc : TypeId × Value → H) :
  ReturnsInHanded {} Tryz.checked os 14 .any (fun w args => (Rows.fnWorldInvalidSpec.pre enc Tryz.prog Tryz.f14 [] false w args ∧ laidMetH Tryz.prog bN w) ∧ sizedMet enc Tryz.prog Tryz.f14 (OpenSpec.ofChange Rows.fnWorldInvalidSpec) false w args) (Rows.fnWorldInvalidSpec.post enc Tryz.prog Tryz.f14 false true false false) := by
 refine returnsInHanded_of_change_and (C := Tryz.checked) (X := fun w _ => laidMetH Tryz.prog bN w) (fun _ _ _ hh h => h.of_heap hh) du started (by kernel_rfl) Tryz.func14
  (ChangeSpec.witness_at (enc := enc) (C := Tryz.checked) (os := os) (X := fun w _ => laidMetH Tryz.prog bN w) false (cG os) #[.slice none 0 0] 8 rfl (by kernel_rfl) (by kernel_rfl) (by kernel_rfl) (by kernel_rfl) (by kernel_rfl) (bx os _)) ?_
 intro W base args ds gs before hval0 hW _ _ hL _
 have hg := bi hL
 have hval : ∀ (j : Nat) t v, Tryz.f14.params[j]? = some t → args[j]? = some v → Value.okWide Tryz.prog W .any base t v := hval0
 have hW' := hW
 obtain ⟨p, q, hA0, hV, rfl, hfz, hnd⟩ := hW
 have hA : DataW.TrodAll enc Tryz.prog W 0 (fun _ => true) true Tryz.f14.params.toList args.toList ds p := hA0
 rw [Tryz.params14] at hA hval
 obtain ⟨v0, vs0, d0, ds0, p0, q0, hargs, rfl, rfl, h0, r0⟩ := trodAll_cons hA
 obtain ⟨rfl, rfl, rfl⟩ := trodAll_nil r0
 obtain rfl : args = #[v0] := by cases args; simp_all
 obtain ⟨rfl, rfl⟩ : gs = [] ∧ q = [] := by
  cases gs with
  | nil => exact ⟨rfl, hV⟩
  | cons g r => exact absurd hV (by intro h; cases h)
 have k0 := h0
 have lt0 : ∀ x ∈ p0, x.block < W.heap.size := by obtain ⟨m, hm⟩ := k0; exact DataW.trod_lt m _ _ _ hm
 obtain ⟨xs0, s0, f0⟩ := bG aZ Tryz.underlying22 (hval 0 22 v0 rfl rfl) h0
 clear hA0 hval0
 refine (FnWorldInvalid_c v0 xs0 W hg s0 f0).mono fun e W' ⟨he, bel⟩ => ?_
 subst he
 exact ⟨_, rfl, _, _, _, [], _, [], hW', trodAll_mk1 (shut_bool Tryz.underlying4 _), (trodAll_cons_mk (Below.trod bS (by kernel_rfl) (of_decide_eq_true (by kernel_rfl)) k0 bel lt0) trodAll_mk0), rfl, bel.frame _, fun h => by cases h⟩
theorem gu : joinedFacts Tryz.prog 14 Tryz.f14 Rows.fnWorldInvalidSpec Rows.fnWorldInvalidRow = true := by
 unfold joinedFacts
 simp only [Bool.and_eq_true]
 repeat' apply And.intro
 ·as_aux_lemma => kernel_rfl
 ·as_aux_lemma => kernel_rfl
 ·as_aux_lemma => kernel_rfl
 ·as_aux_lemma => kernel_rfl
 ·as_aux_lemma => kernel_rfl
 ·as_aux_lemma => kernel_rfl
 ·as_aux_lemma => kernel_rfl
 ·as_aux_lemma => kernel_rfl
 ·as_aux_lemma => kernel_rfl
 ·as_aux_lemma => kernel_rfl
 ·as_aux_lemma => kernel_rfl
 ·as_aux_lemma => kernel_rfl
 ·as_aux_lemma => kernel_rfl
 ·as_aux_lemma => kernel_rfl
 ·as_aux_lemma => kernel_rfl
 ·as_aux_lemma => kernel_rfl
 ·as_aux_lemma => kernel_rfl
 ·as_aux_lemma => kernel_rfl
 ·as_aux_lemma => kernel_rfl
 ·as_aux_lemma => kernel_rfl
 ·as_aux_lemma => kernel_rfl
 ·as_aux_lemma => kernel_rfl
 ·as_aux_lemma => kernel_rfl
 ·as_aux_lemma => kernel_rfl
 ·as_aux_lemma => kernel_rfl
 ·exact ci
 ·rw [cj]; rfl
 ·rw [cM]; rfl
 ·as_aux_lemma => kernel_rfl
 ·as_aux_lemma => kernel_rfl
 ·as_aux_lemma => kernel_rfl
 ·as_aux_lemma => kernel_rfl
theorem gv : Tryz.prog.funcNamed Rows.fnWorldInvalidRow.func = some 14 := by kernel_rfl
theorem iz : Tryz.f14.isWrapper Tryz.prog Rows.fnWorldInvalidRow.wrapper Rows.fnWorldInvalidRow.mainSum := (by unfold Func.isWrapper; first | (rw [if_pos (by decide +kernel)]; kernel_rfl) | (rw [if_neg (by decide +kernel)]; exact ⟨rfl, rfl⟩))
theorem iy : Rows.fnWorldInvalidRow.holds Tryz.pinned (OpenSpec.ofChange Rows.fnWorldInvalidSpec) :=
 OpenClaim.holds_of_wide (p := Tryz.pinned) 14 Tryz.f14 rfl rfl rfl rfl rfl rfl rfl ⟨rfl, rfl, rfl, rfl, rfl⟩ rfl rfl rfl rfl rfl gv Tryz.func14 gu
  (of_decide_eq_true (by kernel_rfl)) iz
  (fun os started H enc _ => fZ os started H enc)
theorem ix : Tryz.prog.mainIs = some ((true, "0b88574e3966f29a5700fde5310b4a9d73255c860e3cfbe123706b230b6b56c3").1, (true, "0b88574e3966f29a5700fde5310b4a9d73255c860e3cfbe123706b230b6b56c3").2.toList) := by
 unfold Program.mainIs
 rw [dL, String.toList_ofList, cY, ax dY (by kernel_rfl), ax dZ (by kernel_rfl), ax d7 (by kernel_rfl)]
 generalize wordsSigns dN = ws
 kernel_rfl
theorem FnWorldInvalid_holds : Rows.FnWorldInvalidCardSaid :=
 Claim7.holds_tied_plain_at .later [] [.handle] true (true, "0b88574e3966f29a5700fde5310b4a9d73255c860e3cfbe123706b230b6b56c3") true
  iy (fun _ h => by cases h) (by kernel_rfl) (fun _ h => by cases h) fnWorldInvalid_row_tie rfl ⟨rfl, rfl⟩ ix rfl
  (fun f fn hf hfn => by
   obtain rfl : f = 14 := Option.some.inj ((show Tryz.prog.funcNamed Rows.fnWorldInvalidRow.func = some 14 by kernel_rfl).symm.trans hf) |>.symm
   obtain rfl : fn = Tryz.f14 := (Option.some.inj (Tryz.func14.symm.trans hfn)).symm
   exact ⟨by kernel_rfl, fun j t ht => by
    rw [Tryz.params14] at ht
    rcases j with _ | _ | j
    all_goals (first | (simp at ht; done) | (simp at ht; subst ht; exact (show Tryz.prog.wantsStandIn _ = false by kernel_rfl)))⟩)
  (by kernel_rfl)
#print axioms FnWorldInvalid_holds
end
end Go.Proofs.YtolgbefghbddeaaGreatDoor
