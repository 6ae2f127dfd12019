/- A quiet period keeps a run valid and turns neither what was sent nor the count. No condition. -/
import Derived.Deep.DeepCutAuto
import Derived.Test.YtolgbefghbddeaaGreatDoorM11
import Derived.Test.YtolgbefghbddeaaGreatDoorM34
import Derived.Test.YtolgbefghbddeaaGreatDoorM35
import Derived.Test.YtolgbefghbddeaaGreatDoorM37
set_option linter.unusedVariables false
set_option linter.unusedSimpArgs false
set_option maxHeartbeats 4000000
set_option maxRecDepth 100000
namespace Go.Proofs.YtolgbefghbddeaaGreatDoor
open Go Go.RowKit
section
open Go.ChangeShapes Go.WideShapes Go.ChangeAt
theorem FnCalmValid_c (v0 : Value) (xs0 : List Int) (w : World) (hg : kG w) (s0 : SlB cR w.heap.size w v0 xs0) (hx0 : ∀ x ∈ xs0, (Lit.int .u8 x).wf = true) :
  Calls Tryz.prog 13 #[v0] w (ok true w.heap.size w) := by
 have hw0 : 0 < w.heap.size := World.block_lt_of_cell? _ _ hg
 have Hg := hid (fun (wx : World) (hb : Below w.heap.size w wx) => show dj wx from (hb.cell (p := ⟨0, 0, none⟩) hw0).trans hg)
 have HX := hid (fun x hx => gZ (hx0 x hx))
 obtain ⟨A, c, rfl, _, _, _⟩ := s0.form
 have S0 := hid s0
 clear hg s0 hx0
 by_cases hl : 1048576 < xs0.length
 ·go_enter Tryz.func13, Tryz.ntmps13
  go_wp2
  go_ret
  exact ⟨rfl, ah⟩
 go_enter Tryz.func13, Tryz.ntmps13
 go_wp2_with fail
 refine (lg _ xs0 _ S0.out HX.out).mono ?_
 rintro e w1 ⟨v1, x, rfl, d1, hgl, hb1⟩
 obtain ⟨A1, c1, A1b, c1b, A1c, c1c, A1d, c1d, rfl⟩ := d1.form
 have D1 := hid d1; have Hc := hid hb1; have Hgl := hid hgl
 clear d1 hb1 S0 HX hgl
 go_upto_region 4 with fail
 generalize hgw : World.alloc w1 _ = w2
 obtain ⟨e2, hb2, s2⟩ := an hgw
 have EW := hid e2; have DW := hid (D1.out.go hb2)
 replace Hc := hid (bt Hc.out hb2)
 clear hgw e2 hb2 D1
 obtain ⟨k0, k1, k2, k3, k4, k5, _⟩ := ai EW.out
 have zw := (al EW.out)
 obtain ⟨y, hy⟩ : ∃ y, y = iG x := ⟨_, rfl⟩
 have Hy := hid hy
 clear hy
 go_wp2_with fail
 refine (lE x _ _ (Hg.out _ Hc.out) DW.out.wdB Hgl.out).mono ?_
 rw [← Hy.out]
 rintro e w3 ⟨a3, b3, c3, d3, rfl, n3, hb3⟩
 obtain ⟨A3, p3, A3b, p3b, A3c, p3c, A3d, p3d, rfl, rfl, rfl, rfl⟩ := aD n3
 have N3 := hid n3
 replace Hc := hid (bt Hc.out hb3)
 replace EW := hid (ab hb3 EW.out)
 replace DW := hid (DW.out.go hb3)
 have s3 := hb3.size
 clear n3 hb3 k0 k1 k2 k3 k4 k5 zw
 go_upto_region 5 with fail
 generalize hgw : World.alloc w3 _ = w4
 obtain ⟨e4, r4, hb4, _, s4⟩ := bK N3.out (Below.refl w3.heap.size _) (Nat.le_refl _) hgw
 have EO := hid e4; have DO := hid (WdR.of_wdB (R := fun _ => True) r4.wdB (fun _ _ => trivial))
 replace Hc := hid (bt Hc.out hb4)
 replace EW := hid (ab hb4 EW.out)
 replace DW := hid (DW.out.go hb4)
 clear hgw e4 r4 hb4 N3
 obtain ⟨k0, k1, k2, k3, k4, k5, _⟩ := ai EW.out
 have zw := (al EW.out)
 go_wp2_with fail
 refine (qN x _ _ DW.out.wdB Hgl.out).mono ?_
 rw [← Hy.out]
 rintro e w5 ⟨a5, b5, c5, d5, rfl, n5, hb5⟩
 obtain ⟨A5, p5, A5b, p5b, A5c, p5c, A5d, p5d, rfl, rfl, rfl, rfl⟩ := aD n5
 have N5 := hid n5
 replace Hc := hid (bt Hc.out hb5)
 replace EW := hid (ab hb5 EW.out)
 replace DW := hid (DW.out.go hb5)
 replace EO := hid (ab hb5 EO.out)
 replace DO := hid (DO.out.go hb5)
 have s5 := hb5.size
 clear n5 hb5 k0 k1 k2 k3 k4 k5 zw
 go_upto_region 6 with fail
 generalize hgw : World.alloc w5 _ = w6
 obtain ⟨e6, r6, hb6, _, s6⟩ := bK N5.out (Below.refl w5.heap.size _) (Nat.le_refl _) hgw
 have ET := hid e6; have DT := hid (WdR.of_wdB (R := fun _ => True) r6.wdB (fun _ _ => trivial))
 replace Hc := hid (bt Hc.out hb6)
 replace EW := hid (ab hb6 EW.out)
 replace DW := hid (DW.out.go hb6)
 replace EO := hid (ab hb6 EO.out)
 replace DO := hid (DO.out.go hb6)
 clear hgw e6 r6 hb6 N5
 obtain ⟨o0, o1, o2, o3, o4, o5, _⟩ := ai EO.out
 have zo := (al EO.out)
 obtain ⟨t0, t1, t2, t3, t4, t5, _⟩ := ai ET.out
 have zt := (al ET.out)
 go_wp2_with fail
 refine (aq y _ _ _ DO.out.wdB DT.out.wdB).mono ?_
 rintro e w7 ⟨rfl, hb7⟩
 replace Hc := hid (bt Hc.out hb7)
 replace EW := hid (ab hb7 EW.out)
 replace DW := hid (DW.out.go hb7)
 replace EO := hid (ab hb7 EO.out)
 replace DO := hid (DO.out.go hb7)
 replace ET := hid (ab hb7 ET.out)
 replace DT := hid (DT.out.go hb7)
 have s7 := hb7.size
 clear hb7 o0 o1 o2 o3 o4 o5 t0 t1 t2 t3 t4 t5 zo zt
 obtain ⟨k0, k1, k2, k3, k4, k5, _⟩ := ai EW.out
 have zw := (al EW.out)
 go_wp2_with fail
 refine (cQ x _ _ DW.out.wdB Hgl.out).mono ?_
 rintro e w8 ⟨rfl, hb8⟩
 replace Hc := hid (bt Hc.out hb8)
 replace EW := hid (ab hb8 EW.out)
 replace DW := hid (DW.out.go hb8)
 replace EO := hid (ab hb8 EO.out)
 replace DO := hid (DO.out.go hb8)
 replace ET := hid (ab hb8 ET.out)
 replace DT := hid (DT.out.go hb8)
 have s8 := hb8.size
 clear hb8 k0 k1 k2 k3 k4 k5 zw
 cases hv : wdB x with
 | false =>
  obtain ⟨o0, o1, o2, o3, o4, o5, _⟩ := ai EO.out
  have zo := (al EO.out)
  obtain ⟨t0, t1, t2, t3, t4, t5, _⟩ := ai ET.out
  have zt := (al ET.out)
  go_wp2_with fail
  refine (aq y _ _ _ DO.out.wdB DT.out.wdB).mono ?_
  rintro e w9 ⟨rfl, hb9⟩
  go_wp2_with fail
  go_ret
  exact ⟨rfl, bt Hc.out hb9⟩
 | true =>
 have Hye := hid (show y = dF x by rw [Hy.out]; unfold iG; rw [if_pos hv])
 have Hvy := hid (show VD 0 y by rw [Hye.out]; exact uC (cD.1 hv))
 have Hgly := hid (show y.got.length ≤ 1073741824 by have := Hvy.out.gl; omega)
 have Hs := hid (show y.sent = x.sent by rw [Hye.out]; exact (nc 60 x).1)
 have Hm := hid (show (y.made == x.made) = true by rw [Hye.out]; have h : (dF x).made = x.made := (nc 60 x).2.1; simpa using h)
 clear hv
 obtain ⟨o0, o1, o2, o3, o4, o5, _⟩ := ai EO.out
 have zo := (al EO.out)
 go_wp2_with fail
 refine (gD y _ _ DO.out.wdB Hgly.out).mono ?_
 rw [cD.2 Hvy.out]
 rintro e w9 ⟨rfl, hb9⟩
 replace Hc := hid (bt Hc.out hb9)
 replace EW := hid (ab hb9 EW.out)
 replace DW := hid (DW.out.go hb9)
 replace EO := hid (ab hb9 EO.out)
 replace DO := hid (DO.out.go hb9)
 replace ET := hid (ab hb9 ET.out)
 replace DT := hid (DT.out.go hb9)
 have s9 := hb9.size
 clear hb9 o0 o1 o2 o3 o4 o5 zo
 obtain ⟨k0, k1, k2, k3, k4, k5, _⟩ := ai EW.out
 have zw := (al EW.out)
 obtain ⟨o0, o1, o2, o3, o4, o5, _⟩ := ai EO.out
 have zo := (al EO.out)
 obtain ⟨_, ds, _, _⟩ := DO.out.wdB.parts
 obtain ⟨_, dx, _, _⟩ := DW.out.wdB.parts
 have ds2 : SlB tLt w9.heap.size w9 (.slice A3b y.sent.length p3b) x.sent := by rw [← Hs.out]; exact ds
 have Ds := hid ds2; have Dx := hid dx
 clear ds ds2 dx
 go_wp2_with fail
 refine (fA _ _ x.sent _ Ds.out Dx.out).mono ?_
 rintro e w10 ⟨rfl, hb10⟩
 replace Hc := hid (bt Hc.out hb10)
 replace EW := hid (ab hb10 EW.out)
 replace DW := hid (DW.out.go hb10)
 replace EO := hid (ab hb10 EO.out)
 replace DO := hid (DO.out.go hb10)
 replace ET := hid (ab hb10 ET.out)
 replace DT := hid (DT.out.go hb10)
 have s10 := hb10.size
 clear hb10 k0 k1 k2 k3 k4 k5 zw o0 o1 o2 o3 o4 o5 zo
 obtain ⟨k0, k1, k2, k3, k4, k5, _⟩ := ai EW.out
 have zw := (al EW.out)
 obtain ⟨o0, o1, o2, o3, o4, o5, _⟩ := ai EO.out
 have zo := (al EO.out)
 have fm := Hm.out
 go_wp2_with fail
 go_ret
 exact ⟨rfl, Hc.out⟩
theorem iL (os : Os) (started : os.Started) (H : Type) (enc : TypeId × Value → H) :
  ReturnsInHanded {} Tryz.checked os 13 .any (fun w args => (Rows.fnCalmValidSpec.pre enc Tryz.prog Tryz.f13 [] false w args ∧ laidMetH Tryz.prog bN w) ∧ sizedMet enc Tryz.prog Tryz.f13 (OpenSpec.ofChange Rows.fnCalmValidSpec) false w args) (Rows.fnCalmValidSpec.post enc Tryz.prog Tryz.f13 false true false false) := by
 refine returnsInHanded_of_change_and (C := Tryz.checked) (X := fun w _ => laidMetH Tryz.prog bN w) (fun _ _ _ hh h => h.of_heap hh) du started (by kernel_rfl) Tryz.func13
  (ChangeSpec.witness_at (enc := enc) (C := Tryz.checked) (os := os) (X := fun w _ => laidMetH Tryz.prog bN w) false (cG os) #[.slice none 0 0] 8 rfl (by kernel_rfl) (by kernel_rfl) (by kernel_rfl) (by kernel_rfl) (by kernel_rfl) (bx os _)) ?_
 intro W base args ds gs before hval0 hW _ _ hL _
 have hg := bi hL
 have hval : ∀ (j : Nat) t v, Tryz.f13.params[j]? = some t → args[j]? = some v → Value.okWide Tryz.prog W .any base t v := hval0
 have hW' := hW
 obtain ⟨p, q, hA0, hV, rfl, hfz, hnd⟩ := hW
 have hA : DataW.TrodAll enc Tryz.prog W 0 (fun _ => true) true Tryz.f13.params.toList args.toList ds p := hA0
 rw [Tryz.params13] at hA hval
 obtain ⟨v0, vs0, d0, ds0, p0, q0, hargs, rfl, rfl, h0, r0⟩ := trodAll_cons hA
 obtain ⟨rfl, rfl, rfl⟩ := trodAll_nil r0
 obtain rfl : args = #[v0] := by cases args; simp_all
 obtain ⟨rfl, rfl⟩ : gs = [] ∧ q = [] := by
  cases gs with
  | nil => exact ⟨rfl, hV⟩
  | cons g r => exact absurd hV (by intro h; cases h)
 have k0 := h0
 have lt0 : ∀ x ∈ p0, x.block < W.heap.size := by obtain ⟨m, hm⟩ := k0; exact DataW.trod_lt m _ _ _ hm
 obtain ⟨xs0, s0, f0⟩ := bG aZ Tryz.underlying22 (hval 0 22 v0 rfl rfl) h0
 clear hA0 hval0
 refine (FnCalmValid_c v0 xs0 W hg s0 f0).mono fun e W' ⟨he, bel⟩ => ?_
 subst he
 exact ⟨_, rfl, _, _, _, [], _, [], hW', trodAll_mk1 (shut_bool Tryz.underlying4 _), (trodAll_cons_mk (Below.trod bS (by kernel_rfl) (of_decide_eq_true (by kernel_rfl)) k0 bel lt0) trodAll_mk0), rfl, bel.frame _, fun h => by cases h⟩
theorem jt : joinedFacts Tryz.prog 13 Tryz.f13 Rows.fnCalmValidSpec Rows.fnCalmValidRow = true := by
 unfold joinedFacts
 simp only [Bool.and_eq_true]
 repeat' apply And.intro
 ·as_aux_lemma => kernel_rfl
 ·as_aux_lemma => kernel_rfl
 ·as_aux_lemma => kernel_rfl
 ·as_aux_lemma => kernel_rfl
 ·as_aux_lemma => kernel_rfl
 ·as_aux_lemma => kernel_rfl
 ·as_aux_lemma => kernel_rfl
 ·as_aux_lemma => kernel_rfl
 ·as_aux_lemma => kernel_rfl
 ·as_aux_lemma => kernel_rfl
 ·as_aux_lemma => kernel_rfl
 ·as_aux_lemma => kernel_rfl
 ·as_aux_lemma => kernel_rfl
 ·as_aux_lemma => kernel_rfl
 ·as_aux_lemma => kernel_rfl
 ·as_aux_lemma => kernel_rfl
 ·as_aux_lemma => kernel_rfl
 ·as_aux_lemma => kernel_rfl
 ·as_aux_lemma => kernel_rfl
 ·as_aux_lemma => kernel_rfl
 ·as_aux_lemma => kernel_rfl
 ·as_aux_lemma => kernel_rfl
 ·as_aux_lemma => kernel_rfl
 ·as_aux_lemma => kernel_rfl
 ·as_aux_lemma => kernel_rfl
 ·exact ci
 ·rw [cj]; rfl
 ·rw [cM]; rfl
 ·as_aux_lemma => kernel_rfl
 ·as_aux_lemma => kernel_rfl
 ·as_aux_lemma => kernel_rfl
 ·as_aux_lemma => kernel_rfl
theorem ju : Tryz.prog.funcNamed Rows.fnCalmValidRow.func = some 13 := by kernel_rfl
theorem kr : Tryz.f13.isWrapper Tryz.prog Rows.fnCalmValidRow.wrapper Rows.fnCalmValidRow.mainSum := (by unfold Func.isWrapper; first | (rw [if_pos (by decide +kernel)]; kernel_rfl) | (rw [if_neg (by decide +kernel)]; exact ⟨rfl, rfl⟩))
theorem ko : Rows.fnCalmValidRow.holds Tryz.pinned (OpenSpec.ofChange Rows.fnCalmValidSpec) :=
 OpenClaim.holds_of_wide (p := Tryz.pinned) 13 Tryz.f13 rfl rfl rfl rfl rfl rfl rfl ⟨rfl, rfl, rfl, rfl, rfl⟩ rfl rfl rfl rfl rfl ju Tryz.func13 jt
  (of_decide_eq_true (by kernel_rfl)) kr
  (fun os started H enc _ => iL os started H enc)
theorem kj : Tryz.prog.mainIs = some ((true, "0b88574e3966f29a5700fde5310b4a9d73255c860e3cfbe123706b230b6b56c3").1, (true, "0b88574e3966f29a5700fde5310b4a9d73255c860e3cfbe123706b230b6b56c3").2.toList) := by
 unfold Program.mainIs
 rw [dL, String.toList_ofList, cY, ax dY (by kernel_rfl), ax dZ (by kernel_rfl), ax d7 (by kernel_rfl)]
 generalize wordsSigns dN = ws
 kernel_rfl
theorem FnCalmValid_holds : Rows.FnCalmValidCardSaid :=
 Claim7.holds_tied_plain_at .later [] [.handle] true (true, "0b88574e3966f29a5700fde5310b4a9d73255c860e3cfbe123706b230b6b56c3") true
  ko (fun _ h => by cases h) (by kernel_rfl) (fun _ h => by cases h) fnCalmValid_row_tie rfl ⟨rfl, rfl⟩ kj rfl
  (fun f fn hf hfn => by
   obtain rfl : f = 13 := Option.some.inj ((show Tryz.prog.funcNamed Rows.fnCalmValidRow.func = some 13 by kernel_rfl).symm.trans hf) |>.symm
   obtain rfl : fn = Tryz.f13 := (Option.some.inj (Tryz.func13.symm.trans hfn)).symm
   exact ⟨by kernel_rfl, fun j t ht => by
    rw [Tryz.params13] at ht
    rcases j with _ | _ | j
    all_goals (first | (simp at ht; done) | (simp at ht; subst ht; exact (show Tryz.prog.wantsStandIn _ = false by kernel_rfl)))⟩)
  (by kernel_rfl)
#print axioms FnCalmValid_holds
end
end Go.Proofs.YtolgbefghbddeaaGreatDoor
