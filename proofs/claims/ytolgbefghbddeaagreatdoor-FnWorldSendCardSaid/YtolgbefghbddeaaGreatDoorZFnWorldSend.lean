/- A letter that is sent is written down, and lies in the net to the first mix of its path, or is counted lost where the net is full. No condition. -/
import Derived.Deep.DeepCutAuto
import Derived.Test.YtolgbefghbddeaaGreatDoorM35
import Derived.Test.YtolgbefghbddeaaGreatDoorM36
set_option linter.unusedVariables false
set_option linter.unusedSimpArgs false
set_option maxHeartbeats 4000000
set_option maxRecDepth 100000
namespace Go.Proofs.YtolgbefghbddeaaGreatDoor
open Go Go.RowKit
section
open Go.ChangeShapes Go.WideShapes Go.ChangeAt
theorem FnWorldSend_c (v0 : Value) (xs0 : List Int) (w : World) (hg : kG w) (s0 : SlB cR w.heap.size w v0 xs0) (hx0 : ∀ x ∈ xs0, (Lit.int .u8 x).wf = true) :
  Calls Tryz.prog 5 #[v0] w (ok true w.heap.size w) := by
 have hw0 : 0 < w.heap.size := World.block_lt_of_cell? _ _ hg
 have Hg := hid (fun (wx : World) (hb : Below w.heap.size w wx) => show dj wx from (hb.cell (p := ⟨0, 0, none⟩) hw0).trans hg)
 have HX := hid (fun x hx => gZ (hx0 x hx))
 obtain ⟨A, c, rfl, _, _, _⟩ := s0.form
 have S0 := hid s0
 clear hg s0 hx0
 by_cases hl : 1048576 < xs0.length
 ·go_enter Tryz.func5, Tryz.ntmps5
  go_wp2
  go_ret
  exact ⟨rfl, ah⟩
 go_enter Tryz.func5, Tryz.ntmps5
 go_wp2_with fail
 refine (bO _ xs0 _ S0.out HX.out).mono ?_
 rintro e w1 ⟨v1, x, ev, rfl, d1, hgl, hb1⟩
 obtain ⟨A1, c1, A1b, c1b, A1c, c1c, A1d, c1d, rfl⟩ := d1.form
 have D1 := hid d1; have Hc := hid hb1; have Hgl := hid hgl
 clear d1 hb1 S0 HX hgl
 go_upto_region 4 with fail
 generalize hgw : World.alloc (World.alloc w1 _) _ = w2
 obtain ⟨e2, e2', hb2, s2⟩ := fI hgw
 have EW := hid e2; have EE := hid e2'; have DW := hid (D1.out.go hb2)
 replace Hc := hid (bt Hc.out hb2)
 clear hgw e2 e2' hb2 D1
 obtain ⟨k0, k1, k2, k3, k4, k5, _⟩ := ai EW.out
 have zw := (al EW.out)
 obtain ⟨j0, j1, j2, j3, _⟩ := aO EE.out
 have ze := (al EE.out)
 obtain ⟨y, hy⟩ : ∃ y, y = aW x ev := ⟨_, rfl⟩
 have Hy := hid hy
 clear hy
 go_wp2_with fail
 refine (bE x _ ev _ (Hg.out _ Hc.out) DW.out.wdB Hgl.out).mono ?_
 rw [← Hy.out]
 rintro e w3 ⟨a3, b3, c3, d3, rfl, n3, hb3⟩
 obtain ⟨A3, p3, A3b, p3b, A3c, p3c, A3d, p3d, rfl, rfl, rfl, rfl⟩ := aD n3
 have N3 := hid n3
 replace Hc := hid (bt Hc.out hb3)
 replace EW := hid (ab hb3 EW.out)
 replace EE := hid (ab hb3 EE.out)
 replace DW := hid (DW.out.go hb3)
 have s3 := hb3.size
 clear n3 hb3 k0 k1 k2 k3 k4 k5 j0 j1 j2 j3 zw ze
 go_upto_region 5 with fail
 generalize hgw : World.alloc w3 _ = w4
 obtain ⟨e4, r4, hb4, _, s4⟩ := bK N3.out (Below.refl w3.heap.size _) (Nat.le_refl _) hgw
 have EO := hid e4; have DO := hid (WdR.of_wdB (R := fun _ => True) r4.wdB (fun _ _ => trivial))
 replace Hc := hid (bt Hc.out hb4)
 replace EW := hid (ab hb4 EW.out)
 replace EE := hid (ab hb4 EE.out)
 replace DW := hid (DW.out.go hb4)
 clear hgw e4 r4 hb4 N3
 obtain ⟨k0, k1, k2, k3, k4, k5, _⟩ := ai EW.out
 have zw := (al EW.out)
 obtain ⟨j0, j1, j2, j3, _⟩ := aO EE.out
 have ze := (al EE.out)
 go_wp2_with fail
 refine (ei x _ ev _ DW.out.wdB Hgl.out).mono ?_
 rw [← Hy.out]
 rintro e w5 ⟨a5, b5, c5, d5, rfl, n5, hb5⟩
 obtain ⟨A5, p5, A5b, p5b, A5c, p5c, A5d, p5d, rfl, rfl, rfl, rfl⟩ := aD n5
 have N5 := hid n5
 replace Hc := hid (bt Hc.out hb5)
 replace EW := hid (ab hb5 EW.out)
 replace EE := hid (ab hb5 EE.out)
 replace DW := hid (DW.out.go hb5)
 replace EO := hid (ab hb5 EO.out)
 replace DO := hid (DO.out.go hb5)
 have s5 := hb5.size
 clear n5 hb5 k0 k1 k2 k3 k4 k5 j0 j1 j2 j3 zw ze
 go_upto_region 6 with fail
 generalize hgw : World.alloc w5 _ = w6
 obtain ⟨e6, r6, hb6, _, s6⟩ := bK N5.out (Below.refl w5.heap.size _) (Nat.le_refl _) hgw
 have ET := hid e6; have DT := hid (WdR.of_wdB (R := fun _ => True) r6.wdB (fun _ _ => trivial))
 replace Hc := hid (bt Hc.out hb6)
 replace EW := hid (ab hb6 EW.out)
 replace EE := hid (ab hb6 EE.out)
 replace DW := hid (DW.out.go hb6)
 replace EO := hid (ab hb6 EO.out)
 replace DO := hid (DO.out.go hb6)
 clear hgw e6 r6 hb6 N5
 obtain ⟨o0, o1, o2, o3, o4, o5, _⟩ := ai EO.out
 have zo := (al EO.out)
 obtain ⟨t0, t1, t2, t3, t4, t5, _⟩ := ai ET.out
 have zt := (al ET.out)
 go_wp2_with fail
 refine (aq y _ _ _ DO.out.wdB DT.out.wdB).mono ?_
 rintro e w7 ⟨rfl, hb7⟩
 replace Hc := hid (bt Hc.out hb7)
 replace EW := hid (ab hb7 EW.out)
 replace EE := hid (ab hb7 EE.out)
 replace DW := hid (DW.out.go hb7)
 replace EO := hid (ab hb7 EO.out)
 replace DO := hid (DO.out.go hb7)
 replace ET := hid (ab hb7 ET.out)
 replace DT := hid (DT.out.go hb7)
 have s7 := hb7.size
 clear hb7 o0 o1 o2 o3 o4 o5 t0 t1 t2 t3 t4 t5 zo zt
 obtain ⟨k0, k1, k2, k3, k4, k5, _⟩ := ai EW.out
 have zw := (al EW.out)
 go_wp2_with fail
 refine (cQ x _ _ DW.out.wdB Hgl.out).mono ?_
 rintro e w8 ⟨rfl, hb8⟩
 replace Hc := hid (bt Hc.out hb8)
 replace EW := hid (ab hb8 EW.out)
 replace EE := hid (ab hb8 EE.out)
 replace DW := hid (DW.out.go hb8)
 replace EO := hid (ab hb8 EO.out)
 replace DO := hid (DO.out.go hb8)
 replace ET := hid (ab hb8 ET.out)
 replace DT := hid (DT.out.go hb8)
 have s8 := hb8.size
 clear hb8 k0 k1 k2 k3 k4 k5 zw
 cases hv : wdB x with
 | false =>
  obtain ⟨o0, o1, o2, o3, o4, o5, _⟩ := ai EO.out
  have zo := (al EO.out)
  obtain ⟨t0, t1, t2, t3, t4, t5, _⟩ := ai ET.out
  have zt := (al ET.out)
  go_wp2_with fail
  refine (aq y _ _ _ DO.out.wdB DT.out.wdB).mono ?_
  rintro e w9 ⟨rfl, hb9⟩
  go_wp2_with fail
  go_ret
  exact ⟨rfl, bt Hc.out hb9⟩
 | true =>
 have Hv := hid (cD.1 hv)
 have Hvy := hid (show VD 0 y by rw [Hy.out]; exact dC Hv.out ev)
 have Hgly := hid (show y.got.length ≤ 1073741824 by have := Hvy.out.gl; omega)
 clear hv
 obtain ⟨k0, k1, k2, k3, k4, k5, _⟩ := ai EW.out
 have zw := (al EW.out)
 obtain ⟨j0, j1, j2, j3, _⟩ := aO EE.out
 have ze := (al EE.out)
 obtain ⟨o0, o1, o2, o3, o4, o5, _⟩ := ai EO.out
 have zo := (al EO.out)
 obtain ⟨t0, t1, t2, t3, t4, t5, _⟩ := ai ET.out
 have zt := (al ET.out)
 by_cases hk1 : ev.kind = 1
 rotate_left
 ·have f1 : (ev.kind != 1) = true := by simpa using hk1
  clear hk1
  go_wp2_with fail
  refine (aq y _ _ _ DO.out.wdB DT.out.wdB).mono ?_
  rintro e w9 ⟨rfl, hb9⟩
  go_wp2_with fail
  go_ret
  exact ⟨rfl, bt Hc.out hb9⟩
 have f1 : (ev.kind != 1) = false := by simpa using hk1
 by_cases hlen : y.sent.length = x.sent.length
 ·have f2 : ((y.sent.length : Int) == (x.sent.length : Int)) = true := by rw [hlen]; exact beq_self_eq_true _
  clear hk1 hlen
  go_wp2_with fail
  refine (aq y _ _ _ DO.out.wdB DT.out.wdB).mono ?_
  rintro e w9 ⟨rfl, hb9⟩
  go_wp2_with fail
  go_ret
  exact ⟨rfl, bt Hc.out hb9⟩
 have f2 : ((y.sent.length : Int) == (x.sent.length : Int)) = false := by simp; omega
 obtain ⟨evk, eva, evb, evc⟩ := ev
 dsimp only at hk1
 have hy1 : y = aW x ⟨1, eva, evb, evc⟩ := by rw [Hy.out, hk1]
 obtain ⟨h1, h2, h3, h4⟩ := uU Hv.out (fr := eva) (dst := evb) (path := evc) (by rw [← hy1]; exact hlen)
 rw [← hy1] at h1 h3 h4
 obtain ⟨_, ds, dt, _⟩ := DO.out.wdB.parts
 obtain ⟨bl, ol, eql, _, _, q0, q1, q2⟩ := ds.lt3 h1
 subst eql
 have hsl : x.sent.length < y.sent.length := (List.getElem?_eq_some_iff.1 h1).1
 have b7 := Hv.out.md; have b8 := Hv.out.l0; have b9 := Hv.out.l1
 have g1 : IntKind.i64.wrap (x.lost + 1) = x.lost + 1 := aL (by omega) (by omega)
 have g2 : IntKind.i64.wrap (x.made + 1) = x.made + 1 := aL (by have := Hv.out.kept; omega) (by omega)
 have H1 := hid h1; have H2 := hid h2; have H3 := hid h3; have H4 := hid h4; have Hlen := hid hlen
 clear h1 h2 h3 h4 hk1 hlen ds dt b7 b8 b9 hy1
 go_upto_region 10 with fail
 generalize hgw : World.alloc w8 _ = w9
 obtain ⟨e9, hb9, s9⟩ := an hgw
 have E9 := hid e9
 replace Hc := hid (bt Hc.out hb9)
 replace EW := hid (ab hb9 EW.out)
 replace EE := hid (ab hb9 EE.out)
 replace DW := hid (DW.out.go hb9)
 replace EO := hid (ab hb9 EO.out)
 replace DO := hid (DO.out.go hb9)
 replace ET := hid (ab hb9 ET.out)
 replace DT := hid (DT.out.go hb9)
 clear hgw e9 hb9 k0 k1 k2 k3 k4 k5 j0 j1 j2 j3 o0 o1 o2 o3 o4 o5 t0 t1 t2 t3 t4 t5 zw ze zo zt q0 q1 q2
 by_cases hn : x.net.length = 10
 ·have f3 : ((x.net.length : Int) == 10) = true := by simp; omega
  have g3 : (y.lost == x.lost + 1) = true := by simpa using H3.out hn
  obtain ⟨k0, k1, k2, k3, k4, k5, _⟩ := ai EW.out
  have zw := (al EW.out)
  obtain ⟨o0, o1, o2, o3, o4, o5, _⟩ := ai EO.out
  have zo := (al EO.out)
  clear hn
  go_wp2_with fail
  go_ret
  exact ⟨rfl, Hc.out⟩
 have f3 : ((x.net.length : Int) == 10) = false := by simp; omega
 obtain ⟨⟨t, ht, htm⟩, hmd⟩ := H4.out hn
 have g3 : (y.made == x.made + 1) = true := by simpa using hmd
 obtain ⟨_, _, dt, _⟩ := DO.out.wdB.parts
 obtain ⟨b', o', uh, ub, eqB, _, m2', _, _, q0, _⟩ := dt.tr ht
 subst eqB
 rw [htm] at q0
 have hnl : x.net.length < y.net.length := (List.getElem?_eq_some_iff.1 ht).1
 obtain ⟨pp0, hpp⟩ : ∃ p, (aA evc).getD 0 0 = p := ⟨_, rfl⟩
 rw [hpp] at q0
 have hpl : 0 < (aA evc).length := List.length_pos_iff.2 H2.out
 have Hp0 := hid (show (aA evc)[0]? = some pp0 by rw [← hpp, List.getD_eq_getElem?_getD, List.getElem?_eq_getElem hpl]; rfl)
 have g4 : (pp0 == pp0) = true := beq_self_eq_true _
 have g5 : (eva == eva) = true := beq_self_eq_true _
 have g6 : (evb == evb) = true := beq_self_eq_true _
 have HS := hid (fun (wx : World) (hT : Tch [] w9 wx) => And.intro (ai (hT.row EW.out (by simp))) (And.intro (aO (hT.row EE.out (by simp))) (And.intro (ai (hT.row EO.out (by simp))) (And.intro (aK (hT.row E9.out (by simp))) ((hT.nil.cell (p := ⟨b', o' + x.net.length * 6, none⟩) m2').trans q0)))))
 clear hn ht htm hmd hpp q0 dt
 obtain ⟨k0, k1, k2, k3, k4, k5, _⟩ := ai EW.out
 have zw := (al EW.out)
 go_wp2_with fail
 clear k0 k1 k2 k3 k4 k5 zw
 refine rgN [] 33 (by kernel_rfl) rfl (fun | none, _, _, _, _ => id | some _, _, _, _, _ => id) fun wd hHeld hbwd swd => ?_
 simp only [pw]
 refine ag [0, 1, 2, 3, 4, 5, 6, 7, 8, 9, 10, 11, 12, 13, 14, 15, 16, 17, 18] ?_
 iterate 19 (refine ra HS.out rfl (by kernel_rfl) rfl (fun _ f => by go_simp; try with_reducible rfl) ?_; try simp only [pw])
 refine rq 19 (by kernel_rfl) rfl fun K hK => ?_
 go_simp
 (go_at_call 22; refine (kR evc _).mono ?_; rintro e wp ⟨vp, rfl, np, hbC⟩; obtain ⟨Ap, cp, rfl, _, _, _⟩ := np.slB.form; obtain ⟨bp, op, eqp, _, mp, pp⟩ := np.slB.int Hp0.out; subst eqp; rw [Nat.add_zero] at pp)
 refine hK.out _ _ (hHeld.trans (Tch.of hbC)) (fun hHeld => ?_)
 clear hK K
 refine tr 20 HS.out rfl (by kernel_rfl) rfl (fun _ f => by go_simp; try with_reducible rfl) ?_
 try simp only [pw]
 refine rq 21 (by kernel_rfl) rfl fun K hK => ?_
 have fC := HS.out _ hHeld
 go_simp
 clear fC
 (have hbT := hHeld)
 refine hK.out _ _ (hbT) (fun hHeld => ?_)
 clear hK K
 refine ag [22, 23, 24, 25, 26, 27, 28, 29, 30, 31, 32] ?_
 iterate 11 (refine ra HS.out rfl (by kernel_rfl) rfl (fun _ f => by go_simp; try with_reducible rfl) ?_; try simp only [pw])
 refine dm (by kernel_rfl) ?_
 have hF := hHeld.nil
 go_wp2_with fail
 go_ret
 exact ⟨rfl, bt Hc.out hF⟩
theorem iV (os : Os) (started : os.Started) (H : Type) (enc : TypeId × Value → H) :
  ReturnsInHanded {} Tryz.checked os 5 .any (fun w args => (Rows.fnWorldSendSpec.pre enc Tryz.prog Tryz.f5 [] false w args ∧ laidMetH Tryz.prog bN w) ∧ sizedMet enc Tryz.prog Tryz.f5 (OpenSpec.ofChange Rows.fnWorldSendSpec) false w args) (Rows.fnWorldSendSpec.post enc Tryz.prog Tryz.f5 false true false false) := by
 refine returnsInHanded_of_change_and (C := Tryz.checked) (X := fun w _ => laidMetH Tryz.prog bN w) (fun _ _ _ hh h => h.of_heap hh) du started (by kernel_rfl) Tryz.func5
  (ChangeSpec.witness_at (enc := enc) (C := Tryz.checked) (os := os) (X := fun w _ => laidMetH Tryz.prog bN w) false (cG os) #[.slice none 0 0] 8 rfl (by kernel_rfl) (by kernel_rfl) (by kernel_rfl) (by kernel_rfl) (by kernel_rfl) (bx os _)) ?_
 intro W base args ds gs before hval0 hW _ _ hL _
 have hg := bi hL
 have hval : ∀ (j : Nat) t v, Tryz.f5.params[j]? = some t → args[j]? = some v → Value.okWide Tryz.prog W .any base t v := hval0
 have hW' := hW
 obtain ⟨p, q, hA0, hV, rfl, hfz, hnd⟩ := hW
 have hA : DataW.TrodAll enc Tryz.prog W 0 (fun _ => true) true Tryz.f5.params.toList args.toList ds p := hA0
 rw [Tryz.params5] at hA hval
 obtain ⟨v0, vs0, d0, ds0, p0, q0, hargs, rfl, rfl, h0, r0⟩ := trodAll_cons hA
 obtain ⟨rfl, rfl, rfl⟩ := trodAll_nil r0
 obtain rfl : args = #[v0] := by cases args; simp_all
 obtain ⟨rfl, rfl⟩ : gs = [] ∧ q = [] := by
  cases gs with
  | nil => exact ⟨rfl, hV⟩
  | cons g r => exact absurd hV (by intro h; cases h)
 have k0 := h0
 have lt0 : ∀ x ∈ p0, x.block < W.heap.size := by obtain ⟨m, hm⟩ := k0; exact DataW.trod_lt m _ _ _ hm
 obtain ⟨xs0, s0, f0⟩ := bG aZ Tryz.underlying22 (hval 0 22 v0 rfl rfl) h0
 clear hA0 hval0
 refine (FnWorldSend_c v0 xs0 W hg s0 f0).mono fun e W' ⟨he, bel⟩ => ?_
 subst he
 exact ⟨_, rfl, _, _, _, [], _, [], hW', trodAll_mk1 (shut_bool Tryz.underlying4 _), (trodAll_cons_mk (Below.trod bS (by kernel_rfl) (of_decide_eq_true (by kernel_rfl)) k0 bel lt0) trodAll_mk0), rfl, bel.frame _, fun h => by cases h⟩
theorem jG : joinedFacts Tryz.prog 5 Tryz.f5 Rows.fnWorldSendSpec Rows.fnWorldSendRow = true := by
 unfold joinedFacts
 simp only [Bool.and_eq_true]
 repeat' apply And.intro
 ·as_aux_lemma => kernel_rfl
 ·as_aux_lemma => kernel_rfl
 ·as_aux_lemma => kernel_rfl
 ·as_aux_lemma => kernel_rfl
 ·as_aux_lemma => kernel_rfl
 ·as_aux_lemma => kernel_rfl
 ·as_aux_lemma => kernel_rfl
 ·as_aux_lemma => kernel_rfl
 ·as_aux_lemma => kernel_rfl
 ·as_aux_lemma => kernel_rfl
 ·as_aux_lemma => kernel_rfl
 ·as_aux_lemma => kernel_rfl
 ·as_aux_lemma => kernel_rfl
 ·as_aux_lemma => kernel_rfl
 ·as_aux_lemma => kernel_rfl
 ·as_aux_lemma => kernel_rfl
 ·as_aux_lemma => kernel_rfl
 ·as_aux_lemma => kernel_rfl
 ·as_aux_lemma => kernel_rfl
 ·as_aux_lemma => kernel_rfl
 ·as_aux_lemma => kernel_rfl
 ·as_aux_lemma => kernel_rfl
 ·as_aux_lemma => kernel_rfl
 ·as_aux_lemma => kernel_rfl
 ·as_aux_lemma => kernel_rfl
 ·exact ci
 ·rw [cj]; rfl
 ·rw [cM]; rfl
 ·as_aux_lemma => kernel_rfl
 ·as_aux_lemma => kernel_rfl
 ·as_aux_lemma => kernel_rfl
 ·as_aux_lemma => kernel_rfl
theorem jH : Tryz.prog.funcNamed Rows.fnWorldSendRow.func = some 5 := by kernel_rfl
theorem kF : Tryz.f5.isWrapper Tryz.prog Rows.fnWorldSendRow.wrapper Rows.fnWorldSendRow.mainSum := (by unfold Func.isWrapper; first | (rw [if_pos (by decide +kernel)]; kernel_rfl) | (rw [if_neg (by decide +kernel)]; exact ⟨rfl, rfl⟩))
theorem kE : Rows.fnWorldSendRow.holds Tryz.pinned (OpenSpec.ofChange Rows.fnWorldSendSpec) :=
 OpenClaim.holds_of_wide (p := Tryz.pinned) 5 Tryz.f5 rfl rfl rfl rfl rfl rfl rfl ⟨rfl, rfl, rfl, rfl, rfl⟩ rfl rfl rfl rfl rfl jH Tryz.func5 jG
  (of_decide_eq_true (by kernel_rfl)) kF
  (fun os started H enc _ => iV os started H enc)
theorem kD : Tryz.prog.mainIs = some ((true, "0b88574e3966f29a5700fde5310b4a9d73255c860e3cfbe123706b230b6b56c3").1, (true, "0b88574e3966f29a5700fde5310b4a9d73255c860e3cfbe123706b230b6b56c3").2.toList) := by
 unfold Program.mainIs
 rw [dL, String.toList_ofList, cY, ax dY (by kernel_rfl), ax dZ (by kernel_rfl), ax d7 (by kernel_rfl)]
 generalize wordsSigns dN = ws
 kernel_rfl
theorem FnWorldSend_holds : Rows.FnWorldSendCardSaid :=
 Claim7.holds_tied_plain_at .later [] [.handle] true (true, "0b88574e3966f29a5700fde5310b4a9d73255c860e3cfbe123706b230b6b56c3") true
  kE (fun _ h => by cases h) (by kernel_rfl) (fun _ h => by cases h) fnWorldSend_row_tie rfl ⟨rfl, rfl⟩ kD rfl
  (fun f fn hf hfn => by
   obtain rfl : f = 5 := Option.some.inj ((show Tryz.prog.funcNamed Rows.fnWorldSendRow.func = some 5 by kernel_rfl).symm.trans hf) |>.symm
   obtain rfl : fn = Tryz.f5 := (Option.some.inj (Tryz.func5.symm.trans hfn)).symm
   exact ⟨by kernel_rfl, fun j t ht => by
    rw [Tryz.params5] at ht
    rcases j with _ | _ | j
    all_goals (first | (simp at ht; done) | (simp at ht; subst ht; exact (show Tryz.prog.wantsStandIn _ = false by kernel_rfl)))⟩)
  (by kernel_rfl)
#print axioms FnWorldSend_holds
end
end Go.Proofs.YtolgbefghbddeaaGreatDoor
