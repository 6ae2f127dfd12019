/- An unknown event, or one that speaks of what is not there, leaves a valid run as it was. No condition. -/
import Derived.Deep.DeepCutAuto
import Derived.Test.YtolgbefghbddeaaGreatDoorM35
import Derived.Test.YtolgbefghbddeaaGreatDoorM36
set_option linter.unusedVariables false
set_option linter.unusedSimpArgs false
set_option maxHeartbeats 4000000
set_option maxRecDepth 100000
namespace Go.Proofs.YtolgbefghbddeaaGreatDoor
open Go Go.RowKit
section
open Go.ChangeShapes Go.WideShapes Go.ChangeAt
theorem FnWorldUnknown_c (v0 : Value) (xs0 : List Int) (v0' : Value) (xs1 : List Int) (w : World) (hg : kG w) (s0 : SlB cR w.heap.size w v0 xs0) (hx0 : ∀ x ∈ xs0, (Lit.int .u8 x).wf = true) (s1' : SlB cR w.heap.size w v0' xs1) (_ : ∀ x ∈ xs1, (Lit.int .u8 x).wf = true) :
  Calls Tryz.prog 10 #[v0, v0'] w (ok true w.heap.size w) := by
 have hw0 : 0 < w.heap.size := World.block_lt_of_cell? _ _ hg
 have Hg := hid (fun (wx : World) (hb : Below w.heap.size w wx) => show dj wx from (hb.cell (p := ⟨0, 0, none⟩) hw0).trans hg)
 have HX := hid (fun x hx => gZ (hx0 x hx))
 obtain ⟨A, c, rfl, _, _, _⟩ := s0.form
 obtain ⟨A', c', rfl, _, _, _⟩ := s1'.form
 have S0 := hid s0
 clear hg s0 hx0 s1'
 by_cases hl : 1048576 < xs0.length
 ·go_enter Tryz.func10, Tryz.ntmps10
  go_wp2
  go_ret
  exact ⟨rfl, ah⟩
 by_cases hl' : 1048576 < xs1.length
 ·go_enter Tryz.func10, Tryz.ntmps10
  go_wp2
  go_ret
  exact ⟨rfl, ah⟩
 go_enter Tryz.func10, Tryz.ntmps10
 go_wp2_with fail
 refine (bO _ xs0 _ S0.out HX.out).mono ?_
 rintro e w1 ⟨v1, x, ev, rfl, d1, hgl, hb1⟩
 obtain ⟨A1, c1, A1b, c1b, A1c, c1c, A1d, c1d, rfl⟩ := d1.form
 have D1 := hid d1; have Hc := hid hb1; have Hgl := hid hgl
 clear d1 hb1 S0 HX hgl
 go_upto_region 4 with fail
 generalize hgw : World.alloc (World.alloc w1 _) _ = w2
 obtain ⟨e2, e2', hb2, s2⟩ := fI hgw
 have EW := hid e2; have EE := hid e2'; have DW := hid (D1.out.go hb2)
 replace Hc := hid (bt Hc.out hb2)
 clear hgw e2 e2' hb2 D1
 obtain ⟨k0, k1, k2, k3, k4, k5, _⟩ := ai EW.out
 have zw := (al EW.out)
 obtain ⟨j0, j1, j2, j3, _⟩ := aO EE.out
 have ze := (al EE.out)
 obtain ⟨y, hy⟩ : ∃ y, y = aW x ev := ⟨_, rfl⟩
 have Hy := hid hy
 clear hy
 go_wp2_with fail
 refine (bE x _ ev _ (Hg.out _ Hc.out) DW.out.wdB Hgl.out).mono ?_
 rw [← Hy.out]
 rintro e w3 ⟨a3, b3, c3, d3, rfl, n3, hb3⟩
 obtain ⟨A3, p3, A3b, p3b, A3c, p3c, A3d, p3d, rfl, rfl, rfl, rfl⟩ := aD n3
 have N3 := hid n3
 replace Hc := hid (bt Hc.out hb3)
 replace EW := hid (ab hb3 EW.out)
 replace EE := hid (ab hb3 EE.out)
 replace DW := hid (DW.out.go hb3)
 have s3 := hb3.size
 clear n3 hb3 k0 k1 k2 k3 k4 k5 j0 j1 j2 j3 zw ze
 go_upto_region 5 with fail
 generalize hgw : World.alloc w3 _ = w4
 obtain ⟨e4, r4, hb4, _, s4⟩ := bK N3.out (Below.refl w3.heap.size _) (Nat.le_refl _) hgw
 have EO := hid e4; have DO := hid (WdR.of_wdB (R := fun _ => True) r4.wdB (fun _ _ => trivial))
 replace Hc := hid (bt Hc.out hb4)
 replace EW := hid (ab hb4 EW.out)
 replace EE := hid (ab hb4 EE.out)
 replace DW := hid (DW.out.go hb4)
 clear hgw e4 r4 hb4 N3
 obtain ⟨k0, k1, k2, k3, k4, k5, _⟩ := ai EW.out
 have zw := (al EW.out)
 obtain ⟨j0, j1, j2, j3, _⟩ := aO EE.out
 have ze := (al EE.out)
 go_wp2_with fail
 refine (ei x _ ev _ DW.out.wdB Hgl.out).mono ?_
 rw [← Hy.out]
 rintro e w5 ⟨a5, b5, c5, d5, rfl, n5, hb5⟩
 obtain ⟨A5, p5, A5b, p5b, A5c, p5c, A5d, p5d, rfl, rfl, rfl, rfl⟩ := aD n5
 have N5 := hid n5
 replace Hc := hid (bt Hc.out hb5)
 replace EW := hid (ab hb5 EW.out)
 replace EE := hid (ab hb5 EE.out)
 replace DW := hid (DW.out.go hb5)
 replace EO := hid (ab hb5 EO.out)
 replace DO := hid (DO.out.go hb5)
 have s5 := hb5.size
 clear n5 hb5 k0 k1 k2 k3 k4 k5 j0 j1 j2 j3 zw ze
 go_upto_region 6 with fail
 generalize hgw : World.alloc w5 _ = w6
 obtain ⟨e6, r6, hb6, _, s6⟩ := bK N5.out (Below.refl w5.heap.size _) (Nat.le_refl _) hgw
 have ET := hid e6; have DT := hid (WdR.of_wdB (R := fun _ => True) r6.wdB (fun _ _ => trivial))
 replace Hc := hid (bt Hc.out hb6)
 replace EW := hid (ab hb6 EW.out)
 replace EE := hid (ab hb6 EE.out)
 replace DW := hid (DW.out.go hb6)
 replace EO := hid (ab hb6 EO.out)
 replace DO := hid (DO.out.go hb6)
 clear hgw e6 r6 hb6 N5
 obtain ⟨o0, o1, o2, o3, o4, o5, _⟩ := ai EO.out
 have zo := (al EO.out)
 obtain ⟨t0, t1, t2, t3, t4, t5, _⟩ := ai ET.out
 have zt := (al ET.out)
 go_wp2_with fail
 refine (aq y _ _ _ DO.out.wdB DT.out.wdB).mono ?_
 rintro e w7 ⟨rfl, hb7⟩
 replace Hc := hid (bt Hc.out hb7)
 replace EW := hid (ab hb7 EW.out)
 replace EE := hid (ab hb7 EE.out)
 replace DW := hid (DW.out.go hb7)
 replace EO := hid (ab hb7 EO.out)
 replace DO := hid (DO.out.go hb7)
 replace ET := hid (ab hb7 ET.out)
 replace DT := hid (DT.out.go hb7)
 have s7 := hb7.size
 clear hb7 o0 o1 o2 o3 o4 o5 t0 t1 t2 t3 t4 t5 zo zt
 obtain ⟨k0, k1, k2, k3, k4, k5, _⟩ := ai EW.out
 have zw := (al EW.out)
 go_wp2_with fail
 refine (cQ x _ _ DW.out.wdB Hgl.out).mono ?_
 rintro e w8 ⟨rfl, hb8⟩
 replace Hc := hid (bt Hc.out hb8)
 replace EW := hid (ab hb8 EW.out)
 replace EE := hid (ab hb8 EE.out)
 replace DW := hid (DW.out.go hb8)
 replace EO := hid (ab hb8 EO.out)
 replace DO := hid (DO.out.go hb8)
 replace ET := hid (ab hb8 ET.out)
 replace DT := hid (DT.out.go hb8)
 have s8 := hb8.size
 clear hb8 k0 k1 k2 k3 k4 k5 zw
 cases hv : wdB x with
 | false =>
  obtain ⟨o0, o1, o2, o3, o4, o5, _⟩ := ai EO.out
  have zo := (al EO.out)
  obtain ⟨t0, t1, t2, t3, t4, t5, _⟩ := ai ET.out
  have zt := (al ET.out)
  go_wp2_with fail
  refine (aq y _ _ _ DO.out.wdB DT.out.wdB).mono ?_
  rintro e w9 ⟨rfl, hb9⟩
  go_wp2_with fail
  go_ret
  exact ⟨rfl, bt Hc.out hb9⟩
 | true =>
 have Hv := hid (cD.1 hv)
 have Hvy := hid (show VD 0 y by rw [Hy.out]; exact dC Hv.out ev)
 have Hgly := hid (show y.got.length ≤ 1073741824 by have := Hvy.out.gl; omega)
 clear hv
 have hun := fun j => qS Hv.out j
 have hnn := Hv.out.nn
 obtain ⟨ka, hk1, hka, hka'⟩ := fS xs1.length 5 (by decide)
 obtain ⟨kb, hk2, hkb, hkb'⟩ := fS xs1.length 3 (by decide)
 have hk1 : (xs1.length : Int).tmod 5 = (ka : Int) := hk1
 have hka : (xs1.length : Int) % 5 = (ka : Int) := hka
 have hk2 : (xs1.length : Int).tmod 3 = (kb : Int) := hk2
 have hkb : (xs1.length : Int) % 3 = (kb : Int) := hkb
 have f1 : IntKind.i64.wrap (7 + (ka : Int)) = 7 + (ka : Int) := aL (by omega) (by omega)
 have f2 : IntKind.i64.wrap ((x.net.length : Int) + (kb : Int)) = (x.net.length : Int) + (kb : Int) := aL (by omega) (by omega)
 have f3 : IntKind.i64.wrap (3 + (kb : Int)) = 3 + (kb : Int) := aL (by omega) (by omega)
 have f4 : IntKind.i64.wrap (9 + (kb : Int)) = 9 + (kb : Int) := aL (by omega) (by omega)
 have Hun := hid hun
 clear hun EE EO DO ET DT
 obtain ⟨k0, k1, k2, k3, k4, k5, _⟩ := ai EW.out
 have zw := (al EW.out)
 go_wp2_with fail
 refine (bE x _ ⟨7 + (ka : Int), 0, 0, 0⟩ _ (Hg.out _ Hc.out) DW.out.wdB Hgl.out).mono ?_
 rw [(Hun.out ka).1]
 rintro e w9 ⟨a9, b9, c9, d9, rfl, n9, hb9⟩
 obtain ⟨A9, p9, A9b, p9b, A9c, p9c, A9d, p9d, rfl, rfl, rfl, rfl⟩ := aD n9
 have N9 := hid n9
 replace Hc := hid (bt Hc.out hb9)
 replace EW := hid (ab hb9 EW.out)
 replace DW := hid (DW.out.go hb9)
 have s9 := hb9.size
 clear n9 hb9 k0 k1 k2 k3 k4 k5 zw
 go_upto_region 9 with fail
 generalize hgw : World.alloc w9 _ = w10
 obtain ⟨e9, r9, hb9, _, s10⟩ := bK N9.out (Below.refl w9.heap.size _) (Nat.le_refl _) hgw
 have Ea := hid e9; have Da := hid (WdR.of_wdB (R := fun _ => True) r9.wdB (fun _ _ => trivial))
 replace Hc := hid (bt Hc.out hb9)
 replace EW := hid (ab hb9 EW.out)
 replace DW := hid (DW.out.go hb9)
 clear hgw e9 r9 hb9 N9
 obtain ⟨k0, k1, k2, k3, k4, k5, _⟩ := ai EW.out
 have zw := (al EW.out)
 go_wp2_with fail
 refine (bE x _ ⟨2, (x.net.length : Int) + (kb : Int), 0, 0⟩ _ (Hg.out _ Hc.out) DW.out.wdB Hgl.out).mono ?_
 rw [(Hun.out kb).2.1]
 rintro e w11 ⟨a9, b9, c9, d9, rfl, n9, hb9⟩
 obtain ⟨A11, p11, A11b, p11b, A11c, p11c, A11d, p11d, rfl, rfl, rfl, rfl⟩ := aD n9
 have N9 := hid n9
 replace Hc := hid (bt Hc.out hb9)
 replace EW := hid (ab hb9 EW.out)
 replace DW := hid (DW.out.go hb9)
 replace Ea := hid (ab hb9 Ea.out)
 replace Da := hid (Da.out.go hb9)
 have s11 := hb9.size
 clear n9 hb9 k0 k1 k2 k3 k4 k5 zw
 go_upto_region 10 with fail
 generalize hgw : World.alloc w11 _ = w12
 obtain ⟨e9, r9, hb9, _, s12⟩ := bK N9.out (Below.refl w11.heap.size _) (Nat.le_refl _) hgw
 have Eb := hid e9; have Db := hid (WdR.of_wdB (R := fun _ => True) r9.wdB (fun _ _ => trivial))
 replace Hc := hid (bt Hc.out hb9)
 replace EW := hid (ab hb9 EW.out)
 replace DW := hid (DW.out.go hb9)
 replace Ea := hid (ab hb9 Ea.out)
 replace Da := hid (Da.out.go hb9)
 clear hgw e9 r9 hb9 N9
 obtain ⟨k0, k1, k2, k3, k4, k5, _⟩ := ai EW.out
 have zw := (al EW.out)
 go_wp2_with fail
 refine (bE x _ ⟨6, 3 + (kb : Int), 0, 0⟩ _ (Hg.out _ Hc.out) DW.out.wdB Hgl.out).mono ?_
 rw [(Hun.out kb).2.2.1]
 rintro e w13 ⟨a9, b9, c9, d9, rfl, n9, hb9⟩
 obtain ⟨A13, p13, A13b, p13b, A13c, p13c, A13d, p13d, rfl, rfl, rfl, rfl⟩ := aD n9
 have N9 := hid n9
 replace Hc := hid (bt Hc.out hb9)
 replace EW := hid (ab hb9 EW.out)
 replace DW := hid (DW.out.go hb9)
 replace Ea := hid (ab hb9 Ea.out)
 replace Da := hid (Da.out.go hb9)
 replace Eb := hid (ab hb9 Eb.out)
 replace Db := hid (Db.out.go hb9)
 have s13 := hb9.size
 clear n9 hb9 k0 k1 k2 k3 k4 k5 zw
 go_upto_region 11 with fail
 generalize hgw : World.alloc w13 _ = w14
 obtain ⟨e9, r9, hb9, _, s14⟩ := bK N9.out (Below.refl w13.heap.size _) (Nat.le_refl _) hgw
 have Ec := hid e9; have Dc := hid (WdR.of_wdB (R := fun _ => True) r9.wdB (fun _ _ => trivial))
 replace Hc := hid (bt Hc.out hb9)
 replace EW := hid (ab hb9 EW.out)
 replace DW := hid (DW.out.go hb9)
 replace Ea := hid (ab hb9 Ea.out)
 replace Da := hid (Da.out.go hb9)
 replace Eb := hid (ab hb9 Eb.out)
 replace Db := hid (Db.out.go hb9)
 clear hgw e9 r9 hb9 N9
 obtain ⟨k0, k1, k2, k3, k4, k5, _⟩ := ai EW.out
 have zw := (al EW.out)
 go_wp2_with fail
 refine (bE x _ ⟨1, 0, 0, 9 + (kb : Int)⟩ _ (Hg.out _ Hc.out) DW.out.wdB Hgl.out).mono ?_
 rw [(Hun.out kb).2.2.2]
 rintro e w15 ⟨a9, b9, c9, d9, rfl, n9, hb9⟩
 obtain ⟨A15, p15, A15b, p15b, A15c, p15c, A15d, p15d, rfl, rfl, rfl, rfl⟩ := aD n9
 have N9 := hid n9
 replace Hc := hid (bt Hc.out hb9)
 replace EW := hid (ab hb9 EW.out)
 replace DW := hid (DW.out.go hb9)
 replace Ea := hid (ab hb9 Ea.out)
 replace Da := hid (Da.out.go hb9)
 replace Eb := hid (ab hb9 Eb.out)
 replace Db := hid (Db.out.go hb9)
 replace Ec := hid (ab hb9 Ec.out)
 replace Dc := hid (Dc.out.go hb9)
 have s15 := hb9.size
 clear n9 hb9 k0 k1 k2 k3 k4 k5 zw
 go_upto_region 12 with fail
 generalize hgw : World.alloc w15 _ = w16
 obtain ⟨e9, r9, hb9, _, s16⟩ := bK N9.out (Below.refl w15.heap.size _) (Nat.le_refl _) hgw
 have Ed := hid e9; have Dd := hid (WdR.of_wdB (R := fun _ => True) r9.wdB (fun _ _ => trivial))
 replace Hc := hid (bt Hc.out hb9)
 replace EW := hid (ab hb9 EW.out)
 replace DW := hid (DW.out.go hb9)
 replace Ea := hid (ab hb9 Ea.out)
 replace Da := hid (Da.out.go hb9)
 replace Eb := hid (ab hb9 Eb.out)
 replace Db := hid (Db.out.go hb9)
 replace Ec := hid (ab hb9 Ec.out)
 replace Dc := hid (Dc.out.go hb9)
 clear hgw e9 r9 hb9 N9
 obtain ⟨k0, k1, k2, k3, k4, k5, _⟩ := ai EW.out
 have zw := (al EW.out)
 obtain ⟨o0, o1, o2, o3, o4, o5, _⟩ := ai Ea.out
 have zo := (al Ea.out)
 go_wp2_with fail
 refine (aq x _ _ _ Da.out.wdB DW.out.wdB).mono ?_
 rintro e wq0 ⟨rfl, hbq⟩
 replace Hc := hid (bt Hc.out hbq)
 replace EW := hid (ab hbq EW.out)
 replace DW := hid (DW.out.go hbq)
 replace Eb := hid (ab hbq Eb.out)
 replace Db := hid (Db.out.go hbq)
 replace Ec := hid (ab hbq Ec.out)
 replace Dc := hid (Dc.out.go hbq)
 replace Ed := hid (ab hbq Ed.out)
 replace Dd := hid (Dd.out.go hbq)
 clear hbq k0 k1 k2 k3 k4 k5 zw o0 o1 o2 o3 o4 o5 zo
 obtain ⟨k0, k1, k2, k3, k4, k5, _⟩ := ai EW.out
 have zw := (al EW.out)
 obtain ⟨o0, o1, o2, o3, o4, o5, _⟩ := ai Eb.out
 have zo := (al Eb.out)
 go_wp2_with fail
 refine (aq x _ _ _ Db.out.wdB DW.out.wdB).mono ?_
 rintro e wq1 ⟨rfl, hbq⟩
 replace Hc := hid (bt Hc.out hbq)
 replace EW := hid (ab hbq EW.out)
 replace DW := hid (DW.out.go hbq)
 replace Ec := hid (ab hbq Ec.out)
 replace Dc := hid (Dc.out.go hbq)
 replace Ed := hid (ab hbq Ed.out)
 replace Dd := hid (Dd.out.go hbq)
 clear hbq k0 k1 k2 k3 k4 k5 zw o0 o1 o2 o3 o4 o5 zo
 obtain ⟨k0, k1, k2, k3, k4, k5, _⟩ := ai EW.out
 have zw := (al EW.out)
 obtain ⟨o0, o1, o2, o3, o4, o5, _⟩ := ai Ec.out
 have zo := (al Ec.out)
 go_wp2_with fail
 refine (aq x _ _ _ Dc.out.wdB DW.out.wdB).mono ?_
 rintro e wq2 ⟨rfl, hbq⟩
 replace Hc := hid (bt Hc.out hbq)
 replace EW := hid (ab hbq EW.out)
 replace DW := hid (DW.out.go hbq)
 replace Ed := hid (ab hbq Ed.out)
 replace Dd := hid (Dd.out.go hbq)
 clear hbq k0 k1 k2 k3 k4 k5 zw o0 o1 o2 o3 o4 o5 zo
 obtain ⟨k0, k1, k2, k3, k4, k5, _⟩ := ai EW.out
 have zw := (al EW.out)
 obtain ⟨o0, o1, o2, o3, o4, o5, _⟩ := ai Ed.out
 have zo := (al Ed.out)
 go_wp2_with fail
 refine (aq x _ _ _ Dd.out.wdB DW.out.wdB).mono ?_
 rintro e wq3 ⟨rfl, hbq⟩
 replace Hc := hid (bt Hc.out hbq)
 replace EW := hid (ab hbq EW.out)
 replace DW := hid (DW.out.go hbq)
 clear hbq k0 k1 k2 k3 k4 k5 zw o0 o1 o2 o3 o4 o5 zo
 go_wp2_with fail
 go_ret
 exact ⟨rfl, Hc.out⟩
theorem gd (os : Os) (started : os.Started) (H : Type) (enc : TypeId × Value → H) :
  ReturnsInHanded {} Tryz.checked os 10 .any (fun w args => (Rows.fnWorldUnknownSpec.pre enc Tryz.prog Tryz.f10 [] false w args ∧ laidMetH Tryz.prog bN w) ∧ sizedMet enc Tryz.prog Tryz.f10 (OpenSpec.ofChange Rows.fnWorldUnknownSpec) false w args) (Rows.fnWorldUnknownSpec.post enc Tryz.prog Tryz.f10 false true false false) := by
 refine returnsInHanded_of_change_and (C := Tryz.checked) (X := fun w _ => laidMetH Tryz.prog bN w) (fun _ _ _ hh h => h.of_heap hh) du started (by kernel_rfl) Tryz.func10
  (ChangeSpec.witness_at (enc := enc) (C := Tryz.checked) (os := os) (X := fun w _ => laidMetH Tryz.prog bN w) false (cG os) #[.slice none 0 0, .slice none 0 0] 8 rfl (by kernel_rfl) (by kernel_rfl) (by kernel_rfl) (by kernel_rfl) (by kernel_rfl) (bx os _)) ?_
 intro W base args ds gs before hval0 hW _ _ hL _
 have hg := bi hL
 have hval : ∀ (j : Nat) t v, Tryz.f10.params[j]? = some t → args[j]? = some v → Value.okWide Tryz.prog W .any base t v := hval0
 have hW' := hW
 obtain ⟨p, q, hA0, hV, rfl, hfz, hnd⟩ := hW
 have hA : DataW.TrodAll enc Tryz.prog W 0 (fun _ => true) true Tryz.f10.params.toList args.toList ds p := hA0
 rw [Tryz.params10] at hA hval
 obtain ⟨v0, vs0, d0, ds0, p0, q0, hargs, rfl, rfl, h0, r0⟩ := trodAll_cons hA
 obtain ⟨v1, vs1, d1, ds1, p1, q1, rfl, rfl, rfl, h1, r1⟩ := trodAll_cons r0
 obtain ⟨rfl, rfl, rfl⟩ := trodAll_nil r1
 obtain rfl : args = #[v0, v1] := by cases args; simp_all
 obtain ⟨rfl, rfl⟩ : gs = [] ∧ q = [] := by
  cases gs with
  | nil => exact ⟨rfl, hV⟩
  | cons g r => exact absurd hV (by intro h; cases h)
 have k0 := h0
 have lt0 : ∀ x ∈ p0, x.block < W.heap.size := by obtain ⟨m, hm⟩ := k0; exact DataW.trod_lt m _ _ _ hm
 obtain ⟨xs0, s0, f0⟩ := bG aZ Tryz.underlying22 (hval 0 22 v0 rfl rfl) h0
 have k1 := h1
 have lt1 : ∀ x ∈ p1, x.block < W.heap.size := by obtain ⟨m, hm⟩ := k1; exact DataW.trod_lt m _ _ _ hm
 obtain ⟨xs1, s1, f1⟩ := bG aZ Tryz.underlying22 (hval 1 22 v1 rfl rfl) h1
 clear hA0 hval0
 refine (FnWorldUnknown_c v0 xs0 v1 xs1 W hg s0 f0 s1 f1).mono fun e W' ⟨he, bel⟩ => ?_
 subst he
 exact ⟨_, rfl, _, _, _, [], _, [], hW', trodAll_mk1 (shut_bool Tryz.underlying4 _), (trodAll_cons_mk (Below.trod bS (by kernel_rfl) (of_decide_eq_true (by kernel_rfl)) k0 bel lt0) (trodAll_cons_mk (Below.trod bS (by kernel_rfl) (of_decide_eq_true (by kernel_rfl)) k1 bel lt1) trodAll_mk0)), rfl, bel.frame _, fun h => by cases h⟩
theorem gw : joinedFacts Tryz.prog 10 Tryz.f10 Rows.fnWorldUnknownSpec Rows.fnWorldUnknownRow = true := by
 unfold joinedFacts
 simp only [Bool.and_eq_true]
 repeat' apply And.intro
 ·as_aux_lemma => kernel_rfl
 ·as_aux_lemma => kernel_rfl
 ·as_aux_lemma => kernel_rfl
 ·as_aux_lemma => kernel_rfl
 ·as_aux_lemma => kernel_rfl
 ·as_aux_lemma => kernel_rfl
 ·as_aux_lemma => kernel_rfl
 ·as_aux_lemma => kernel_rfl
 ·as_aux_lemma => kernel_rfl
 ·as_aux_lemma => kernel_rfl
 ·as_aux_lemma => kernel_rfl
 ·as_aux_lemma => kernel_rfl
 ·as_aux_lemma => kernel_rfl
 ·as_aux_lemma => kernel_rfl
 ·as_aux_lemma => kernel_rfl
 ·as_aux_lemma => kernel_rfl
 ·as_aux_lemma => kernel_rfl
 ·as_aux_lemma => kernel_rfl
 ·as_aux_lemma => kernel_rfl
 ·as_aux_lemma => kernel_rfl
 ·as_aux_lemma => kernel_rfl
 ·as_aux_lemma => kernel_rfl
 ·as_aux_lemma => kernel_rfl
 ·as_aux_lemma => kernel_rfl
 ·as_aux_lemma => kernel_rfl
 ·exact ci
 ·rw [cj]; rfl
 ·rw [cM]; rfl
 ·as_aux_lemma => kernel_rfl
 ·as_aux_lemma => kernel_rfl
 ·as_aux_lemma => kernel_rfl
 ·as_aux_lemma => kernel_rfl
theorem gx : Tryz.prog.funcNamed Rows.fnWorldUnknownRow.func = some 10 := by kernel_rfl
theorem iE : Tryz.f10.isWrapper Tryz.prog Rows.fnWorldUnknownRow.wrapper Rows.fnWorldUnknownRow.mainSum := (by unfold Func.isWrapper; first | (rw [if_pos (by decide +kernel)]; kernel_rfl) | (rw [if_neg (by decide +kernel)]; exact ⟨rfl, rfl⟩))
theorem iD : Rows.fnWorldUnknownRow.holds Tryz.pinned (OpenSpec.ofChange Rows.fnWorldUnknownSpec) :=
 OpenClaim.holds_of_wide (p := Tryz.pinned) 10 Tryz.f10 rfl rfl rfl rfl rfl rfl rfl ⟨rfl, rfl, rfl, rfl, rfl⟩ rfl rfl rfl rfl rfl gx Tryz.func10 gw
  (of_decide_eq_true (by kernel_rfl)) iE
  (fun os started H enc _ => gd os started H enc)
theorem iC : Tryz.prog.mainIs = some ((true, "0b88574e3966f29a5700fde5310b4a9d73255c860e3cfbe123706b230b6b56c3").1, (true, "0b88574e3966f29a5700fde5310b4a9d73255c860e3cfbe123706b230b6b56c3").2.toList) := by
 unfold Program.mainIs
 rw [dL, String.toList_ofList, cY, ax dY (by kernel_rfl), ax dZ (by kernel_rfl), ax d7 (by kernel_rfl)]
 generalize wordsSigns dN = ws
 kernel_rfl
theorem FnWorldUnknown_holds : Rows.FnWorldUnknownCardSaid :=
 Claim7.holds_tied_plain_at .later [] [.handle] true (true, "0b88574e3966f29a5700fde5310b4a9d73255c860e3cfbe123706b230b6b56c3") true
  iD (fun _ h => by cases h) (by kernel_rfl) (fun _ h => by cases h) fnWorldUnknown_row_tie rfl ⟨rfl, rfl⟩ iC rfl
  (fun f fn hf hfn => by
   obtain rfl : f = 10 := Option.some.inj ((show Tryz.prog.funcNamed Rows.fnWorldUnknownRow.func = some 10 by kernel_rfl).symm.trans hf) |>.symm
   obtain rfl : fn = Tryz.f10 := (Option.some.inj (Tryz.func10.symm.trans hfn)).symm
   exact ⟨by kernel_rfl, fun j t ht => by
    rw [Tryz.params10] at ht
    rcases j with _ | _ | j
    all_goals (first | (simp at ht; done) | (simp at ht; subst ht; exact (show Tryz.prog.wantsStandIn _ = false by kernel_rfl)))⟩)
  (by kernel_rfl)
#print axioms FnWorldUnknown_holds
end
end Go.Proofs.YtolgbefghbddeaaGreatDoor
