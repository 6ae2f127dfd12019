/- A packet that is lost leaves the net and is counted; nothing else turns. No condition. -/
import Derived.Deep.DeepCutAuto
import Derived.Test.YtolgbefghbddeaaGreatDoorM28
import Derived.Test.YtolgbefghbddeaaGreatDoorM35
import Derived.Test.YtolgbefghbddeaaGreatDoorM36
set_option linter.unusedVariables false
set_option linter.unusedSimpArgs false
set_option maxHeartbeats 4000000
set_option maxRecDepth 100000
namespace Go.Proofs.YtolgbefghbddeaaGreatDoor
open Go Go.RowKit
section
open Go.ChangeShapes Go.WideShapes Go.ChangeAt
theorem FnWorldLose_c (v0 : Value) (xs0 : List Int) (v0' : Value) (xs1 : List Int) (w : World) (hg : kG w) (s0 : SlB cR w.heap.size w v0 xs0) (hx0 : ∀ x ∈ xs0, (Lit.int .u8 x).wf = true) (s1' : SlB cR w.heap.size w v0' xs1) (_ : ∀ x ∈ xs1, (Lit.int .u8 x).wf = true) :
  Calls Tryz.prog 8 #[v0, v0'] w (ok true w.heap.size w) := by
 have hw0 : 0 < w.heap.size := World.block_lt_of_cell? _ _ hg
 have Hg := hid (fun (wx : World) (hb : Below w.heap.size w wx) => show dj wx from (hb.cell (p := ⟨0, 0, none⟩) hw0).trans hg)
 have HX := hid (fun x hx => gZ (hx0 x hx))
 obtain ⟨A, c, rfl, _, _, _⟩ := s0.form
 obtain ⟨A', c', rfl, _, _, _⟩ := s1'.form
 have S0 := hid s0
 clear hg s0 hx0 s1'
 by_cases hl : 1048576 < xs0.length
 ·go_enter Tryz.func8, Tryz.ntmps8
  go_wp2
  go_ret
  exact ⟨rfl, ah⟩
 by_cases hl' : 1048576 < xs1.length
 ·go_enter Tryz.func8, Tryz.ntmps8
  go_wp2
  go_ret
  exact ⟨rfl, ah⟩
 go_enter Tryz.func8, Tryz.ntmps8
 go_wp2_with fail
 refine (bO _ xs0 _ S0.out HX.out).mono ?_
 rintro e w1 ⟨v1, x, ev, rfl, d1, hgl, hb1⟩
 obtain ⟨A1, c1, A1b, c1b, A1c, c1c, A1d, c1d, rfl⟩ := d1.form
 have D1 := hid d1; have Hc := hid hb1; have Hgl := hid hgl
 clear d1 hb1 S0 HX hgl
 go_upto_region 4 with fail
 generalize hgw : World.alloc (World.alloc w1 _) _ = w2
 obtain ⟨e2, e2', hb2, s2⟩ := fI hgw
 have EW := hid e2; have EE := hid e2'; have DW := hid (D1.out.go hb2)
 replace Hc := hid (bt Hc.out hb2)
 clear hgw e2 e2' hb2 D1
 obtain ⟨k0, k1, k2, k3, k4, k5, _⟩ := ai EW.out
 have zw := (al EW.out)
 obtain ⟨j0, j1, j2, j3, _⟩ := aO EE.out
 have ze := (al EE.out)
 obtain ⟨y, hy⟩ : ∃ y, y = aW x ev := ⟨_, rfl⟩
 have Hy := hid hy
 clear hy
 go_wp2_with fail
 refine (bE x _ ev _ (Hg.out _ Hc.out) DW.out.wdB Hgl.out).mono ?_
 rw [← Hy.out]
 rintro e w3 ⟨a3, b3, c3, d3, rfl, n3, hb3⟩
 obtain ⟨A3, p3, A3b, p3b, A3c, p3c, A3d, p3d, rfl, rfl, rfl, rfl⟩ := aD n3
 have N3 := hid n3
 replace Hc := hid (bt Hc.out hb3)
 replace EW := hid (ab hb3 EW.out)
 replace EE := hid (ab hb3 EE.out)
 replace DW := hid (DW.out.go hb3)
 have s3 := hb3.size
 clear n3 hb3 k0 k1 k2 k3 k4 k5 j0 j1 j2 j3 zw ze
 go_upto_region 5 with fail
 generalize hgw : World.alloc w3 _ = w4
 obtain ⟨e4, r4, hb4, _, s4⟩ := bK N3.out (Below.refl w3.heap.size _) (Nat.le_refl _) hgw
 have EO := hid e4; have DO := hid (WdR.of_wdB (R := fun _ => True) r4.wdB (fun _ _ => trivial))
 replace Hc := hid (bt Hc.out hb4)
 replace EW := hid (ab hb4 EW.out)
 replace EE := hid (ab hb4 EE.out)
 replace DW := hid (DW.out.go hb4)
 clear hgw e4 r4 hb4 N3
 obtain ⟨k0, k1, k2, k3, k4, k5, _⟩ := ai EW.out
 have zw := (al EW.out)
 obtain ⟨j0, j1, j2, j3, _⟩ := aO EE.out
 have ze := (al EE.out)
 go_wp2_with fail
 refine (ei x _ ev _ DW.out.wdB Hgl.out).mono ?_
 rw [← Hy.out]
 rintro e w5 ⟨a5, b5, c5, d5, rfl, n5, hb5⟩
 obtain ⟨A5, p5, A5b, p5b, A5c, p5c, A5d, p5d, rfl, rfl, rfl, rfl⟩ := aD n5
 have N5 := hid n5
 replace Hc := hid (bt Hc.out hb5)
 replace EW := hid (ab hb5 EW.out)
 replace EE := hid (ab hb5 EE.out)
 replace DW := hid (DW.out.go hb5)
 replace EO := hid (ab hb5 EO.out)
 replace DO := hid (DO.out.go hb5)
 have s5 := hb5.size
 clear n5 hb5 k0 k1 k2 k3 k4 k5 j0 j1 j2 j3 zw ze
 go_upto_region 6 with fail
 generalize hgw : World.alloc w5 _ = w6
 obtain ⟨e6, r6, hb6, _, s6⟩ := bK N5.out (Below.refl w5.heap.size _) (Nat.le_refl _) hgw
 have ET := hid e6; have DT := hid (WdR.of_wdB (R := fun _ => True) r6.wdB (fun _ _ => trivial))
 replace Hc := hid (bt Hc.out hb6)
 replace EW := hid (ab hb6 EW.out)
 replace EE := hid (ab hb6 EE.out)
 replace DW := hid (DW.out.go hb6)
 replace EO := hid (ab hb6 EO.out)
 replace DO := hid (DO.out.go hb6)
 clear hgw e6 r6 hb6 N5
 obtain ⟨o0, o1, o2, o3, o4, o5, _⟩ := ai EO.out
 have zo := (al EO.out)
 obtain ⟨t0, t1, t2, t3, t4, t5, _⟩ := ai ET.out
 have zt := (al ET.out)
 go_wp2_with fail
 refine (aq y _ _ _ DO.out.wdB DT.out.wdB).mono ?_
 rintro e w7 ⟨rfl, hb7⟩
 replace Hc := hid (bt Hc.out hb7)
 replace EW := hid (ab hb7 EW.out)
 replace EE := hid (ab hb7 EE.out)
 replace DW := hid (DW.out.go hb7)
 replace EO := hid (ab hb7 EO.out)
 replace DO := hid (DO.out.go hb7)
 replace ET := hid (ab hb7 ET.out)
 replace DT := hid (DT.out.go hb7)
 have s7 := hb7.size
 clear hb7 o0 o1 o2 o3 o4 o5 t0 t1 t2 t3 t4 t5 zo zt
 obtain ⟨k0, k1, k2, k3, k4, k5, _⟩ := ai EW.out
 have zw := (al EW.out)
 go_wp2_with fail
 refine (cQ x _ _ DW.out.wdB Hgl.out).mono ?_
 rintro e w8 ⟨rfl, hb8⟩
 replace Hc := hid (bt Hc.out hb8)
 replace EW := hid (ab hb8 EW.out)
 replace EE := hid (ab hb8 EE.out)
 replace DW := hid (DW.out.go hb8)
 replace EO := hid (ab hb8 EO.out)
 replace DO := hid (DO.out.go hb8)
 replace ET := hid (ab hb8 ET.out)
 replace DT := hid (DT.out.go hb8)
 have s8 := hb8.size
 clear hb8 k0 k1 k2 k3 k4 k5 zw
 cases hv : wdB x with
 | false =>
  obtain ⟨o0, o1, o2, o3, o4, o5, _⟩ := ai EO.out
  have zo := (al EO.out)
  obtain ⟨t0, t1, t2, t3, t4, t5, _⟩ := ai ET.out
  have zt := (al ET.out)
  go_wp2_with fail
  refine (aq y _ _ _ DO.out.wdB DT.out.wdB).mono ?_
  rintro e w9 ⟨rfl, hb9⟩
  go_wp2_with fail
  go_ret
  exact ⟨rfl, bt Hc.out hb9⟩
 | true =>
 have Hv := hid (cD.1 hv)
 have Hvy := hid (show VD 0 y by rw [Hy.out]; exact dC Hv.out ev)
 have Hgly := hid (show y.got.length ≤ 1073741824 by have := Hvy.out.gl; omega)
 clear hv
 by_cases hn0 : x.net.length = 0
 ·have f1 : ((x.net.length : Int) == 0) = true := by rw [hn0]; rfl
  clear hn0
  obtain ⟨k0, k1, k2, k3, k4, k5, _⟩ := ai EW.out
  have zw := (al EW.out)
  obtain ⟨o0, o1, o2, o3, o4, o5, _⟩ := ai EO.out
  have zo := (al EO.out)
  obtain ⟨t0, t1, t2, t3, t4, t5, _⟩ := ai ET.out
  have zt := (al ET.out)
  go_wp2_with fail
  refine (aq y _ _ _ DO.out.wdB DT.out.wdB).mono ?_
  rintro e w9 ⟨rfl, hb9⟩
  go_wp2_with fail
  go_ret
  exact ⟨rfl, bt Hc.out hb9⟩
 have f1 : ((x.net.length : Int) == 0) = false := by simp; intro h; exact hn0 (by rw [h]; rfl)
 have f1n : ¬ (x.net.length : Int) = 0 := by omega
 have f1m : ¬ x.net = [] := fun h => hn0 (by rw [h]; rfl)
 have hnn := Hv.out.nn
 obtain ⟨kb, hk2, hkb, hkb'⟩ := fS xs1.length x.net.length (by omega)
 clear hn0
 obtain ⟨z, hz⟩ : ∃ z, z = aW x ⟨3, kb, 0, 0⟩ := ⟨_, rfl⟩
 have Hls := hid (show z.mixes = x.mixes ∧ z.sent = x.sent ∧ z.got = x.got ∧ z.made = x.made ∧ z.lost = x.lost + 1 ∧ z.net.length + 1 = x.net.length by
  obtain ⟨h1, h2⟩ := uO Hv.out hkb'
  rw [hz, h1]
  exact ⟨rfl, rfl, rfl, rfl, rfl, h2⟩)
 have Hz := hid hz
 clear hz
 clear EE EO DO ET DT
 obtain ⟨k0, k1, k2, k3, k4, k5, _⟩ := ai EW.out
 have zw := (al EW.out)
 go_wp2_with fail
 clear k0 k1 k2 k3 k4 k5
 go_cut [9] (fun s9 wx => ∃ (g : Nat) (a b c d : Value) (B C : Nat), s9 = .pointer (some ⟨g, 0, none⟩) ∧ wx.heap[g]? = some (.cells #[a, b, c, d, .int .i64 z.made, .int .i64 z.lost] 27 (0, 0)) ∧ dP B C wx a b c d z ∧ (g < B ∨ C ≤ g) ∧ w8.heap.size ≤ g ∧ w8.heap.size ≤ B ∧ C ≤ wx.heap.size ∧ B ≤ C ∧ Below w8.heap.size w8 wx)
 case first =>
  have HX := hid (fun (wx : World) (hT : Tch [] w8 wx) => And.intro (ai (hT.row EW.out (by simp))) (show w1.heap.size < wx.heap.size by have := hT.size; omega))
  refine rgN [] 11 (by kernel_rfl) rfl (fun | none, _, _, _, _ => id | some _, _, _, _, _ => id) fun wd hHeld hbwd swd => ?_
  simp only [pw]
  refine ag [0, 1, 2, 3, 4, 5, 6, 7] ?_
  iterate 8 (refine ra HX.out rfl (by kernel_rfl) rfl (fun _ f => by go_simp; try with_reducible rfl) ?_; try simp only [pw])
  repeat' (first
   | (have t8 := hK8; clear t8; go_simp; (go_at_call 16; refine (bE x _ ⟨3, (kb : Int), 0, 0⟩ _ (Hg.out _ (bt Hc.out hHeld.nil)) (DW.out.go hHeld.nil).wdB Hgl.out).mono ?_; rw [← Hz.out]; rintro e w9 ⟨a9, b9, c9, g9, rfl, n9, hbC⟩; obtain ⟨A9, p9, B9, q9, C9, r9, D9, s9, rfl, rfl, rfl, rfl⟩ := aD n9; have d9 := dP.of n9; have ss := hbC.size; have t9 := hHeld.size; (try replace ea := ab hbC ea)); refine hK8.out _ _ (hHeld.trans (Tch.of hbC)) (fun hHeld => ?_); clear hK8 K8; try simp only [pw])
   | (have t9 := hK9; clear t9; go_simp; (have la := hHeld.size; generalize hgw : World.alloc _ _ = wa; obtain ⟨ea, hbC, sa⟩ := an hgw; clear hgw; (try replace d9 := d9.go hbC (Nat.le_refl _))); refine hK9.out _ _ (hHeld.trans (Tch.of hbC)) (fun hHeld => ?_); clear hK9 K9; try simp only [pw])
   | (refine rz 10 (by decide +kernel) rfl (fun K hK => ?_); (obtain ⟨z0, z1, z2, z3, z4, z5, zf⟩ := ai ea; have zf0 := zf 0; have zf1 := zf 1; have zf2 := zf 2; have zf3 := zf 3; have zf4 := zf 4; have zf5 := zf 5; have hga3 := World.block_lt_of_cell? _ _ z0; dsimp only at hga3); have fC := HX.out _ hHeld; go_simp; clear fC; refine hK.out _ _ ?_; clear hK K)
   | (refine rk (i := 8) [9] (by decide +kernel) (rc rfl (fun K8 hK8 => ?_) (rc rfl (fun K9 hK9 => ?_) rn)))
   | (refine rk (i := 8) [] (by decide +kernel) (rc rfl (fun K8 hK8 => ?_) rn))
   | (refine rk (i := 9) [] (by decide +kernel) (rc rfl (fun K9 hK9 => ?_) rn))
   | fail)
  all_goals
   clear z0 z1 z2 z3 z4 z5 zf zf0 zf1 zf2 zf3 zf4 zf5
   go_wp2_with fail
   go_meet
   refine ⟨_, _, _, _, _, _, _, rfl, de _ _ _ _ _ _ ea, d9.keep (fun c h1 h2 => bW c (by omega)), by omega, by omega, by omega, by (simp only [au]; omega), by omega, ?_⟩
   repeat (refine Below.setCell ?_ (by dsimp only; omega) _)
   exact hHeld.nil
 case rest =>
 obtain ⟨g, a, b, c, d, B, C, rfl, e9, R9, hg, hg1, hB, hC, hBC, hb9⟩ := hcut
 obtain ⟨wA, rfl⟩ : ∃ wA : World, wA = wc := ⟨_, rfl⟩
 obtain ⟨A9, p9, A9b, p9b, A9c, p9c, A9d, p9d, rfl, rfl, rfl, rfl⟩ := R9.form
 have sc8 := Hc.out.size
 have DWo := hid (show WdR (fun b => b < w8.heap.size) wA _ x from (WdR.of_wdB (R := fun b => b < w8.heap.size) DW.out.wdB (fun _ h => h)).go hb9)
 replace Hc := hid (bt Hc.out hb9)
 replace EW := hid (ab hb9 EW.out)
 replace DW := hid (DW.out.go hb9)
 have s9 := hb9.size
 have E9 := hid e9; have R9 := hid R9
 have zg := (al e9)
 clear hb9 e9
 obtain ⟨n1, n2, n3, n4, n5, n6⟩ := Hls.out
 have b3 := Hv.out.l0; have b4 := Hv.out.l1; have b7 := Hv.out.md
 have Z9 := hid (show wA.heap[g]? = some (.cells #[.slice A9 x.mixes.length p9, .slice A9b x.sent.length p9b, .slice A9c z.net.length p9c, .slice A9d x.got.length p9d, .int .i64 x.made, .int .i64 (x.lost + 1)] 27 (0, 0)) by have h := E9.out; rw [n1, n2, n3, n4, n5] at h; exact h)
 have g1 : IntKind.i64.wrap ((x.net.length : Int) - 1) = (x.net.length : Int) - 1 := aL (by omega) (by omega)
 have g2 : ((z.net.length : Int) == (x.net.length : Int) - 1) = true := by simp; omega
 have g3 : IntKind.i64.wrap (x.lost + 1) = x.lost + 1 := aL (by omega) (by omega)
 have g4 : (x.lost + 1 == x.lost + 1) = true := beq_self_eq_true _
 have zw1 : w1.heap.size < w8.heap.size := by omega
 clear n1 n2 n3 n4 n5 n6 E9 b3 b4 b7
 obtain ⟨y0, y1, y2, y3, y4, y5, yf⟩ := ai Z9.out
 have yf2 := yf 2; have yf5 := yf 5
 clear yf
 obtain ⟨k0, k1, k2, k3, k4, k5, _⟩ := ai EW.out
 have zw := (al EW.out)
 go_upto_region 13 with fail
 clear y0 y1 y2 y3 y4 y5 yf2 yf5 k0 k1 k2 k3 k4 k5 zw
 generalize hwB : World.setCell (World.setCell _ _ _) _ _ = wB
 have eB : wB.heap[g]? = some (.cells #[.slice A9 x.mixes.length p9, .slice A9b x.sent.length p9b, .slice A1c x.net.length c1c, .slice A9d x.got.length p9d, .int .i64 x.made, .int .i64 x.lost] 27 (0, 0)) := by rw [← hwB]; exact aE 5 _ (aE 2 _ Z9.out)
 have hRB := R9.out.keep (w' := wB) (fun c h1 h2 => by rw [← hwB, Below.heap_setCell _ _ _ _ (by dsimp only; omega), Below.heap_setCell _ _ _ _ (by dsimp only; omega)])
 have hDB : WdR (fun b => b < w8.heap.size) wB (.agg #[.slice A1 x.mixes.length c1, .slice A1b x.sent.length c1b, .slice A1c x.net.length c1c, .slice A1d x.got.length c1d, .int .i64 x.made, .int .i64 x.lost]) x := by rw [← hwB]; exact (DWo.out.set (by dsimp only; omega)).set (by dsimp only; omega)
 have hbB : Below w.heap.size w wB := by rw [← hwB]; exact (Hc.out.setCell (by dsimp only; have := Hc.out.size; omega) _).setCell (by dsimp only; omega) _
 have eW : wB.heap[w1.heap.size]? = some (.cells #[.slice A1 x.mixes.length c1, .slice A1b x.sent.length c1b, .slice A1c x.net.length c1c, .slice A1d x.got.length c1d, .int .i64 x.made, .int .i64 x.lost] 27 (0, 0)) := by rw [← hwB, Below.heap_setCell _ _ _ _ (by dsimp only; omega), Below.heap_setCell _ _ _ _ (by dsimp only; omega)]; exact EW.out
 have dX : WdB wB.heap.size wB (.agg #[.slice A9 x.mixes.length p9, .slice A9b x.sent.length p9b, .slice A1c x.net.length c1c, .slice A9d x.got.length p9d, .int .i64 x.made, .int .i64 x.lost]) x := by
  obtain ⟨m1, m2, _, m4⟩ := hRB.wdB.parts
  obtain ⟨n1, n2, n3, _, _, _⟩ := Hls.out
  rw [n1] at m1; rw [n2] at m2; rw [n3] at m4
  exact ⟨_, _, _, _, rfl, m1, m2, hDB.wdB.parts.2.2.1, m4⟩
 have DX := hid dX; have DB := hid hDB; have HbB := hid hbB
 obtain ⟨y0, y1, y2, y3, y4, y5, _⟩ := ai eB
 obtain ⟨k0, k1, k2, k3, k4, k5, _⟩ := ai eW
 have zg' := (al eB)
 have zw' := (al eW)
 clear hwB eB hRB hDB hbB eW dX Z9 R9 DWo DW EW Hc
 go_wp2_with fail
 refine (aq x _ _ _ DX.out DB.out.wdB).mono ?_
 rintro e w14 ⟨rfl, hb14⟩
 go_wp2_with fail
 go_ret
 exact ⟨rfl, bt HbB.out hb14⟩
theorem iU (os : Os) (started : os.Started) (H : Type) (enc : TypeId × Value → H) :
  ReturnsInHanded {} Tryz.checked os 8 .any (fun w args => (Rows.fnWorldLoseSpec.pre enc Tryz.prog Tryz.f8 [] false w args ∧ laidMetH Tryz.prog bN w) ∧ sizedMet enc Tryz.prog Tryz.f8 (OpenSpec.ofChange Rows.fnWorldLoseSpec) false w args) (Rows.fnWorldLoseSpec.post enc Tryz.prog Tryz.f8 false true false false) := by
 refine returnsInHanded_of_change_and (C := Tryz.checked) (X := fun w _ => laidMetH Tryz.prog bN w) (fun _ _ _ hh h => h.of_heap hh) du started (by kernel_rfl) Tryz.func8
  (ChangeSpec.witness_at (enc := enc) (C := Tryz.checked) (os := os) (X := fun w _ => laidMetH Tryz.prog bN w) false (cG os) #[.slice none 0 0, .slice none 0 0] 8 rfl (by kernel_rfl) (by kernel_rfl) (by kernel_rfl) (by kernel_rfl) (by kernel_rfl) (bx os _)) ?_
 intro W base args ds gs before hval0 hW _ _ hL _
 have hg := bi hL
 have hval : ∀ (j : Nat) t v, Tryz.f8.params[j]? = some t → args[j]? = some v → Value.okWide Tryz.prog W .any base t v := hval0
 have hW' := hW
 obtain ⟨p, q, hA0, hV, rfl, hfz, hnd⟩ := hW
 have hA : DataW.TrodAll enc Tryz.prog W 0 (fun _ => true) true Tryz.f8.params.toList args.toList ds p := hA0
 rw [Tryz.params8] at hA hval
 obtain ⟨v0, vs0, d0, ds0, p0, q0, hargs, rfl, rfl, h0, r0⟩ := trodAll_cons hA
 obtain ⟨v1, vs1, d1, ds1, p1, q1, rfl, rfl, rfl, h1, r1⟩ := trodAll_cons r0
 obtain ⟨rfl, rfl, rfl⟩ := trodAll_nil r1
 obtain rfl : args = #[v0, v1] := by cases args; simp_all
 obtain ⟨rfl, rfl⟩ : gs = [] ∧ q = [] := by
  cases gs with
  | nil => exact ⟨rfl, hV⟩
  | cons g r => exact absurd hV (by intro h; cases h)
 have k0 := h0
 have lt0 : ∀ x ∈ p0, x.block < W.heap.size := by obtain ⟨m, hm⟩ := k0; exact DataW.trod_lt m _ _ _ hm
 obtain ⟨xs0, s0, f0⟩ := bG aZ Tryz.underlying22 (hval 0 22 v0 rfl rfl) h0
 have k1 := h1
 have lt1 : ∀ x ∈ p1, x.block < W.heap.size := by obtain ⟨m, hm⟩ := k1; exact DataW.trod_lt m _ _ _ hm
 obtain ⟨xs1, s1, f1⟩ := bG aZ Tryz.underlying22 (hval 1 22 v1 rfl rfl) h1
 clear hA0 hval0
 refine (FnWorldLose_c v0 xs0 v1 xs1 W hg s0 f0 s1 f1).mono fun e W' ⟨he, bel⟩ => ?_
 subst he
 exact ⟨_, rfl, _, _, _, [], _, [], hW', trodAll_mk1 (shut_bool Tryz.underlying4 _), (trodAll_cons_mk (Below.trod bS (by kernel_rfl) (of_decide_eq_true (by kernel_rfl)) k0 bel lt0) (trodAll_cons_mk (Below.trod bS (by kernel_rfl) (of_decide_eq_true (by kernel_rfl)) k1 bel lt1) trodAll_mk0)), rfl, bel.frame _, fun h => by cases h⟩
theorem jE : joinedFacts Tryz.prog 8 Tryz.f8 Rows.fnWorldLoseSpec Rows.fnWorldLoseRow = true := by
 unfold joinedFacts
 simp only [Bool.and_eq_true]
 repeat' apply And.intro
 ·as_aux_lemma => kernel_rfl
 ·as_aux_lemma => kernel_rfl
 ·as_aux_lemma => kernel_rfl
 ·as_aux_lemma => kernel_rfl
 ·as_aux_lemma => kernel_rfl
 ·as_aux_lemma => kernel_rfl
 ·as_aux_lemma => kernel_rfl
 ·as_aux_lemma => kernel_rfl
 ·as_aux_lemma => kernel_rfl
 ·as_aux_lemma => kernel_rfl
 ·as_aux_lemma => kernel_rfl
 ·as_aux_lemma => kernel_rfl
 ·as_aux_lemma => kernel_rfl
 ·as_aux_lemma => kernel_rfl
 ·as_aux_lemma => kernel_rfl
 ·as_aux_lemma => kernel_rfl
 ·as_aux_lemma => kernel_rfl
 ·as_aux_lemma => kernel_rfl
 ·as_aux_lemma => kernel_rfl
 ·as_aux_lemma => kernel_rfl
 ·as_aux_lemma => kernel_rfl
 ·as_aux_lemma => kernel_rfl
 ·as_aux_lemma => kernel_rfl
 ·as_aux_lemma => kernel_rfl
 ·as_aux_lemma => kernel_rfl
 ·exact ci
 ·rw [cj]; rfl
 ·rw [cM]; rfl
 ·as_aux_lemma => kernel_rfl
 ·as_aux_lemma => kernel_rfl
 ·as_aux_lemma => kernel_rfl
 ·as_aux_lemma => kernel_rfl
theorem jF : Tryz.prog.funcNamed Rows.fnWorldLoseRow.func = some 8 := by kernel_rfl
theorem kC : Tryz.f8.isWrapper Tryz.prog Rows.fnWorldLoseRow.wrapper Rows.fnWorldLoseRow.mainSum := (by unfold Func.isWrapper; first | (rw [if_pos (by decide +kernel)]; kernel_rfl) | (rw [if_neg (by decide +kernel)]; exact ⟨rfl, rfl⟩))
theorem kB : Rows.fnWorldLoseRow.holds Tryz.pinned (OpenSpec.ofChange Rows.fnWorldLoseSpec) :=
 OpenClaim.holds_of_wide (p := Tryz.pinned) 8 Tryz.f8 rfl rfl rfl rfl rfl rfl rfl ⟨rfl, rfl, rfl, rfl, rfl⟩ rfl rfl rfl rfl rfl jF Tryz.func8 jE
  (of_decide_eq_true (by kernel_rfl)) kC
  (fun os started H enc _ => iU os started H enc)
theorem kA : Tryz.prog.mainIs = some ((true, "0b88574e3966f29a5700fde5310b4a9d73255c860e3cfbe123706b230b6b56c3").1, (true, "0b88574e3966f29a5700fde5310b4a9d73255c860e3cfbe123706b230b6b56c3").2.toList) := by
 unfold Program.mainIs
 rw [dL, String.toList_ofList, cY, ax dY (by kernel_rfl), ax dZ (by kernel_rfl), ax d7 (by kernel_rfl)]
 generalize wordsSigns dN = ws
 kernel_rfl
theorem FnWorldLose_holds : Rows.FnWorldLoseCardSaid :=
 Claim7.holds_tied_plain_at .later [] [.handle] true (true, "0b88574e3966f29a5700fde5310b4a9d73255c860e3cfbe123706b230b6b56c3") true
  kB (fun _ h => by cases h) (by kernel_rfl) (fun _ h => by cases h) fnWorldLose_row_tie rfl ⟨rfl, rfl⟩ kA rfl
  (fun f fn hf hfn => by
   obtain rfl : f = 8 := Option.some.inj ((show Tryz.prog.funcNamed Rows.fnWorldLoseRow.func = some 8 by kernel_rfl).symm.trans hf) |>.symm
   obtain rfl : fn = Tryz.f8 := (Option.some.inj (Tryz.func8.symm.trans hfn)).symm
   exact ⟨by kernel_rfl, fun j t ht => by
    rw [Tryz.params8] at ht
    rcases j with _ | _ | j
    all_goals (first | (simp at ht; done) | (simp at ht; subst ht; exact (show Tryz.prog.wantsStandIn _ = false by kernel_rfl)))⟩)
  (by kernel_rfl)
#print axioms FnWorldLose_holds
end
end Go.Proofs.YtolgbefghbddeaaGreatDoor
