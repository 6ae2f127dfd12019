/- A change turns one number of a packet's header, and a packet that is changed already not at all. No condition. -/
import Derived.Deep.DeepCutAuto
import Derived.Test.YtolgbefghbddeaaGreatDoorM35
import Derived.Test.YtolgbefghbddeaaGreatDoorM36
set_option linter.unusedVariables false
set_option linter.unusedSimpArgs false
set_option maxHeartbeats 4000000
set_option maxRecDepth 100000
namespace Go.Proofs.YtolgbefghbddeaaGreatDoor
open Go Go.RowKit
section
open Go.ChangeShapes Go.WideShapes Go.ChangeAt
def nN (a b : Nat) : Int := if a < b then 1 else 0
theorem FnWorldChange_c (v0 : Value) (xs0 : List Int) (v0' : Value) (xs1 : List Int) (w : World) (hg : kG w) (s0 : SlB cR w.heap.size w v0 xs0) (hx0 : ∀ x ∈ xs0, (Lit.int .u8 x).wf = true) (s1' : SlB cR w.heap.size w v0' xs1) (_ : ∀ x ∈ xs1, (Lit.int .u8 x).wf = true) :
  Calls Tryz.prog 9 #[v0, v0'] w (ok true w.heap.size w) := by
 have hw0 : 0 < w.heap.size := World.block_lt_of_cell? _ _ hg
 have Hg := hid (fun (wx : World) (hb : Below w.heap.size w wx) => show dj wx from (hb.cell (p := ⟨0, 0, none⟩) hw0).trans hg)
 have HX := hid (fun x hx => gZ (hx0 x hx))
 obtain ⟨A, c, rfl, _, _, _⟩ := s0.form
 obtain ⟨A', c', rfl, _, _, _⟩ := s1'.form
 have S0 := hid s0
 clear hg s0 hx0 s1'
 by_cases hl : 1048576 < xs0.length
 ·go_enter Tryz.func9, Tryz.ntmps9
  go_wp2
  go_ret
  exact ⟨rfl, ah⟩
 by_cases hl' : 1048576 < xs1.length
 ·go_enter Tryz.func9, Tryz.ntmps9
  go_wp2
  go_ret
  exact ⟨rfl, ah⟩
 go_enter Tryz.func9, Tryz.ntmps9
 go_wp2_with fail
 refine (bO _ xs0 _ S0.out HX.out).mono ?_
 rintro e w1 ⟨v1, x, ev, rfl, d1, hgl, hb1⟩
 obtain ⟨A1, c1, A1b, c1b, A1c, c1c, A1d, c1d, rfl⟩ := d1.form
 have D1 := hid d1; have Hc := hid hb1; have Hgl := hid hgl
 clear d1 hb1 S0 HX hgl
 go_upto_region 4 with fail
 generalize hgw : World.alloc (World.alloc w1 _) _ = w2
 obtain ⟨e2, e2', hb2, s2⟩ := fI hgw
 have EW := hid e2; have EE := hid e2'; have DW := hid (D1.out.go hb2)
 replace Hc := hid (bt Hc.out hb2)
 clear hgw e2 e2' hb2 D1
 obtain ⟨k0, k1, k2, k3, k4, k5, _⟩ := ai EW.out
 have zw := (al EW.out)
 obtain ⟨j0, j1, j2, j3, _⟩ := aO EE.out
 have ze := (al EE.out)
 obtain ⟨y, hy⟩ : ∃ y, y = aW x ev := ⟨_, rfl⟩
 have Hy := hid hy
 clear hy
 go_wp2_with fail
 refine (bE x _ ev _ (Hg.out _ Hc.out) DW.out.wdB Hgl.out).mono ?_
 rw [← Hy.out]
 rintro e w3 ⟨a3, b3, c3, d3, rfl, n3, hb3⟩
 obtain ⟨A3, p3, A3b, p3b, A3c, p3c, A3d, p3d, rfl, rfl, rfl, rfl⟩ := aD n3
 have N3 := hid n3
 replace Hc := hid (bt Hc.out hb3)
 replace EW := hid (ab hb3 EW.out)
 replace EE := hid (ab hb3 EE.out)
 replace DW := hid (DW.out.go hb3)
 have s3 := hb3.size
 clear n3 hb3 k0 k1 k2 k3 k4 k5 j0 j1 j2 j3 zw ze
 go_upto_region 5 with fail
 generalize hgw : World.alloc w3 _ = w4
 obtain ⟨e4, r4, hb4, _, s4⟩ := bK N3.out (Below.refl w3.heap.size _) (Nat.le_refl _) hgw
 have EO := hid e4; have DO := hid (WdR.of_wdB (R := fun _ => True) r4.wdB (fun _ _ => trivial))
 replace Hc := hid (bt Hc.out hb4)
 replace EW := hid (ab hb4 EW.out)
 replace EE := hid (ab hb4 EE.out)
 replace DW := hid (DW.out.go hb4)
 clear hgw e4 r4 hb4 N3
 obtain ⟨k0, k1, k2, k3, k4, k5, _⟩ := ai EW.out
 have zw := (al EW.out)
 obtain ⟨j0, j1, j2, j3, _⟩ := aO EE.out
 have ze := (al EE.out)
 go_wp2_with fail
 refine (ei x _ ev _ DW.out.wdB Hgl.out).mono ?_
 rw [← Hy.out]
 rintro e w5 ⟨a5, b5, c5, d5, rfl, n5, hb5⟩
 obtain ⟨A5, p5, A5b, p5b, A5c, p5c, A5d, p5d, rfl, rfl, rfl, rfl⟩ := aD n5
 have N5 := hid n5
 replace Hc := hid (bt Hc.out hb5)
 replace EW := hid (ab hb5 EW.out)
 replace EE := hid (ab hb5 EE.out)
 replace DW := hid (DW.out.go hb5)
 replace EO := hid (ab hb5 EO.out)
 replace DO := hid (DO.out.go hb5)
 have s5 := hb5.size
 clear n5 hb5 k0 k1 k2 k3 k4 k5 j0 j1 j2 j3 zw ze
 go_upto_region 6 with fail
 generalize hgw : World.alloc w5 _ = w6
 obtain ⟨e6, r6, hb6, _, s6⟩ := bK N5.out (Below.refl w5.heap.size _) (Nat.le_refl _) hgw
 have ET := hid e6; have DT := hid (WdR.of_wdB (R := fun _ => True) r6.wdB (fun _ _ => trivial))
 replace Hc := hid (bt Hc.out hb6)
 replace EW := hid (ab hb6 EW.out)
 replace EE := hid (ab hb6 EE.out)
 replace DW := hid (DW.out.go hb6)
 replace EO := hid (ab hb6 EO.out)
 replace DO := hid (DO.out.go hb6)
 clear hgw e6 r6 hb6 N5
 obtain ⟨o0, o1, o2, o3, o4, o5, _⟩ := ai EO.out
 have zo := (al EO.out)
 obtain ⟨t0, t1, t2, t3, t4, t5, _⟩ := ai ET.out
 have zt := (al ET.out)
 go_wp2_with fail
 refine (aq y _ _ _ DO.out.wdB DT.out.wdB).mono ?_
 rintro e w7 ⟨rfl, hb7⟩
 replace Hc := hid (bt Hc.out hb7)
 replace EW := hid (ab hb7 EW.out)
 replace EE := hid (ab hb7 EE.out)
 replace DW := hid (DW.out.go hb7)
 replace EO := hid (ab hb7 EO.out)
 replace DO := hid (DO.out.go hb7)
 replace ET := hid (ab hb7 ET.out)
 replace DT := hid (DT.out.go hb7)
 have s7 := hb7.size
 clear hb7 o0 o1 o2 o3 o4 o5 t0 t1 t2 t3 t4 t5 zo zt
 obtain ⟨k0, k1, k2, k3, k4, k5, _⟩ := ai EW.out
 have zw := (al EW.out)
 go_wp2_with fail
 refine (cQ x _ _ DW.out.wdB Hgl.out).mono ?_
 rintro e w8 ⟨rfl, hb8⟩
 replace Hc := hid (bt Hc.out hb8)
 replace EW := hid (ab hb8 EW.out)
 replace EE := hid (ab hb8 EE.out)
 replace DW := hid (DW.out.go hb8)
 replace EO := hid (ab hb8 EO.out)
 replace DO := hid (DO.out.go hb8)
 replace ET := hid (ab hb8 ET.out)
 replace DT := hid (DT.out.go hb8)
 have s8 := hb8.size
 clear hb8 k0 k1 k2 k3 k4 k5 zw
 cases hv : wdB x with
 | false =>
  obtain ⟨o0, o1, o2, o3, o4, o5, _⟩ := ai EO.out
  have zo := (al EO.out)
  obtain ⟨t0, t1, t2, t3, t4, t5, _⟩ := ai ET.out
  have zt := (al ET.out)
  go_wp2_with fail
  refine (aq y _ _ _ DO.out.wdB DT.out.wdB).mono ?_
  rintro e w9 ⟨rfl, hb9⟩
  go_wp2_with fail
  go_ret
  exact ⟨rfl, bt Hc.out hb9⟩
 | true =>
 have Hv := hid (cD.1 hv)
 have Hvy := hid (show VD 0 y by rw [Hy.out]; exact dC Hv.out ev)
 have Hgly := hid (show y.got.length ≤ 1073741824 by have := Hvy.out.gl; omega)
 clear hv
 by_cases hn0 : x.net.length = 0
 ·have f1 : ((x.net.length : Int) == 0) = true := by rw [hn0]; rfl
  clear hn0
  obtain ⟨k0, k1, k2, k3, k4, k5, _⟩ := ai EW.out
  have zw := (al EW.out)
  obtain ⟨o0, o1, o2, o3, o4, o5, _⟩ := ai EO.out
  have zo := (al EO.out)
  obtain ⟨t0, t1, t2, t3, t4, t5, _⟩ := ai ET.out
  have zt := (al ET.out)
  go_wp2_with fail
  refine (aq y _ _ _ DO.out.wdB DT.out.wdB).mono ?_
  rintro e w9 ⟨rfl, hb9⟩
  go_wp2_with fail
  go_ret
  exact ⟨rfl, bt Hc.out hb9⟩
 have f1 : ((x.net.length : Int) == 0) = false := by simp; intro h; exact hn0 (by rw [h]; rfl)
 have f1n : ¬ (x.net.length : Int) = 0 := by omega
 have f1m : ¬ x.net = [] := fun h => hn0 (by rw [h]; rfl)
 have hnn := Hv.out.nn
 obtain ⟨kb, hk2, hkb, hkb'⟩ := fS xs1.length x.net.length (by omega)
 clear hn0
 obtain ⟨kc, hk4, hkc, hkc'⟩ := fS xs1.length 9 (by decide)
 obtain ⟨kd, hk5, hkd, hkd'⟩ := fS xs0.length 9 (by decide)
 have hk4 : (xs1.length : Int).tmod 9 = (kc : Int) := hk4
 have hkc : (xs1.length : Int) % 9 = (kc : Int) := hkc
 have hk5 : (xs0.length : Int).tmod 9 = (kd : Int) := hk5
 have hkd : (xs0.length : Int) % 9 = (kd : Int) := hkd
 obtain ⟨t, ht⟩ := am (xs := x.net) (k := kb) hkb'
 obtain ⟨z, hz⟩ : ∃ z, z = aW x ⟨5, kb, kc, 0⟩ := ⟨_, rfl⟩
 have hch := oZ Hv.out ht hkc' (kd : Int)
 rw [← hz] at hch
 have Hzz := hid (show aW z ⟨5, kb, kd, 0⟩ = z by
  cases h : t.ch with
  | true =>
   have h1 := hch.1 h
   rw [h1]
   exact (oZ Hv.out ht hkd' 0).1 h
  | false => exact (hch.2 h).2)
 have Hvz := hid (show VD 0 z by rw [hz]; exact dC Hv.out _)
 have Hch := hid hch
 have Ht := hid ht; have Hz := hid hz
 clear EE EO DO ET DT ht hz hch
 obtain ⟨k0, k1, k2, k3, k4, k5, _⟩ := ai EW.out
 have zw := (al EW.out)
 go_wp2_with fail
 refine (bE x _ ⟨5, (kb : Int), (kc : Int), 0⟩ _ (Hg.out _ Hc.out) DW.out.wdB Hgl.out).mono ?_
 rw [← Hz.out]
 rintro e w9 ⟨a9, b9, c9, d9, rfl, n9, hb9⟩
 obtain ⟨A9, p9, A9b, p9b, A9c, p9c, A9d, p9d, rfl, rfl, rfl, rfl⟩ := aD n9
 have N9 := hid n9
 replace Hc := hid (bt Hc.out hb9)
 replace EW := hid (ab hb9 EW.out)
 replace DW := hid (DW.out.go hb9)
 have s9 := hb9.size
 clear n9 hb9 k0 k1 k2 k3 k4 k5 zw
 go_upto_region 10 with fail
 generalize hgw : World.alloc w9 _ = w10
 obtain ⟨e9, r9, hb9, _, s10⟩ := bK N9.out (Below.refl w9.heap.size _) (Nat.le_refl _) hgw
 have Ea := hid e9; have Da := hid (WdR.of_wdB (R := fun _ => True) r9.wdB (fun _ _ => trivial))
 replace Hc := hid (bt Hc.out hb9)
 replace EW := hid (ab hb9 EW.out)
 replace DW := hid (DW.out.go hb9)
 clear hgw e9 r9 hb9 N9
 obtain ⟨o0, o1, o2, o3, o4, o5, _⟩ := ai Ea.out
 have zo := (al Ea.out)
 go_wp2_with fail
 refine (bE z _ ⟨5, (kb : Int), (kd : Int), 0⟩ _ (Hg.out _ Hc.out) Da.out.wdB (by have := Hvz.out.gl; omega)).mono ?_
 rw [Hzz.out]
 rintro e w11 ⟨a9, b9, c9, d9, rfl, n9, hb9⟩
 obtain ⟨A11, p11, A11b, p11b, A11c, p11c, A11d, p11d, rfl, rfl, rfl, rfl⟩ := aD n9
 have N9 := hid n9
 replace Hc := hid (bt Hc.out hb9)
 replace EW := hid (ab hb9 EW.out)
 replace DW := hid (DW.out.go hb9)
 replace Ea := hid (ab hb9 Ea.out)
 replace Da := hid (Da.out.go hb9)
 have s11 := hb9.size
 clear n9 hb9 o0 o1 o2 o3 o4 o5 zo
 go_upto_region 11 with fail
 generalize hgw : World.alloc w11 _ = w12
 obtain ⟨e9, r9, hb9, _, s12⟩ := bK N9.out (Below.refl w11.heap.size _) (Nat.le_refl _) hgw
 have Eb := hid e9; have Db := hid (WdR.of_wdB (R := fun _ => True) r9.wdB (fun _ _ => trivial))
 replace Hc := hid (bt Hc.out hb9)
 replace EW := hid (ab hb9 EW.out)
 replace DW := hid (DW.out.go hb9)
 replace Ea := hid (ab hb9 Ea.out)
 replace Da := hid (Da.out.go hb9)
 clear hgw e9 r9 hb9 N9
 obtain ⟨k0, k1, k2, k3, k4, k5, _⟩ := ai EW.out
 have zw := (al EW.out)
 obtain ⟨o0, o1, o2, o3, o4, o5, _⟩ := ai Ea.out
 have zo := (al Ea.out)
 obtain ⟨_, _, dn, _⟩ := DW.out.wdB.parts
 obtain ⟨b, o, vh, vb, eqA, m1, m2, s1, s2, p0, p1, p2, p3, p4, p5⟩ := dn.tr Ht.out
 subst eqA
 cases hcc : t.ch with
 | true =>
  have hzx := Hch.out.1 hcc
  have Da2 := hid (show WdR (fun _ => True) w12 (.agg #[.slice A9 z.mixes.length p9, .slice A9b z.sent.length p9b, .slice A9c z.net.length p9c, .slice A9d z.got.length p9d, .int .i64 z.made, .int .i64 z.lost]) x by have h := Da.out; rw [hzx] at h ⊢; exact h)
  rw [hcc] at p5
  clear hzx hcc dn
  go_wp2_with fail
  refine (aq x _ _ _ Da2.out.wdB DW.out.wdB).mono ?_
  rintro e w13 ⟨rfl, hb13⟩
  go_wp2_with fail
  go_ret
  exact ⟨rfl, bt Hc.out hb13⟩
 | false =>
 rw [hcc] at p5
 have hzn := (Hch.out.2 hcc).1
 have hpk := Hv.out.nt
 have hpB : pkB t.pk = true := (cL.1 (bT.1 hpk t (List.mem_of_getElem? Ht.out))).2
 have hone := hid (uE hpB hkc')
 have hzl : z.net.length = x.net.length := by rw [hzn]; simp
 have hzt : z.net[kb]? = some ⟨t.mix, iF t.pk kc, true⟩ := by rw [hzn, List.getElem?_set_self hkb']
 have hl9 : t.pk.hd.length = 9 := (aH.1 hpB).2.1.1
 have hl9' : (iF t.pk kc).hd.length = 9 := by simp [iF, hl9]
 have f2 : ((z.net.length : Int) == (x.net.length : Int)) = true := by rw [hzl]; exact beq_self_eq_true _
 have hkz : kb < z.net.length := by omega
 obtain ⟨_, _, dz, _⟩ := Da.out.wdB.parts
 obtain ⟨b', o', uh, ub, eqB, m1', m2', s3, s4, q0, q1, q2, q3, q4, q5⟩ := dz.tr hzt
 subst eqB
 obtain ⟨Ah, ch, rfl, ah3, ah2, _⟩ := s1.form
 obtain ⟨Bh, dh, rfl, bh3, bh2, _⟩ := s3.form
 obtain ⟨Ab, cb, rfl, _, _, _⟩ := s2.form
 obtain ⟨Bb, db, rfl, _, _, _⟩ := s4.form
 have S1 := hid s1; have S3 := hid s3
 have HP := hid (fun (wx : World) (hb : Below w12.heap.size w12 wx) => (And.intro
  (And.intro ((hb.cell (p := ⟨b, o + kb * 6 + 1, none⟩) m2).trans p1) (And.intro ((hb.cell (p := ⟨b, o + kb * 6 + 2, none⟩) m2).trans p2) (And.intro ((hb.cell (p := ⟨b, o + kb * 6 + 3, none⟩) m2).trans p3) ((hb.cell (p := ⟨b, o + kb * 6 + 4, none⟩) m2).trans p4))))
  (And.intro ((hb.cell (p := ⟨b', o' + kb * 6 + 1, none⟩) m2').trans q1) (And.intro ((hb.cell (p := ⟨b', o' + kb * 6 + 2, none⟩) m2').trans q2) (And.intro ((hb.cell (p := ⟨b', o' + kb * 6 + 3, none⟩) m2').trans q3) (And.intro ((hb.cell (p := ⟨b', o' + kb * 6 + 4, none⟩) m2').trans q4) ((hb.cell (p := ⟨b', o' + kb * 6 + 5, none⟩) m2').trans q5)))))))
 have Hl9 := hid hl9; have Hl9' := hid hl9'
 have HZ := hid hzl
 clear hcc hzn hpk hpB hzt hzl hl9 hl9' s1 s2 s3 s4 dn dz p0 p1 p2 p3 p4 q0 q1 q2 q3 q4 q5
 go_wp2_with fail
 go_loopw [12, 13] (fun n i wr => ∃ k : Nat, k ≤ 9 ∧ i = .int .i64 k ∧ n = .int .i64 (nN kc k) ∧ Below w12.heap.size w12 wr) (fun _ i _ => 9 - (intOf i).toNat)
 case atStart => exact ⟨0, by omega, rfl, rfl, ah⟩
 case round =>
  obtain ⟨k, hk, rfl, rfl, hb⟩ := hrel
  have EWr := hid (ab hb EW.out)
  have Ear := hid (ab hb Ea.out)
  have hx12 := HP.out _ hb
  have sr := hb.size
  have s1r := S1.out.go hb; have s3r := S3.out.go hb
  have Hb := hid hb
  clear hb k0 k1 k2 k3 k4 k5 o0 o1 o2 o3 o4 o5
  obtain ⟨k0, k1, k2, k3, k4, k5, _⟩ := ai EWr.out
  obtain ⟨o0, o1, o2, o3, o4, o5, _⟩ := ai Ear.out
  have zwr : w1.heap.size < wr.heap.size := by omega
  have zor : w9.heap.size < wr.heap.size := by omega
  by_cases hlt : k < 9
  ·have hkl : k < t.pk.hd.length := by rw [Hl9.out]; exact hlt
   have hkl' : k < (iF t.pk kc).hd.length := by rw [Hl9'.out]; exact hlt
   obtain ⟨u, hu⟩ := am (xs := t.pk.hd) (k := k) hkl
   obtain ⟨v, hv⟩ := am (xs := (iF t.pk kc).hd) (k := k) hkl'
   have hon := hone.out k hlt
   rw [hu, hv] at hon
   obtain ⟨bh, oh, eqh, _, mh, ph⟩ := s1r.int hu
   obtain ⟨bh', oh', eqh', _, mh', ph'⟩ := s3r.int hv
   subst eqh; subst eqh'
   have HS := hid (fun (wx : World) (hT : Tch [] wr wx) => And.intro (ai (hT.row EWr.out (by simp))) (And.intro (ai (hT.row Ear.out (by simp))) (And.intro (HP.out wx (bt Hb.out hT.nil)) (And.intro ((hT.nil.cell (p := ⟨bh, oh + k, none⟩) mh).trans ph) ((hT.nil.cell (p := ⟨bh', oh' + k, none⟩) mh').trans ph')))))
   clear hu hv hx12 s1r s3r ph ph' EWr Ear
   by_cases hkk : k = kc
   ·have hne : (v != u) = true := by simpa using hon.2 hkk
    have hw1 : IntKind.i64.wrap (nN kc k + 1) = nN kc (k + 1) := by rw [hkk]; unfold nN; rw [if_neg (by omega), if_pos (by omega)]; rfl
    replace hkk := hid hkk
    clear hon
    go_wp2_with fail
    refine rgN [] 21 (by kernel_rfl) rfl (fun | none, _, _, _, _ => id | some _, _, _, _, _ => id) fun wd hHeld hbwd swd => ?_
    simp only [pw]
    refine ag [0, 1, 2, 3, 4, 5, 6, 7, 8, 9, 10, 11, 12, 13, 14, 15, 16, 17, 18, 19, 20] ?_
    iterate 21 (refine ra HS.out rfl (by kernel_rfl) rfl (fun _ f => by go_simp; try with_reducible rfl) ?_; try simp only [pw])
    refine dm (by kernel_rfl) ?_
    have hF := hHeld.nil
    go_wp2_with fail
    go_roundw
    case rel => exact ⟨k + 1, by omega, by go_num, rfl, bt Hb.out hF⟩
    case measure => simp [intOf]; omega
   ·have hne : (v != u) = false := by
     cases h : v != u with
     | false => rfl
     | true => exact absurd (hon.1 (by simpa using h)) hkk
    have hw1 : nN kc (k + 1) = nN kc k := by unfold nN; by_cases h : kc < k; rw [if_pos h, if_pos (by omega)]; rw [if_neg h, if_neg (by omega)]
    have Hw1 := hid hw1
    clear hon hw1
    go_wp2_with fail
    refine rgN [] 21 (by kernel_rfl) rfl (fun | none, _, _, _, _ => id | some _, _, _, _, _ => id) fun wd hHeld hbwd swd => ?_
    simp only [pw]
    refine ag [0, 1, 2, 3, 4, 5, 6, 7, 8, 9, 10, 11, 12, 13, 14, 15, 16, 17, 18, 19, 20] ?_
    iterate 21 (refine ra HS.out rfl (by kernel_rfl) rfl (fun _ f => by go_simp; try with_reducible rfl) ?_; try simp only [pw])
    refine dm (by kernel_rfl) ?_
    have hF := hHeld.nil
    go_wp2_with fail
    go_roundw
    case rel => exact ⟨k + 1, by omega, by go_num, by rw [Hw1.out], bt Hb.out hF⟩
    case measure => simp [intOf]; omega
  ·have hk9 : k = 9 := by omega
   subst hk9
   have hc1 : (nN kc 9 == 1) = true := by unfold nN; rw [if_pos hkc']; rfl
   have Db2 := hid (Db.out.go Hb.out); have Da2 := hid (Da.out.go Hb.out)
   have Ebr := ab Hb.out Eb.out
   obtain ⟨u0, u1, u2, u3, u4, u5, _⟩ := ai Ebr
   have zbr : w11.heap.size < wr.heap.size := by omega
   clear Ebr s1r s3r EWr Ear
   go_wp2_with fail
   refine (aq z _ _ _ Db2.out.wdB Da2.out.wdB).mono ?_
   rintro e w14 ⟨rfl, hb14⟩
   go_wp2_with fail
   go_ret
   exact ⟨rfl, bt (bt Hc.out Hb.out) hb14⟩
theorem gn (os : Os) (started : os.Started) (H : Type) (enc : TypeId × Value → H) :
  ReturnsInHanded {} Tryz.checked os 9 .any (fun w args => (Rows.fnWorldChangeSpec.pre enc Tryz.prog Tryz.f9 [] false w args ∧ laidMetH Tryz.prog bN w) ∧ sizedMet enc Tryz.prog Tryz.f9 (OpenSpec.ofChange Rows.fnWorldChangeSpec) false w args) (Rows.fnWorldChangeSpec.post enc Tryz.prog Tryz.f9 false true false false) := by
 refine returnsInHanded_of_change_and (C := Tryz.checked) (X := fun w _ => laidMetH Tryz.prog bN w) (fun _ _ _ hh h => h.of_heap hh) du started (by kernel_rfl) Tryz.func9
  (ChangeSpec.witness_at (enc := enc) (C := Tryz.checked) (os := os) (X := fun w _ => laidMetH Tryz.prog bN w) false (cG os) #[.slice none 0 0, .slice none 0 0] 8 rfl (by kernel_rfl) (by kernel_rfl) (by kernel_rfl) (by kernel_rfl) (by kernel_rfl) (bx os _)) ?_
 intro W base args ds gs before hval0 hW _ _ hL _
 have hg := bi hL
 have hval : ∀ (j : Nat) t v, Tryz.f9.params[j]? = some t → args[j]? = some v → Value.okWide Tryz.prog W .any base t v := hval0
 have hW' := hW
 obtain ⟨p, q, hA0, hV, rfl, hfz, hnd⟩ := hW
 have hA : DataW.TrodAll enc Tryz.prog W 0 (fun _ => true) true Tryz.f9.params.toList args.toList ds p := hA0
 rw [Tryz.params9] at hA hval
 obtain ⟨v0, vs0, d0, ds0, p0, q0, hargs, rfl, rfl, h0, r0⟩ := trodAll_cons hA
 obtain ⟨v1, vs1, d1, ds1, p1, q1, rfl, rfl, rfl, h1, r1⟩ := trodAll_cons r0
 obtain ⟨rfl, rfl, rfl⟩ := trodAll_nil r1
 obtain rfl : args = #[v0, v1] := by cases args; simp_all
 obtain ⟨rfl, rfl⟩ : gs = [] ∧ q = [] := by
  cases gs with
  | nil => exact ⟨rfl, hV⟩
  | cons g r => exact absurd hV (by intro h; cases h)
 have k0 := h0
 have lt0 : ∀ x ∈ p0, x.block < W.heap.size := by obtain ⟨m, hm⟩ := k0; exact DataW.trod_lt m _ _ _ hm
 obtain ⟨xs0, s0, f0⟩ := bG aZ Tryz.underlying22 (hval 0 22 v0 rfl rfl) h0
 have k1 := h1
 have lt1 : ∀ x ∈ p1, x.block < W.heap.size := by obtain ⟨m, hm⟩ := k1; exact DataW.trod_lt m _ _ _ hm
 obtain ⟨xs1, s1, f1⟩ := bG aZ Tryz.underlying22 (hval 1 22 v1 rfl rfl) h1
 clear hA0 hval0
 refine (FnWorldChange_c v0 xs0 v1 xs1 W hg s0 f0 s1 f1).mono fun e W' ⟨he, bel⟩ => ?_
 subst he
 exact ⟨_, rfl, _, _, _, [], _, [], hW', trodAll_mk1 (shut_bool Tryz.underlying4 _), (trodAll_cons_mk (Below.trod bS (by kernel_rfl) (of_decide_eq_true (by kernel_rfl)) k0 bel lt0) (trodAll_cons_mk (Below.trod bS (by kernel_rfl) (of_decide_eq_true (by kernel_rfl)) k1 bel lt1) trodAll_mk0)), rfl, bel.frame _, fun h => by cases h⟩
theorem ik : joinedFacts Tryz.prog 9 Tryz.f9 Rows.fnWorldChangeSpec Rows.fnWorldChangeRow = true := by
 unfold joinedFacts
 simp only [Bool.and_eq_true]
 repeat' apply And.intro
 ·as_aux_lemma => kernel_rfl
 ·as_aux_lemma => kernel_rfl
 ·as_aux_lemma => kernel_rfl
 ·as_aux_lemma => kernel_rfl
 ·as_aux_lemma => kernel_rfl
 ·as_aux_lemma => kernel_rfl
 ·as_aux_lemma => kernel_rfl
 ·as_aux_lemma => kernel_rfl
 ·as_aux_lemma => kernel_rfl
 ·as_aux_lemma => kernel_rfl
 ·as_aux_lemma => kernel_rfl
 ·as_aux_lemma => kernel_rfl
 ·as_aux_lemma => kernel_rfl
 ·as_aux_lemma => kernel_rfl
 ·as_aux_lemma => kernel_rfl
 ·as_aux_lemma => kernel_rfl
 ·as_aux_lemma => kernel_rfl
 ·as_aux_lemma => kernel_rfl
 ·as_aux_lemma => kernel_rfl
 ·as_aux_lemma => kernel_rfl
 ·as_aux_lemma => kernel_rfl
 ·as_aux_lemma => kernel_rfl
 ·as_aux_lemma => kernel_rfl
 ·as_aux_lemma => kernel_rfl
 ·as_aux_lemma => kernel_rfl
 ·exact ci
 ·rw [cj]; rfl
 ·rw [cM]; rfl
 ·as_aux_lemma => kernel_rfl
 ·as_aux_lemma => kernel_rfl
 ·as_aux_lemma => kernel_rfl
 ·as_aux_lemma => kernel_rfl
theorem il : Tryz.prog.funcNamed Rows.fnWorldChangeRow.func = some 9 := by kernel_rfl
theorem iO : Tryz.f9.isWrapper Tryz.prog Rows.fnWorldChangeRow.wrapper Rows.fnWorldChangeRow.mainSum := (by unfold Func.isWrapper; first | (rw [if_pos (by decide +kernel)]; kernel_rfl) | (rw [if_neg (by decide +kernel)]; exact ⟨rfl, rfl⟩))
theorem iN : Rows.fnWorldChangeRow.holds Tryz.pinned (OpenSpec.ofChange Rows.fnWorldChangeSpec) :=
 OpenClaim.holds_of_wide (p := Tryz.pinned) 9 Tryz.f9 rfl rfl rfl rfl rfl rfl rfl ⟨rfl, rfl, rfl, rfl, rfl⟩ rfl rfl rfl rfl rfl il Tryz.func9 ik
  (of_decide_eq_true (by kernel_rfl)) iO
  (fun os started H enc _ => gn os started H enc)
theorem iM : Tryz.prog.mainIs = some ((true, "0b88574e3966f29a5700fde5310b4a9d73255c860e3cfbe123706b230b6b56c3").1, (true, "0b88574e3966f29a5700fde5310b4a9d73255c860e3cfbe123706b230b6b56c3").2.toList) := by
 unfold Program.mainIs
 rw [dL, String.toList_ofList, cY, ax dY (by kernel_rfl), ax dZ (by kernel_rfl), ax d7 (by kernel_rfl)]
 generalize wordsSigns dN = ws
 kernel_rfl
theorem FnWorldChange_holds : Rows.FnWorldChangeCardSaid :=
 Claim7.holds_tied_plain_at .later [] [.handle] true (true, "0b88574e3966f29a5700fde5310b4a9d73255c860e3cfbe123706b230b6b56c3") true
  iN (fun _ h => by cases h) (by kernel_rfl) (fun _ h => by cases h) fnWorldChange_row_tie rfl ⟨rfl, rfl⟩ iM rfl
  (fun f fn hf hfn => by
   obtain rfl : f = 9 := Option.some.inj ((show Tryz.prog.funcNamed Rows.fnWorldChangeRow.func = some 9 by kernel_rfl).symm.trans hf) |>.symm
   obtain rfl : fn = Tryz.f9 := (Option.some.inj (Tryz.func9.symm.trans hfn)).symm
   exact ⟨by kernel_rfl, fun j t ht => by
    rw [Tryz.params9] at ht
    rcases j with _ | _ | j
    all_goals (first | (simp at ht; done) | (simp at ht; subst ht; exact (show Tryz.prog.wantsStandIn _ = false by kernel_rfl)))⟩)
  (by kernel_rfl)
#print axioms FnWorldChange_holds
end
end Go.Proofs.YtolgbefghbddeaaGreatDoor
