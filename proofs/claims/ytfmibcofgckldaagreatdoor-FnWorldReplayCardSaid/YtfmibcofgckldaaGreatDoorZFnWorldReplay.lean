/- Of what the program plays: a doubled packet is taken once; what comes second is refused and counted lost. No condition. -/
import Derived.Deep.DeepCutAuto
import Derived.Test.YtfmibcofgckldaaGreatDoorM36
import Derived.Test.YtfmibcofgckldaaGreatDoorM37
import Derived.Test.YtfmibcofgckldaaGreatDoorM38
set_option linter.unusedVariables false
set_option linter.unusedSimpArgs false
set_option maxHeartbeats 4000000
set_option maxRecDepth 100000
namespace Go.Proofs.YtfmibcofgckldaaGreatDoor
open Go Go.RowKit
section
open Go.ChangeShapes Go.WideShapes Go.ChangeAt
theorem FnWorldReplay_c (v0 : Value) (xs0 : List Int) (w : World) (hg : uE w) (s0 : SlB g8 w.heap.size w v0 xs0) (hx0 : ∀ x ∈ xs0, (Lit.int .u8 x).wf = true) :
  Calls Tryz.prog 7 #[v0] w (ok true w.heap.size w) := by
 have hw0 : 0 < w.heap.size := World.block_lt_of_cell? _ _ hg
 have Hg := hid (fun (wx : World) (hb : Below w.heap.size w wx) => show eQ wx from (hb.cell (p := ⟨0, 0, none⟩) hw0).trans hg)
 have HX := hid (fun x hx => xi (hx0 x hx))
 obtain ⟨A, c, rfl, _, _, _⟩ := s0.form
 have S0 := hid s0
 clear hg s0 hx0
 by_cases hl : 1048576 < xs0.length
 ·go_enter Tryz.func7, Tryz.ntmps7
  go_wp2
  go_ret
  exact ⟨rfl, Below.refl _ _⟩
 go_enter Tryz.func7, Tryz.ntmps7
 go_wp2_with fail
 refine (b9 _ xs0 _ S0.out HX.out).mono ?_
 rintro e w1 ⟨v1, evs, rfl, n1, hb1⟩
 obtain ⟨A1, c1, rfl, _, _, _⟩ := n1.slB.form
 have D1 := hid n1.slB
 have Hc := hid hb1
 obtain ⟨y, hy⟩ : ∃ y, plW evs = y := ⟨_, rfl⟩
 obtain ⟨pb, hp⟩ : ∃ pb, decide (evs.length ≤ 80) = pb := ⟨_, rfl⟩
 have hpp : (pb != pb) = false := bne_self_eq_false _
 have hpe : (pb == pb) = true := beq_self_eq_true _
 have Hy := hid hy; have Hp := hid hp
 clear n1 hb1 hy hp S0 HX
 go_wp2_with fail
 refine (vE evs _ _ (Hg.out _ Hc.out) D1.out).mono ?_
 unfold PyOut
 rw [Hy.out, Hp.out]
 rintro e w2 ⟨a2, b2, c2, d2, rfl, n2, hb2⟩
 obtain ⟨A2, p2, A2b, p2b, A2c, p2c, A2d, p2d, rfl, rfl, rfl, rfl⟩ := cL n2
 have N2 := hid n2
 replace D1 := hid (D1.out.go hb2)
 replace Hc := hid (bt Hc.out hb2)
 clear n2 hb2
 go_upto_region 5 with fail
 generalize hgw : World.alloc w2 _ = w3
 obtain ⟨e3, r3, hb3, _, s3⟩ := vQ N2.out (Below.refl w2.heap.size _) (Nat.le_refl _) hgw
 have E4 := hid e3; have D4 := hid (WdR.of_wdB (R := fun _ => True) r3.wdB (fun _ _ => trivial))
 replace D1 := hid (D1.out.go hb3)
 replace Hc := hid (bt Hc.out hb3)
 clear hgw e3 r3 hb3 N2
 go_wp2_with fail
 refine (vR evs _ _ D1.out).mono ?_
 unfold PyOut
 rw [Hy.out, Hp.out]
 rintro e w4 ⟨a4, b4, c4, d4, rfl, n4, hb4⟩
 obtain ⟨A4, p4, A4b, p4b, A4c, p4c, A4d, p4d, rfl, rfl, rfl, rfl⟩ := cL n4
 have N4 := hid n4
 replace Hc := hid (bt Hc.out hb4)
 replace E4 := hid (heap_go hb4 E4.out)
 replace D4 := hid (D4.out.go hb4)
 have s4 := hb4.size
 clear n4 hb4 D1
 go_upto_region 6 with fail
 generalize hgw : World.alloc w4 _ = w5
 obtain ⟨e5, r5, hb5, _, s5⟩ := vQ N4.out (Below.refl w4.heap.size _) (Nat.le_refl _) hgw
 have E6 := hid e5; have D6 := hid (WdR.of_wdB (R := fun _ => True) r5.wdB (fun _ _ => trivial))
 replace Hc := hid (bt Hc.out hb5)
 replace E4 := hid (heap_go hb5 E4.out)
 replace D4 := hid (D4.out.go hb5)
 clear hgw e5 r5 hb5 N4
 obtain ⟨k0, k1, k2, k3, k4, k5, _⟩ := al E4.out
 obtain ⟨q0, q1, q2, q3, q4, q5, _⟩ := al E6.out
 have z4 : w2.heap.size < w5.heap.size := by omega
 have z6 : w4.heap.size < w5.heap.size := by omega
 go_wp2_with fail
 refine (a9 y _ _ _ D4.out.wdB D6.out.wdB).mono ?_
 rintro e w7 ⟨rfl, hb7⟩
 replace Hc := hid (bt Hc.out hb7)
 replace E4 := hid (heap_go hb7 E4.out)
 replace D4 := hid (D4.out.go hb7)
 replace E6 := hid (heap_go hb7 E6.out)
 replace D6 := hid (D6.out.go hb7)
 have s7 := hb7.size
 clear hb7 k0 k1 k2 k3 k4 k5 q0 q1 q2 q3 q4 q5 z4 z6
 obtain ⟨k0, k1, k2, k3, k4, k5, _⟩ := al E4.out
 have z4 : w2.heap.size < w7.heap.size := by omega
 cases pb with
 | false =>
  obtain ⟨q0, q1, q2, q3, q4, q5, _⟩ := al E6.out
  have z6 : w4.heap.size < w7.heap.size := by omega
  go_wp2_with fail
  refine (a9 y _ _ _ D4.out.wdB D6.out.wdB).mono ?_
  rintro e w8 ⟨rfl, hb8⟩
  go_wp2_with fail
  go_ret
  exact ⟨rfl, bt Hc.out hb8⟩
 | true =>
 replace Hy := hid (Hy.out.symm.trans (g9 Hp.out))
 have Hv := hid (show VD 0 y by rw [Hy.out]; exact vT evs)
 have Hgl := hid (show y.got.length ≤ 1073741824 by have := Hv.out.gl; omega)
 have hgn : y.net.length ≤ 10 := Hv.out.nn
 by_cases hn0 : y.net.length = 0 ∨ y.net.length = 10
 ·obtain ⟨q0, q1, q2, q3, q4, q5, _⟩ := al E6.out
  have z6 : w4.heap.size < w7.heap.size := by omega
  have Hq := hid hn0
  by_cases hn1 : y.net.length = 0
  ·have f1 : ((y.net.length : Int) == 0) = true := by rw [hn1]; rfl
   clear hn0 hn1
   go_wp2_with fail
   refine (a9 y _ _ _ D4.out.wdB D6.out.wdB).mono ?_
   rintro e w8 ⟨rfl, hb8⟩
   go_wp2_with fail
   go_ret
   exact ⟨rfl, bt Hc.out hb8⟩
  ·have f1 : ((y.net.length : Int) == 0) = false := by simp; intro h; exact hn1 (by rw [h]; rfl)
   have f2 : ((y.net.length : Int) == 10) = true := by simp; omega
   clear hn0 hn1
   go_wp2_with fail
   refine (a9 y _ _ _ D4.out.wdB D6.out.wdB).mono ?_
   rintro e w8 ⟨rfl, hb8⟩
   go_wp2_with fail
   go_ret
   exact ⟨rfl, bt Hc.out hb8⟩
 have f1 : ((y.net.length : Int) == 0) = false := by simp; intro h; exact hn0 (.inl (by rw [h]; rfl))
 have f2 : ((y.net.length : Int) == 10) = false := by simp; intro h; exact hn0 (.inr (by omega))
 obtain ⟨t0, ht0⟩ : ∃ t, (b6 evs).net[0]? = some t := by
  rw [← Hy.out]
  exact ah (by omega)
 obtain ⟨xx, yy, zz, hx, hyy, hzz, hvx, hvy, hvz, hxm, hzl, hpz⟩ := xP (of_decide_eq_true Hp.out) ht0 (by rw [← Hy.out]; omega)
 rw [← Hy.out] at hx hyy hxm
 have Hx := hid hx; have Hyy := hid hyy; have Hzz := hid hzz
 have Hvx := hid hvx; have Hvy := hid hvy; have Hvz := hid hvz; have Hpz := hid hpz
 have g1 : (xx.made == y.made + 1) = true := by simpa using hxm
 have g2 : (zz.lost == yy.lost + 1) = true := by simpa using hzl
 have g3 : IntKind.i64.wrap (y.made + 1) = y.made + 1 := d9 (by have := Hv.out.cnt; unfold dl at this; have := Hv.out.l0; omega) (by have := Hv.out.md; omega)
 have g4 : IntKind.i64.wrap (yy.lost + 1) = yy.lost + 1 := d9 (by have := Hvy.out.l0; omega) (by have := Hvy.out.l1; have := Hvy.out.md; omega)
 have g5 : ((aY yy.mixes : Int) == (aY yy.mixes : Int)) = true := beq_self_eq_true _
 have hps : aY yy.mixes ≤ 4611686018427387904 := by have := Hvy.out.ps; omega
 clear hx hyy hzz hvx hvy hvz hxm hzl hpz ht0 hn0
 go_wp2_with fail
 refine (mF y _ ⟨4, 0, 0, 0⟩ _ (Hg.out _ Hc.out) D4.out.wdB Hgl.out).mono ?_
 rw [Hx.out]
 rintro e w8 ⟨a8, b8, c8, d8, rfl, n8, hb8⟩
 obtain ⟨A8, p8, A8b, p8b, A8c, p8c, A8d, p8d, rfl, rfl, rfl, rfl⟩ := cL n8
 have N8 := hid n8
 replace Hc := hid (bt Hc.out hb8)
 replace E4 := hid (heap_go hb8 E4.out)
 replace D4 := hid (D4.out.go hb8)
 have s8 := hb8.size
 clear n8 hb8 k0 k1 k2 k3 k4 k5
 go_upto_region 9 with fail
 generalize hgw : World.alloc w8 _ = w9
 obtain ⟨e9, r9, hb9, _, s9⟩ := vQ N8.out (Below.refl w8.heap.size _) (Nat.le_refl _) hgw
 have E8 := hid e9; have D8 := hid (WdR.of_wdB (R := fun _ => True) r9.wdB (fun _ _ => trivial))
 replace Hc := hid (bt Hc.out hb9)
 replace E4 := hid (heap_go hb9 E4.out)
 replace D4 := hid (D4.out.go hb9)
 clear hgw e9 r9 hb9 N8
 obtain ⟨q0, q1, q2, q3, q4, q5, _⟩ := al E8.out
 obtain ⟨k0, k1, k2, k3, k4, k5, _⟩ := al E4.out
 have z8 : w8.heap.size < w9.heap.size := by omega
 have z49 : w2.heap.size < w9.heap.size := by omega
 go_wp2_with fail
 refine (mF xx _ ⟨2, (y.net.length : Int), 0, 0⟩ _ (Hg.out _ Hc.out) D8.out.wdB (by have := Hvx.out.gl; omega)).mono ?_
 rw [Hyy.out]
 rintro e w10 ⟨a8, b8, c8, d8, rfl, n8, hb8⟩
 obtain ⟨A10, p10, A10b, p10b, A10c, p10c, A10d, p10d, rfl, rfl, rfl, rfl⟩ := cL n8
 have N8 := hid n8
 replace Hc := hid (bt Hc.out hb8)
 replace E4 := hid (heap_go hb8 E4.out)
 replace D4 := hid (D4.out.go hb8)
 replace E8 := hid (heap_go hb8 E8.out)
 replace D8 := hid (D8.out.go hb8)
 have s10 := hb8.size
 clear n8 hb8 k0 k1 k2 k3 k4 k5 q0 q1 q2 q3 q4 q5
 go_upto_region 10 with fail
 generalize hgw : World.alloc w10 _ = w11
 obtain ⟨e9, r9, hb9, _, s11⟩ := vQ N8.out (Below.refl w10.heap.size _) (Nat.le_refl _) hgw
 have E9 := hid e9; have D9 := hid (WdR.of_wdB (R := fun _ => True) r9.wdB (fun _ _ => trivial))
 replace Hc := hid (bt Hc.out hb9)
 replace E4 := hid (heap_go hb9 E4.out)
 replace D4 := hid (D4.out.go hb9)
 replace E8 := hid (heap_go hb9 E8.out)
 replace D8 := hid (D8.out.go hb9)
 clear hgw e9 r9 hb9 N8
 obtain ⟨k0, k1, k2, k3, k4, k5, _⟩ := al E9.out
 have z10 : w10.heap.size < w11.heap.size := by omega
 go_wp2_with fail
 refine (mF yy _ ⟨2, 0, 0, 0⟩ _ (Hg.out _ Hc.out) D9.out.wdB (by have := Hvy.out.gl; omega)).mono ?_
 rw [Hzz.out]
 rintro e w12 ⟨a8, b8, c8, d8, rfl, n8, hb8⟩
 obtain ⟨A12, p12, A12b, p12b, A12c, p12c, A12d, p12d, rfl, rfl, rfl, rfl⟩ := cL n8
 have N8 := hid n8
 replace Hc := hid (bt Hc.out hb8)
 replace E4 := hid (heap_go hb8 E4.out)
 replace D4 := hid (D4.out.go hb8)
 replace E8 := hid (heap_go hb8 E8.out)
 replace D8 := hid (D8.out.go hb8)
 replace E9 := hid (heap_go hb8 E9.out)
 replace D9 := hid (D9.out.go hb8)
 have s12 := hb8.size
 clear n8 hb8 k0 k1 k2 k3 k4 k5
 go_upto_region 11 with fail
 generalize hgw : World.alloc w12 _ = w13
 obtain ⟨e9, r9, hb9, _, s13⟩ := vQ N8.out (Below.refl w12.heap.size _) (Nat.le_refl _) hgw
 have E10 := hid e9; have D10 := hid (WdR.of_wdB (R := fun _ => True) r9.wdB (fun _ _ => trivial))
 replace Hc := hid (bt Hc.out hb9)
 replace E4 := hid (heap_go hb9 E4.out)
 replace D4 := hid (D4.out.go hb9)
 replace E8 := hid (heap_go hb9 E8.out)
 replace D8 := hid (D8.out.go hb9)
 replace E9 := hid (heap_go hb9 E9.out)
 replace D9 := hid (D9.out.go hb9)
 clear hgw e9 r9 hb9 N8
 have HS := hid (fun (wx : World) (hT : Tch [] w13 wx) => And.intro (al (hT.row E4.out (by simp))) (And.intro (al (hT.row E8.out (by simp))) (And.intro (al (hT.row E9.out (by simp))) (al (hT.row E10.out (by simp))))))
 refine rgN [] 22 (by kernel_rfl) rfl (fun | none, _, _, _, _ => id | some _, _, _, _, _ => id) fun wd hHeld hbwd swd => ?_
 simp only [pw]
 refine tr 0 HS.out rfl (by kernel_rfl) rfl (fun _ f => by go_simp; try with_reducible rfl) ?_
 refine tr 1 HS.out rfl (by kernel_rfl) rfl (fun _ f => by go_simp; try with_reducible rfl) ?_
 refine tr 2 HS.out rfl (by kernel_rfl) rfl (fun _ f => by go_simp; try with_reducible rfl) ?_
 try simp only [pw]
 refine tr 3 HS.out rfl (by kernel_rfl) rfl (fun _ f => by go_simp; try with_reducible rfl) ?_
 refine tr 4 HS.out rfl (by kernel_rfl) rfl (fun _ f => by go_simp; try with_reducible rfl) ?_
 refine tr 5 HS.out rfl (by kernel_rfl) rfl (fun _ f => by go_simp; try with_reducible rfl) ?_
 try simp only [pw]
 refine tr 6 HS.out rfl (by kernel_rfl) rfl (fun _ f => by go_simp; try with_reducible rfl) ?_
 refine tr 7 HS.out rfl (by kernel_rfl) rfl (fun _ f => by go_simp; try with_reducible rfl) ?_
 refine tr 8 HS.out rfl (by kernel_rfl) rfl (fun _ f => by go_simp; try with_reducible rfl) ?_
 try simp only [pw]
 refine tr 9 HS.out rfl (by kernel_rfl) rfl (fun _ f => by go_simp; try with_reducible rfl) ?_
 refine tr 10 HS.out rfl (by kernel_rfl) rfl (fun _ f => by go_simp; try with_reducible rfl) ?_
 refine tr 11 HS.out rfl (by kernel_rfl) rfl (fun _ f => by go_simp; try with_reducible rfl) ?_
 try simp only [pw]
 refine tr 12 HS.out rfl (by kernel_rfl) rfl (fun _ f => by go_simp; try with_reducible rfl) ?_
 refine tr 13 HS.out rfl (by kernel_rfl) rfl (fun _ f => by go_simp; try with_reducible rfl) ?_
 refine tr 14 HS.out rfl (by kernel_rfl) rfl (fun _ f => by go_simp; try with_reducible rfl) ?_
 try simp only [pw]
 refine tr 15 HS.out rfl (by kernel_rfl) rfl (fun _ f => by go_simp; try with_reducible rfl) ?_
 refine tr 17 HS.out rfl (by kernel_rfl) rfl (fun _ f => by go_simp; try with_reducible rfl) ?_
 try simp only [pw]
 refine rq 16 (by kernel_rfl) rfl fun K hK => ?_
 go_simp
 (go_at_call 19; refine (lm zz _ _ (D10.out.go hHeld.nil).wdB (by rw [Hpz.out]; omega)).mono ?_; rw [Hpz.out]; rintro e wp ⟨rfl, hbC⟩)
 refine hK.out _ _ (hHeld.trans (Tch.of hbC)) (fun hHeld => ?_)
 clear hK K
 refine rq 18 (by kernel_rfl) rfl fun K hK => ?_
 go_simp
 (go_at_call 19; refine (lm yy _ _ (D9.out.go hHeld.nil).wdB (by omega)).mono ?_; rintro e wp ⟨rfl, hbC⟩)
 refine hK.out _ _ (hHeld.trans (Tch.of hbC)) (fun hHeld => ?_)
 clear hK K
 refine tr 19 HS.out rfl (by kernel_rfl) rfl (fun _ f => by go_simp; try with_reducible rfl) ?_
 refine tr 20 HS.out rfl (by kernel_rfl) rfl (fun _ f => by go_simp; try with_reducible rfl) ?_
 try simp only [pw]
 refine tr 21 HS.out rfl (by kernel_rfl) rfl (fun _ f => by go_simp; try with_reducible rfl) ?_
 try simp only [pw]
 refine dm (by kernel_rfl) ?_
 have hF := hHeld.nil
 go_wp2_with fail
 go_ret
 exact ⟨rfl, bt Hc.out hF⟩
theorem p7 (os : Os) (started : os.Started) (H : Type) (enc : TypeId × Value → H) :
  ReturnsInHanded {} Tryz.checked os 7 .any (fun w args => (Rows.fnWorldReplaySpec.pre enc Tryz.prog Tryz.f7 [] false w args ∧ laidMetH Tryz.prog lh w) ∧ sizedMet enc Tryz.prog Tryz.f7 (OpenSpec.ofChange Rows.fnWorldReplaySpec) false w args) (Rows.fnWorldReplaySpec.post enc Tryz.prog Tryz.f7 false true false false) := by
 refine returnsInHanded_of_change_and (C := Tryz.checked) (X := fun w _ => laidMetH Tryz.prog lh w) (fun _ _ _ hh h => h.of_heap hh) su started (by kernel_rfl) Tryz.func7
  (ChangeSpec.witness_at (enc := enc) (C := Tryz.checked) (os := os) (X := fun w _ => laidMetH Tryz.prog lh w) false (lj os) #[.slice none 0 0] 8 rfl (by kernel_rfl) (by kernel_rfl) (by kernel_rfl) (by kernel_rfl) (by kernel_rfl) (kH os _)) ?_
 intro W base args ds gs before hval0 hW _ _ hL _
 have hg := jz hL
 have hval : ∀ (j : Nat) t v, Tryz.f7.params[j]? = some t → args[j]? = some v → Value.okWide Tryz.prog W .any base t v := hval0
 have hW' := hW
 obtain ⟨p, q, hA0, hV, rfl, hfz, hnd⟩ := hW
 have hA : DataW.TrodAll enc Tryz.prog W 0 (fun _ => true) true Tryz.f7.params.toList args.toList ds p := hA0
 rw [Tryz.params7] at hA hval
 obtain ⟨v0, vs0, d0, ds0, p0, q0, hargs, rfl, rfl, h0, r0⟩ := trodAll_cons hA
 obtain ⟨rfl, rfl, rfl⟩ := trodAll_nil r0
 obtain rfl : args = #[v0] := by cases args; simp_all
 obtain ⟨rfl, rfl⟩ : gs = [] ∧ q = [] := by
  cases gs with
  | nil => exact ⟨rfl, hV⟩
  | cons g r => exact absurd hV (by intro h; cases h)
 have k0 := h0
 have lt0 : ∀ x ∈ p0, x.block < W.heap.size := by obtain ⟨m, hm⟩ := k0; exact DataW.trod_lt m _ _ _ hm
 obtain ⟨xs0, s0, f0⟩ := vW fa Tryz.underlying22 (hval 0 22 v0 rfl rfl) h0
 clear hA0 hval0
 refine (FnWorldReplay_c v0 xs0 W hg s0 f0).mono fun e W' ⟨he, bel⟩ => ?_
 subst he
 exact ⟨_, rfl, _, _, _, [], _, [], hW', trodAll_mk1 (shut_bool Tryz.underlying4 _), (trodAll_cons_mk (Below.trod mU (by kernel_rfl) (of_decide_eq_true (by kernel_rfl)) k0 bel lt0) trodAll_mk0), rfl, bel.frame _, fun h => by cases h⟩
theorem se : joinedFacts Tryz.prog 7 Tryz.f7 Rows.fnWorldReplaySpec Rows.fnWorldReplayRow = true := by
 unfold joinedFacts
 simp only [Bool.and_eq_true]
 repeat' apply And.intro
 ·as_aux_lemma => kernel_rfl
 ·as_aux_lemma => kernel_rfl
 ·as_aux_lemma => kernel_rfl
 ·as_aux_lemma => kernel_rfl
 ·as_aux_lemma => kernel_rfl
 ·as_aux_lemma => kernel_rfl
 ·as_aux_lemma => kernel_rfl
 ·as_aux_lemma => kernel_rfl
 ·as_aux_lemma => kernel_rfl
 ·as_aux_lemma => kernel_rfl
 ·as_aux_lemma => kernel_rfl
 ·as_aux_lemma => kernel_rfl
 ·as_aux_lemma => kernel_rfl
 ·as_aux_lemma => kernel_rfl
 ·as_aux_lemma => kernel_rfl
 ·as_aux_lemma => kernel_rfl
 ·as_aux_lemma => kernel_rfl
 ·as_aux_lemma => kernel_rfl
 ·as_aux_lemma => kernel_rfl
 ·as_aux_lemma => kernel_rfl
 ·as_aux_lemma => kernel_rfl
 ·as_aux_lemma => kernel_rfl
 ·as_aux_lemma => kernel_rfl
 ·as_aux_lemma => kernel_rfl
 ·as_aux_lemma => kernel_rfl
 ·exact oo
 ·rw [ot]; rfl
 ·rw [ql]; rfl
 ·as_aux_lemma => kernel_rfl
 ·as_aux_lemma => kernel_rfl
 ·as_aux_lemma => kernel_rfl
 ·as_aux_lemma => kernel_rfl
theorem sC : Tryz.prog.funcNamed Rows.fnWorldReplayRow.func = some 7 := by kernel_rfl
theorem wF : Tryz.f7.isWrapper Tryz.prog Rows.fnWorldReplayRow.wrapper Rows.fnWorldReplayRow.mainSum := (by unfold Func.isWrapper; first | (rw [if_pos (by decide +kernel)]; kernel_rfl) | (rw [if_neg (by decide +kernel)]; exact ⟨rfl, rfl⟩))
theorem wE : Rows.fnWorldReplayRow.holds Tryz.pinned (OpenSpec.ofChange Rows.fnWorldReplaySpec) :=
 OpenClaim.holds_of_wide (p := Tryz.pinned) 7 Tryz.f7 rfl rfl rfl rfl rfl rfl rfl ⟨rfl, rfl, rfl, rfl, rfl⟩ rfl rfl rfl rfl rfl sC Tryz.func7 se
  (of_decide_eq_true (by kernel_rfl)) wF
  (fun os started H enc _ => p7 os started H enc)
theorem FnWorldReplay_holds : Rows.FnWorldReplayCardSaid :=
 Claim7.holds_tied_plain_at .later [] [.handle] true (true, "f6a317a23dd1ee8c09a768da66efcfbaf3b078b2529fbb5caec4172cd33d1f77") true
  wE (fun _ h => by cases h) (by kernel_rfl) (fun _ h => by cases h) fnWorldReplay_row_tie rfl ⟨rfl, rfl⟩ (by kernel_rfl) rfl
  (fun f fn hf hfn => by
   obtain rfl : f = 7 := Option.some.inj ((show Tryz.prog.funcNamed Rows.fnWorldReplayRow.func = some 7 by kernel_rfl).symm.trans hf) |>.symm
   obtain rfl : fn = Tryz.f7 := (Option.some.inj (Tryz.func7.symm.trans hfn)).symm
   exact ⟨by kernel_rfl, fun j t ht => by
    rw [Tryz.params7] at ht
    rcases j with _ | _ | j
    all_goals (first | (simp at ht; done) | (simp at ht; subst ht; exact (show Tryz.prog.wantsStandIn _ = false by kernel_rfl)))⟩)
  (by kernel_rfl)
#print axioms FnWorldReplay_holds
end
end Go.Proofs.YtfmibcofgckldaaGreatDoor
