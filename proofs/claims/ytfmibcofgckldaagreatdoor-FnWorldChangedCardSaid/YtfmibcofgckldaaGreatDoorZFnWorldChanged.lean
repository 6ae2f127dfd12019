/- Of what the program plays: a changed packet, delivered, is lost; nothing else turns. No condition. -/
import Derived.Deep.DeepCutAuto
import Derived.Test.YtfmibcofgckldaaGreatDoorM36
import Derived.Test.YtfmibcofgckldaaGreatDoorM37
import Derived.Test.YtfmibcofgckldaaGreatDoorM38
set_option linter.unusedVariables false
set_option linter.unusedSimpArgs false
set_option maxHeartbeats 4000000
set_option maxRecDepth 100000
namespace Go.Proofs.YtfmibcofgckldaaGreatDoor
open Go Go.RowKit
section
open Go.ChangeShapes Go.WideShapes Go.ChangeAt
theorem FnWorldChanged_c (v0 : Value) (xs0 : List Int) (w : World) (hg : uE w) (s0 : SlB g8 w.heap.size w v0 xs0) (hx0 : ∀ x ∈ xs0, (Lit.int .u8 x).wf = true) :
  Calls Tryz.prog 6 #[v0] w (ok true w.heap.size w) := by
 have hw0 : 0 < w.heap.size := World.block_lt_of_cell? _ _ hg
 have Hg := hid (fun (wx : World) (hb : Below w.heap.size w wx) => show eQ wx from (hb.cell (p := ⟨0, 0, none⟩) hw0).trans hg)
 have HX := hid (fun x hx => xi (hx0 x hx))
 obtain ⟨A, c, rfl, _, _, _⟩ := s0.form
 have S0 := hid s0
 clear hg s0 hx0
 by_cases hl : 1048576 < xs0.length
 ·go_enter Tryz.func6, Tryz.ntmps6
  go_wp2
  go_ret
  exact ⟨rfl, Below.refl _ _⟩
 go_enter Tryz.func6, Tryz.ntmps6
 go_wp2_with fail
 refine (b9 _ xs0 _ S0.out HX.out).mono ?_
 rintro e w1 ⟨v1, evs, rfl, n1, hb1⟩
 obtain ⟨A1, c1, rfl, _, _, _⟩ := n1.slB.form
 have D1 := hid n1.slB
 have Hc := hid hb1
 obtain ⟨y, hy⟩ : ∃ y, plW evs = y := ⟨_, rfl⟩
 obtain ⟨pb, hp⟩ : ∃ pb, decide (evs.length ≤ 80) = pb := ⟨_, rfl⟩
 have hpp : (pb != pb) = false := bne_self_eq_false _
 have hpe : (pb == pb) = true := beq_self_eq_true _
 have Hy := hid hy; have Hp := hid hp
 clear n1 hb1 hy hp S0 HX
 go_wp2_with fail
 refine (vE evs _ _ (Hg.out _ Hc.out) D1.out).mono ?_
 unfold PyOut
 rw [Hy.out, Hp.out]
 rintro e w2 ⟨a2, b2, c2, d2, rfl, n2, hb2⟩
 obtain ⟨A2, p2, A2b, p2b, A2c, p2c, A2d, p2d, rfl, rfl, rfl, rfl⟩ := cL n2
 have N2 := hid n2
 replace D1 := hid (D1.out.go hb2)
 replace Hc := hid (bt Hc.out hb2)
 clear n2 hb2
 go_upto_region 5 with fail
 generalize hgw : World.alloc w2 _ = w3
 obtain ⟨e3, r3, hb3, _, s3⟩ := vQ N2.out (Below.refl w2.heap.size _) (Nat.le_refl _) hgw
 have E4 := hid e3; have D4 := hid (WdR.of_wdB (R := fun _ => True) r3.wdB (fun _ _ => trivial))
 replace D1 := hid (D1.out.go hb3)
 replace Hc := hid (bt Hc.out hb3)
 clear hgw e3 r3 hb3 N2
 go_wp2_with fail
 refine (vR evs _ _ D1.out).mono ?_
 unfold PyOut
 rw [Hy.out, Hp.out]
 rintro e w4 ⟨a4, b4, c4, d4, rfl, n4, hb4⟩
 obtain ⟨A4, p4, A4b, p4b, A4c, p4c, A4d, p4d, rfl, rfl, rfl, rfl⟩ := cL n4
 have N4 := hid n4
 replace Hc := hid (bt Hc.out hb4)
 replace E4 := hid (heap_go hb4 E4.out)
 replace D4 := hid (D4.out.go hb4)
 have s4 := hb4.size
 clear n4 hb4 D1
 go_upto_region 6 with fail
 generalize hgw : World.alloc w4 _ = w5
 obtain ⟨e5, r5, hb5, _, s5⟩ := vQ N4.out (Below.refl w4.heap.size _) (Nat.le_refl _) hgw
 have E6 := hid e5; have D6 := hid (WdR.of_wdB (R := fun _ => True) r5.wdB (fun _ _ => trivial))
 replace Hc := hid (bt Hc.out hb5)
 replace E4 := hid (heap_go hb5 E4.out)
 replace D4 := hid (D4.out.go hb5)
 clear hgw e5 r5 hb5 N4
 obtain ⟨k0, k1, k2, k3, k4, k5, _⟩ := al E4.out
 obtain ⟨q0, q1, q2, q3, q4, q5, _⟩ := al E6.out
 have z4 : w2.heap.size < w5.heap.size := by omega
 have z6 : w4.heap.size < w5.heap.size := by omega
 go_wp2_with fail
 refine (a9 y _ _ _ D4.out.wdB D6.out.wdB).mono ?_
 rintro e w7 ⟨rfl, hb7⟩
 replace Hc := hid (bt Hc.out hb7)
 replace E4 := hid (heap_go hb7 E4.out)
 replace D4 := hid (D4.out.go hb7)
 replace E6 := hid (heap_go hb7 E6.out)
 replace D6 := hid (D6.out.go hb7)
 have s7 := hb7.size
 clear hb7 k0 k1 k2 k3 k4 k5 q0 q1 q2 q3 q4 q5 z4 z6
 obtain ⟨k0, k1, k2, k3, k4, k5, _⟩ := al E4.out
 have z4 : w2.heap.size < w7.heap.size := by omega
 cases pb with
 | false =>
  obtain ⟨q0, q1, q2, q3, q4, q5, _⟩ := al E6.out
  have z6 : w4.heap.size < w7.heap.size := by omega
  go_wp2_with fail
  refine (a9 y _ _ _ D4.out.wdB D6.out.wdB).mono ?_
  rintro e w8 ⟨rfl, hb8⟩
  go_wp2_with fail
  go_ret
  exact ⟨rfl, bt Hc.out hb8⟩
 | true =>
 replace Hy := hid (Hy.out.symm.trans (g9 Hp.out))
 have Hv := hid (show VD 0 y by rw [Hy.out]; exact vT evs)
 have Hgl := hid (show y.got.length ≤ 1073741824 by have := Hv.out.gl; omega)
 go_wp2_with fail
 clear k0 k1 k2 k3 k4 k5
 have hgn : y.net.length ≤ 10 := Hv.out.nn
 go_loopw [8] (fun i wr => ∃ k : Nat, k ≤ y.net.length ∧ i = .int .i64 k ∧ Below w7.heap.size w7 wr) (fun i _ => y.net.length - (intOf i).toNat)
 case atStart => exact ⟨0, by omega, rfl, Below.refl _ _⟩
 case round =>
  obtain ⟨k, hk, rfl, hb⟩ := hrel
  have Hb := hid hb
  have r0 := heap_go hb E4.out
  have d4 := D4.out.go hb
  have Hcr := hid (bt Hc.out hb)
  obtain ⟨_, _, dn, _⟩ := d4.wdB.parts
  obtain ⟨k0, k1, k2, k3, k4, k5, _⟩ := al r0
  have z4r : w2.heap.size < wr.heap.size := by have := hb.size; omega
  clear hb
  by_cases hlt : k < y.net.length
  ·obtain ⟨z, hz⟩ := ah hlt
   obtain ⟨b, o, vh, vb, rfl, _, _, _, _, p0, p1, p2, p3, p4, p5⟩ := dn.tr hz
   cases hch : z.ch with
   | false =>
    rw [hch] at p5
    clear hz dn d4 r0
    go_wp2_with fail
    go_roundw
    case rel => exact ⟨k + 1, by omega, by go_num, Hb.out⟩
    case measure => simp [intOf]; omega
   | true =>
    rw [hch] at p5
    have hst : stepW y ⟨2, (k : Int), 0, 0⟩ = bU (ba y (y.net.eraseIdx k)) := by rw [Hy.out] at hz ⊢; exact xJ hz hch 0 0
    have hvx : VD 0 (stepW y ⟨2, (k : Int), 0, 0⟩) := by rw [rl Hv.out]; exact Hv.out.do_ _
    obtain ⟨x, hx⟩ : ∃ x, x = stepW y ⟨2, (k : Int), 0, 0⟩ := ⟨_, rfl⟩
    rw [← hx] at hst hvx
    have Hxm := hid (show x.mixes = y.mixes by rw [hst]; rfl)
    have Hxg := hid (show x.got = y.got by rw [hst]; rfl)
    have f1 : (x.lost != y.lost + 1) = false := by rw [hst]; simp [bU, ba]
    have f2 : ((aY y.mixes : Int) != (aY y.mixes : Int)) = false := bne_self_eq_false _
    have f3 : IntKind.i64.wrap (y.lost + 1) = y.lost + 1 := d9 (by have := Hv.out.l0; omega) (by have := Hv.out.l1; have := Hv.out.md; omega)
    have hps : aY y.mixes ≤ 4611686018427387904 := by have := Hv.out.ps; omega
    have D4r := hid d4; have R0 := hid r0; have HX := hid hx
    clear hz dn d4 r0 hst hvx p0 p1 p2 p3 p4 hx
    go_wp2_with fail
    refine (mF y _ ⟨2, (k : Int), 0, 0⟩ _ (Hg.out _ Hcr.out) D4r.out.wdB Hgl.out).mono ?_
    rw [← HX.out]
    rintro e w8 ⟨a8, b8, c8, d8, rfl, n8, hb8⟩
    obtain ⟨A8, p8, A8b, p8b, A8c, p8c, A8d, p8d, rfl, rfl, rfl, rfl⟩ := cL n8
    have N8 := hid n8
    have R1 := hid (heap_go hb8 R0.out)
    replace D4r := hid (D4r.out.go hb8)
    replace Hb := hid (bt Hb.out hb8)
    clear n8 hb8 k0 k1 k2 k3 k4 k5 p5 R0
    go_upto_region 13 with fail
    generalize hgw : World.alloc w8 _ = w9
    obtain ⟨e9, r9, hb9, _, s9⟩ := vQ N8.out (Below.refl w8.heap.size _) (Nat.le_refl _) hgw
    have D8 := hid (WdR.of_wdB (R := fun _ => True) r9.wdB (fun _ _ => trivial))
    have R2 := hid (heap_go hb9 R1.out)
    replace D4r := hid (D4r.out.go hb9)
    replace Hb := hid (bt Hb.out hb9)
    have Dgx := hid (show SlB tLt w9.heap.size w9 (.slice A8d x.got.length p8d) y.got by have := D8.out.wdB.parts.2.2.2; rwa [Hxg.out] at this ⊢)
    have Dgy := hid D4r.out.wdB.parts.2.2.2
    have HS := hid (fun (wx : World) (hT : Tch [] w9 wx) => And.intro (al (hT.row e9 (by simp))) (al (hT.row R2.out (by simp))))
    clear hgw e9 r9 hb9 N8 R1 R2
    refine rgN [] 21 (by kernel_rfl) rfl (fun | none, _, _, _, _ => id | some _, _, _, _, _ => id) fun wd hHeld hbwd swd => ?_
    simp only [pw]
    refine tr 0 HS.out rfl (by kernel_rfl) rfl (fun _ f => by go_simp; try with_reducible rfl) ?_
    refine tr 1 HS.out rfl (by kernel_rfl) rfl (fun _ f => by go_simp; try with_reducible rfl) ?_
    refine tr 2 HS.out rfl (by kernel_rfl) rfl (fun _ f => by go_simp; try with_reducible rfl) ?_
    try simp only [pw]
    refine tr 3 HS.out rfl (by kernel_rfl) rfl (fun _ f => by go_simp; try with_reducible rfl) ?_
    refine tr 4 HS.out rfl (by kernel_rfl) rfl (fun _ f => by go_simp; try with_reducible rfl) ?_
    refine tr 5 HS.out rfl (by kernel_rfl) rfl (fun _ f => by go_simp; try with_reducible rfl) ?_
    try simp only [pw]
    refine tr 6 HS.out rfl (by kernel_rfl) rfl (fun _ f => by go_simp; try with_reducible rfl) ?_
    refine tr 7 HS.out rfl (by kernel_rfl) rfl (fun _ f => by go_simp; try with_reducible rfl) ?_
    refine tr 9 HS.out rfl (by kernel_rfl) rfl (fun _ f => by go_simp; try with_reducible rfl) ?_
    try simp only [pw]
    refine rq 8 (by kernel_rfl) rfl fun K hK => ?_
    go_simp
    (go_at_call 19; refine (lm x _ _ (D8.out.go hHeld.nil).wdB (by rw [Hxm.out]; omega)).mono ?_; rw [Hxm.out]; rintro e wp ⟨rfl, hbC⟩)
    refine hK.out _ _ (hHeld.trans (Tch.of hbC)) (fun hHeld => ?_)
    clear hK K
    refine rq 10 (by kernel_rfl) rfl fun K hK => ?_
    go_simp
    (go_at_call 19; refine (lm y _ _ (D4r.out.go hHeld.nil).wdB (by omega)).mono ?_; rintro e wp ⟨rfl, hbC⟩)
    refine hK.out _ _ (hHeld.trans (Tch.of hbC)) (fun hHeld => ?_)
    clear hK K
    refine tr 11 HS.out rfl (by kernel_rfl) rfl (fun _ f => by go_simp; try with_reducible rfl) ?_
    try simp only [pw]
    refine tr 12 HS.out rfl (by kernel_rfl) rfl (fun _ f => by go_simp; try with_reducible rfl) ?_
    refine tr 13 HS.out rfl (by kernel_rfl) rfl (fun _ f => by go_simp; try with_reducible rfl) ?_
    refine tr 14 HS.out rfl (by kernel_rfl) rfl (fun _ f => by go_simp; try with_reducible rfl) ?_
    try simp only [pw]
    refine tr 15 HS.out rfl (by kernel_rfl) rfl (fun _ f => by go_simp; try with_reducible rfl) ?_
    refine tr 16 HS.out rfl (by kernel_rfl) rfl (fun _ f => by go_simp; try with_reducible rfl) ?_
    refine tr 17 HS.out rfl (by kernel_rfl) rfl (fun _ f => by go_simp; try with_reducible rfl) ?_
    try simp only [pw]
    refine rq 18 (by kernel_rfl) rfl fun K hK => ?_
    go_simp
    (go_at_call 20; refine (g7 _ _ y.got _ (Dgx.out.go hHeld.nil) (Dgy.out.go hHeld.nil)).mono ?_; rintro e wl ⟨rfl, hbC⟩)
    refine hK.out _ _ (hHeld.trans (Tch.of hbC)) (fun hHeld => ?_)
    clear hK K
    refine tr 19 HS.out rfl (by kernel_rfl) rfl (fun _ f => by go_simp; try with_reducible rfl) ?_
    refine tr 20 HS.out rfl (by kernel_rfl) rfl (fun _ f => by go_simp; try with_reducible rfl) ?_
    try simp only [pw]
    refine dm (by kernel_rfl) ?_
    have hF := hHeld.nil
    go_wp2_with fail
    go_roundw
    case rel => exact ⟨k + 1, by omega, by go_num, bt Hb.out hF⟩
    case measure => simp [intOf]; omega
  ·clear dn d4 r0
   go_wp2_with fail
   go_ret
   exact ⟨rfl, bt Hc.out Hb.out⟩
theorem ls (os : Os) (started : os.Started) (H : Type) (enc : TypeId × Value → H) :
  ReturnsInHanded {} Tryz.checked os 6 .any (fun w args => (Rows.fnWorldChangedSpec.pre enc Tryz.prog Tryz.f6 [] false w args ∧ laidMetH Tryz.prog lh w) ∧ sizedMet enc Tryz.prog Tryz.f6 (OpenSpec.ofChange Rows.fnWorldChangedSpec) false w args) (Rows.fnWorldChangedSpec.post enc Tryz.prog Tryz.f6 false true false false) := by
 refine returnsInHanded_of_change_and (C := Tryz.checked) (X := fun w _ => laidMetH Tryz.prog lh w) (fun _ _ _ hh h => h.of_heap hh) su started (by kernel_rfl) Tryz.func6
  (ChangeSpec.witness_at (enc := enc) (C := Tryz.checked) (os := os) (X := fun w _ => laidMetH Tryz.prog lh w) false (lj os) #[.slice none 0 0] 8 rfl (by kernel_rfl) (by kernel_rfl) (by kernel_rfl) (by kernel_rfl) (by kernel_rfl) (kH os _)) ?_
 intro W base args ds gs before hval0 hW _ _ hL _
 have hg := jz hL
 have hval : ∀ (j : Nat) t v, Tryz.f6.params[j]? = some t → args[j]? = some v → Value.okWide Tryz.prog W .any base t v := hval0
 have hW' := hW
 obtain ⟨p, q, hA0, hV, rfl, hfz, hnd⟩ := hW
 have hA : DataW.TrodAll enc Tryz.prog W 0 (fun _ => true) true Tryz.f6.params.toList args.toList ds p := hA0
 rw [Tryz.params6] at hA hval
 obtain ⟨v0, vs0, d0, ds0, p0, q0, hargs, rfl, rfl, h0, r0⟩ := trodAll_cons hA
 obtain ⟨rfl, rfl, rfl⟩ := trodAll_nil r0
 obtain rfl : args = #[v0] := by cases args; simp_all
 obtain ⟨rfl, rfl⟩ : gs = [] ∧ q = [] := by
  cases gs with
  | nil => exact ⟨rfl, hV⟩
  | cons g r => exact absurd hV (by intro h; cases h)
 have k0 := h0
 have lt0 : ∀ x ∈ p0, x.block < W.heap.size := by obtain ⟨m, hm⟩ := k0; exact DataW.trod_lt m _ _ _ hm
 obtain ⟨xs0, s0, f0⟩ := vW fa Tryz.underlying22 (hval 0 22 v0 rfl rfl) h0
 clear hA0 hval0
 refine (FnWorldChanged_c v0 xs0 W hg s0 f0).mono fun e W' ⟨he, bel⟩ => ?_
 subst he
 exact ⟨_, rfl, _, _, _, [], _, [], hW', trodAll_mk1 (shut_bool Tryz.underlying4 _), (trodAll_cons_mk (Below.trod mU (by kernel_rfl) (of_decide_eq_true (by kernel_rfl)) k0 bel lt0) trodAll_mk0), rfl, bel.frame _, fun h => by cases h⟩
theorem om : joinedFacts Tryz.prog 6 Tryz.f6 Rows.fnWorldChangedSpec Rows.fnWorldChangedRow = true := by
 unfold joinedFacts
 simp only [Bool.and_eq_true]
 repeat' apply And.intro
 ·as_aux_lemma => kernel_rfl
 ·as_aux_lemma => kernel_rfl
 ·as_aux_lemma => kernel_rfl
 ·as_aux_lemma => kernel_rfl
 ·as_aux_lemma => kernel_rfl
 ·as_aux_lemma => kernel_rfl
 ·as_aux_lemma => kernel_rfl
 ·as_aux_lemma => kernel_rfl
 ·as_aux_lemma => kernel_rfl
 ·as_aux_lemma => kernel_rfl
 ·as_aux_lemma => kernel_rfl
 ·as_aux_lemma => kernel_rfl
 ·as_aux_lemma => kernel_rfl
 ·as_aux_lemma => kernel_rfl
 ·as_aux_lemma => kernel_rfl
 ·as_aux_lemma => kernel_rfl
 ·as_aux_lemma => kernel_rfl
 ·as_aux_lemma => kernel_rfl
 ·as_aux_lemma => kernel_rfl
 ·as_aux_lemma => kernel_rfl
 ·as_aux_lemma => kernel_rfl
 ·as_aux_lemma => kernel_rfl
 ·as_aux_lemma => kernel_rfl
 ·as_aux_lemma => kernel_rfl
 ·as_aux_lemma => kernel_rfl
 ·exact oo
 ·rw [ot]; rfl
 ·rw [ql]; rfl
 ·as_aux_lemma => kernel_rfl
 ·as_aux_lemma => kernel_rfl
 ·as_aux_lemma => kernel_rfl
 ·as_aux_lemma => kernel_rfl
theorem po : Tryz.prog.funcNamed Rows.fnWorldChangedRow.func = some 6 := by kernel_rfl
theorem r8 : Tryz.f6.isWrapper Tryz.prog Rows.fnWorldChangedRow.wrapper Rows.fnWorldChangedRow.mainSum := (by unfold Func.isWrapper; first | (rw [if_pos (by decide +kernel)]; kernel_rfl) | (rw [if_neg (by decide +kernel)]; exact ⟨rfl, rfl⟩))
theorem r7 : Rows.fnWorldChangedRow.holds Tryz.pinned (OpenSpec.ofChange Rows.fnWorldChangedSpec) :=
 OpenClaim.holds_of_wide (p := Tryz.pinned) 6 Tryz.f6 rfl rfl rfl rfl rfl rfl rfl ⟨rfl, rfl, rfl, rfl, rfl⟩ rfl rfl rfl rfl rfl po Tryz.func6 om
  (of_decide_eq_true (by kernel_rfl)) r8
  (fun os started H enc _ => ls os started H enc)
theorem FnWorldChanged_holds : Rows.FnWorldChangedCardSaid :=
 Claim7.holds_tied_plain_at .later [] [.handle] true (true, "f6a317a23dd1ee8c09a768da66efcfbaf3b078b2529fbb5caec4172cd33d1f77") true
  r7 (fun _ h => by cases h) (by kernel_rfl) (fun _ h => by cases h) fnWorldChanged_row_tie rfl ⟨rfl, rfl⟩ (by kernel_rfl) rfl
  (fun f fn hf hfn => by
   obtain rfl : f = 6 := Option.some.inj ((show Tryz.prog.funcNamed Rows.fnWorldChangedRow.func = some 6 by kernel_rfl).symm.trans hf) |>.symm
   obtain rfl : fn = Tryz.f6 := (Option.some.inj (Tryz.func6.symm.trans hfn)).symm
   exact ⟨by kernel_rfl, fun j t ht => by
    rw [Tryz.params6] at ht
    rcases j with _ | _ | j
    all_goals (first | (simp at ht; done) | (simp at ht; subst ht; exact (show Tryz.prog.wantsStandIn _ = false by kernel_rfl)))⟩)
  (by kernel_rfl)
#print axioms FnWorldChanged_holds
end
end Go.Proofs.YtfmibcofgckldaaGreatDoor
