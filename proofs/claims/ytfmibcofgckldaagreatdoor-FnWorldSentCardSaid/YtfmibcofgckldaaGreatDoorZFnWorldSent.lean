/- Of what the program plays, every letter that has arrived was sent, and the run is valid. No condition. -/
import Derived.Deep.DeepCutAuto
import Derived.Test.YtfmibcofgckldaaGreatDoorM36
import Derived.Test.YtfmibcofgckldaaGreatDoorM37
import Derived.Test.YtfmibcofgckldaaGreatDoorM38
set_option linter.unusedVariables false
set_option linter.unusedSimpArgs false
set_option maxHeartbeats 4000000
set_option maxRecDepth 100000
namespace Go.Proofs.YtfmibcofgckldaaGreatDoor
open Go Go.RowKit
section
open Go.ChangeShapes Go.WideShapes Go.ChangeAt
theorem FnWorldSent_c (v0 : Value) (xs0 : List Int) (w : World) (hg : uE w) (s0 : SlB g8 w.heap.size w v0 xs0) (hx0 : ∀ x ∈ xs0, (Lit.int .u8 x).wf = true) :
  Calls Tryz.prog 3 #[v0] w (ok true w.heap.size w) := by
 have hw0 : 0 < w.heap.size := World.block_lt_of_cell? _ _ hg
 have Hg := hid (fun (wx : World) (hb : Below w.heap.size w wx) => show eQ wx from (hb.cell (p := ⟨0, 0, none⟩) hw0).trans hg)
 have HX := hid (fun x hx => xi (hx0 x hx))
 obtain ⟨A, c, rfl, _, _, _⟩ := s0.form
 have S0 := hid s0
 clear hg s0 hx0
 by_cases hl : 1048576 < xs0.length
 ·go_enter Tryz.func3, Tryz.ntmps3
  go_wp2
  go_ret
  exact ⟨rfl, Below.refl _ _⟩
 go_enter Tryz.func3, Tryz.ntmps3
 go_wp2_with fail
 refine (b9 _ xs0 _ S0.out HX.out).mono ?_
 rintro e w1 ⟨v1, evs, rfl, n1, hb1⟩
 obtain ⟨A1, c1, rfl, _, _, _⟩ := n1.slB.form
 have D1 := hid n1.slB
 have Hc := hid hb1
 obtain ⟨y, hy⟩ : ∃ y, plW evs = y := ⟨_, rfl⟩
 obtain ⟨pb, hp⟩ : ∃ pb, decide (evs.length ≤ 80) = pb := ⟨_, rfl⟩
 have hpp : (pb != pb) = false := bne_self_eq_false _
 have hpe : (pb == pb) = true := beq_self_eq_true _
 have Hy := hid hy; have Hp := hid hp
 clear n1 hb1 hy hp S0 HX
 go_wp2_with fail
 refine (vE evs _ _ (Hg.out _ Hc.out) D1.out).mono ?_
 unfold PyOut
 rw [Hy.out, Hp.out]
 rintro e w2 ⟨a2, b2, c2, d2, rfl, n2, hb2⟩
 obtain ⟨A2, p2, A2b, p2b, A2c, p2c, A2d, p2d, rfl, rfl, rfl, rfl⟩ := cL n2
 have N2 := hid n2
 replace D1 := hid (D1.out.go hb2)
 replace Hc := hid (bt Hc.out hb2)
 clear n2 hb2
 go_upto_region 5 with fail
 generalize hgw : World.alloc w2 _ = w3
 obtain ⟨e3, r3, hb3, _, s3⟩ := vQ N2.out (Below.refl w2.heap.size _) (Nat.le_refl _) hgw
 have E4 := hid e3; have D4 := hid (WdR.of_wdB (R := fun _ => True) r3.wdB (fun _ _ => trivial))
 replace D1 := hid (D1.out.go hb3)
 replace Hc := hid (bt Hc.out hb3)
 clear hgw e3 r3 hb3 N2
 go_wp2_with fail
 refine (vR evs _ _ D1.out).mono ?_
 unfold PyOut
 rw [Hy.out, Hp.out]
 rintro e w4 ⟨a4, b4, c4, d4, rfl, n4, hb4⟩
 obtain ⟨A4, p4, A4b, p4b, A4c, p4c, A4d, p4d, rfl, rfl, rfl, rfl⟩ := cL n4
 have N4 := hid n4
 replace Hc := hid (bt Hc.out hb4)
 replace E4 := hid (heap_go hb4 E4.out)
 replace D4 := hid (D4.out.go hb4)
 have s4 := hb4.size
 clear n4 hb4 D1
 go_upto_region 6 with fail
 generalize hgw : World.alloc w4 _ = w5
 obtain ⟨e5, r5, hb5, _, s5⟩ := vQ N4.out (Below.refl w4.heap.size _) (Nat.le_refl _) hgw
 have E6 := hid e5; have D6 := hid (WdR.of_wdB (R := fun _ => True) r5.wdB (fun _ _ => trivial))
 replace Hc := hid (bt Hc.out hb5)
 replace E4 := hid (heap_go hb5 E4.out)
 replace D4 := hid (D4.out.go hb5)
 clear hgw e5 r5 hb5 N4
 obtain ⟨k0, k1, k2, k3, k4, k5, _⟩ := al E4.out
 obtain ⟨q0, q1, q2, q3, q4, q5, _⟩ := al E6.out
 have z4 : w2.heap.size < w5.heap.size := by omega
 have z6 : w4.heap.size < w5.heap.size := by omega
 go_wp2_with fail
 refine (a9 y _ _ _ D4.out.wdB D6.out.wdB).mono ?_
 rintro e w7 ⟨rfl, hb7⟩
 replace Hc := hid (bt Hc.out hb7)
 replace E4 := hid (heap_go hb7 E4.out)
 replace D4 := hid (D4.out.go hb7)
 replace E6 := hid (heap_go hb7 E6.out)
 replace D6 := hid (D6.out.go hb7)
 have s7 := hb7.size
 clear hb7 k0 k1 k2 k3 k4 k5 q0 q1 q2 q3 q4 q5 z4 z6
 obtain ⟨k0, k1, k2, k3, k4, k5, _⟩ := al E4.out
 have z4 : w2.heap.size < w7.heap.size := by omega
 cases pb with
 | false =>
  obtain ⟨q0, q1, q2, q3, q4, q5, _⟩ := al E6.out
  have z6 : w4.heap.size < w7.heap.size := by omega
  go_wp2_with fail
  refine (a9 y _ _ _ D4.out.wdB D6.out.wdB).mono ?_
  rintro e w8 ⟨rfl, hb8⟩
  go_wp2_with fail
  go_ret
  exact ⟨rfl, bt Hc.out hb8⟩
 | true =>
 replace Hy := hid (Hy.out.symm.trans (g9 Hp.out))
 have Hv := hid (show VD 0 y by rw [Hy.out]; exact vT evs)
 have Hgl := hid (show y.got.length ≤ 1073741824 by have := Hv.out.gl; omega)
 clear hpp hpe E6 D6
 go_wp2_with fail
 clear k0 k1 k2 k3 k4 k5
 have hgn : y.got.length ≤ 999 := Hv.out.gl
 go_loopw [8] (fun i wr => ∃ k : Nat, k ≤ y.got.length ∧ i = .int .i64 k ∧ Below w7.heap.size w7 wr) (fun i _ => y.got.length - (intOf i).toNat)
 case atStart => exact ⟨0, by omega, rfl, Below.refl _ _⟩
 case round =>
  obtain ⟨k, hk, rfl, hb⟩ := hrel
  have Hb := hid hb
  have r0 := heap_go hb E4.out
  obtain ⟨_, ds, _, dg⟩ := (D4.out.go hb).wdB.parts
  have Ds := hid ds
  obtain ⟨k0, k1, k2, k3, k4, k5, _⟩ := al r0
  have z4r : w2.heap.size < wr.heap.size := by have := hb.size; omega
  clear hb ds
  by_cases hlt : k < y.got.length
  ·obtain ⟨z, hz⟩ := ah hlt
   obtain ⟨b, o, rfl, _, _, p0, p1, p2⟩ := dg.lt3 hz
   have Hz := hid (show z ∈ y.sent by rw [Hy.out]; exact yf evs z (by rw [← Hy.out]; exact List.mem_of_getElem? hz))
   have HS := hid (fun (wx : World) (hT : Tch [] wr wx) => And.intro (al (hT.row r0 (by simp))) (And.intro (hT.cell p0 (by simp)) (And.intro (hT.cell p1 (by simp)) (hT.cell p2 (by simp)))))
   clear hz dg r0 p0 p1 p2
   go_wp2_with fail
   clear k0 k1 k2 k3 k4 k5
   refine rgN [] 9 (by kernel_rfl) rfl (fun | none, _, _, _, _ => id | some _, _, _, _, _ => id) fun wd hHeld hbwd swd => ?_
   simp only [pw]
   refine tr 0 HS.out rfl (by kernel_rfl) rfl (fun _ f => by go_simp; try with_reducible rfl) ?_
   refine tr 1 HS.out rfl (by kernel_rfl) rfl (fun _ f => by go_simp; try with_reducible rfl) ?_
   refine tr 2 HS.out rfl (by kernel_rfl) rfl (fun _ f => by go_simp; try with_reducible rfl) ?_
   try simp only [pw]
   refine tr 3 HS.out rfl (by kernel_rfl) rfl (fun _ f => by go_simp; try with_reducible rfl) ?_
   refine tr 4 HS.out rfl (by kernel_rfl) rfl (fun _ f => by go_simp; try with_reducible rfl) ?_
   refine tr 5 HS.out rfl (by kernel_rfl) rfl (fun _ f => by go_simp; try with_reducible rfl) ?_
   try simp only [pw]
   refine tr 6 HS.out rfl (by kernel_rfl) rfl (fun _ f => by go_simp; try with_reducible rfl) ?_
   try simp only [pw]
   refine rq 7 (by kernel_rfl) rfl fun K hK => ?_
   go_simp
   (go_at_call 16; refine (xf _ y.sent z _ (Ds.out.go hHeld.nil)).mono ?_; rintro e w5 ⟨r, rfl, hr, hbC⟩; obtain rfl : r = true := hr.2 Hz.out)
   refine hK.out _ _ (hHeld.trans (Tch.of hbC)) (fun hHeld => ?_)
   clear hK K
   refine tr 8 HS.out rfl (by kernel_rfl) rfl (fun _ f => by go_simp; try with_reducible rfl) ?_
   try simp only [pw]
   refine dm (by kernel_rfl) ?_
   go_wp2_with fail
   go_roundw
   case rel => exact ⟨k + 1, by omega, by go_num, bt Hb.out (bt hbwd hbC)⟩
   case measure => simp [intOf]; omega
  ·clear dg
   go_wp2_with fail
   refine (rJ y _ _ (D4.out.go Hb.out).wdB Hgl.out).mono ?_
   rw [mm.2 Hv.out]
   rintro e w9 ⟨rfl, hb9⟩
   go_wp2_with fail
   go_ret
   exact ⟨rfl, bt Hc.out (bt Hb.out hb9)⟩
theorem wG (os : Os) (started : os.Started) (H : Type) (enc : TypeId × Value → H) :
  ReturnsInHanded {} Tryz.checked os 3 .any (fun w args => (Rows.fnWorldSentSpec.pre enc Tryz.prog Tryz.f3 [] false w args ∧ laidMetH Tryz.prog lh w) ∧ sizedMet enc Tryz.prog Tryz.f3 (OpenSpec.ofChange Rows.fnWorldSentSpec) false w args) (Rows.fnWorldSentSpec.post enc Tryz.prog Tryz.f3 false true false false) := by
 refine returnsInHanded_of_change_and (C := Tryz.checked) (X := fun w _ => laidMetH Tryz.prog lh w) (fun _ _ _ hh h => h.of_heap hh) su started (by kernel_rfl) Tryz.func3
  (ChangeSpec.witness_at (enc := enc) (C := Tryz.checked) (os := os) (X := fun w _ => laidMetH Tryz.prog lh w) false (lj os) #[.slice none 0 0] 8 rfl (by kernel_rfl) (by kernel_rfl) (by kernel_rfl) (by kernel_rfl) (by kernel_rfl) (kH os _)) ?_
 intro W base args ds gs before hval0 hW _ _ hL _
 have hg := jz hL
 have hval : ∀ (j : Nat) t v, Tryz.f3.params[j]? = some t → args[j]? = some v → Value.okWide Tryz.prog W .any base t v := hval0
 have hW' := hW
 obtain ⟨p, q, hA0, hV, rfl, hfz, hnd⟩ := hW
 have hA : DataW.TrodAll enc Tryz.prog W 0 (fun _ => true) true Tryz.f3.params.toList args.toList ds p := hA0
 rw [Tryz.params3] at hA hval
 obtain ⟨v0, vs0, d0, ds0, p0, q0, hargs, rfl, rfl, h0, r0⟩ := trodAll_cons hA
 obtain ⟨rfl, rfl, rfl⟩ := trodAll_nil r0
 obtain rfl : args = #[v0] := by cases args; simp_all
 obtain ⟨rfl, rfl⟩ : gs = [] ∧ q = [] := by
  cases gs with
  | nil => exact ⟨rfl, hV⟩
  | cons g r => exact absurd hV (by intro h; cases h)
 have k0 := h0
 have lt0 : ∀ x ∈ p0, x.block < W.heap.size := by obtain ⟨m, hm⟩ := k0; exact DataW.trod_lt m _ _ _ hm
 obtain ⟨xs0, s0, f0⟩ := vW fa Tryz.underlying22 (hval 0 22 v0 rfl rfl) h0
 clear hA0 hval0
 refine (FnWorldSent_c v0 xs0 W hg s0 f0).mono fun e W' ⟨he, bel⟩ => ?_
 subst he
 exact ⟨_, rfl, _, _, _, [], _, [], hW', trodAll_mk1 (shut_bool Tryz.underlying4 _), (trodAll_cons_mk (Below.trod mU (by kernel_rfl) (of_decide_eq_true (by kernel_rfl)) k0 bel lt0) trodAll_mk0), rfl, bel.frame _, fun h => by cases h⟩
theorem xc : joinedFacts Tryz.prog 3 Tryz.f3 Rows.fnWorldSentSpec Rows.fnWorldSentRow = true := by
 unfold joinedFacts
 simp only [Bool.and_eq_true]
 repeat' apply And.intro
 ·as_aux_lemma => kernel_rfl
 ·as_aux_lemma => kernel_rfl
 ·as_aux_lemma => kernel_rfl
 ·as_aux_lemma => kernel_rfl
 ·as_aux_lemma => kernel_rfl
 ·as_aux_lemma => kernel_rfl
 ·as_aux_lemma => kernel_rfl
 ·as_aux_lemma => kernel_rfl
 ·as_aux_lemma => kernel_rfl
 ·as_aux_lemma => kernel_rfl
 ·as_aux_lemma => kernel_rfl
 ·as_aux_lemma => kernel_rfl
 ·as_aux_lemma => kernel_rfl
 ·as_aux_lemma => kernel_rfl
 ·as_aux_lemma => kernel_rfl
 ·as_aux_lemma => kernel_rfl
 ·as_aux_lemma => kernel_rfl
 ·as_aux_lemma => kernel_rfl
 ·as_aux_lemma => kernel_rfl
 ·as_aux_lemma => kernel_rfl
 ·as_aux_lemma => kernel_rfl
 ·as_aux_lemma => kernel_rfl
 ·as_aux_lemma => kernel_rfl
 ·as_aux_lemma => kernel_rfl
 ·as_aux_lemma => kernel_rfl
 ·exact oo
 ·rw [ot]; rfl
 ·rw [ql]; rfl
 ·as_aux_lemma => kernel_rfl
 ·as_aux_lemma => kernel_rfl
 ·as_aux_lemma => kernel_rfl
 ·as_aux_lemma => kernel_rfl
theorem xd : Tryz.prog.funcNamed Rows.fnWorldSentRow.func = some 3 := by kernel_rfl
theorem xw : Tryz.f3.isWrapper Tryz.prog Rows.fnWorldSentRow.wrapper Rows.fnWorldSentRow.mainSum := (by unfold Func.isWrapper; first | (rw [if_pos (by decide +kernel)]; kernel_rfl) | (rw [if_neg (by decide +kernel)]; exact ⟨rfl, rfl⟩))
theorem xu : Rows.fnWorldSentRow.holds Tryz.pinned (OpenSpec.ofChange Rows.fnWorldSentSpec) :=
 OpenClaim.holds_of_wide (p := Tryz.pinned) 3 Tryz.f3 rfl rfl rfl rfl rfl rfl rfl ⟨rfl, rfl, rfl, rfl, rfl⟩ rfl rfl rfl rfl rfl xd Tryz.func3 xc
  (of_decide_eq_true (by kernel_rfl)) xw
  (fun os started H enc _ => wG os started H enc)
theorem FnWorldSent_holds : Rows.FnWorldSentCardSaid :=
 Claim7.holds_tied_plain_at .later [] [.handle] true (true, "f6a317a23dd1ee8c09a768da66efcfbaf3b078b2529fbb5caec4172cd33d1f77") true
  xu (fun _ h => by cases h) (by kernel_rfl) (fun _ h => by cases h) fnWorldSent_row_tie rfl ⟨rfl, rfl⟩ (by kernel_rfl) rfl
  (fun f fn hf hfn => by
   obtain rfl : f = 3 := Option.some.inj ((show Tryz.prog.funcNamed Rows.fnWorldSentRow.func = some 3 by kernel_rfl).symm.trans hf) |>.symm
   obtain rfl : fn = Tryz.f3 := (Option.some.inj (Tryz.func3.symm.trans hfn)).symm
   exact ⟨by kernel_rfl, fun j t ht => by
    rw [Tryz.params3] at ht
    rcases j with _ | _ | j
    all_goals (first | (simp at ht; done) | (simp at ht; subst ht; exact (show Tryz.prog.wantsStandIn _ = false by kernel_rfl)))⟩)
  (by kernel_rfl)
#print axioms FnWorldSent_holds
end
end Go.Proofs.YtfmibcofgckldaaGreatDoor
