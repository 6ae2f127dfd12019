/- The program's plan is the reference's; without letters everything is cover. No condition. -/
import Derived.Test.YtbeiacoplhbmeaaCovJ
namespace Go.Proofs.Ytbeiacoplhbmeaa
open Go Go.RowKit Go.ChangeShapes Go.WideShapes Go.ChangeAt
set_option maxHeartbeats 400000
theorem FnPlanNone_c (v0 : Value) (xs0 : List Int) (w : World) (s0 : SlB tByte w.heap.size w v0 xs0) (f0 : ∀ x ∈ xs0, (Lit.int .u8 x).wf = true) :
    Calls Try.prog 20 #[v0] w (ok true w.heap.size w) := by
  obtain ⟨A, c, rfl, a1, a2, a3⟩ := s0.form
  clear a2
  by_cases hl : 1048576 < xs0.length
  · go_enter Try.func20, Try.ntmps20
    go_wp2
    all_goals go_ret
    all_goals exact ⟨rfl, Below.refl _ _⟩
  · go_enter Try.func20, Try.ntmps20
    go_wp2_with fail
    refine (DrawCoverPlan_c _ xs0 _ s0 (fun x hx => wf_u8 (f0 x hx))).mono ?_
    rintro e w1 ⟨v, r, p, u, rfl, hr9, or, hb1⟩
    have sr := or.slB
    go_wp2_with fail
    refine (CoverPlan_impl v r p u w1 sr).mono ?_
    rintro e w2 ⟨v2, rfl, n2, hb2⟩
    have s2 := n2.slB
    have sr := (sr.below hb2 (Nat.le_refl _)).mono hb2.size
    go_wp2_with fail
    refine (CoverPlan_spec v r p u w2 sr).mono ?_
    rintro e w3 ⟨v3, rfl, n3, hb3⟩
    have s3 := n3.slB
    have s2 := (s2.below hb3 (Nat.le_refl _)).mono hb3.size
    have sr := (sr.below hb3 (Nat.le_refl _)).mono hb3.size
    go_wp2_with fail
    refine (samePlan_t v2 v3 _ w3 s2 s3).mono ?_
    rintro e w4 ⟨rfl, hb4⟩
    have s3 := (s3.below hb4 (Nat.le_refl _)).mono hb4.size
    have s2 := (s2.below hb4 (Nat.le_refl _)).mono hb4.size
    have sr := (sr.below hb4 (Nat.le_refl _)).mono hb4.size
    have hB : Below w.heap.size w w4 := hb1.trans ((hb2.mono hb1.size).trans ((hb3.mono (Nat.le_trans hb1.size hb2.size)).trans (hb4.mono (Nat.le_trans hb1.size (Nat.le_trans hb2.size hb3.size)))))
    clear hb1 hb2 hb3 hb4 n2 n3 s0 or f0
    cases hok : Cov.ok r p u with
    | false =>
      rw [show Cov.full r p u = [] from by simp [Cov.full, hok]] at s2 s3
      obtain ⟨A2, c2, rfl, _, _, _⟩ := s2.form
      have S2 := hid s2; have S3 := hid s3; have HB := hid hB
      clear s2 s3 sr hB hok
      go_wp2_with fail
      refine (samePlan_t _ v3 [] w4 S2.out S3.out).mono ?_
      rintro e w5 ⟨rfl, hb5⟩
      have HB := hid (HB.out.trans (hb5.mono HB.out.size))
      clear hb5
      go_wp2
      go_ret
      exact ⟨rfl, HB.out⟩
    | true =>
      rw [show Cov.full r p u = Cov.plan r p (Cov.num p u) from by simp [Cov.full, hok]] at s2
      have hp := Cov.ok_parts.1 hok
      have hp1 := hp.2.1.1; have hp9 := hp.2.1.2; have hu0 := hp.2.2.1.1; have hu40 := hp.2.2.1.2; have hr8 := hp.2.2.2
      have Hok := hid hp.1
      obtain ⟨A2, c2, rfl, d1, _, d3⟩ := s2.form
      have hlen := Cov.plan_length r p (Cov.num p u)
      generalize hN : Cov.num p u = N at *
      rw [hlen] at d1 d3
      rw [hlen] at s2 ⊢
      have HN := hid hN
      have hN0 : 0 < N := by rw [← hN]; unfold Cov.num; omega
      have S2 := hid s2; have Sr := hid sr; have HB := hid hB
      clear s2 s3 sr hB hok hp hlen hN
      go_wp2_with fail
      refine (CoverPlan_impl _ [] p u _ (lit_own w4 3 [] (by simp))).mono ?_
      rw [full_ok (ok_nil ⟨hp1, hp9⟩ ⟨hu0, hu40⟩), HN.out]
      rintro e w5 ⟨v5, rfl, n5, hb5⟩
      have s5 := n5.slB
      have HB := hid (bt HB.out (bt (lit_below _ _) hb5))
      have hcv : Cov.cover (Cov.plan [] p N) = N := by have := Cov.cover_plan [] p N; rw [nx_nil] at this; omega
      have Hcv := hid hcv
      clear n5 hb5 hcv
      go_wp2_with fail
      refine (CoverCount_impl _ _ _ s5).mono ?_
      rw [Hcv.out]
      rintro e w6 ⟨rfl, hb6⟩
      have s6 := s5.go hb6
      have HB := hid (bt HB.out hb6)
      clear hb6 s5
      go_wp2_with fail
      refine (CoverDelay_impl _ _ [] _ _ (lit_own w6 3 [] (by simp)) (s6.go (lit_below _ _))).mono ?_
      rw [delay_nil]
      rintro e w7 ⟨rfl, hb7⟩
      have HB := hid (bt HB.out (bt (lit_below _ _) hb7))
      clear hb7 s6
      go_wp2
      go_ret
      exact ⟨ret_bool (by simp), HB.out⟩
set_option maxRecDepth 100000 in
theorem FnPlanNone_lifted (os : Os) (started : os.Started) (H : Type) (enc : TypeId × Value → H) :
    ReturnsInHanded {} Try.checked os 20 .any (Rows.fnPlanNoneSpec.pre6 enc Try.prog Try.f20 Rows.fnPlanNoneRow.domain false) (Rows.fnPlanNoneSpec.post enc Try.prog Try.f20 false true false false) := by
  refine returnsInHanded_of_change (C := Try.checked) own_knob started (by kernel_rfl) Try.func20
    (ChangeSpec.witness6 (enc := enc) (C := Try.checked) false ⟨#[], #[.slice none 0 0], []⟩ 8 (by kernel_rfl) (by kernel_rfl) (by kernel_rfl) (by kernel_rfl)) ?_
  intro W base args ds gs before hval0 hW hcnd _
  have hval : ∀ (j : Nat) t v, Try.f20.params[j]? = some t → args[j]? = some v → Value.okWide Try.prog W .any base t v := hval0
  have hW' := hW
  obtain ⟨p, q, hA0, hV, rfl, hfz, hnd⟩ := hW
  have hA : DataW.TrodAll enc Try.prog W 0 (fun _ => true) true Try.f20.params.toList args.toList ds p := hA0
  rw [Try.params20] at hA hval
  obtain ⟨v0, vs0, d0, ds0, p0, q0, hargs, rfl, rfl, h0, r0⟩ := trodAll_cons hA
  obtain ⟨rfl, rfl, rfl⟩ := trodAll_nil r0
  obtain rfl : args = #[v0] := by cases args; simp_all
  obtain ⟨rfl, rfl⟩ := trodVars_none hV
  have k0 := h0
  have lt0 : ∀ x ∈ p0, x.block < W.heap.size := by obtain ⟨m, hm⟩ := k0; exact DataW.trod_lt m _ _ _ hm
  obtain ⟨xs0, s0, f0⟩ := opn_slice opens_bytes Try.underlying27 (hval 0 27 v0 rfl rfl) h0
  clear hA0 hval0
  refine (FnPlanNone_c v0 xs0 W s0 f0).mono fun e W' ⟨he, bel⟩ => ?_
  subst he
  exact ⟨_, rfl, _, _, _, [], _, [], hW', trodAll_mk1 (shut_bool Try.underlying4 _), (trodAll_cons_mk (Below.trod laid_out (by kernel_rfl) (of_decide_eq_true (by kernel_rfl)) k0 bel lt0) trodAll_mk0), rfl, bel.frame _, fun h => by cases h⟩

theorem FnPlanNone_facts : joinedFacts Try.prog 20 Try.f20 Rows.fnPlanNoneSpec Rows.fnPlanNoneRow = true := by
  unfold joinedFacts
  simp only [Bool.and_eq_true]
  repeat' apply And.intro
  · as_aux_lemma => kernel_rfl
  · as_aux_lemma => kernel_rfl
  · as_aux_lemma => kernel_rfl
  · as_aux_lemma => kernel_rfl
  · as_aux_lemma => kernel_rfl
  · as_aux_lemma => kernel_rfl
  · as_aux_lemma => kernel_rfl
  · as_aux_lemma => kernel_rfl
  · as_aux_lemma => kernel_rfl
  · as_aux_lemma => kernel_rfl
  · as_aux_lemma => kernel_rfl
  · as_aux_lemma => kernel_rfl
  · as_aux_lemma => kernel_rfl
  · as_aux_lemma => kernel_rfl
  · as_aux_lemma => kernel_rfl
  · as_aux_lemma => kernel_rfl
  · as_aux_lemma => kernel_rfl
  · as_aux_lemma => kernel_rfl
  · as_aux_lemma => kernel_rfl
  · as_aux_lemma => kernel_rfl
  · as_aux_lemma => kernel_rfl
  · as_aux_lemma => kernel_rfl
  · as_aux_lemma => kernel_rfl
  · as_aux_lemma => kernel_rfl
  · as_aux_lemma => kernel_rfl
  · exact fact_enter
  · rw [fact_final]; rfl
  · rw [fact_make]; rfl
  · as_aux_lemma => kernel_rfl
  · as_aux_lemma => kernel_rfl
  · as_aux_lemma => kernel_rfl
  · as_aux_lemma => kernel_rfl
theorem FnPlanNone_named : Try.prog.funcNamed Rows.fnPlanNoneRow.func = some 20 := by kernel_rfl
theorem FnPlanNone_wrap : Try.f20.isWrapper Try.prog Rows.fnPlanNoneRow.wrapper Rows.fnPlanNoneRow.mainSum := (by unfold Func.isWrapper; first | (rw [if_pos (by decide +kernel)]; kernel_rfl) | (rw [if_neg (by decide +kernel)]; exact ⟨rfl, rfl⟩))
theorem FnPlanNone_over : Rows.fnPlanNoneRow.holds Try.pinned (OpenSpec.ofChange Rows.fnPlanNoneSpec) :=
  OpenClaim.holds_of_wide (p := Try.pinned) 20 Try.f20 rfl rfl rfl rfl rfl rfl rfl ⟨rfl, rfl, rfl, rfl, rfl⟩ rfl rfl rfl rfl rfl FnPlanNone_named Try.func20 FnPlanNone_facts
    (of_decide_eq_true (by kernel_rfl)) FnPlanNone_wrap
    (fun os started H enc _ => FnPlanNone_lifted os started H enc)
theorem FnPlanNone_holds : Rows.FnPlanNoneSaid := FnPlanNone_over
#print axioms FnPlanNone_holds
end Go.Proofs.Ytbeiacoplhbmeaa
