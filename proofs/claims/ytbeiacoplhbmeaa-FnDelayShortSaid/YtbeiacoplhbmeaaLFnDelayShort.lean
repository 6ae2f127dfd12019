/- The program's plan is the reference's; at the shortest period no letter waits longer than there are letters. No condition. -/
import Derived.Test.YtbeiacoplhbmeaaCovJ
namespace Go.Proofs.Ytbeiacoplhbmeaa
open Go Go.RowKit Go.ChangeShapes Go.WideShapes Go.ChangeAt
set_option maxHeartbeats 400000
theorem FnDelayShort_c (v0 : Value) (xs0 : List Int) (w : World) (s0 : SlB tByte w.heap.size w v0 xs0) (f0 : ∀ x ∈ xs0, (Lit.int .u8 x).wf = true) :
    Calls Try.prog 17 #[v0] w (ok true w.heap.size w) := by
  obtain ⟨A, c, rfl, a1, a2, a3⟩ := s0.form
  clear a2
  by_cases hl : 1048576 < xs0.length
  · go_enter Try.func17, Try.ntmps17
    go_wp2
    all_goals go_ret
    all_goals exact ⟨rfl, Below.refl _ _⟩
  · go_enter Try.func17, Try.ntmps17
    go_wp2_with fail
    refine (DrawCoverPlan_c _ xs0 _ s0 (fun x hx => wf_u8 (f0 x hx))).mono ?_
    rintro e w1 ⟨v, r, p, u, rfl, hr9, or, hb1⟩
    have sr := or.slB
    go_wp2_with fail
    refine (CoverPlan_impl v r p u w1 sr).mono ?_
    rintro e w2 ⟨v2, rfl, n2, hb2⟩
    have s2 := n2.slB
    have sr := (sr.below hb2 (Nat.le_refl _)).mono hb2.size
    go_wp2_with fail
    refine (CoverPlan_spec v r p u w2 sr).mono ?_
    rintro e w3 ⟨v3, rfl, n3, hb3⟩
    have s3 := n3.slB
    have s2 := (s2.below hb3 (Nat.le_refl _)).mono hb3.size
    have sr := (sr.below hb3 (Nat.le_refl _)).mono hb3.size
    go_wp2_with fail
    refine (samePlan_t v2 v3 _ w3 s2 s3).mono ?_
    rintro e w4 ⟨rfl, hb4⟩
    have s3 := (s3.below hb4 (Nat.le_refl _)).mono hb4.size
    have s2 := (s2.below hb4 (Nat.le_refl _)).mono hb4.size
    have sr := (sr.below hb4 (Nat.le_refl _)).mono hb4.size
    have hB : Below w.heap.size w w4 := hb1.trans ((hb2.mono hb1.size).trans ((hb3.mono (Nat.le_trans hb1.size hb2.size)).trans (hb4.mono (Nat.le_trans hb1.size (Nat.le_trans hb2.size hb3.size)))))
    clear hb1 hb2 hb3 hb4 n2 n3 s0 or f0
    cases hok : Cov.ok r p u with
    | false =>
      rw [show Cov.full r p u = [] from by simp [Cov.full, hok]] at s2 s3
      obtain ⟨A2, c2, rfl, _, _, _⟩ := s2.form
      have S2 := hid s2; have S3 := hid s3; have HB := hid hB
      clear s2 s3 sr hB hok
      go_wp2_with fail
      refine (samePlan_t _ v3 [] w4 S2.out S3.out).mono ?_
      rintro e w5 ⟨rfl, hb5⟩
      have HB := hid (HB.out.trans (hb5.mono HB.out.size))
      clear hb5
      go_wp2
      go_ret
      exact ⟨rfl, HB.out⟩
    | true =>
      rw [show Cov.full r p u = Cov.plan r p (Cov.num p u) from by simp [Cov.full, hok]] at s2
      have hp := Cov.ok_parts.1 hok
      have hp1 := hp.2.1.1; have hp9 := hp.2.1.2; have hu0 := hp.2.2.1.1; have hu40 := hp.2.2.1.2; have hr8 := hp.2.2.2
      have Hok := hid hp.1
      obtain ⟨A2, c2, rfl, d1, _, d3⟩ := s2.form
      have hlen := Cov.plan_length r p (Cov.num p u)
      generalize hN : Cov.num p u = N at *
      rw [hlen] at d1 d3
      rw [hlen] at s2 ⊢
      have HN := hid hN
      have hN0 : 0 < N := by rw [← hN]; unfold Cov.num; omega
      have S2 := hid s2; have Sr := hid sr; have HB := hid hB
      clear s2 s3 sr hB hok hp hlen hN
      obtain ⟨Ar, cr, rfl, e1, _, e3⟩ := Sr.out.form
      have Hf := hid (full_ok (Cov.ok_parts.2 ⟨Hok.out, ⟨show (1 : Int) ≤ 1 by omega, show (1 : Int) ≤ 9 by omega⟩, ⟨hu0, hu40⟩, hr8⟩))
      go_wp2_with fail
      refine (CoverPlan_impl _ r 1 u w4 Sr.out).mono ?_
      rintro e w5 ⟨v5, rfl, n5, hb5⟩
      rw [Hf.out] at n5
      have s5 := n5.slB
      have sr := Sr.out.go hb5
      have HB := hid (bt HB.out hb5)
      clear n5 hb5
      go_wp2_with fail
      refine (CoverDelay_impl _ _ r _ w5 sr s5).mono ?_
      have hd := delay_short (N := Cov.num 1 u) Hok.out
      generalize Cov.delay r (Cov.plan r 1 (Cov.num 1 u)) = d at *
      rintro e w6 ⟨rfl, hb6⟩
      have HB := hid (bt HB.out hb6)
      clear hb6 s5 sr S2 Sr
      go_wp2
      go_ret
      exact ⟨ret_bool (by simp [hd]), HB.out⟩
set_option maxRecDepth 100000 in
theorem FnDelayShort_lifted (os : Os) (started : os.Started) (H : Type) (enc : TypeId × Value → H) :
    ReturnsInHanded {} Try.checked os 17 .any (Rows.fnDelayShortSpec.pre6 enc Try.prog Try.f17 Rows.fnDelayShortRow.domain false) (Rows.fnDelayShortSpec.post enc Try.prog Try.f17 false true false false) := by
  refine returnsInHanded_of_change (C := Try.checked) own_knob started (by kernel_rfl) Try.func17
    (ChangeSpec.witness6 (enc := enc) (C := Try.checked) false ⟨#[], #[.slice none 0 0], []⟩ 8 (by kernel_rfl) (by kernel_rfl) (by kernel_rfl) (by kernel_rfl)) ?_
  intro W base args ds gs before hval0 hW hcnd _
  have hval : ∀ (j : Nat) t v, Try.f17.params[j]? = some t → args[j]? = some v → Value.okWide Try.prog W .any base t v := hval0
  have hW' := hW
  obtain ⟨p, q, hA0, hV, rfl, hfz, hnd⟩ := hW
  have hA : DataW.TrodAll enc Try.prog W 0 (fun _ => true) true Try.f17.params.toList args.toList ds p := hA0
  rw [Try.params17] at hA hval
  obtain ⟨v0, vs0, d0, ds0, p0, q0, hargs, rfl, rfl, h0, r0⟩ := trodAll_cons hA
  obtain ⟨rfl, rfl, rfl⟩ := trodAll_nil r0
  obtain rfl : args = #[v0] := by cases args; simp_all
  obtain ⟨rfl, rfl⟩ := trodVars_none hV
  have k0 := h0
  have lt0 : ∀ x ∈ p0, x.block < W.heap.size := by obtain ⟨m, hm⟩ := k0; exact DataW.trod_lt m _ _ _ hm
  obtain ⟨xs0, s0, f0⟩ := opn_slice opens_bytes Try.underlying27 (hval 0 27 v0 rfl rfl) h0
  clear hA0 hval0
  refine (FnDelayShort_c v0 xs0 W s0 f0).mono fun e W' ⟨he, bel⟩ => ?_
  subst he
  exact ⟨_, rfl, _, _, _, [], _, [], hW', trodAll_mk1 (shut_bool Try.underlying4 _), (trodAll_cons_mk (Below.trod laid_out (by kernel_rfl) (of_decide_eq_true (by kernel_rfl)) k0 bel lt0) trodAll_mk0), rfl, bel.frame _, fun h => by cases h⟩

theorem FnDelayShort_facts : joinedFacts Try.prog 17 Try.f17 Rows.fnDelayShortSpec Rows.fnDelayShortRow = true := by
  unfold joinedFacts
  simp only [Bool.and_eq_true]
  repeat' apply And.intro
  · as_aux_lemma => kernel_rfl
  · as_aux_lemma => kernel_rfl
  · as_aux_lemma => kernel_rfl
  · as_aux_lemma => kernel_rfl
  · as_aux_lemma => kernel_rfl
  · as_aux_lemma => kernel_rfl
  · as_aux_lemma => kernel_rfl
  · as_aux_lemma => kernel_rfl
  · as_aux_lemma => kernel_rfl
  · as_aux_lemma => kernel_rfl
  · as_aux_lemma => kernel_rfl
  · as_aux_lemma => kernel_rfl
  · as_aux_lemma => kernel_rfl
  · as_aux_lemma => kernel_rfl
  · as_aux_lemma => kernel_rfl
  · as_aux_lemma => kernel_rfl
  · as_aux_lemma => kernel_rfl
  · as_aux_lemma => kernel_rfl
  · as_aux_lemma => kernel_rfl
  · as_aux_lemma => kernel_rfl
  · as_aux_lemma => kernel_rfl
  · as_aux_lemma => kernel_rfl
  · as_aux_lemma => kernel_rfl
  · as_aux_lemma => kernel_rfl
  · as_aux_lemma => kernel_rfl
  · exact fact_enter
  · rw [fact_final]; rfl
  · rw [fact_make]; rfl
  · as_aux_lemma => kernel_rfl
  · as_aux_lemma => kernel_rfl
  · as_aux_lemma => kernel_rfl
  · as_aux_lemma => kernel_rfl
theorem FnDelayShort_named : Try.prog.funcNamed Rows.fnDelayShortRow.func = some 17 := by kernel_rfl
theorem FnDelayShort_wrap : Try.f17.isWrapper Try.prog Rows.fnDelayShortRow.wrapper Rows.fnDelayShortRow.mainSum := (by unfold Func.isWrapper; first | (rw [if_pos (by decide +kernel)]; kernel_rfl) | (rw [if_neg (by decide +kernel)]; exact ⟨rfl, rfl⟩))
theorem FnDelayShort_over : Rows.fnDelayShortRow.holds Try.pinned (OpenSpec.ofChange Rows.fnDelayShortSpec) :=
  OpenClaim.holds_of_wide (p := Try.pinned) 17 Try.f17 rfl rfl rfl rfl rfl rfl rfl ⟨rfl, rfl, rfl, rfl, rfl⟩ rfl rfl rfl rfl rfl FnDelayShort_named Try.func17 FnDelayShort_facts
    (of_decide_eq_true (by kernel_rfl)) FnDelayShort_wrap
    (fun os started H enc _ => FnDelayShort_lifted os started H enc)
theorem FnDelayShort_holds : Rows.FnDelayShortSaid := FnDelayShort_over
#print axioms FnDelayShort_holds
end Go.Proofs.Ytbeiacoplhbmeaa
