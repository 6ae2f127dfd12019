/- The program's plan is the reference's; the times that show are the same, whatever letters there are. No condition. -/
import Derived.Test.YtbeiacoplhbmeaaCovJ
namespace Go.Proofs.Ytbeiacoplhbmeaa
open Go Go.RowKit Go.ChangeShapes Go.WideShapes Go.ChangeAt
set_option maxHeartbeats 400000
theorem FnPlanHidden_c (v0 : Value) (xs0 : List Int) (v1 : Value) (xs1 : List Int) (w : World) (s0 : SlB tByte w.heap.size w v0 xs0) (f0 : ∀ x ∈ xs0, (Lit.int .u8 x).wf = true) (s1 : SlB tByte w.heap.size w v1 xs1) (f1 : ∀ x ∈ xs1, (Lit.int .u8 x).wf = true) :
    Calls Try.prog 18 #[v0, v1] w (ok true w.heap.size w) := by
  obtain ⟨A, c, rfl, a1, a2, a3⟩ := s0.form
  obtain ⟨A', c', rfl, b1, b2, b3⟩ := s1.form
  clear a2 b2 s1 f1
  by_cases hl : 1048576 < xs0.length
  · go_enter Try.func18, Try.ntmps18
    go_wp2
    all_goals go_ret
    all_goals exact ⟨rfl, Below.refl _ _⟩
  · by_cases hl2 : 1048576 < xs1.length
    · go_enter Try.func18, Try.ntmps18
      go_wp2
      all_goals go_ret
      all_goals exact ⟨rfl, Below.refl _ _⟩
    · go_enter Try.func18, Try.ntmps18
      go_wp2_with fail
      refine (DrawCoverPlan_c _ xs0 _ s0 (fun x hx => wf_u8 (f0 x hx))).mono ?_
      rintro e w1 ⟨v, r, p, u, rfl, hr9, or, hb1⟩
      have sr := or.slB
      go_wp2_with fail
      refine (CoverPlan_impl v r p u w1 sr).mono ?_
      rintro e w2 ⟨v2, rfl, n2, hb2⟩
      have s2 := n2.slB
      have sr := (sr.below hb2 (Nat.le_refl _)).mono hb2.size
      go_wp2_with fail
      refine (CoverPlan_spec v r p u w2 sr).mono ?_
      rintro e w3 ⟨v3, rfl, n3, hb3⟩
      have s3 := n3.slB
      have s2 := (s2.below hb3 (Nat.le_refl _)).mono hb3.size
      have sr := (sr.below hb3 (Nat.le_refl _)).mono hb3.size
      go_wp2_with fail
      refine (samePlan_t v2 v3 _ w3 s2 s3).mono ?_
      rintro e w4 ⟨rfl, hb4⟩
      have s3 := (s3.below hb4 (Nat.le_refl _)).mono hb4.size
      have s2 := (s2.below hb4 (Nat.le_refl _)).mono hb4.size
      have sr := (sr.below hb4 (Nat.le_refl _)).mono hb4.size
      have hB : Below w.heap.size w w4 := hb1.trans ((hb2.mono hb1.size).trans ((hb3.mono (Nat.le_trans hb1.size hb2.size)).trans (hb4.mono (Nat.le_trans hb1.size (Nat.le_trans hb2.size hb3.size)))))
      clear hb1 hb2 hb3 hb4 n2 n3 s0 or f0
      cases hok : Cov.ok r p u with
      | false =>
        rw [show Cov.full r p u = [] from by simp [Cov.full, hok]] at s2 s3
        obtain ⟨A2, c2, rfl, _, _, _⟩ := s2.form
        have S2 := hid s2; have S3 := hid s3; have HB := hid hB
        clear s2 s3 sr hB hok
        go_wp2_with fail
        refine (samePlan_t _ v3 [] w4 S2.out S3.out).mono ?_
        rintro e w5 ⟨rfl, hb5⟩
        have HB := hid (HB.out.trans (hb5.mono HB.out.size))
        clear hb5
        go_wp2
        go_ret
        exact ⟨rfl, HB.out⟩
      | true =>
        rw [show Cov.full r p u = Cov.plan r p (Cov.num p u) from by simp [Cov.full, hok]] at s2
        have hp := Cov.ok_parts.1 hok
        have hp1 := hp.2.1.1; have hp9 := hp.2.1.2; have hu0 := hp.2.2.1.1; have hu40 := hp.2.2.1.2; have hr8 := hp.2.2.2
        have Hok := hid hp.1
        obtain ⟨A2, c2, rfl, d1, _, d3⟩ := s2.form
        have hlen := Cov.plan_length r p (Cov.num p u)
        generalize hN : Cov.num p u = N at *
        rw [hlen] at d1 d3
        rw [hlen] at s2 ⊢
        have HN := hid hN
        have hN0 : 0 < N := by rw [← hN]; unfold Cov.num; omega
        have S2 := hid s2; have Sr := hid sr; have HB := hid hB
        clear s2 s3 sr hB hok hp hlen hN
        have m0 : 0 ≤ (xs1.length : Int) % 9 := Int.emod_nonneg _ (by omega)
        have m1 : (xs1.length : Int) % 9 ≤ 8 := by omega
        have Ht := hid (show 0 ≤ (xs1.length : Int) % 9 ∧ (xs1.length : Int) % 9 ≤ 8 from ⟨m0, m1⟩)
        have hN41 := num_le hp1 hu0 hu40
        rw [HN.out] at hN41
        have Hf := hid (show ∀ r, (Cov.plan r p N).map Prod.fst = (List.range N).map (fun i : Nat => (i : Int) * p) from fun r => fst_plan r p N)
        have Hl := hid (show ∀ r, (Cov.plan r p N).length ≤ 1073741824 from fun r => by rw [Cov.plan_length]; omega)
        generalize (List.range N).map (fun i : Nat => (i : Int) * p) = ts at Hf
        go_wp2_with fail
        refine (CoverPlan_impl _ [] p u _ (lit_own w4 3 [] (by simp))).mono ?_
        rw [full_ok (ok_nil ⟨hp1, hp9⟩ ⟨hu0, hu40⟩), HN.out]
        rintro e w5 ⟨v5, rfl, n5, hb5⟩
        have hb5 := bt (lit_below _ _) hb5
        have S5 := hid n5.slB
        have S2 := hid (S2.out.go hb5)
        have HB := hid (bt HB.out hb5)
        clear n5 hb5
        go_wp2_with fail
        generalize (xs1.length : Int) % 9 = t at *
        refine (CoverPlan_impl _ [t, 9] p u _ (lit_own w5 3 [t, 9] (by simp))).mono ?_
        rw [full_ok (ok_two Ht.out ⟨hp1, hp9⟩ ⟨hu0, hu40⟩), HN.out]
        rintro e w6 ⟨v6, rfl, n6, hb6⟩
        have hb6 := bt (lit_below _ _) hb6
        have S6 := hid n6.slB
        have S5 := hid (S5.out.go hb6)
        have S2 := hid (S2.out.go hb6)
        have HB := hid (bt HB.out hb6)
        clear n6 hb6
        go_wp2_with fail
        refine (CoverVisible_impl _ _ _ S2.out (Hl.out _)).mono ?_
        rw [Hf.out]
        rintro e w7 ⟨v7, rfl, n7, hb7⟩
        have S7 := hid n7.slB
        have S6 := hid (S6.out.go hb7)
        have S5 := hid (S5.out.go hb7)
        have HB := hid (bt HB.out hb7)
        clear n7 hb7 S2 Sr
        go_wp2_with fail
        refine (CoverVisible_impl _ _ _ S5.out (Hl.out _)).mono ?_
        rw [Hf.out]
        rintro e w8 ⟨v8, rfl, n8, hb8⟩
        have S8 := hid n8.slB
        have S7 := hid (S7.out.go hb8)
        have S6 := hid (S6.out.go hb8)
        have HB := hid (bt HB.out hb8)
        clear n8 hb8 S5
        go_wp2_with fail
        refine (sameInts_t _ _ _ _ S8.out S7.out).mono ?_
        rintro e w9 ⟨rfl, hb9⟩
        have S7 := hid (S7.out.go hb9)
        have S6 := hid (S6.out.go hb9)
        have HB := hid (bt HB.out hb9)
        clear hb9 S8
        go_wp2_with fail
        refine (CoverVisible_impl _ _ _ S6.out (Hl.out _)).mono ?_
        rw [Hf.out]
        rintro e w10 ⟨v10, rfl, n10, hb10⟩
        have S10 := hid n10.slB
        have S7 := hid (S7.out.go hb10)
        have HB := hid (bt HB.out hb10)
        clear n10 hb10 S6
        go_wp2_with fail
        refine (sameInts_t _ _ _ _ S10.out S7.out).mono ?_
        rintro e w11 ⟨rfl, hb11⟩
        have HB := hid (bt HB.out hb11)
        clear hb11
        go_wp2
        go_ret
        exact ⟨rfl, HB.out⟩
set_option maxRecDepth 100000 in
theorem FnPlanHidden_lifted (os : Os) (started : os.Started) (H : Type) (enc : TypeId × Value → H) :
    ReturnsInHanded {} Try.checked os 18 .any (Rows.fnPlanHiddenSpec.pre6 enc Try.prog Try.f18 Rows.fnPlanHiddenRow.domain false) (Rows.fnPlanHiddenSpec.post enc Try.prog Try.f18 false true false false) := by
  refine returnsInHanded_of_change (C := Try.checked) own_knob started (by kernel_rfl) Try.func18
    (ChangeSpec.witness6 (enc := enc) (C := Try.checked) false ⟨#[], #[.slice none 0 0, .slice none 0 0], []⟩ 8 (by kernel_rfl) (by kernel_rfl) (by kernel_rfl) (by kernel_rfl)) ?_
  intro W base args ds gs before hval0 hW hcnd _
  have hval : ∀ (j : Nat) t v, Try.f18.params[j]? = some t → args[j]? = some v → Value.okWide Try.prog W .any base t v := hval0
  have hW' := hW
  obtain ⟨p, q, hA0, hV, rfl, hfz, hnd⟩ := hW
  have hA : DataW.TrodAll enc Try.prog W 0 (fun _ => true) true Try.f18.params.toList args.toList ds p := hA0
  rw [Try.params18] at hA hval
  obtain ⟨v0, vs0, d0, ds0, p0, q0, hargs, rfl, rfl, h0, r0⟩ := trodAll_cons hA
  obtain ⟨v1, vs1, d1, ds1, p1, q1, rfl, rfl, rfl, h1, r1⟩ := trodAll_cons r0
  obtain ⟨rfl, rfl, rfl⟩ := trodAll_nil r1
  obtain rfl : args = #[v0, v1] := by cases args; simp_all
  obtain ⟨rfl, rfl⟩ := trodVars_none hV
  have k0 := h0
  have lt0 : ∀ x ∈ p0, x.block < W.heap.size := by obtain ⟨m, hm⟩ := k0; exact DataW.trod_lt m _ _ _ hm
  obtain ⟨xs0, s0, f0⟩ := opn_slice opens_bytes Try.underlying27 (hval 0 27 v0 rfl rfl) h0
  have k1 := h1
  have lt1 : ∀ x ∈ p1, x.block < W.heap.size := by obtain ⟨m, hm⟩ := k1; exact DataW.trod_lt m _ _ _ hm
  obtain ⟨xs1, s1, f1⟩ := opn_slice opens_bytes Try.underlying27 (hval 1 27 v1 rfl rfl) h1
  clear hA0 hval0
  refine (FnPlanHidden_c v0 xs0 v1 xs1 W s0 f0 s1 f1).mono fun e W' ⟨he, bel⟩ => ?_
  subst he
  exact ⟨_, rfl, _, _, _, [], _, [], hW', trodAll_mk1 (shut_bool Try.underlying4 _), (trodAll_cons_mk (Below.trod laid_out (by kernel_rfl) (of_decide_eq_true (by kernel_rfl)) k0 bel lt0) (trodAll_cons_mk (Below.trod laid_out (by kernel_rfl) (of_decide_eq_true (by kernel_rfl)) k1 bel lt1) trodAll_mk0)), rfl, bel.frame _, fun h => by cases h⟩

theorem FnPlanHidden_facts : joinedFacts Try.prog 18 Try.f18 Rows.fnPlanHiddenSpec Rows.fnPlanHiddenRow = true := by
  unfold joinedFacts
  simp only [Bool.and_eq_true]
  repeat' apply And.intro
  · as_aux_lemma => kernel_rfl
  · as_aux_lemma => kernel_rfl
  · as_aux_lemma => kernel_rfl
  · as_aux_lemma => kernel_rfl
  · as_aux_lemma => kernel_rfl
  · as_aux_lemma => kernel_rfl
  · as_aux_lemma => kernel_rfl
  · as_aux_lemma => kernel_rfl
  · as_aux_lemma => kernel_rfl
  · as_aux_lemma => kernel_rfl
  · as_aux_lemma => kernel_rfl
  · as_aux_lemma => kernel_rfl
  · as_aux_lemma => kernel_rfl
  · as_aux_lemma => kernel_rfl
  · as_aux_lemma => kernel_rfl
  · as_aux_lemma => kernel_rfl
  · as_aux_lemma => kernel_rfl
  · as_aux_lemma => kernel_rfl
  · as_aux_lemma => kernel_rfl
  · as_aux_lemma => kernel_rfl
  · as_aux_lemma => kernel_rfl
  · as_aux_lemma => kernel_rfl
  · as_aux_lemma => kernel_rfl
  · as_aux_lemma => kernel_rfl
  · as_aux_lemma => kernel_rfl
  · exact fact_enter
  · rw [fact_final]; rfl
  · rw [fact_make]; rfl
  · as_aux_lemma => kernel_rfl
  · as_aux_lemma => kernel_rfl
  · as_aux_lemma => kernel_rfl
  · as_aux_lemma => kernel_rfl
theorem FnPlanHidden_named : Try.prog.funcNamed Rows.fnPlanHiddenRow.func = some 18 := by kernel_rfl
theorem FnPlanHidden_wrap : Try.f18.isWrapper Try.prog Rows.fnPlanHiddenRow.wrapper Rows.fnPlanHiddenRow.mainSum := (by unfold Func.isWrapper; first | (rw [if_pos (by decide +kernel)]; kernel_rfl) | (rw [if_neg (by decide +kernel)]; exact ⟨rfl, rfl⟩))
theorem FnPlanHidden_over : Rows.fnPlanHiddenRow.holds Try.pinned (OpenSpec.ofChange Rows.fnPlanHiddenSpec) :=
  OpenClaim.holds_of_wide (p := Try.pinned) 18 Try.f18 rfl rfl rfl rfl rfl rfl rfl ⟨rfl, rfl, rfl, rfl, rfl⟩ rfl rfl rfl rfl rfl FnPlanHidden_named Try.func18 FnPlanHidden_facts
    (of_decide_eq_true (by kernel_rfl)) FnPlanHidden_wrap
    (fun os started H enc _ => FnPlanHidden_lifted os started H enc)
theorem FnPlanHidden_holds : Rows.FnPlanHiddenSaid := FnPlanHidden_over
#print axioms FnPlanHidden_holds
end Go.Proofs.Ytbeiacoplhbmeaa
