/- The program's plan is the reference's; more letters mean less cover, and as many packets. No condition. -/
import Derived.Test.YtbeiacoplhbmeaaCovJ
namespace Go.Proofs.Ytbeiacoplhbmeaa
open Go Go.RowKit Go.ChangeShapes Go.WideShapes Go.ChangeAt
set_option maxHeartbeats 400000
theorem FnPlanMore_c (v0 : Value) (xs0 : List Int) (v1 : Value) (xs1 : List Int) (w : World) (s0 : SlB tByte w.heap.size w v0 xs0) (f0 : ∀ x ∈ xs0, (Lit.int .u8 x).wf = true) (s1 : SlB tByte w.heap.size w v1 xs1) (f1 : ∀ x ∈ xs1, (Lit.int .u8 x).wf = true) :
    Calls Try.prog 15 #[v0, v1] w (ok true w.heap.size w) := by
  obtain ⟨A, c, rfl, a1, a2, a3⟩ := s0.form
  obtain ⟨A', c', rfl, b1, b2, b3⟩ := s1.form
  clear a2 b2 s1 f1
  by_cases hl : 1048576 < xs0.length
  · go_enter Try.func15, Try.ntmps15
    go_wp2
    all_goals go_ret
    all_goals exact ⟨rfl, Below.refl _ _⟩
  · by_cases hl2 : 1048576 < xs1.length
    · go_enter Try.func15, Try.ntmps15
      go_wp2
      all_goals go_ret
      all_goals exact ⟨rfl, Below.refl _ _⟩
    · go_enter Try.func15, Try.ntmps15
      go_wp2_with fail
      refine (DrawCoverPlan_c _ xs0 _ s0 (fun x hx => wf_u8 (f0 x hx))).mono ?_
      rintro e w1 ⟨v, r, p, u, rfl, hr9, or, hb1⟩
      have sr := or.slB
      go_wp2_with fail
      refine (CoverPlan_impl v r p u w1 sr).mono ?_
      rintro e w2 ⟨v2, rfl, n2, hb2⟩
      have s2 := n2.slB
      have sr := (sr.below hb2 (Nat.le_refl _)).mono hb2.size
      go_wp2_with fail
      refine (CoverPlan_spec v r p u w2 sr).mono ?_
      rintro e w3 ⟨v3, rfl, n3, hb3⟩
      have s3 := n3.slB
      have s2 := (s2.below hb3 (Nat.le_refl _)).mono hb3.size
      have sr := (sr.below hb3 (Nat.le_refl _)).mono hb3.size
      go_wp2_with fail
      refine (samePlan_t v2 v3 _ w3 s2 s3).mono ?_
      rintro e w4 ⟨rfl, hb4⟩
      have s3 := (s3.below hb4 (Nat.le_refl _)).mono hb4.size
      have s2 := (s2.below hb4 (Nat.le_refl _)).mono hb4.size
      have sr := (sr.below hb4 (Nat.le_refl _)).mono hb4.size
      have hB : Below w.heap.size w w4 := hb1.trans ((hb2.mono hb1.size).trans ((hb3.mono (Nat.le_trans hb1.size hb2.size)).trans (hb4.mono (Nat.le_trans hb1.size (Nat.le_trans hb2.size hb3.size)))))
      clear hb1 hb2 hb3 hb4 n2 n3 s0 or f0
      cases hok : Cov.ok r p u with
      | false =>
        rw [show Cov.full r p u = [] from by simp [Cov.full, hok]] at s2 s3
        obtain ⟨A2, c2, rfl, _, _, _⟩ := s2.form
        have S2 := hid s2; have S3 := hid s3; have HB := hid hB
        clear s2 s3 sr hB hok
        go_wp2_with fail
        refine (samePlan_t _ v3 [] w4 S2.out S3.out).mono ?_
        rintro e w5 ⟨rfl, hb5⟩
        have HB := hid (HB.out.trans (hb5.mono HB.out.size))
        clear hb5
        go_wp2
        go_ret
        exact ⟨rfl, HB.out⟩
      | true =>
        rw [show Cov.full r p u = Cov.plan r p (Cov.num p u) from by simp [Cov.full, hok]] at s2
        have hp := Cov.ok_parts.1 hok
        have hp1 := hp.2.1.1; have hp9 := hp.2.1.2; have hu0 := hp.2.2.1.1; have hu40 := hp.2.2.1.2; have hr8 := hp.2.2.2
        have Hok := hid hp.1
        obtain ⟨A2, c2, rfl, d1, _, d3⟩ := s2.form
        have hlen := Cov.plan_length r p (Cov.num p u)
        generalize hN : Cov.num p u = N at *
        rw [hlen] at d1 d3
        rw [hlen] at s2 ⊢
        have HN := hid hN
        have hN0 : 0 < N := by rw [← hN]; unfold Cov.num; omega
        have S2 := hid s2; have Sr := hid sr; have HB := hid hB
        clear s2 s3 sr hB hok hp hlen hN
        obtain ⟨Ar, cr, rfl, e1, _, e3⟩ := Sr.out.form
        have hml := Nat.mod_lt xs1.length (show 0 < r.length + 1 by omega)
        have hmr : xs1.length % (r.length + 1) ≤ r.length := by omega
        have hlen2 : (r.take (xs1.length % (r.length + 1))).length = xs1.length % (r.length + 1) := by simp; omega
        have Hf := hid (show Cov.full (r.take (xs1.length % (r.length + 1))) p u = Cov.plan (r.take (xs1.length % (r.length + 1))) p N from by rw [full_ok (ok_take _ (Cov.ok_parts.2 ⟨Hok.out, ⟨hp1, hp9⟩, ⟨hu0, hu40⟩, hr8⟩)), HN.out])
        have Hst := hid (Sr.out.take _ hmr)
        have Hge := hid (cover_more (p := p) (N := N) hmr)
        have q0 : (0 : Int) ≤ (xs1.length : Int) % ((r.length : Int) + 1) := Int.emod_nonneg _ (by omega)
        have q1 : (xs1.length : Int) % ((r.length : Int) + 1) ≤ (r.length : Int) := by have := Int.emod_lt_of_pos (xs1.length : Int) (show (0 : Int) < (r.length : Int) + 1 by omega); omega
        have q2 : (xs1.length : Int) % ((r.length : Int) + 1) ≤ (cr : Int) := by omega
        clear hml hmr hlen2
        go_wp2_with fail
        refine (CoverPlan_impl _ _ p u w4 Hst.out).mono ?_
        rintro e w5 ⟨v5, rfl, n5, hb5⟩
        rw [Hf.out] at n5
        have S5 := hid n5.slB
        have S2 := hid (S2.out.go hb5)
        have HB := hid (bt HB.out hb5)
        clear n5 hb5 q0 q1 q2 Hst Sr
        have hge := Hge.out
        have hl5 := Cov.plan_length (r.take (xs1.length % (r.length + 1))) p N
        obtain ⟨A5, c5, rfl, g1, _, g3⟩ := S5.out.form
        generalize Cov.plan (r.take (xs1.length % (r.length + 1))) p N = ys at *
        rw [hl5] at g1 g3 S5 ⊢
        generalize hc5 : Cov.cover ys = n5 at *
        generalize hc2 : Cov.cover (Cov.plan r p N) = n2 at *
        have Hc5 := hid hc5; have Hc2 := hid hc2; have Hl5 := hid hl5
        have hgeI : (n2 : Int) ≤ (n5 : Int) := by omega
        clear hc5 hc2 hl5 hge Hge Hf
        go_wp2_with fail
        refine (CoverCount_impl _ _ _ S5.out).mono ?_
        rw [Hc5.out]
        rintro e w6 ⟨rfl, hb6⟩
        have HB := hid (bt HB.out hb6)
        have S2 := hid (S2.out.go hb6)
        clear hb6
        go_wp2_with fail
        refine (CoverCount_impl _ _ _ S2.out).mono ?_
        rw [Hc2.out]
        rintro e w7 ⟨rfl, hb7⟩
        have HB := hid (bt HB.out hb7)
        clear hb7
        go_wp2
        go_ret
        exact ⟨ret_bool (by simp), HB.out⟩
set_option maxRecDepth 100000 in
theorem FnPlanMore_lifted (os : Os) (started : os.Started) (H : Type) (enc : TypeId × Value → H) :
    ReturnsInHanded {} Try.checked os 15 .any (Rows.fnPlanMoreSpec.pre6 enc Try.prog Try.f15 Rows.fnPlanMoreRow.domain false) (Rows.fnPlanMoreSpec.post enc Try.prog Try.f15 false true false false) := by
  refine returnsInHanded_of_change (C := Try.checked) own_knob started (by kernel_rfl) Try.func15
    (ChangeSpec.witness6 (enc := enc) (C := Try.checked) false ⟨#[], #[.slice none 0 0, .slice none 0 0], []⟩ 8 (by kernel_rfl) (by kernel_rfl) (by kernel_rfl) (by kernel_rfl)) ?_
  intro W base args ds gs before hval0 hW hcnd _
  have hval : ∀ (j : Nat) t v, Try.f15.params[j]? = some t → args[j]? = some v → Value.okWide Try.prog W .any base t v := hval0
  have hW' := hW
  obtain ⟨p, q, hA0, hV, rfl, hfz, hnd⟩ := hW
  have hA : DataW.TrodAll enc Try.prog W 0 (fun _ => true) true Try.f15.params.toList args.toList ds p := hA0
  rw [Try.params15] at hA hval
  obtain ⟨v0, vs0, d0, ds0, p0, q0, hargs, rfl, rfl, h0, r0⟩ := trodAll_cons hA
  obtain ⟨v1, vs1, d1, ds1, p1, q1, rfl, rfl, rfl, h1, r1⟩ := trodAll_cons r0
  obtain ⟨rfl, rfl, rfl⟩ := trodAll_nil r1
  obtain rfl : args = #[v0, v1] := by cases args; simp_all
  obtain ⟨rfl, rfl⟩ := trodVars_none hV
  have k0 := h0
  have lt0 : ∀ x ∈ p0, x.block < W.heap.size := by obtain ⟨m, hm⟩ := k0; exact DataW.trod_lt m _ _ _ hm
  obtain ⟨xs0, s0, f0⟩ := opn_slice opens_bytes Try.underlying27 (hval 0 27 v0 rfl rfl) h0
  have k1 := h1
  have lt1 : ∀ x ∈ p1, x.block < W.heap.size := by obtain ⟨m, hm⟩ := k1; exact DataW.trod_lt m _ _ _ hm
  obtain ⟨xs1, s1, f1⟩ := opn_slice opens_bytes Try.underlying27 (hval 1 27 v1 rfl rfl) h1
  clear hA0 hval0
  refine (FnPlanMore_c v0 xs0 v1 xs1 W s0 f0 s1 f1).mono fun e W' ⟨he, bel⟩ => ?_
  subst he
  exact ⟨_, rfl, _, _, _, [], _, [], hW', trodAll_mk1 (shut_bool Try.underlying4 _), (trodAll_cons_mk (Below.trod laid_out (by kernel_rfl) (of_decide_eq_true (by kernel_rfl)) k0 bel lt0) (trodAll_cons_mk (Below.trod laid_out (by kernel_rfl) (of_decide_eq_true (by kernel_rfl)) k1 bel lt1) trodAll_mk0)), rfl, bel.frame _, fun h => by cases h⟩

theorem FnPlanMore_facts : joinedFacts Try.prog 15 Try.f15 Rows.fnPlanMoreSpec Rows.fnPlanMoreRow = true := by
  unfold joinedFacts
  simp only [Bool.and_eq_true]
  repeat' apply And.intro
  · as_aux_lemma => kernel_rfl
  · as_aux_lemma => kernel_rfl
  · as_aux_lemma => kernel_rfl
  · as_aux_lemma => kernel_rfl
  · as_aux_lemma => kernel_rfl
  · as_aux_lemma => kernel_rfl
  · as_aux_lemma => kernel_rfl
  · as_aux_lemma => kernel_rfl
  · as_aux_lemma => kernel_rfl
  · as_aux_lemma => kernel_rfl
  · as_aux_lemma => kernel_rfl
  · as_aux_lemma => kernel_rfl
  · as_aux_lemma => kernel_rfl
  · as_aux_lemma => kernel_rfl
  · as_aux_lemma => kernel_rfl
  · as_aux_lemma => kernel_rfl
  · as_aux_lemma => kernel_rfl
  · as_aux_lemma => kernel_rfl
  · as_aux_lemma => kernel_rfl
  · as_aux_lemma => kernel_rfl
  · as_aux_lemma => kernel_rfl
  · as_aux_lemma => kernel_rfl
  · as_aux_lemma => kernel_rfl
  · as_aux_lemma => kernel_rfl
  · as_aux_lemma => kernel_rfl
  · exact fact_enter
  · rw [fact_final]; rfl
  · rw [fact_make]; rfl
  · as_aux_lemma => kernel_rfl
  · as_aux_lemma => kernel_rfl
  · as_aux_lemma => kernel_rfl
  · as_aux_lemma => kernel_rfl
theorem FnPlanMore_named : Try.prog.funcNamed Rows.fnPlanMoreRow.func = some 15 := by kernel_rfl
theorem FnPlanMore_wrap : Try.f15.isWrapper Try.prog Rows.fnPlanMoreRow.wrapper Rows.fnPlanMoreRow.mainSum := (by unfold Func.isWrapper; first | (rw [if_pos (by decide +kernel)]; kernel_rfl) | (rw [if_neg (by decide +kernel)]; exact ⟨rfl, rfl⟩))
theorem FnPlanMore_over : Rows.fnPlanMoreRow.holds Try.pinned (OpenSpec.ofChange Rows.fnPlanMoreSpec) :=
  OpenClaim.holds_of_wide (p := Try.pinned) 15 Try.f15 rfl rfl rfl rfl rfl rfl rfl ⟨rfl, rfl, rfl, rfl, rfl⟩ rfl rfl rfl rfl rfl FnPlanMore_named Try.func15 FnPlanMore_facts
    (of_decide_eq_true (by kernel_rfl)) FnPlanMore_wrap
    (fun os started H enc _ => FnPlanMore_lifted os started H enc)
theorem FnPlanMore_holds : Rows.FnPlanMoreSaid := FnPlanMore_over
#print axioms FnPlanMore_holds
end Go.Proofs.Ytbeiacoplhbmeaa
