/- The program's CoverPlan returns what the reference's returns, for all arguments; the letters are left as they were; what it returns is new memory. No condition. -/
import Derived.Test.YtbeiacoplhbmeaaCovJ
namespace Go.Proofs.Ytbeiacoplhbmeaa
open Go Go.RowKit Go.ChangeShapes Go.WideShapes Go.ChangeAt
set_option maxHeartbeats 400000
theorem FnExactCoverPlan_c (v1 : Value) (r : List Int) (p u : Int) (w : World) (r0 : SlB tInt w.heap.size w v1 r) (_ : ∀ x ∈ r, (Lit.int .i64 x).wf = true) (_ : (Lit.int .i64 p).wf = true) (_ : (Lit.int .i64 u).wf = true) :
    Calls Try.prog 13 #[v1, .int .i64 p, .int .i64 u] w (ok true w.heap.size w) := by
  obtain ⟨A, c, rfl, a1, a2, a3⟩ := r0.form
  clear a2
  by_cases hr : 1048576 < r.length
  · go_enter Try.func13, Try.ntmps13
    go_wp2
    go_ret
    exact ⟨rfl, Below.refl _ _⟩
  · have hnr : r.length ≤ 1073741824 := by omega
    generalize hxs : Cov.full r p u = xs
    have hm : xs.length ≤ 41 := by rw [← hxs]; exact full_len r p u
    go_enter Try.func13, Try.ntmps13
    go_wp2_with fail
    refine (toIntS_c _ r _ r0 hnr).mono ?_
    rintro e w1 ⟨v2, rfl, n2, hb⟩
    go_wp2_with fail
    refine (CoverPlan_spec v2 r p u _ n2.slB).mono ?_
    rw [hxs]
    rintro e w2 ⟨v3, rfl, n3, hb3⟩
    have hb := bt hb hb3
    have s3 := n3.slB
    clear hb3 n2 n3
    go_wp2_with fail
    refine (toIntS_c _ r _ (r0.go hb) hnr).mono ?_
    rintro e w4 ⟨v4, rfl, n4, hx⟩
    obtain ⟨G4, o4, _, _⟩ := n4
    obtain rfl := own_isFlat tInt_flat o4
    have z4 := hx.size
    have t4 : ∀ b, v4.ownBlock = some b → b < w4.heap.size := fun b hb => (o4.top b hb).2
    go_wp2_with fail
    refine (CoverPlan_impl v4 r p u _ o4.slB).mono ?_
    rw [hxs]
    rintro e w5 ⟨v5, rfl, n5, hb5⟩
    obtain ⟨G5, o5, _, _⟩ := n5
    obtain rfl := own_isFlat tTwo_flat o5
    have o4 := o4.go hb5
    have hx := bt hx hb5
    clear hb5
    go_wp2_with fail
    refine (eqSendingS_t v5 v3 xs _ o5.slB (s3.go hx)).mono ?_
    rintro e w6 ⟨rfl, hb6⟩
    have o4 := o4.go hb6
    have o5 := o5.go hb6
    have hx := bt hx hb6
    clear hb6
    go_wp2_with fail
    refine (toIntS_c _ r _ (r0.go (bt hb hx)) hnr).mono ?_
    rintro e w7 ⟨v7, rfl, n7, hb7⟩
    go_wp2_with fail
    refine (eqIntS_t v4 v7 r _ (o4.go hb7).slB n7.slB).mono ?_
    rintro e w8 ⟨rfl, hb8⟩
    have hb78 := bt hb7 hb8
    have o4 := o4.go hb78
    have o5 := o5.go hb78
    have hx := bt hx hb78
    clear hb7 hb8 hb78 n7
    go_wp2_with fail
    refine (markIntS_c _ _ v4 r 1 _ o4 (by omega) (by omega)).mono ?_
    rintro e w9 ⟨rfl, p4, g9⟩
    have hx : Below w2.heap.size w2 w9 := hx.grown g9 hx.size (fun b hb => (o4.top b hb).1)
    have o5 := o5.kept g9 (fun b hb => ⟨fun hv => by have h1 := t4 b hb; have h2 := (o5.top b hv).1; omega, fun h => by cases h⟩)
    have k0 : (0 : Int) ≤ 1 + r.length := by omega
    clear p4 g9 o4 t4
    go_wp2_with fail
    refine (eqSendingS_t v5 v3 xs _ o5.slB (s3.go hx)).mono ?_
    rintro e w10 ⟨rfl, hb10⟩
    have o5 := o5.go hb10
    have hx := bt hx hb10
    clear hb10
    go_wp2_with fail
    refine (markSendingS_c _ _ v5 xs 1 _ o5 (by omega) (by omega)).mono ?_
    rintro e w11 ⟨rfl, p5, g11⟩
    have hx : Below w2.heap.size w2 w11 := hx.grown g11 hx.size (fun b hb => Nat.le_trans z4 (o5.top b hb).1)
    have m0 : (0 : Int) ≤ 1 + 2 * xs.length := by omega
    clear g11 o5
    go_wp2_with fail
    refine (heldSendingS_c v5 xs.length 1 _ p5.slB (by omega) (by omega)).mono ?_
    rintro e w12 ⟨rfl, rfl⟩
    go_wp2_with fail
    refine (toIntS_c _ r _ (r0.go (bt hb hx)) hnr).mono ?_
    rintro e w13 ⟨v13, rfl, n13, hb13⟩
    go_wp2_with fail
    refine (CoverPlan_impl v13 r p u _ n13.slB).mono ?_
    rw [hxs]
    rintro e w14 ⟨v14, rfl, n14, hb14⟩
    have hb14 := bt hb13 hb14
    have p5 := p5.go hb14
    have hx := bt hx hb14
    clear hb13 hb14 n13
    go_wp2_with fail
    refine (eqSendingS_t v14 v3 xs _ n14.slB (s3.go hx)).mono ?_
    rintro e w15 ⟨rfl, hb15⟩
    have p5 := p5.go hb15
    have hx := bt hx hb15
    clear hb15 n14 s3
    go_wp2_with fail
    refine (heldSendingS_c v5 xs.length 1 _ p5.slB (by omega) (by omega)).mono ?_
    rintro e w16 ⟨rfl, rfl⟩
    have hb := bt hb hx
    clear hx p5 r0
    go_wp2
    go_ret
    exact ⟨rfl, hb⟩
set_option maxRecDepth 100000 in
theorem FnExactCoverPlan_lifted (os : Os) (started : os.Started) (H : Type) (enc : TypeId × Value → H) :
    ReturnsInHanded {} Try.checked os 13 .any (Rows.fnExactCoverPlanSpec.pre6 enc Try.prog Try.f13 Rows.fnExactCoverPlanRow.domain false) (Rows.fnExactCoverPlanSpec.post enc Try.prog Try.f13 false true false false) := by
  refine returnsInHanded_of_change (C := Try.checked) own_knob started (by kernel_rfl) Try.func13
    (ChangeSpec.witness6 (enc := enc) (C := Try.checked) false ⟨#[], #[.slice none 0 0, .int .i64 0, .int .i64 0], []⟩ 8 (by kernel_rfl) (by kernel_rfl) (by kernel_rfl) (by kernel_rfl)) ?_
  intro W base args ds gs before hval0 hW hcnd _
  have hval : ∀ (j : Nat) t v, Try.f13.params[j]? = some t → args[j]? = some v → Value.okWide Try.prog W .any base t v := hval0
  have hW' := hW
  obtain ⟨p, q, hA0, hV, rfl, hfz, hnd⟩ := hW
  have hA : DataW.TrodAll enc Try.prog W 0 (fun _ => true) true Try.f13.params.toList args.toList ds p := hA0
  rw [Try.params13] at hA hval
  obtain ⟨v0, vs0, d0, ds0, p0, q0, hargs, rfl, rfl, h0, r0⟩ := trodAll_cons hA
  obtain ⟨v1, vs1, d1, ds1, p1, q1, rfl, rfl, rfl, h1, r1⟩ := trodAll_cons r0
  obtain ⟨v2, vs2, d2, ds2, p2, q2, rfl, rfl, rfl, h2, r2⟩ := trodAll_cons r1
  obtain ⟨rfl, rfl, rfl⟩ := trodAll_nil r2
  obtain rfl : args = #[v0, v1, v2] := by cases args; simp_all
  obtain ⟨rfl, rfl⟩ := trodVars_none hV
  have k0 := h0
  have lt0 : ∀ x ∈ p0, x.block < W.heap.size := by obtain ⟨m, hm⟩ := k0; exact DataW.trod_lt m _ _ _ hm
  obtain ⟨xs0, s0, f0⟩ := opn_slice opens_ints Try.underlying22 (hval 0 22 v0 rfl rfl) h0
  have k1 := h1
  have lt1 : ∀ x ∈ p1, x.block < W.heap.size := by obtain ⟨m, hm⟩ := k1; exact DataW.trod_lt m _ _ _ hm
  obtain ⟨a1, hv1, _, _, f1⟩ := open_int Try.underlying3 (hval 1 3 v1 rfl rfl) h1
  subst hv1
  have k2 := h2
  have lt2 : ∀ x ∈ p2, x.block < W.heap.size := by obtain ⟨m, hm⟩ := k2; exact DataW.trod_lt m _ _ _ hm
  obtain ⟨a2, hv2, _, _, f2⟩ := open_int Try.underlying3 (hval 2 3 v2 rfl rfl) h2
  subst hv2
  clear hA0 hval0
  refine (FnExactCoverPlan_c v0 xs0 a1 a2 W s0 f0 f1 f2).mono fun e W' ⟨he, bel⟩ => ?_
  subst he
  exact ⟨_, rfl, _, _, _, [], _, [], hW', trodAll_mk1 (shut_bool Try.underlying4 _), (trodAll_cons_mk (Below.trod laid_out (by kernel_rfl) (of_decide_eq_true (by kernel_rfl)) k0 bel lt0) (trodAll_cons_mk (Below.trod laid_out (by kernel_rfl) (of_decide_eq_true (by kernel_rfl)) k1 bel lt1) (trodAll_cons_mk (Below.trod laid_out (by kernel_rfl) (of_decide_eq_true (by kernel_rfl)) k2 bel lt2) trodAll_mk0))), rfl, bel.frame _, fun h => by cases h⟩

theorem FnExactCoverPlan_facts : joinedFacts Try.prog 13 Try.f13 Rows.fnExactCoverPlanSpec Rows.fnExactCoverPlanRow = true := by
  unfold joinedFacts
  simp only [Bool.and_eq_true]
  repeat' apply And.intro
  · as_aux_lemma => kernel_rfl
  · as_aux_lemma => kernel_rfl
  · as_aux_lemma => kernel_rfl
  · as_aux_lemma => kernel_rfl
  · as_aux_lemma => kernel_rfl
  · as_aux_lemma => kernel_rfl
  · as_aux_lemma => kernel_rfl
  · as_aux_lemma => kernel_rfl
  · as_aux_lemma => kernel_rfl
  · as_aux_lemma => kernel_rfl
  · as_aux_lemma => kernel_rfl
  · as_aux_lemma => kernel_rfl
  · as_aux_lemma => kernel_rfl
  · as_aux_lemma => kernel_rfl
  · as_aux_lemma => kernel_rfl
  · as_aux_lemma => kernel_rfl
  · as_aux_lemma => kernel_rfl
  · as_aux_lemma => kernel_rfl
  · as_aux_lemma => kernel_rfl
  · as_aux_lemma => kernel_rfl
  · as_aux_lemma => kernel_rfl
  · as_aux_lemma => kernel_rfl
  · as_aux_lemma => kernel_rfl
  · as_aux_lemma => kernel_rfl
  · as_aux_lemma => kernel_rfl
  · exact fact_enter
  · rw [fact_final]; rfl
  · rw [fact_make]; rfl
  · as_aux_lemma => kernel_rfl
  · as_aux_lemma => kernel_rfl
  · as_aux_lemma => kernel_rfl
  · as_aux_lemma => kernel_rfl
theorem FnExactCoverPlan_named : Try.prog.funcNamed Rows.fnExactCoverPlanRow.func = some 13 := by kernel_rfl
theorem FnExactCoverPlan_wrap : Try.f13.isWrapper Try.prog Rows.fnExactCoverPlanRow.wrapper Rows.fnExactCoverPlanRow.mainSum := (by unfold Func.isWrapper; first | (rw [if_pos (by decide +kernel)]; kernel_rfl) | (rw [if_neg (by decide +kernel)]; exact ⟨rfl, rfl⟩))
theorem FnExactCoverPlan_over : Rows.fnExactCoverPlanRow.holds Try.pinned (OpenSpec.ofChange Rows.fnExactCoverPlanSpec) :=
  OpenClaim.holds_of_wide (p := Try.pinned) 13 Try.f13 rfl rfl rfl rfl rfl rfl rfl ⟨rfl, rfl, rfl, rfl, rfl⟩ rfl rfl rfl rfl rfl FnExactCoverPlan_named Try.func13 FnExactCoverPlan_facts
    (of_decide_eq_true (by kernel_rfl)) FnExactCoverPlan_wrap
    (fun os started H enc _ => FnExactCoverPlan_lifted os started H enc)
theorem FnExactCoverPlan_holds : Rows.FnExactCoverPlanSaid := FnExactCoverPlan_over
#print axioms FnExactCoverPlan_holds
end Go.Proofs.Ytbeiacoplhbmeaa
