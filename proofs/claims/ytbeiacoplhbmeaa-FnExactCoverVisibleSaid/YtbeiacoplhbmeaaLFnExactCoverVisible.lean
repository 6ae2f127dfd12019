/- The program's CoverVisible returns what the reference's returns, for every plan; the plan is left as it was; what it returns is new memory. No condition. -/
import Derived.Test.YtbeiacoplhbmeaaCovI
import Derived.Test.YtbeiacoplhbmeaaCovF
namespace Go.Proofs.Ytbeiacoplhbmeaa
open Go Go.RowKit Go.ChangeShapes Go.WideShapes Go.ChangeAt
set_option maxHeartbeats 400000
theorem FnExactCoverVisible_c (v1 : Value) (xs : List (Int × Int)) (w : World) (s0 : SlB tTwo w.heap.size w v1 xs) (_ : ∀ x ∈ xs, (Lit.int .i64 x.1).wf = true ∧ (Lit.int .i64 x.2).wf = true) :
    Calls Try.prog 7 #[v1] w (ok true w.heap.size w) := by
  by_cases hl : 1048576 < xs.length
  · have hz := szOf_neg hl
    clear hl
    go_enter Try.func7, Try.ntmps7
    go_wp2_with (go_at_call 29; refine (szSendingS_c v1 xs _ _ s0 (by omega) (by omega)).mono ?_; rw [hz]; rintro e w1 ⟨rfl, rfl⟩)
    go_ret
    exact ⟨rfl, Below.refl _ _⟩
  · have hz := szOf_pos hl
    have hn : xs.length ≤ 1073741824 := by omega
    have hm : (xs.map Prod.fst).length = xs.length := by simp
    generalize hys : xs.map Prod.fst = ys
    rw [hys] at hm
    go_enter Try.func7, Try.ntmps7
    go_wp2_with fail
    refine (szSendingS_c v1 xs _ _ s0 (by omega) (by omega)).mono ?_
    rw [hz]
    rintro e w1 ⟨rfl, rfl⟩
    go_wp2_with fail
    refine (toSendingS_c v1 xs _ s0 hn).mono ?_
    rintro e w1 ⟨v2, rfl, n2, hb⟩
    go_wp2_with fail
    refine (CoverVisible_spec v2 xs _ n2.slB hn).mono ?_
    rw [hys]
    rintro e w2 ⟨v3, rfl, n3, hb3⟩
    have hb := bt hb hb3
    have s3 := n3.slB
    clear hb3 n2 n3
    go_wp2_with fail
    refine (toSendingS_c v1 xs _ (s0.go hb) hn).mono ?_
    rintro e w4 ⟨v4, rfl, n4, hx⟩
    obtain ⟨G4, o4, _, _⟩ := n4
    obtain rfl := own_isFlat tTwo_flat o4
    have z4 := hx.size
    have t4 : ∀ b, v4.ownBlock = some b → b < w4.heap.size := fun b hb => (o4.top b hb).2
    go_wp2_with fail
    refine (CoverVisible_impl v4 xs _ o4.slB hn).mono ?_
    rw [hys]
    rintro e w5 ⟨v5, rfl, n5, hb5⟩
    obtain ⟨G5, o5, _, _⟩ := n5
    obtain rfl := own_isFlat tInt_flat o5
    have o4 := o4.go hb5
    have hx := bt hx hb5
    clear hb5
    go_wp2_with fail
    refine (eqIntS_t v5 v3 ys _ o5.slB (s3.go hx)).mono ?_
    rintro e w6 ⟨rfl, hb6⟩
    have o4 := o4.go hb6
    have o5 := o5.go hb6
    have hx := bt hx hb6
    clear hb6
    go_wp2_with fail
    refine (toSendingS_c v1 xs _ (s0.go (bt hb hx)) hn).mono ?_
    rintro e w7 ⟨v7, rfl, n7, hb7⟩
    go_wp2_with fail
    refine (eqSendingS_t v4 v7 xs _ (o4.go hb7).slB n7.slB).mono ?_
    rintro e w8 ⟨rfl, hb8⟩
    have hb78 := bt hb7 hb8
    have o4 := o4.go hb78
    have o5 := o5.go hb78
    have hx := bt hx hb78
    clear hb7 hb8 hb78 n7
    go_wp2_with fail
    refine (markSendingS_c _ _ v4 xs 1 _ o4 (by omega) (by omega)).mono ?_
    rintro e w9 ⟨rfl, p4, g9⟩
    have hx : Below w2.heap.size w2 w9 := hx.grown g9 hx.size (fun b hb => (o4.top b hb).1)
    have o5 := o5.kept g9 (fun b hb => ⟨fun hv => by have h1 := t4 b hb; have h2 := (o5.top b hv).1; omega, fun h => by cases h⟩)
    have k0 : (0 : Int) ≤ 1 + 2 * xs.length := by omega
    clear p4 g9 o4 t4
    go_wp2_with fail
    refine (eqIntS_t v5 v3 ys _ o5.slB (s3.go hx)).mono ?_
    rintro e w10 ⟨rfl, hb10⟩
    have o5 := o5.go hb10
    have hx := bt hx hb10
    clear hb10
    go_wp2_with fail
    refine (markIntS_c _ _ v5 ys 1 _ o5 (by omega) (by omega)).mono ?_
    rintro e w11 ⟨rfl, p5, g11⟩
    have hx : Below w2.heap.size w2 w11 := hx.grown g11 hx.size (fun b hb => Nat.le_trans z4 (o5.top b hb).1)
    clear g11 o5
    go_wp2_with fail
    refine (heldIntS_c v5 ys.length 1 _ p5.slB (by omega) (by omega)).mono ?_
    rintro e w12 ⟨rfl, rfl⟩
    go_wp2_with fail
    refine (toSendingS_c v1 xs _ (s0.go (bt hb hx)) hn).mono ?_
    rintro e w13 ⟨v13, rfl, n13, hb13⟩
    go_wp2_with fail
    refine (CoverVisible_impl v13 xs _ n13.slB hn).mono ?_
    rw [hys]
    rintro e w14 ⟨v14, rfl, n14, hb14⟩
    have hb14 := bt hb13 hb14
    have p5 := p5.go hb14
    have hx := bt hx hb14
    clear hb13 hb14 n13
    go_wp2_with fail
    refine (eqIntS_t v14 v3 ys _ n14.slB (s3.go hx)).mono ?_
    rintro e w15 ⟨rfl, hb15⟩
    have p5 := p5.go hb15
    have hx := bt hx hb15
    clear hb15 n14 s3
    go_wp2_with fail
    refine (heldIntS_c v5 ys.length 1 _ p5.slB (by omega) (by omega)).mono ?_
    rintro e w16 ⟨rfl, rfl⟩
    have hb := bt hb hx
    clear hx p5 s0
    go_wp2
    go_ret
    exact ⟨rfl, hb⟩
set_option maxRecDepth 100000 in
theorem FnExactCoverVisible_lifted (os : Os) (started : os.Started) (H : Type) (enc : TypeId × Value → H) :
    ReturnsInHanded {} Try.checked os 7 .any (Rows.fnExactCoverVisibleSpec.pre6 enc Try.prog Try.f7 Rows.fnExactCoverVisibleRow.domain false) (Rows.fnExactCoverVisibleSpec.post enc Try.prog Try.f7 false true false false) := by
  refine returnsInHanded_of_change (C := Try.checked) own_knob started (by kernel_rfl) Try.func7
    (ChangeSpec.witness6 (enc := enc) (C := Try.checked) false ⟨#[], #[.slice none 0 0], []⟩ 8 (by kernel_rfl) (by kernel_rfl) (by kernel_rfl) (by kernel_rfl)) ?_
  intro W base args ds gs before hval0 hW hcnd _
  have hval : ∀ (j : Nat) t v, Try.f7.params[j]? = some t → args[j]? = some v → Value.okWide Try.prog W .any base t v := hval0
  have hW' := hW
  obtain ⟨p, q, hA0, hV, rfl, hfz, hnd⟩ := hW
  have hA : DataW.TrodAll enc Try.prog W 0 (fun _ => true) true Try.f7.params.toList args.toList ds p := hA0
  rw [Try.params7] at hA hval
  obtain ⟨v0, vs0, d0, ds0, p0, q0, hargs, rfl, rfl, h0, r0⟩ := trodAll_cons hA
  obtain ⟨rfl, rfl, rfl⟩ := trodAll_nil r0
  obtain rfl : args = #[v0] := by cases args; simp_all
  obtain ⟨rfl, rfl⟩ := trodVars_none hV
  have k0 := h0
  have lt0 : ∀ x ∈ p0, x.block < W.heap.size := by obtain ⟨m, hm⟩ := k0; exact DataW.trod_lt m _ _ _ hm
  obtain ⟨xs0, s0, f0⟩ := opn_slice opens_sendings Try.underlying31 (hval 0 31 v0 rfl rfl) h0
  clear hA0 hval0
  refine (FnExactCoverVisible_c v0 xs0 W s0 f0).mono fun e W' ⟨he, bel⟩ => ?_
  subst he
  exact ⟨_, rfl, _, _, _, [], _, [], hW', trodAll_mk1 (shut_bool Try.underlying4 _), (trodAll_cons_mk (Below.trod laid_out (by kernel_rfl) (of_decide_eq_true (by kernel_rfl)) k0 bel lt0) trodAll_mk0), rfl, bel.frame _, fun h => by cases h⟩

theorem FnExactCoverVisible_facts : joinedFacts Try.prog 7 Try.f7 Rows.fnExactCoverVisibleSpec Rows.fnExactCoverVisibleRow = true := by
  unfold joinedFacts
  simp only [Bool.and_eq_true]
  repeat' apply And.intro
  · as_aux_lemma => kernel_rfl
  · as_aux_lemma => kernel_rfl
  · as_aux_lemma => kernel_rfl
  · as_aux_lemma => kernel_rfl
  · as_aux_lemma => kernel_rfl
  · as_aux_lemma => kernel_rfl
  · as_aux_lemma => kernel_rfl
  · as_aux_lemma => kernel_rfl
  · as_aux_lemma => kernel_rfl
  · as_aux_lemma => kernel_rfl
  · as_aux_lemma => kernel_rfl
  · as_aux_lemma => kernel_rfl
  · as_aux_lemma => kernel_rfl
  · as_aux_lemma => kernel_rfl
  · as_aux_lemma => kernel_rfl
  · as_aux_lemma => kernel_rfl
  · as_aux_lemma => kernel_rfl
  · as_aux_lemma => kernel_rfl
  · as_aux_lemma => kernel_rfl
  · as_aux_lemma => kernel_rfl
  · as_aux_lemma => kernel_rfl
  · as_aux_lemma => kernel_rfl
  · as_aux_lemma => kernel_rfl
  · as_aux_lemma => kernel_rfl
  · as_aux_lemma => kernel_rfl
  · exact fact_enter
  · rw [fact_final]; rfl
  · rw [fact_make]; rfl
  · as_aux_lemma => kernel_rfl
  · as_aux_lemma => kernel_rfl
  · as_aux_lemma => kernel_rfl
  · as_aux_lemma => kernel_rfl
theorem FnExactCoverVisible_named : Try.prog.funcNamed Rows.fnExactCoverVisibleRow.func = some 7 := by kernel_rfl
theorem FnExactCoverVisible_wrap : Try.f7.isWrapper Try.prog Rows.fnExactCoverVisibleRow.wrapper Rows.fnExactCoverVisibleRow.mainSum := (by unfold Func.isWrapper; first | (rw [if_pos (by decide +kernel)]; kernel_rfl) | (rw [if_neg (by decide +kernel)]; exact ⟨rfl, rfl⟩))
theorem FnExactCoverVisible_over : Rows.fnExactCoverVisibleRow.holds Try.pinned (OpenSpec.ofChange Rows.fnExactCoverVisibleSpec) :=
  OpenClaim.holds_of_wide (p := Try.pinned) 7 Try.f7 rfl rfl rfl rfl rfl rfl rfl ⟨rfl, rfl, rfl, rfl, rfl⟩ rfl rfl rfl rfl rfl FnExactCoverVisible_named Try.func7 FnExactCoverVisible_facts
    (of_decide_eq_true (by kernel_rfl)) FnExactCoverVisible_wrap
    (fun os started H enc _ => FnExactCoverVisible_lifted os started H enc)
theorem FnExactCoverVisible_holds : Rows.FnExactCoverVisibleSaid := FnExactCoverVisible_over
#print axioms FnExactCoverVisible_holds
end Go.Proofs.Ytbeiacoplhbmeaa
