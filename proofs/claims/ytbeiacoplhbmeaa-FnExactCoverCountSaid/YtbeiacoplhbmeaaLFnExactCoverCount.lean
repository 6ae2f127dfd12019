/- The program's CoverCount returns what the reference's returns, for every plan; the plan is left as it was. No condition. -/
import Derived.Test.YtbeiacoplhbmeaaCovI
import Derived.Test.YtbeiacoplhbmeaaCovE
namespace Go.Proofs.Ytbeiacoplhbmeaa
open Go Go.RowKit Go.ChangeShapes Go.WideShapes Go.ChangeAt
set_option maxHeartbeats 400000
theorem FnExactCoverCount_c (v0 : Value) (xs : List (Int × Int)) (w : World) (s0 : SlB tTwo w.heap.size w v0 xs) (_ : ∀ x ∈ xs, (Lit.int .i64 x.1).wf = true ∧ (Lit.int .i64 x.2).wf = true) :
    Calls Try.prog 5 #[v0] w (ok true w.heap.size w) := by
  by_cases hl : 1048576 < xs.length
  · have hz := szOf_neg hl
    clear hl
    go_enter Try.func5, Try.ntmps5
    go_wp2_with (go_at_call 29; refine (szSendingS_c v0 0 xs _ _ s0 (by omega) (by omega)).mono ?_; rw [hz]; rintro e w1 ⟨rfl, rfl⟩)
    go_ret
    exact ⟨rfl, Below.refl _ _⟩
  · have hz := szOf_pos hl
    have hn : xs.length ≤ 1073741824 := by omega
    go_enter Try.func5, Try.ntmps5
    go_wp2_with fail
    refine (szSendingS_c v0 0 xs _ _ s0 (by omega) (by omega)).mono ?_
    rw [hz]
    rintro e w1 ⟨rfl, rfl⟩
    go_wp2_with fail
    refine (toSendingS_c v0 xs _ s0 hn).mono ?_
    rintro e w1 ⟨v1, rfl, n1, hb1⟩
    go_wp2_with fail
    refine (CoverCount_spec v1 xs _ n1.slB).mono ?_
    rintro e w2 ⟨rfl, hb2⟩
    have hb2 := hb1.trans (hb2.mono hb1.size)
    go_wp2_with fail
    refine (toSendingS_c v0 xs _ ((s0.below hb2 (Nat.le_refl _)).mono hb2.size) hn).mono ?_
    rintro e w3 ⟨v3, rfl, n3, hb3⟩
    have s3 := n3.slB
    go_wp2_with fail
    refine (CoverCount_impl v3 xs _ s3).mono ?_
    rintro e w4 ⟨rfl, hb4⟩
    have s3 := (s3.below hb4 (Nat.le_refl _)).mono hb4.size
    have hb4 := hb2.trans ((hb3.trans (hb4.mono hb3.size)).mono hb2.size)
    clear hb1 hb2 hb3 n1 n3
    go_wp2_with fail
    refine (toSendingS_c v0 xs _ ((s0.below hb4 (Nat.le_refl _)).mono hb4.size) hn).mono ?_
    rintro e w5 ⟨v5, rfl, n5, hb5⟩
    have s3 := (s3.below hb5 (Nat.le_refl _)).mono hb5.size
    go_wp2_with fail
    refine (eqSendingS_t v3 v5 xs _ s3 n5.slB).mono ?_
    rintro e w6 ⟨rfl, hb6⟩
    have hb6 := hb4.trans ((hb5.trans (hb6.mono hb5.size)).mono hb4.size)
    clear hb4 hb5 n5 s3 s0
    go_wp2
    go_ret
    exact ⟨rfl, hb6⟩
set_option maxRecDepth 100000 in
theorem FnExactCoverCount_lifted (os : Os) (started : os.Started) (H : Type) (enc : TypeId × Value → H) :
    ReturnsInHanded {} Try.checked os 5 .any (Rows.fnExactCoverCountSpec.pre6 enc Try.prog Try.f5 Rows.fnExactCoverCountRow.domain false) (Rows.fnExactCoverCountSpec.post enc Try.prog Try.f5 false true false false) := by
  refine returnsInHanded_of_change (C := Try.checked) own_knob started (by kernel_rfl) Try.func5
    (ChangeSpec.witness6 (enc := enc) (C := Try.checked) false ⟨#[], #[.slice none 0 0], []⟩ 8 (by kernel_rfl) (by kernel_rfl) (by kernel_rfl) (by kernel_rfl)) ?_
  intro W base args ds gs before hval0 hW hcnd _
  have hval : ∀ (j : Nat) t v, Try.f5.params[j]? = some t → args[j]? = some v → Value.okWide Try.prog W .any base t v := hval0
  have hW' := hW
  obtain ⟨p, q, hA0, hV, rfl, hfz, hnd⟩ := hW
  have hA : DataW.TrodAll enc Try.prog W 0 (fun _ => true) true Try.f5.params.toList args.toList ds p := hA0
  rw [Try.params5] at hA hval
  obtain ⟨v0, vs0, d0, ds0, p0, q0, hargs, rfl, rfl, h0, r0⟩ := trodAll_cons hA
  obtain ⟨rfl, rfl, rfl⟩ := trodAll_nil r0
  obtain rfl : args = #[v0] := by cases args; simp_all
  obtain ⟨rfl, rfl⟩ := trodVars_none hV
  have k0 := h0
  have lt0 : ∀ x ∈ p0, x.block < W.heap.size := by obtain ⟨m, hm⟩ := k0; exact DataW.trod_lt m _ _ _ hm
  obtain ⟨xs0, s0, f0⟩ := opn_slice opens_sendings Try.underlying31 (hval 0 31 v0 rfl rfl) h0
  clear hA0 hval0
  refine (FnExactCoverCount_c v0 xs0 W s0 f0).mono fun e W' ⟨he, bel⟩ => ?_
  subst he
  exact ⟨_, rfl, _, _, _, [], _, [], hW', trodAll_mk1 (shut_bool Try.underlying4 _), (trodAll_cons_mk (Below.trod laid_out (by kernel_rfl) (of_decide_eq_true (by kernel_rfl)) k0 bel lt0) trodAll_mk0), rfl, bel.frame _, fun h => by cases h⟩

theorem FnExactCoverCount_facts : joinedFacts Try.prog 5 Try.f5 Rows.fnExactCoverCountSpec Rows.fnExactCoverCountRow = true := by
  unfold joinedFacts
  simp only [Bool.and_eq_true]
  repeat' apply And.intro
  · as_aux_lemma => kernel_rfl
  · as_aux_lemma => kernel_rfl
  · as_aux_lemma => kernel_rfl
  · as_aux_lemma => kernel_rfl
  · as_aux_lemma => kernel_rfl
  · as_aux_lemma => kernel_rfl
  · as_aux_lemma => kernel_rfl
  · as_aux_lemma => kernel_rfl
  · as_aux_lemma => kernel_rfl
  · as_aux_lemma => kernel_rfl
  · as_aux_lemma => kernel_rfl
  · as_aux_lemma => kernel_rfl
  · as_aux_lemma => kernel_rfl
  · as_aux_lemma => kernel_rfl
  · as_aux_lemma => kernel_rfl
  · as_aux_lemma => kernel_rfl
  · as_aux_lemma => kernel_rfl
  · as_aux_lemma => kernel_rfl
  · as_aux_lemma => kernel_rfl
  · as_aux_lemma => kernel_rfl
  · as_aux_lemma => kernel_rfl
  · as_aux_lemma => kernel_rfl
  · as_aux_lemma => kernel_rfl
  · as_aux_lemma => kernel_rfl
  · as_aux_lemma => kernel_rfl
  · exact fact_enter
  · rw [fact_final]; rfl
  · rw [fact_make]; rfl
  · as_aux_lemma => kernel_rfl
  · as_aux_lemma => kernel_rfl
  · as_aux_lemma => kernel_rfl
  · as_aux_lemma => kernel_rfl
theorem FnExactCoverCount_named : Try.prog.funcNamed Rows.fnExactCoverCountRow.func = some 5 := by kernel_rfl
theorem FnExactCoverCount_wrap : Try.f5.isWrapper Try.prog Rows.fnExactCoverCountRow.wrapper Rows.fnExactCoverCountRow.mainSum := (by unfold Func.isWrapper; first | (rw [if_pos (by decide +kernel)]; kernel_rfl) | (rw [if_neg (by decide +kernel)]; exact ⟨rfl, rfl⟩))
theorem FnExactCoverCount_over : Rows.fnExactCoverCountRow.holds Try.pinned (OpenSpec.ofChange Rows.fnExactCoverCountSpec) :=
  OpenClaim.holds_of_wide (p := Try.pinned) 5 Try.f5 rfl rfl rfl rfl rfl rfl rfl ⟨rfl, rfl, rfl, rfl, rfl⟩ rfl rfl rfl rfl rfl FnExactCoverCount_named Try.func5 FnExactCoverCount_facts
    (of_decide_eq_true (by kernel_rfl)) FnExactCoverCount_wrap
    (fun os started H enc _ => FnExactCoverCount_lifted os started H enc)
theorem FnExactCoverCount_holds : Rows.FnExactCoverCountSaid := FnExactCoverCount_over
#print axioms FnExactCoverCount_holds
end Go.Proofs.Ytbeiacoplhbmeaa
