/- The program's CoverDelay returns what the reference's returns, for every list of letters and every plan; both are left as they were. No condition. -/
import Derived.Test.YtbeiacoplhbmeaaCovI
import Derived.Test.YtbeiacoplhbmeaaCovG
namespace Go.Proofs.Ytbeiacoplhbmeaa
open Go Go.RowKit Go.ChangeShapes Go.WideShapes Go.ChangeAt
set_option maxHeartbeats 400000
theorem FnExactCoverDelay_c (v0 : Value) (r : List Int) (v1 : Value) (xs : List (Int × Int)) (w : World) (r0 : SlB tInt w.heap.size w v0 r) (_ : ∀ x ∈ r, (Lit.int .i64 x).wf = true) (s0 : SlB tTwo w.heap.size w v1 xs) (_ : ∀ x ∈ xs, (Lit.int .i64 x.1).wf = true ∧ (Lit.int .i64 x.2).wf = true) :
    Calls Try.prog 6 #[v0, v1] w (ok true w.heap.size w) := by
  obtain ⟨A, c, rfl, a1, a2, a3⟩ := r0.form
  clear a2
  by_cases hr : 1048576 < r.length
  · go_enter Try.func6, Try.ntmps6
    go_wp2
    go_ret
    exact ⟨rfl, Below.refl _ _⟩
  · have hnr : r.length ≤ 1073741824 := by omega
    by_cases hl : 1048576 < xs.length
    · have hz := szOf_neg hl
      clear hl
      go_enter Try.func6, Try.ntmps6
      go_wp2_with (go_at_call 29; refine (szSendingS_c v1 xs _ _ s0 (by omega) (by omega)).mono ?_; rw [hz]; rintro e w1 ⟨rfl, rfl⟩)
      go_ret
      exact ⟨rfl, Below.refl _ _⟩
    · have hz := szOf_pos hl
      have hn : xs.length ≤ 1073741824 := by omega
      go_enter Try.func6, Try.ntmps6
      go_wp2_with fail
      refine (szSendingS_c v1 xs _ _ s0 (by omega) (by omega)).mono ?_
      rw [hz]
      rintro e w1 ⟨rfl, rfl⟩
      go_wp2_with fail
      refine (toIntS_c _ r _ r0 hnr).mono ?_
      rintro e w1 ⟨v2, rfl, n2, hb1⟩
      go_wp2_with fail
      refine (toSendingS_c v1 xs _ (s0.go hb1) hn).mono ?_
      rintro e w2 ⟨v3, rfl, n3, hb2⟩
      go_wp2_with fail
      refine (CoverDelay_spec v2 v3 r xs _ (n2.slB.go hb2) n3.slB).mono ?_
      rintro e w3 ⟨rfl, hb3⟩
      have hb := bt hb1 (bt hb2 hb3)
      clear hb1 hb2 hb3 n2 n3
      go_wp2_with fail
      refine (toIntS_c _ r _ (r0.go hb) hnr).mono ?_
      rintro e w4 ⟨v4, rfl, n4, hb4⟩
      have hb := bt hb hb4
      go_wp2_with fail
      refine (toSendingS_c v1 xs _ (s0.go hb) hn).mono ?_
      rintro e w5 ⟨v5, rfl, n5, hb5⟩
      have hb := bt hb hb5
      have s4 := n4.slB.go hb5
      have s5 := n5.slB
      go_wp2_with fail
      refine (CoverDelay_impl v4 v5 r xs _ s4 s5).mono ?_
      rintro e w6 ⟨rfl, hb6⟩
      have hb := bt hb hb6
      have s4 := s4.go hb6
      have s5 := s5.go hb6
      clear hb4 hb5 hb6 n4 n5
      go_wp2_with fail
      refine (toIntS_c _ r _ (r0.go hb) hnr).mono ?_
      rintro e w7 ⟨v7, rfl, n7, hb7⟩
      go_wp2_with fail
      refine (eqIntS_t v4 v7 r _ (s4.go hb7) n7.slB).mono ?_
      rintro e w8 ⟨rfl, hb8⟩
      have s5 := (s5.go hb7).go hb8
      have hb := bt hb (bt hb7 hb8)
      clear hb7 hb8 s4 n7
      go_wp2_with fail
      refine (toSendingS_c v1 xs _ (s0.go hb) hn).mono ?_
      rintro e w9 ⟨v9, rfl, n9, hb9⟩
      go_wp2_with fail
      refine (eqSendingS_t v5 v9 xs _ (s5.go hb9) n9.slB).mono ?_
      rintro e w10 ⟨rfl, hb10⟩
      have hb := bt hb (bt hb9 hb10)
      clear hb9 hb10 s5 s0 r0 n9
      go_wp2
      go_ret
      exact ⟨rfl, hb⟩
set_option maxRecDepth 100000 in
theorem FnExactCoverDelay_lifted (os : Os) (started : os.Started) (H : Type) (enc : TypeId × Value → H) :
    ReturnsInHanded {} Try.checked os 6 .any (Rows.fnExactCoverDelaySpec.pre6 enc Try.prog Try.f6 Rows.fnExactCoverDelayRow.domain false) (Rows.fnExactCoverDelaySpec.post enc Try.prog Try.f6 false true false false) := by
  refine returnsInHanded_of_change (C := Try.checked) own_knob started (by kernel_rfl) Try.func6
    (ChangeSpec.witness6 (enc := enc) (C := Try.checked) false ⟨#[], #[.slice none 0 0, .slice none 0 0], []⟩ 8 (by kernel_rfl) (by kernel_rfl) (by kernel_rfl) (by kernel_rfl)) ?_
  intro W base args ds gs before hval0 hW hcnd _
  have hval : ∀ (j : Nat) t v, Try.f6.params[j]? = some t → args[j]? = some v → Value.okWide Try.prog W .any base t v := hval0
  have hW' := hW
  obtain ⟨p, q, hA0, hV, rfl, hfz, hnd⟩ := hW
  have hA : DataW.TrodAll enc Try.prog W 0 (fun _ => true) true Try.f6.params.toList args.toList ds p := hA0
  rw [Try.params6] at hA hval
  obtain ⟨v0, vs0, d0, ds0, p0, q0, hargs, rfl, rfl, h0, r0⟩ := trodAll_cons hA
  obtain ⟨v1, vs1, d1, ds1, p1, q1, rfl, rfl, rfl, h1, r1⟩ := trodAll_cons r0
  obtain ⟨rfl, rfl, rfl⟩ := trodAll_nil r1
  obtain rfl : args = #[v0, v1] := by cases args; simp_all
  obtain ⟨rfl, rfl⟩ := trodVars_none hV
  have k0 := h0
  have lt0 : ∀ x ∈ p0, x.block < W.heap.size := by obtain ⟨m, hm⟩ := k0; exact DataW.trod_lt m _ _ _ hm
  obtain ⟨xs0, s0, f0⟩ := opn_slice opens_ints Try.underlying22 (hval 0 22 v0 rfl rfl) h0
  have k1 := h1
  have lt1 : ∀ x ∈ p1, x.block < W.heap.size := by obtain ⟨m, hm⟩ := k1; exact DataW.trod_lt m _ _ _ hm
  obtain ⟨xs1, s1, f1⟩ := opn_slice opens_sendings Try.underlying31 (hval 1 31 v1 rfl rfl) h1
  clear hA0 hval0
  refine (FnExactCoverDelay_c v0 xs0 v1 xs1 W s0 f0 s1 f1).mono fun e W' ⟨he, bel⟩ => ?_
  subst he
  exact ⟨_, rfl, _, _, _, [], _, [], hW', trodAll_mk1 (shut_bool Try.underlying4 _), (trodAll_cons_mk (Below.trod laid_out (by kernel_rfl) (of_decide_eq_true (by kernel_rfl)) k0 bel lt0) (trodAll_cons_mk (Below.trod laid_out (by kernel_rfl) (of_decide_eq_true (by kernel_rfl)) k1 bel lt1) trodAll_mk0)), rfl, bel.frame _, fun h => by cases h⟩

theorem FnExactCoverDelay_facts : joinedFacts Try.prog 6 Try.f6 Rows.fnExactCoverDelaySpec Rows.fnExactCoverDelayRow = true := by
  unfold joinedFacts
  simp only [Bool.and_eq_true]
  repeat' apply And.intro
  · as_aux_lemma => kernel_rfl
  · as_aux_lemma => kernel_rfl
  · as_aux_lemma => kernel_rfl
  · as_aux_lemma => kernel_rfl
  · as_aux_lemma => kernel_rfl
  · as_aux_lemma => kernel_rfl
  · as_aux_lemma => kernel_rfl
  · as_aux_lemma => kernel_rfl
  · as_aux_lemma => kernel_rfl
  · as_aux_lemma => kernel_rfl
  · as_aux_lemma => kernel_rfl
  · as_aux_lemma => kernel_rfl
  · as_aux_lemma => kernel_rfl
  · as_aux_lemma => kernel_rfl
  · as_aux_lemma => kernel_rfl
  · as_aux_lemma => kernel_rfl
  · as_aux_lemma => kernel_rfl
  · as_aux_lemma => kernel_rfl
  · as_aux_lemma => kernel_rfl
  · as_aux_lemma => kernel_rfl
  · as_aux_lemma => kernel_rfl
  · as_aux_lemma => kernel_rfl
  · as_aux_lemma => kernel_rfl
  · as_aux_lemma => kernel_rfl
  · as_aux_lemma => kernel_rfl
  · exact fact_enter
  · rw [fact_final]; rfl
  · rw [fact_make]; rfl
  · as_aux_lemma => kernel_rfl
  · as_aux_lemma => kernel_rfl
  · as_aux_lemma => kernel_rfl
  · as_aux_lemma => kernel_rfl
theorem FnExactCoverDelay_named : Try.prog.funcNamed Rows.fnExactCoverDelayRow.func = some 6 := by kernel_rfl
theorem FnExactCoverDelay_wrap : Try.f6.isWrapper Try.prog Rows.fnExactCoverDelayRow.wrapper Rows.fnExactCoverDelayRow.mainSum := (by unfold Func.isWrapper; first | (rw [if_pos (by decide +kernel)]; kernel_rfl) | (rw [if_neg (by decide +kernel)]; exact ⟨rfl, rfl⟩))
theorem FnExactCoverDelay_over : Rows.fnExactCoverDelayRow.holds Try.pinned (OpenSpec.ofChange Rows.fnExactCoverDelaySpec) :=
  OpenClaim.holds_of_wide (p := Try.pinned) 6 Try.f6 rfl rfl rfl rfl rfl rfl rfl ⟨rfl, rfl, rfl, rfl, rfl⟩ rfl rfl rfl rfl rfl FnExactCoverDelay_named Try.func6 FnExactCoverDelay_facts
    (of_decide_eq_true (by kernel_rfl)) FnExactCoverDelay_wrap
    (fun os started H enc _ => FnExactCoverDelay_lifted os started H enc)
theorem FnExactCoverDelay_holds : Rows.FnExactCoverDelaySaid := FnExactCoverDelay_over
#print axioms FnExactCoverDelay_holds
end Go.Proofs.Ytbeiacoplhbmeaa
