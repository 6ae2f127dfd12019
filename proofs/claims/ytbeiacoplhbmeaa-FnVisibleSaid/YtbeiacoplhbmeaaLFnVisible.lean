/- The program's visible times are the reference's, and those of the packets. No condition. -/
import Derived.Test.YtbeiacoplhbmeaaCovJ
namespace Go.Proofs.Ytbeiacoplhbmeaa
open Go Go.RowKit Go.ChangeShapes Go.WideShapes Go.ChangeAt
set_option maxHeartbeats 400000
theorem FnVisible_c (v0 : Value) (xs0 : List Int) (w : World) (s0 : SlB tByte w.heap.size w v0 xs0) (f0 : ∀ x ∈ xs0, (Lit.int .u8 x).wf = true) :
    Calls Try.prog 8 #[v0] w (ok true w.heap.size w) := by
  obtain ⟨A, c, rfl, a1, a2, a3⟩ := s0.form
  clear a2
  by_cases hl : 1048576 < xs0.length
  · go_enter Try.func8, Try.ntmps8
    go_wp2
    all_goals go_ret
    all_goals exact ⟨rfl, Below.refl _ _⟩
  · go_enter Try.func8, Try.ntmps8
    go_wp2_with fail
    refine (DrawCoverVisible_c _ xs0 _ s0 (fun x hx => wf_u8 (f0 x hx))).mono ?_
    rintro e w1 ⟨r, p, u, v1, rfl, n1, hb⟩
    have hlen := full_len r p u
    generalize Cov.full r p u = xs at *
    have hn : xs.length ≤ 1073741824 := by omega
    have s1 := n1.slB
    clear n1 s0 f0
    go_wp2_with fail
    refine (CoverVisible_impl v1 xs _ s1 hn).mono ?_
    rintro e w2 ⟨v2, rfl, n2, hb2⟩
    have s2 := n2.slB
    have s1 := s1.go hb2
    have hb := bt hb hb2
    clear hb2 n2
    go_wp2_with fail
    refine (CoverVisible_spec v1 xs _ s1 hn).mono ?_
    rintro e w3 ⟨v3, rfl, n3, hb3⟩
    have s3 := n3.slB
    have s2 := s2.go hb3
    have s1 := s1.go hb3
    have hb := bt hb hb3
    clear hb3 n3
    go_wp2_with fail
    refine (sameInts_t v2 v3 _ w3 s2 s3).mono ?_
    rintro e w4 ⟨rfl, hb4⟩
    have s2 := s2.go hb4
    have s1 := s1.go hb4
    have hb := bt hb hb4
    clear hb4 s3
    obtain ⟨A1, c1, rfl, d1, _, d3⟩ := s1.form
    obtain ⟨A2, c2, rfl, e1, _, e3⟩ := s2.form
    have hm : (xs.map Prod.fst).length = xs.length := by simp
    rw [hm] at e1 e3 s2 ⊢
    have S1 := hid s1; have S2 := hid s2; have HB := hid hb
    clear s1 s2 hb hm
    go_wp2
    go_loopw [6] (fun i wr => ∃ k : Nat, k ≤ xs.length ∧ i = .int .i64 k ∧ Below w4.heap.size w4 wr) (fun i _ => xs.length - (intOf i).toNat)
    case atStart => exact ⟨0, by omega, rfl, Below.refl _ _⟩
    case round =>
      obtain ⟨k, hk, rfl, hb⟩ := hrel
      have r1 := S1.out.go hb
      have r2 := S2.out.go hb
      have Hb := hid hb
      clear hb
      by_cases hlt : k < xs.length
      · obtain ⟨x, hx⟩ := get_ex hlt
        have hy : (xs.map Prod.fst)[k]? = some x.1 := by rw [List.getElem?_map, hx]; rfl
        obtain ⟨b, o, rfl, _, _, p1, p2⟩ := r1.two hx
        obtain ⟨b', o', rfl, _, _, q1⟩ := r2.int hy
        have hne : (x.1 != x.1) = false := by simp
        clear hx hy r1 r2 p2
        go_wp2
        go_quiet (fail)
        go_wp2
        go_roundw
        case rel => exact ⟨k + 1, by omega, by go_num, below_drewN Hb.out _⟩
        case measure => simp [intOf]; omega
      · go_wp2
        go_ret
        exact ⟨ret_bool (by simp), bt HB.out Hb.out⟩
set_option maxRecDepth 100000 in
theorem FnVisible_lifted (os : Os) (started : os.Started) (H : Type) (enc : TypeId × Value → H) :
    ReturnsInHanded {} Try.checked os 8 .any (Rows.fnVisibleSpec.pre6 enc Try.prog Try.f8 Rows.fnVisibleRow.domain false) (Rows.fnVisibleSpec.post enc Try.prog Try.f8 false true false false) := by
  refine returnsInHanded_of_change (C := Try.checked) own_knob started (by kernel_rfl) Try.func8
    (ChangeSpec.witness6 (enc := enc) (C := Try.checked) false ⟨#[], #[.slice none 0 0], []⟩ 8 (by kernel_rfl) (by kernel_rfl) (by kernel_rfl) (by kernel_rfl)) ?_
  intro W base args ds gs before hval0 hW hcnd _
  have hval : ∀ (j : Nat) t v, Try.f8.params[j]? = some t → args[j]? = some v → Value.okWide Try.prog W .any base t v := hval0
  have hW' := hW
  obtain ⟨p, q, hA0, hV, rfl, hfz, hnd⟩ := hW
  have hA : DataW.TrodAll enc Try.prog W 0 (fun _ => true) true Try.f8.params.toList args.toList ds p := hA0
  rw [Try.params8] at hA hval
  obtain ⟨v0, vs0, d0, ds0, p0, q0, hargs, rfl, rfl, h0, r0⟩ := trodAll_cons hA
  obtain ⟨rfl, rfl, rfl⟩ := trodAll_nil r0
  obtain rfl : args = #[v0] := by cases args; simp_all
  obtain ⟨rfl, rfl⟩ := trodVars_none hV
  have k0 := h0
  have lt0 : ∀ x ∈ p0, x.block < W.heap.size := by obtain ⟨m, hm⟩ := k0; exact DataW.trod_lt m _ _ _ hm
  obtain ⟨xs0, s0, f0⟩ := opn_slice opens_bytes Try.underlying27 (hval 0 27 v0 rfl rfl) h0
  clear hA0 hval0
  refine (FnVisible_c v0 xs0 W s0 f0).mono fun e W' ⟨he, bel⟩ => ?_
  subst he
  exact ⟨_, rfl, _, _, _, [], _, [], hW', trodAll_mk1 (shut_bool Try.underlying4 _), (trodAll_cons_mk (Below.trod laid_out (by kernel_rfl) (of_decide_eq_true (by kernel_rfl)) k0 bel lt0) trodAll_mk0), rfl, bel.frame _, fun h => by cases h⟩

theorem FnVisible_facts : joinedFacts Try.prog 8 Try.f8 Rows.fnVisibleSpec Rows.fnVisibleRow = true := by
  unfold joinedFacts
  simp only [Bool.and_eq_true]
  repeat' apply And.intro
  · as_aux_lemma => kernel_rfl
  · as_aux_lemma => kernel_rfl
  · as_aux_lemma => kernel_rfl
  · as_aux_lemma => kernel_rfl
  · as_aux_lemma => kernel_rfl
  · as_aux_lemma => kernel_rfl
  · as_aux_lemma => kernel_rfl
  · as_aux_lemma => kernel_rfl
  · as_aux_lemma => kernel_rfl
  · as_aux_lemma => kernel_rfl
  · as_aux_lemma => kernel_rfl
  · as_aux_lemma => kernel_rfl
  · as_aux_lemma => kernel_rfl
  · as_aux_lemma => kernel_rfl
  · as_aux_lemma => kernel_rfl
  · as_aux_lemma => kernel_rfl
  · as_aux_lemma => kernel_rfl
  · as_aux_lemma => kernel_rfl
  · as_aux_lemma => kernel_rfl
  · as_aux_lemma => kernel_rfl
  · as_aux_lemma => kernel_rfl
  · as_aux_lemma => kernel_rfl
  · as_aux_lemma => kernel_rfl
  · as_aux_lemma => kernel_rfl
  · as_aux_lemma => kernel_rfl
  · exact fact_enter
  · rw [fact_final]; rfl
  · rw [fact_make]; rfl
  · as_aux_lemma => kernel_rfl
  · as_aux_lemma => kernel_rfl
  · as_aux_lemma => kernel_rfl
  · as_aux_lemma => kernel_rfl
theorem FnVisible_named : Try.prog.funcNamed Rows.fnVisibleRow.func = some 8 := by kernel_rfl
theorem FnVisible_wrap : Try.f8.isWrapper Try.prog Rows.fnVisibleRow.wrapper Rows.fnVisibleRow.mainSum := (by unfold Func.isWrapper; first | (rw [if_pos (by decide +kernel)]; kernel_rfl) | (rw [if_neg (by decide +kernel)]; exact ⟨rfl, rfl⟩))
theorem FnVisible_over : Rows.fnVisibleRow.holds Try.pinned (OpenSpec.ofChange Rows.fnVisibleSpec) :=
  OpenClaim.holds_of_wide (p := Try.pinned) 8 Try.f8 rfl rfl rfl rfl rfl rfl rfl ⟨rfl, rfl, rfl, rfl, rfl⟩ rfl rfl rfl rfl rfl FnVisible_named Try.func8 FnVisible_facts
    (of_decide_eq_true (by kernel_rfl)) FnVisible_wrap
    (fun os started H enc _ => FnVisible_lifted os started H enc)
theorem FnVisible_holds : Rows.FnVisibleSaid := FnVisible_over
#print axioms FnVisible_holds
end Go.Proofs.Ytbeiacoplhbmeaa
