/- The program's plan is the reference's; its packets are letters or cover. No condition. -/
import Derived.Test.YtbeiacoplhbmeaaCovJ
namespace Go.Proofs.Ytbeiacoplhbmeaa
open Go Go.RowKit Go.ChangeShapes Go.WideShapes Go.ChangeAt
set_option maxHeartbeats 400000
theorem FnPlanCount_c (v0 : Value) (xs0 : List Int) (w : World) (s0 : SlB tByte w.heap.size w v0 xs0) (f0 : ∀ x ∈ xs0, (Lit.int .u8 x).wf = true) :
    Calls Try.prog 14 #[v0] w (ok true w.heap.size w) := by
  obtain ⟨A, c, rfl, a1, a2, a3⟩ := s0.form
  clear a2
  by_cases hl : 1048576 < xs0.length
  · go_enter Try.func14, Try.ntmps14
    go_wp2
    all_goals go_ret
    all_goals exact ⟨rfl, Below.refl _ _⟩
  · go_enter Try.func14, Try.ntmps14
    go_wp2_with fail
    refine (DrawCoverPlan_c _ xs0 _ s0 (fun x hx => wf_u8 (f0 x hx))).mono ?_
    rintro e w1 ⟨v, r, p, u, rfl, hr9, or, hb1⟩
    have sr := or.slB
    go_wp2_with fail
    refine (CoverPlan_impl v r p u w1 sr).mono ?_
    rintro e w2 ⟨v2, rfl, n2, hb2⟩
    have s2 := n2.slB
    have sr := (sr.below hb2 (Nat.le_refl _)).mono hb2.size
    go_wp2_with fail
    refine (CoverPlan_spec v r p u w2 sr).mono ?_
    rintro e w3 ⟨v3, rfl, n3, hb3⟩
    have s3 := n3.slB
    have s2 := (s2.below hb3 (Nat.le_refl _)).mono hb3.size
    have sr := (sr.below hb3 (Nat.le_refl _)).mono hb3.size
    go_wp2_with fail
    refine (samePlan_t v2 v3 _ w3 s2 s3).mono ?_
    rintro e w4 ⟨rfl, hb4⟩
    have s3 := (s3.below hb4 (Nat.le_refl _)).mono hb4.size
    have s2 := (s2.below hb4 (Nat.le_refl _)).mono hb4.size
    have sr := (sr.below hb4 (Nat.le_refl _)).mono hb4.size
    have hB : Below w.heap.size w w4 := hb1.trans ((hb2.mono hb1.size).trans ((hb3.mono (Nat.le_trans hb1.size hb2.size)).trans (hb4.mono (Nat.le_trans hb1.size (Nat.le_trans hb2.size hb3.size)))))
    clear hb1 hb2 hb3 hb4 n2 n3 s0 or f0
    cases hok : Cov.ok r p u with
    | false =>
      rw [show Cov.full r p u = [] from by simp [Cov.full, hok]] at s2 s3
      obtain ⟨A2, c2, rfl, _, _, _⟩ := s2.form
      have S2 := hid s2; have S3 := hid s3; have HB := hid hB
      clear s2 s3 sr hB hok
      go_wp2_with fail
      refine (samePlan_t _ v3 [] w4 S2.out S3.out).mono ?_
      rintro e w5 ⟨rfl, hb5⟩
      have HB := hid (HB.out.trans (hb5.mono HB.out.size))
      clear hb5
      go_wp2
      go_ret
      exact ⟨rfl, HB.out⟩
    | true =>
      rw [show Cov.full r p u = Cov.plan r p (Cov.num p u) from by simp [Cov.full, hok]] at s2
      have hp := Cov.ok_parts.1 hok
      have hp1 := hp.2.1.1; have hp9 := hp.2.1.2; have hu0 := hp.2.2.1.1; have hu40 := hp.2.2.1.2; have hr8 := hp.2.2.2
      have Hok := hid hp.1
      obtain ⟨A2, c2, rfl, d1, _, d3⟩ := s2.form
      have hlen := Cov.plan_length r p (Cov.num p u)
      generalize hN : Cov.num p u = N at *
      rw [hlen] at d1 d3
      rw [hlen] at s2 ⊢
      have HN := hid hN
      have hN0 : 0 < N := by rw [← hN]; unfold Cov.num; omega
      have S2 := hid s2; have Sr := hid sr; have HB := hid hB
      clear s2 s3 sr hB hok hp hlen hN
      go_wp2
      go_loopw [8, 9] (fun nv i wr => ∃ k : Nat, k ≤ N ∧ i = .int .i64 k ∧ nv = .int .i64 (Cov.nx r p k) ∧ Below w4.heap.size w4 wr) (fun _ i _ => N - (intOf i).toNat)
      case atStart => exact ⟨0, by omega, rfl, rfl, Below.refl _ _⟩
      case round =>
        obtain ⟨k, hk, rfl, rfl, hb⟩ := hrel
        have r2 := S2.out.go hb
        have Hb := hid hb
        have hnx := Cov.nx_le r p k
        clear hb
        by_cases hlt : k < N
        · have hx := Cov.plan_get r p N k hlt
          obtain ⟨b, o, rfl, _, _, p1, p2⟩ := r2.two hx
          cases hh : Cov.hit r p k with
          | true =>
            have p2' : wr.cell? ⟨b, o + k * 2 + 1, none⟩ = some (.int .i64 (Cov.nx r p k)) := by rw [p2, Cov.pk, Cov.let_hit _ _ _ hh]
            have Hnx := hid (nx_hit hh)
            have hm1 : (0 : Int) ≤ (Cov.nx r p k : Int) := by omega
            clear hx r2 p1 p2 hh
            generalize Cov.nx r p k = n at *
            go_wp2
            go_roundw
            case rel => exact ⟨k + 1, by omega, by go_num, by rw [Hnx.out]; go_num, Hb.out⟩
            case measure => simp [intOf]; omega
          | false =>
            have p2' : wr.cell? ⟨b, o + k * 2 + 1, none⟩ = some (.int .i64 (-1)) := by rw [p2, Cov.pk, (Cov.let_neg _ _ _).2 hh]
            have Hnx := hid (nx_miss hh)
            clear hx r2 p1 p2 hh
            go_wp2
            go_roundw
            case rel => exact ⟨k + 1, by omega, by go_num, by rw [Hnx.out], Hb.out⟩
            case measure => simp [intOf]; omega
        · have hkN : k = N := by omega
          subst hkN
          have hc := Cov.cover_plan r p k
          have HB := hid (bt HB.out Hb.out)
          have R2 := hid r2
          clear Hb S2 r2
          generalize hcv : Cov.cover (Cov.plan r p k) = q at hc
          have Hcv := hid hcv
          clear hcv
          generalize Cov.nx r p k = n at *
          have hcB : ((q : Int) + (n : Int) == (k : Int)) = true := by simp; omega
          go_wp2_with (go_at_call 32; refine (CoverCount_impl _ _ _ R2.out).mono ?_; rw [Hcv.out]; rintro e w5 ⟨rfl, hb5⟩)
          go_ret
          exact ⟨rfl, bt HB.out hb5⟩
set_option maxRecDepth 100000 in
theorem FnPlanCount_lifted (os : Os) (started : os.Started) (H : Type) (enc : TypeId × Value → H) :
    ReturnsInHanded {} Try.checked os 14 .any (Rows.fnPlanCountSpec.pre6 enc Try.prog Try.f14 Rows.fnPlanCountRow.domain false) (Rows.fnPlanCountSpec.post enc Try.prog Try.f14 false true false false) := by
  refine returnsInHanded_of_change (C := Try.checked) own_knob started (by kernel_rfl) Try.func14
    (ChangeSpec.witness6 (enc := enc) (C := Try.checked) false ⟨#[], #[.slice none 0 0], []⟩ 8 (by kernel_rfl) (by kernel_rfl) (by kernel_rfl) (by kernel_rfl)) ?_
  intro W base args ds gs before hval0 hW hcnd _
  have hval : ∀ (j : Nat) t v, Try.f14.params[j]? = some t → args[j]? = some v → Value.okWide Try.prog W .any base t v := hval0
  have hW' := hW
  obtain ⟨p, q, hA0, hV, rfl, hfz, hnd⟩ := hW
  have hA : DataW.TrodAll enc Try.prog W 0 (fun _ => true) true Try.f14.params.toList args.toList ds p := hA0
  rw [Try.params14] at hA hval
  obtain ⟨v0, vs0, d0, ds0, p0, q0, hargs, rfl, rfl, h0, r0⟩ := trodAll_cons hA
  obtain ⟨rfl, rfl, rfl⟩ := trodAll_nil r0
  obtain rfl : args = #[v0] := by cases args; simp_all
  obtain ⟨rfl, rfl⟩ := trodVars_none hV
  have k0 := h0
  have lt0 : ∀ x ∈ p0, x.block < W.heap.size := by obtain ⟨m, hm⟩ := k0; exact DataW.trod_lt m _ _ _ hm
  obtain ⟨xs0, s0, f0⟩ := opn_slice opens_bytes Try.underlying27 (hval 0 27 v0 rfl rfl) h0
  clear hA0 hval0
  refine (FnPlanCount_c v0 xs0 W s0 f0).mono fun e W' ⟨he, bel⟩ => ?_
  subst he
  exact ⟨_, rfl, _, _, _, [], _, [], hW', trodAll_mk1 (shut_bool Try.underlying4 _), (trodAll_cons_mk (Below.trod laid_out (by kernel_rfl) (of_decide_eq_true (by kernel_rfl)) k0 bel lt0) trodAll_mk0), rfl, bel.frame _, fun h => by cases h⟩

theorem FnPlanCount_facts : joinedFacts Try.prog 14 Try.f14 Rows.fnPlanCountSpec Rows.fnPlanCountRow = true := by
  unfold joinedFacts
  simp only [Bool.and_eq_true]
  repeat' apply And.intro
  · as_aux_lemma => kernel_rfl
  · as_aux_lemma => kernel_rfl
  · as_aux_lemma => kernel_rfl
  · as_aux_lemma => kernel_rfl
  · as_aux_lemma => kernel_rfl
  · as_aux_lemma => kernel_rfl
  · as_aux_lemma => kernel_rfl
  · as_aux_lemma => kernel_rfl
  · as_aux_lemma => kernel_rfl
  · as_aux_lemma => kernel_rfl
  · as_aux_lemma => kernel_rfl
  · as_aux_lemma => kernel_rfl
  · as_aux_lemma => kernel_rfl
  · as_aux_lemma => kernel_rfl
  · as_aux_lemma => kernel_rfl
  · as_aux_lemma => kernel_rfl
  · as_aux_lemma => kernel_rfl
  · as_aux_lemma => kernel_rfl
  · as_aux_lemma => kernel_rfl
  · as_aux_lemma => kernel_rfl
  · as_aux_lemma => kernel_rfl
  · as_aux_lemma => kernel_rfl
  · as_aux_lemma => kernel_rfl
  · as_aux_lemma => kernel_rfl
  · as_aux_lemma => kernel_rfl
  · exact fact_enter
  · rw [fact_final]; rfl
  · rw [fact_make]; rfl
  · as_aux_lemma => kernel_rfl
  · as_aux_lemma => kernel_rfl
  · as_aux_lemma => kernel_rfl
  · as_aux_lemma => kernel_rfl
theorem FnPlanCount_named : Try.prog.funcNamed Rows.fnPlanCountRow.func = some 14 := by kernel_rfl
theorem FnPlanCount_wrap : Try.f14.isWrapper Try.prog Rows.fnPlanCountRow.wrapper Rows.fnPlanCountRow.mainSum := (by unfold Func.isWrapper; first | (rw [if_pos (by decide +kernel)]; kernel_rfl) | (rw [if_neg (by decide +kernel)]; exact ⟨rfl, rfl⟩))
theorem FnPlanCount_over : Rows.fnPlanCountRow.holds Try.pinned (OpenSpec.ofChange Rows.fnPlanCountSpec) :=
  OpenClaim.holds_of_wide (p := Try.pinned) 14 Try.f14 rfl rfl rfl rfl rfl rfl rfl ⟨rfl, rfl, rfl, rfl, rfl⟩ rfl rfl rfl rfl rfl FnPlanCount_named Try.func14 FnPlanCount_facts
    (of_decide_eq_true (by kernel_rfl)) FnPlanCount_wrap
    (fun os started H enc _ => FnPlanCount_lifted os started H enc)
theorem FnPlanCount_holds : Rows.FnPlanCountSaid := FnPlanCount_over
#print axioms FnPlanCount_holds
end Go.Proofs.Ytbeiacoplhbmeaa
