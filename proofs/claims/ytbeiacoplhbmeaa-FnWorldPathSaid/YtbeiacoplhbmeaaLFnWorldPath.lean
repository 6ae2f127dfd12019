/- The program's WorldPath is the reference's; a path's mixes differ and exist; different numbers give different paths. No condition. -/
import Derived.Test.YtbeiacoplhbmeaaClose
import Derived.Test.YtbeiacoplhbmeaaPath
import Derived.Test.YtbeiacoplhbmeaaDraw
namespace Go.Proofs.Ytbeiacoplhbmeaa
open Go Go.RowKit Go.ChangeShapes Go.WideShapes Go.ChangeAt
set_option maxHeartbeats 400000
theorem wf_u8 {x : Int} (h : (Lit.int .u8 x).wf = true) : 0 ≤ x ∧ x ≤ 255 := by simpa [Lit.wf, IntKind.min, IntKind.max, IntKind.signed, IntKind.bits] using h
theorem sameInts_t (v1 v2 : Value) (xs : List Int) (w : World) (h1 : SlB tInt w.heap.size w v1 xs) (h2 : SlB tInt w.heap.size w v2 xs) :
    Calls Try.prog 27 #[v1, v2] w (ok true w.heap.size w) := by
  have := sameInts_c v1 v2 xs xs w h1 h2
  rwa [decide_eq_true rfl] at this
theorem path_in (k : Int) (i : Nat) (x : Int) (h : (pathOf k)[i]? = some x) : 0 ≤ x ∧ x < 3 ∧ x ∉ (pathOf k).take i := by
  unfold pathOf at *
  split at h
  · rename_i hk
    rw [if_pos hk]
    generalize k.toNat = n at *
    rcases n with _ | _ | _ | _ | _ | _ | _ | _ | _ | n <;> simp [paths] at h ⊢ <;> rcases i with _ | _ | _ | i <;> simp at h ⊢ <;> subst h <;> decide
  · simp at h
theorem path_pos (k : Int) : (0 < (pathOf k).length) ↔ (0 ≤ k ∧ k ≤ 8) := by
  unfold pathOf
  constructor
  · intro h; split at h
    · assumption
    · simp at h
  · intro h
    rw [if_pos h]
    obtain ⟨n, rfl⟩ := Int.eq_ofNat_of_zero_le h.1
    have hn : n ≤ 8 := by omega
    clear h
    rcases n with _ | _ | _ | _ | _ | _ | _ | _ | _ | n <;> simp [paths]
    omega
theorem path_inj (j k : Int) (hj : 0 ≤ j ∧ j ≤ 8) (hk : 0 ≤ k ∧ k ≤ 8) (h : pathOf j = pathOf k) : j = k := by
  unfold pathOf at h
  rw [if_pos hj, if_pos hk] at h
  obtain ⟨n, rfl⟩ := Int.eq_ofNat_of_zero_le hj.1
  obtain ⟨m, rfl⟩ := Int.eq_ofNat_of_zero_le hk.1
  have hn : n ≤ 8 := by omega
  have hm : m ≤ 8 := by omega
  clear hj hk
  have : ∀ n, n ≤ 8 → ∀ m, m ≤ 8 → paths.getD n [] = paths.getD m [] → n = m := by decide
  rw [this n hn m hm (by simpa using h)]
theorem hasInt_q (v1 : Value) (xs : List Int) (n : Int) (w : World) (m : Nat) (h1 : SlB tInt w.heap.size w v1 xs) (hn : n ∉ xs) :
    Calls Try.prog 28 #[v1, .int .i64 n] (w.drewN m) fun e w' => e = .returned (.bool false) ∧ w' = w.drewN m :=
  (hasInt_c v1 xs n (w.drewN m) (h1.drewN (Nat.le_refl _) m)).mono fun e w' ⟨h1, h2⟩ => ⟨by rw [h1, decide_eq_false hn], h2.symm⟩
theorem FnWorldPath_c (v0 : Value) (xs0 : List Int) (v1 : Value) (xs1 : List Int) (w : World) (s0 : SlB tByte w.heap.size w v0 xs0) (f0 : ∀ x ∈ xs0, (Lit.int .u8 x).wf = true) (s1 : SlB tByte w.heap.size w v1 xs1) (f1 : ∀ x ∈ xs1, (Lit.int .u8 x).wf = true) :
    Calls Try.prog 4 #[v0, v1] w (ok true w.heap.size w) := by
  obtain ⟨A, c, rfl, a1, a2, a3⟩ := s0.form
  obtain ⟨A', c', rfl, b1, b2, b3⟩ := s1.form
  clear a2 b2 s1
  by_cases hl : 1048576 < xs0.length
  · go_enter Try.func4, Try.ntmps4
    go_wp2
    all_goals go_ret
    all_goals exact ⟨rfl, Below.refl _ _⟩
  · by_cases hl2 : 1048576 < xs1.length
    · go_enter Try.func4, Try.ntmps4
      go_wp2
      all_goals go_ret
      all_goals exact ⟨rfl, Below.refl _ _⟩
    · go_enter Try.func4, Try.ntmps4
      go_wp2_with fail
      refine (DrawWorldPath_c _ xs0 _ s0 (fun x hx => wf_u8 (f0 x hx))).mono ?_
      rintro e w1 ⟨k, rfl, k0, k1, hb1⟩
      go_wp2_with fail
      refine (path_impl k _).mono ?_
      rintro e w2 ⟨v2, rfl, n2, hb2⟩
      have s2 := n2.slB
      go_wp2_with fail
      refine (path_spec k _).mono ?_
      rintro e w3 ⟨v3, rfl, s3, hb3⟩
      have s2 := s2.below hb3 (Nat.le_refl _)
      go_wp2_with fail
      refine (sameInts_t v2 v3 (pathOf k) w3 (s2.mono hb3.size) s3).mono ?_
      rintro e w4 ⟨rfl, hb4⟩
      have s2 := s2.below hb4 hb3.size
      have hB : Below w.heap.size w w4 := hb1.trans ((hb2.mono hb1.size).trans ((hb3.mono (Nat.le_trans hb1.size hb2.size)).trans (hb4.mono (Nat.le_trans hb1.size (Nat.le_trans hb2.size hb3.size)))))
      have s2 := s2.mono (Nat.le_trans hb3.size hb4.size)
      clear hb1 hb2 hb3 hb4 s3 n2 s0 f0 f1
      obtain ⟨A2, c2, rfl, d1, d2, d3⟩ := s2.form
      clear d2
      have S2 := hid s2
      have HB := hid hB
      clear hB s2
      go_wp2
      go_loopw [8] (fun i wr => ∃ j : Nat, j ≤ (pathOf k).length ∧ i = .int .i64 j ∧ Below w4.heap.size w4 wr) (fun i _ => (pathOf k).length - (intOf i).toNat)
      case atStart => exact ⟨0, by omega, rfl, Below.refl _ _⟩
      case round =>
        obtain ⟨j, hj, rfl, hbr⟩ := hrel
        have S2r := (S2.out.below hbr (Nat.le_refl _)).mono hbr.size
        have HBr := hid hbr
        clear hbr
        by_cases hlt : j < (pathOf k).length
        · obtain ⟨x, hx⟩ := get_ex hlt
          obtain ⟨b, o, rfl, _, _, hcx⟩ := S2r.int hx
          have hp := path_in k j x hx
          have hx0 := hp.1
          have hx3 := hp.2.1
          have Hni := hid hp.2.2
          have hs := S2r.take j hj
          have Hs := hid hs
          have hc1 : (j : Int) ≤ (c2 : Int) := by omega
          have g1 : decide (x < 0) = false := by simp; omega
          have g2 : decide (3 ≤ x) = false := by simp; omega
          clear hx hp hs S2r
          go_wp2
          go_quiet ((go_at_call 28; exact Calls.quiet_of_same (hasInt_q _ _ _ _ _ (by exact Hs.out) Hni.out)))
          go_wp2
          go_roundw
          case rel => exact ⟨j + 1, by omega, by go_num, below_drewN HBr.out _⟩
          case measure => simp [intOf]; omega
        · have hm0 : (0 : Int) ≤ (xs1.length : Int) % 9 := Int.emod_nonneg _ (by omega)
          have hm9 : (xs1.length : Int) % 9 ≤ 8 := by omega
          have fin : Below w.heap.size w wr := HB.out.trans (HBr.out.mono HB.out.size)
          have Fin := hid fin
          have S2r := hid S2r
          clear fin
          by_cases hk : 0 ≤ k ∧ k ≤ 8
          · have p1 : (0 : Int) < ((pathOf k).length : Int) := by have := (path_pos k).2 hk; omega
            have hk1 := hk.1
            have hk2 := hk.2
            by_cases ho : (xs1.length : Int) % 9 = k
            · have hoB : ((xs1.length : Int) % 9 == k) = true := by simp [ho]
              have Ho := hid ho
              clear ho hm0 hm9
              go_wp2
              all_goals go_ret
              all_goals exact ⟨rfl, Fin.out⟩
            · have hoB : ((xs1.length : Int) % 9 == k) = false := by simp [ho]
              have hne := hid (fun h => ho (path_inj _ k ⟨hm0, hm9⟩ hk h))
              clear ho
              go_wp2_with fail
              refine (path_impl _ _).mono ?_
              rintro e w5 ⟨v5, rfl, n5, hb5⟩
              have S5 := (S2r.out.below hb5 (Nat.le_refl _)).mono hb5.size
              go_wp2_with fail
              refine (sameInts_c v5 _ _ _ w5 n5.slB S5).mono ?_
              rintro e w6 ⟨rfl, hb6⟩
              have hdf := decide_eq_false hne.out
              rw [hdf]
              have fin2 : Below w.heap.size w w6 := Fin.out.trans ((hb5.mono Fin.out.size).trans (hb6.mono (Nat.le_trans Fin.out.size hb5.size)))
              have Fin2 := hid fin2
              clear fin2 hdf hb5 hb6 n5 S5
              go_wp2
              all_goals go_ret
              all_goals exact ⟨rfl, Fin2.out⟩
          · have hp : pathOf k = [] := if_neg hk
            have hk' : k = -1 ∨ k = 9 := by omega
            have hne := hid (show pathOf ((xs1.length : Int) % 9) ≠ pathOf k from fun h => by
              have h2 := (path_pos ((xs1.length : Int) % 9)).2 ⟨hm0, hm9⟩
              rw [h, hp] at h2; exact absurd h2 (by simp))
            have p1 : decide ((0 : Int) < ((pathOf k).length : Int)) = false := by rw [hp]; rfl
            clear hk hp
            rcases hk' with rfl | rfl
            · have hoB : ((xs1.length : Int) % 9 == -1) = false := by rw [beq_eq_false_iff_ne]; intro h; rw [h] at hm0 hm9; first | exact absurd hm0 (by decide) | exact absurd hm9 (by decide)
              go_wp2_with fail
              refine (path_impl _ _).mono ?_
              rintro e w5 ⟨v5, rfl, n5, hb5⟩
              have S5 := (S2r.out.below hb5 (Nat.le_refl _)).mono hb5.size
              go_wp2_with fail
              refine (sameInts_c v5 _ _ _ w5 n5.slB S5).mono ?_
              rintro e w6 ⟨rfl, hb6⟩
              have hdf := decide_eq_false hne.out
              rw [hdf]
              have fin2 : Below w.heap.size w w6 := Fin.out.trans ((hb5.mono Fin.out.size).trans (hb6.mono (Nat.le_trans Fin.out.size hb5.size)))
              have Fin2 := hid fin2
              clear fin2 hdf hb5 hb6 n5 S5
              go_wp2
              all_goals go_ret
              all_goals exact ⟨rfl, Fin2.out⟩
            · have hoB : ((xs1.length : Int) % 9 == 9) = false := by rw [beq_eq_false_iff_ne]; intro h; rw [h] at hm0 hm9; first | exact absurd hm0 (by decide) | exact absurd hm9 (by decide)
              go_wp2_with fail
              refine (path_impl _ _).mono ?_
              rintro e w5 ⟨v5, rfl, n5, hb5⟩
              have S5 := (S2r.out.below hb5 (Nat.le_refl _)).mono hb5.size
              go_wp2_with fail
              refine (sameInts_c v5 _ _ _ w5 n5.slB S5).mono ?_
              rintro e w6 ⟨rfl, hb6⟩
              have hdf := decide_eq_false hne.out
              rw [hdf]
              have fin2 : Below w.heap.size w w6 := Fin.out.trans ((hb5.mono Fin.out.size).trans (hb6.mono (Nat.le_trans Fin.out.size hb5.size)))
              have Fin2 := hid fin2
              clear fin2 hdf hb5 hb6 n5 S5
              go_wp2
              all_goals go_ret
              all_goals exact ⟨rfl, Fin2.out⟩
set_option maxRecDepth 100000 in
theorem FnWorldPath_lifted (os : Os) (started : os.Started) (H : Type) (enc : TypeId × Value → H) :
    ReturnsInHanded {} Try.checked os 4 .any (Rows.fnWorldPathSpec.pre6 enc Try.prog Try.f4 Rows.fnWorldPathRow.domain false) (Rows.fnWorldPathSpec.post enc Try.prog Try.f4 false true false false) := by
  refine returnsInHanded_of_change (C := Try.checked) own_knob started (by kernel_rfl) Try.func4
    (ChangeSpec.witness6 (enc := enc) (C := Try.checked) false ⟨#[], #[.slice none 0 0, .slice none 0 0], []⟩ 8 (by kernel_rfl) (by kernel_rfl) (by kernel_rfl) (by kernel_rfl)) ?_
  intro W base args ds gs before hval0 hW hcnd _
  have hval : ∀ (j : Nat) t v, Try.f4.params[j]? = some t → args[j]? = some v → Value.okWide Try.prog W .any base t v := hval0
  have hW' := hW
  obtain ⟨p, q, hA0, hV, rfl, hfz, hnd⟩ := hW
  have hA : DataW.TrodAll enc Try.prog W 0 (fun _ => true) true Try.f4.params.toList args.toList ds p := hA0
  rw [Try.params4] at hA hval
  obtain ⟨v0, vs0, d0, ds0, p0, q0, hargs, rfl, rfl, h0, r0⟩ := trodAll_cons hA
  obtain ⟨v1, vs1, d1, ds1, p1, q1, rfl, rfl, rfl, h1, r1⟩ := trodAll_cons r0
  obtain ⟨rfl, rfl, rfl⟩ := trodAll_nil r1
  obtain rfl : args = #[v0, v1] := by cases args; simp_all
  obtain ⟨rfl, rfl⟩ := trodVars_none hV
  have k0 := h0
  have lt0 : ∀ x ∈ p0, x.block < W.heap.size := by obtain ⟨m, hm⟩ := k0; exact DataW.trod_lt m _ _ _ hm
  obtain ⟨xs0, s0, f0⟩ := opn_slice opens_bytes Try.underlying27 (hval 0 27 v0 rfl rfl) h0
  have k1 := h1
  have lt1 : ∀ x ∈ p1, x.block < W.heap.size := by obtain ⟨m, hm⟩ := k1; exact DataW.trod_lt m _ _ _ hm
  obtain ⟨xs1, s1, f1⟩ := opn_slice opens_bytes Try.underlying27 (hval 1 27 v1 rfl rfl) h1
  clear hA0 hval0
  refine (FnWorldPath_c v0 xs0 v1 xs1 W s0 f0 s1 f1).mono fun e W' ⟨he, bel⟩ => ?_
  subst he
  exact ⟨_, rfl, _, _, _, [], _, [], hW', trodAll_mk1 (shut_bool Try.underlying4 _), (trodAll_cons_mk (Below.trod laid_out (by kernel_rfl) (of_decide_eq_true (by kernel_rfl)) k0 bel lt0) (trodAll_cons_mk (Below.trod laid_out (by kernel_rfl) (of_decide_eq_true (by kernel_rfl)) k1 bel lt1) trodAll_mk0)), rfl, bel.frame _, fun h => by cases h⟩

theorem FnWorldPath_facts : joinedFacts Try.prog 4 Try.f4 Rows.fnWorldPathSpec Rows.fnWorldPathRow = true := by
  unfold joinedFacts
  simp only [Bool.and_eq_true]
  repeat' apply And.intro
  · as_aux_lemma => kernel_rfl
  · as_aux_lemma => kernel_rfl
  · as_aux_lemma => kernel_rfl
  · as_aux_lemma => kernel_rfl
  · as_aux_lemma => kernel_rfl
  · as_aux_lemma => kernel_rfl
  · as_aux_lemma => kernel_rfl
  · as_aux_lemma => kernel_rfl
  · as_aux_lemma => kernel_rfl
  · as_aux_lemma => kernel_rfl
  · as_aux_lemma => kernel_rfl
  · as_aux_lemma => kernel_rfl
  · as_aux_lemma => kernel_rfl
  · as_aux_lemma => kernel_rfl
  · as_aux_lemma => kernel_rfl
  · as_aux_lemma => kernel_rfl
  · as_aux_lemma => kernel_rfl
  · as_aux_lemma => kernel_rfl
  · as_aux_lemma => kernel_rfl
  · as_aux_lemma => kernel_rfl
  · as_aux_lemma => kernel_rfl
  · as_aux_lemma => kernel_rfl
  · as_aux_lemma => kernel_rfl
  · as_aux_lemma => kernel_rfl
  · as_aux_lemma => kernel_rfl
  · exact fact_enter
  · rw [fact_final]; rfl
  · rw [fact_make]; rfl
  · as_aux_lemma => kernel_rfl
  · as_aux_lemma => kernel_rfl
  · as_aux_lemma => kernel_rfl
  · as_aux_lemma => kernel_rfl
theorem FnWorldPath_named : Try.prog.funcNamed Rows.fnWorldPathRow.func = some 4 := by kernel_rfl
theorem FnWorldPath_wrap : Try.f4.isWrapper Try.prog Rows.fnWorldPathRow.wrapper Rows.fnWorldPathRow.mainSum := (by unfold Func.isWrapper; first | (rw [if_pos (by decide +kernel)]; kernel_rfl) | (rw [if_neg (by decide +kernel)]; exact ⟨rfl, rfl⟩))
theorem FnWorldPath_over : Rows.fnWorldPathRow.holds Try.pinned (OpenSpec.ofChange Rows.fnWorldPathSpec) :=
  OpenClaim.holds_of_wide (p := Try.pinned) 4 Try.f4 rfl rfl rfl rfl rfl rfl rfl ⟨rfl, rfl, rfl, rfl, rfl⟩ rfl rfl rfl rfl rfl FnWorldPath_named Try.func4 FnWorldPath_facts
    (of_decide_eq_true (by kernel_rfl)) FnWorldPath_wrap
    (fun os started H enc _ => FnWorldPath_lifted os started H enc)
theorem FnWorldPath_holds : Rows.FnWorldPathSaid := FnWorldPath_over
#print axioms FnWorldPath_holds
end Go.Proofs.Ytbeiacoplhbmeaa
