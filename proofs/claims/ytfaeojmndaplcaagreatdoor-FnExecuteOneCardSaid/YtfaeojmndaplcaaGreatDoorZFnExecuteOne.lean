/- A letter arrives: every drawn script runs in the program as in the reference, and so does the script of one letter. No condition. -/
import Derived.Test.YtfaeojmndaplcaaGreatDoorM35
import Derived.Test.YtfaeojmndaplcaaGreatDoorM36
import Derived.Test.YtfaeojmndaplcaaGreatDoorM37
set_option linter.unusedVariables false
set_option linter.unusedSimpArgs false
set_option maxHeartbeats 4000000
set_option maxRecDepth 100000
namespace Go.Proofs.YtfaeojmndaplcaaGreatDoor
open Go Go.RowKit
section
open Go.ChangeShapes Go.WideShapes Go.ChangeAt
theorem FnExecuteOne_c (v0 : Value) (xs0 : List Int) (w : World) (hg : gW w) (s0 : SlB du w.heap.size w v0 xs0) (hx0 : ∀ x ∈ xs0, (Lit.int .u8 x).wf = true) :
  Calls Tryz.prog 11 #[v0] w (ok true w.heap.size w) := by
 have hw0 : 0 < w.heap.size := World.block_lt_of_cell? _ _ hg.1
 have Hg := hid (fun (wx : World) (hb : Below w.heap.size w wx) => show bx wx from (hb.cell (p := ⟨0, 0, none⟩) hw0).trans hg.1)
 have HL := hid (fun (wx : World) (hb : Below w.heap.size w wx) => show LbW w.heap.size wx from hg.2.on hb)
 have HX := hid (fun x hx => jU (hx0 x hx))
 obtain ⟨A, c, rfl, _, _, _⟩ := s0.form
 have S0 := hid s0
 clear hg s0 hx0
 by_cases hl : 1048576 < xs0.length
 ·go_enter Tryz.func11, Tryz.ntmps11
  go_wp2
  go_ret
  exact ⟨rfl, zm⟩
 go_enter Tryz.func11, Tryz.ntmps11
 go_wp2_with fail
 refine (bG _ xs0 _ S0.out HX.out).mono ?_
 rintro e w1 ⟨t, rfl, ht, hb1⟩
 have Hc := hid hb1
 clear hb1 S0 HX
 go_wp2_with fail
 refine (aS w.heap.size t _ (Hg.out _ Hc.out) (HL.out _ Hc.out) Hc.out.size (by have := Hc.out.size; omega)).mono ?_
 rintro e w2 ⟨o, rfl, ho, hb2⟩
 replace Hc := hid (bt Hc.out hb2)
 go_wp2_with fail
 refine (cE t _).mono ?_
 rintro e w3 ⟨o', rfl, ho', hb3⟩
 obtain rfl : o' = o := bX (ho'.trans ho.symm)
 replace Hc := hid (bt Hc.out hb3)
 have Ho := hid ho
 clear hb2 hb3 ho ho'
 go_wp2_with fail
 refine (aS w.heap.size (⟨#[115, 101, 110, 100, 32, 49, 32, 50, 32, 54, 10, 99, 97, 108, 109, 10]⟩) _ (Hg.out _ Hc.out) (HL.out _ Hc.out) Hc.out.size (by have := Hc.out.size; omega)).mono ?_
 rintro e w4 ⟨o4, rfl, ho4, hb4⟩
 replace Hc := hid (bt Hc.out hb4)
 clear hb4
 obtain rfl : o4 = ⟨#[103, 111, 116, 32, 49, 32, 50, 32, 48, 10, 109, 97, 100, 101, 32, 49, 32, 108, 111, 115, 116, 32, 48, 10]⟩ := bX (ho4.trans (show ce [115, 101, 110, 100, 32, 49, 32, 50, 32, 54, 10, 99, 97, 108, 109, 10] = [103, 111, 116, 32, 49, 32, 50, 32, 48, 10, 109, 97, 100, 101, 32, 49, 32, 108, 111, 115, 116, 32, 48, 10] by decide +kernel))
 go_wp2_with fail
 go_ret
 exact ⟨rfl, Hc.out⟩
theorem jL (os : Os) (started : os.Started) (H : Type) (enc : TypeId × Value → H) :
  ReturnsInHanded {} Tryz.checked os 11 .any (fun w args => (Rows.fnExecuteOneSpec.pre enc Tryz.prog Tryz.f11 [] false w args ∧ laidMetH Tryz.prog bM w) ∧ sizedMet enc Tryz.prog Tryz.f11 (OpenSpec.ofChange Rows.fnExecuteOneSpec) false w args) (Rows.fnExecuteOneSpec.post enc Tryz.prog Tryz.f11 false true false false) := by
 refine bg (C := Tryz.checked) (X := fun w _ => laidMetH Tryz.prog bM w) (fun _ _ _ hh h => h.of_heap hh) dl started (by kernel_rfl) Tryz.func11
  (ChangeSpec.witness_at (enc := enc) (C := Tryz.checked) (os := os) (X := fun w _ => laidMetH Tryz.prog bM w) false (b9 os) #[.slice none 0 0] 8 (bH os) (by kernel_rfl) (by kernel_rfl) (by kernel_rfl) (by kernel_rfl) (by kernel_rfl) (bm os _)) ?_
 intro W base args ds gs before hval0 hW _ _ hL hsh
 have hg := bf hL hsh
 have hval : ∀ (j : Nat) t v, Tryz.f11.params[j]? = some t → args[j]? = some v → Value.okWide Tryz.prog W .any base t v := hval0
 have hW' := hW
 obtain ⟨p, q, hA0, hV, rfl, hfz, hnd⟩ := hW
 have hA : DataW.TrodAll enc Tryz.prog W 0 (fun _ => true) true Tryz.f11.params.toList args.toList ds p := hA0
 rw [Tryz.params11] at hA hval
 obtain ⟨v0, vs0, d0, ds0, p0, q0, hargs, rfl, rfl, h0, r0⟩ := trodAll_cons hA
 obtain ⟨rfl, rfl, rfl⟩ := trodAll_nil r0
 obtain rfl : args = #[v0] := by cases args; simp_all
 obtain ⟨rfl, rfl⟩ : gs = [] ∧ q = [] := by
  cases gs with
  | nil => exact ⟨rfl, hV⟩
  | cons g r => exact absurd hV (by intro h; cases h)
 have k0 := h0
 have lt0 : ∀ x ∈ p0, x.block < W.heap.size := by obtain ⟨m, hm⟩ := k0; exact DataW.trod_lt m _ _ _ hm
 obtain ⟨xs0, s0, f0⟩ := dc b7 Tryz.underlying22 (hval 0 22 v0 rfl rfl) h0
 clear hA0 hval0
 refine (FnExecuteOne_c v0 xs0 W hg s0 f0).mono fun e W' ⟨he, bel⟩ => ?_
 subst he
 exact ⟨_, rfl, _, _, _, [], _, [], hW', trodAll_mk1 (shut_bool Tryz.underlying4 _), (trodAll_cons_mk (Below.trod dj (by kernel_rfl) (of_decide_eq_true (by kernel_rfl)) k0 bel lt0) trodAll_mk0), rfl, bel.frame _, fun h => by cases h⟩
theorem jY : joinedFacts Tryz.prog 11 Tryz.f11 Rows.fnExecuteOneSpec Rows.fnExecuteOneRow = true := by
 unfold joinedFacts
 simp only [Bool.and_eq_true]
 repeat' apply And.intro
 ·as_aux_lemma => kernel_rfl
 ·as_aux_lemma => kernel_rfl
 ·as_aux_lemma => kernel_rfl
 ·as_aux_lemma => kernel_rfl
 ·as_aux_lemma => kernel_rfl
 ·as_aux_lemma => kernel_rfl
 ·as_aux_lemma => kernel_rfl
 ·as_aux_lemma => kernel_rfl
 ·as_aux_lemma => kernel_rfl
 ·as_aux_lemma => kernel_rfl
 ·as_aux_lemma => kernel_rfl
 ·as_aux_lemma => kernel_rfl
 ·as_aux_lemma => kernel_rfl
 ·as_aux_lemma => kernel_rfl
 ·as_aux_lemma => kernel_rfl
 ·as_aux_lemma => kernel_rfl
 ·as_aux_lemma => kernel_rfl
 ·as_aux_lemma => kernel_rfl
 ·as_aux_lemma => kernel_rfl
 ·as_aux_lemma => kernel_rfl
 ·as_aux_lemma => kernel_rfl
 ·as_aux_lemma => kernel_rfl
 ·as_aux_lemma => kernel_rfl
 ·as_aux_lemma => kernel_rfl
 ·as_aux_lemma => kernel_rfl
 ·exact ci
 ·rw [cj]; rfl
 ·rw [cM]; rfl
 ·as_aux_lemma => kernel_rfl
 ·as_aux_lemma => kernel_rfl
 ·as_aux_lemma => kernel_rfl
 ·as_aux_lemma => kernel_rfl
theorem jZ : Tryz.prog.funcNamed Rows.fnExecuteOneRow.func = some 11 := by kernel_rfl
theorem kE : Tryz.f11.isWrapper Tryz.prog Rows.fnExecuteOneRow.wrapper Rows.fnExecuteOneRow.mainSum := (by unfold Func.isWrapper; first | (rw [if_pos (by decide +kernel)]; kernel_rfl) | (rw [if_neg (by decide +kernel)]; exact ⟨rfl, rfl⟩))
theorem kD : Rows.fnExecuteOneRow.holds Tryz.pinned (OpenSpec.ofChange Rows.fnExecuteOneSpec) :=
 OpenClaim.holds_of_wide (p := Tryz.pinned) 11 Tryz.f11 rfl rfl rfl rfl rfl rfl rfl ⟨rfl, rfl, rfl, rfl, rfl⟩ rfl rfl rfl rfl rfl jZ Tryz.func11 jY
  (of_decide_eq_true (by kernel_rfl)) kE
  (fun os started H enc _ => jL os started H enc)
theorem fnExecuteOne_row_tie : Rows.fnExecuteOneRow.laidByTextAt .later Tryz.pinned [.data, .data, .data, .data, .handle, .pinned] true :=
 OpenClaim.laidByTextAt_pinned rfl rfl jn rfl rfl rfl rfl (fun y hy _e => by
  simp only [Rows.fnExecuteOneRow, List.zip_cons_cons, List.zip_nil_right, List.mem_cons, List.mem_nil_iff, or_false] at hy
  rcases hy with rfl | rfl | rfl | rfl | rfl | rfl
  iterate 5 (· cases _e)
  ·exact ⟨jm, by kernel_rfl⟩) fy
theorem kC : Tryz.prog.mainIs = some ((true, "ce4b402aa199ae7ade3bea3dd62e7b99986f29c4f69e87e43d86418eff50f956").1, (true, "ce4b402aa199ae7ade3bea3dd62e7b99986f29c4f69e87e43d86418eff50f956").2.toList) := by
 unfold Program.mainIs
 rw [dP, String.toList_ofList, cY, am dY (by kernel_rfl), am dZ (by kernel_rfl), am d7 (by kernel_rfl)]
 generalize wordsSigns dQ = ws
 kernel_rfl
theorem FnExecuteOne_holds : Rows.FnExecuteOneCardSaid :=
 Claim7.holds_tied_plain_at .later [] [.data, .data, .data, .data, .handle, .pinned] true (true, "ce4b402aa199ae7ade3bea3dd62e7b99986f29c4f69e87e43d86418eff50f956") true
  kD (fun _ h => by cases h) (by kernel_rfl) (fun _ h => by cases h) fnExecuteOne_row_tie rfl ⟨rfl, rfl⟩ kC rfl
  (fun f fn hf hfn => by
   obtain rfl : f = 11 := Option.some.inj ((show Tryz.prog.funcNamed Rows.fnExecuteOneRow.func = some 11 by kernel_rfl).symm.trans hf) |>.symm
   obtain rfl : fn = Tryz.f11 := (Option.some.inj (Tryz.func11.symm.trans hfn)).symm
   exact ⟨by kernel_rfl, fun j t ht => by
    rw [Tryz.params11] at ht
    rcases j with _ | _ | j
    all_goals (first | (simp at ht; done) | (simp at ht; subst ht; exact (show Tryz.prog.wantsStandIn _ = false by kernel_rfl)))⟩)
  (by kernel_rfl)
#print axioms FnExecuteOne_holds
end
end Go.Proofs.YtfaeojmndaplcaaGreatDoor
