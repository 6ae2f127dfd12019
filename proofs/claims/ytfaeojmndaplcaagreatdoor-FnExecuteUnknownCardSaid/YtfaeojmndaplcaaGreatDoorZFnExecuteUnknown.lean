/- An unknown command is reported by five bytes and turns nothing: of every drawn script, in the program as in the reference. No condition. -/
import Derived.Test.YtfaeojmndaplcaaGreatDoorM35
import Derived.Test.YtfaeojmndaplcaaGreatDoorM36
import Derived.Test.YtfaeojmndaplcaaGreatDoorM37
set_option linter.unusedVariables false
set_option linter.unusedSimpArgs false
set_option maxHeartbeats 4000000
set_option maxRecDepth 100000
namespace Go.Proofs.YtfaeojmndaplcaaGreatDoor
open Go Go.RowKit
section
open Go.ChangeShapes Go.WideShapes Go.ChangeAt
theorem FnExecuteUnknown_c (v0 : Value) (xs0 : List Int) (w : World) (hg : gW w) (s0 : SlB du w.heap.size w v0 xs0) (hx0 : ∀ x ∈ xs0, (Lit.int .u8 x).wf = true) :
  Calls Tryz.prog 5 #[v0] w (ok true w.heap.size w) := by
 have hw0 : 0 < w.heap.size := World.block_lt_of_cell? _ _ hg.1
 have Hg := hid (fun (wx : World) (hb : Below w.heap.size w wx) => show bx wx from (hb.cell (p := ⟨0, 0, none⟩) hw0).trans hg.1)
 have HL := hid (fun (wx : World) (hb : Below w.heap.size w wx) => show LbW w.heap.size wx from hg.2.on hb)
 have HX := hid (fun x hx => jU (hx0 x hx))
 obtain ⟨A, c, rfl, _, _, _⟩ := s0.form
 have S0 := hid s0
 clear hg s0 hx0
 by_cases hl : 1048576 < xs0.length
 ·go_enter Tryz.func5, Tryz.ntmps5
  go_wp2
  go_ret
  exact ⟨rfl, zm⟩
 go_enter Tryz.func5, Tryz.ntmps5
 go_wp2_with fail
 refine (bG _ xs0 _ S0.out HX.out).mono ?_
 rintro e w1 ⟨t, rfl, ht, hb1⟩
 have Hc := hid hb1
 clear hb1 S0 HX
 go_wp2_with fail
 refine (aS w.heap.size t _ (Hg.out _ Hc.out) (HL.out _ Hc.out) Hc.out.size (by have := Hc.out.size; omega)).mono ?_
 rintro e w2 ⟨o, rfl, ho, hb2⟩
 replace Hc := hid (bt Hc.out hb2)
 go_wp2_with fail
 refine (cE t _).mono ?_
 rintro e w3 ⟨o', rfl, ho', hb3⟩
 obtain rfl : o' = o := bX (ho'.trans ho.symm)
 replace Hc := hid (bt Hc.out hb3)
 have Ho := hid ho
 clear hb2 hb3 ho ho'
 by_cases hs : 600 < t.size + 8
 ·have f0 : IntKind.i64.wrap ((t.size : Int) + 8) = (t.size : Int) + 8 := bD (by omega) (by omega)
  go_wp2_with fail
  go_ret
  exact ⟨rfl, Hc.out⟩
 have f0 : IntKind.i64.wrap ((t.size : Int) + 8) = (t.size : Int) + 8 := bD (by omega) (by omega)
 go_wp2_with fail
 refine (dO t _ (by omega)).mono ?_
 rintro e w4 ⟨p, rfl, ⟨r, hp1, hp2, hp3⟩, hw⟩
 subst hw
 have Hp1 := hid hp1; have Hp2 := hid hp2; have Hp3 := hid hp3
 have hpz : p.size ≤ t.size := by have := congrArg List.length hp1; rw [List.length_append, aB, aB] at this; omega
 clear hp1 hp2 hp3
 have f1 : ¬ 9223372036854775807 < p.size + 8 := by omega
 go_wp2_with fail
 refine (aS w.heap.size (_) _ (Hg.out _ Hc.out) (HL.out _ Hc.out) Hc.out.size (by have := Hc.out.size; omega)).mono ?_
 rintro e w5 ⟨o5, rfl, ho5, hb5⟩
 replace Hc := hid (bt Hc.out hb5)
 clear hb5
 have hu : bL (p ++ ⟨#[117, 110, 107, 110, 111, 119, 110, 10]⟩) = bL p ++ (fk ++ [10]) := iH _ _
 rw [hu] at ho5
 have Ho5 := hid ho5
 clear hu ho5
 go_wp2_with fail
 refine (dO t _ (by omega)).mono ?_
 rintro e w6 ⟨p2, rfl, ⟨r2, hp1, hp2, hp3⟩, hw⟩
 subst hw
 obtain rfl : p2 = p := bX (tT (hp1.symm.trans Hp1.out) hp2 hp3 Hp2.out Hp3.out)
 clear hp1 hp2 hp3
 go_wp2_with fail
 refine (aS w.heap.size (p2) _ (Hg.out _ Hc.out) (HL.out _ Hc.out) Hc.out.size (by have := Hc.out.size; omega)).mono ?_
 rintro e w7 ⟨o7, rfl, ho7, hb7⟩
 replace Hc := hid (bt Hc.out hb7)
 clear hb7
 have Ho7 := hid ho7
 have hl8 : (bL p2 ++ (fk ++ [10])).length ≤ 600 := by rw [List.length_append, aB]; simp [fk]; omega
 obtain ⟨h1, h2⟩ := tV (w := fk) (o := cC [kG]) Hp2.out (by decide) hl8 (fun x => by rw [py]; exact ⟨rfl, rfl⟩)
 rw [← Ho5.out, ← Ho7.out, aB, aB] at h1
 have h1' : o5.size = o7.size + 5 := h1
 have e5 := fo hl8
 rw [h2, ← Ho5.out] at e5
 have e7 := fo (s := bL p2) (by rw [aB]; omega)
 rw [← Ho7.out] at e7
 have l7 := kL (bL p2)
 rw [← Ho7.out, aB] at l7
 have f3 : IntKind.i64.wrap ((o7.size : Int) + 5) = (o7.size : Int) + 5 := bD (by omega) (by omega)
 have f4 : ((o5.size : Int) == (o7.size : Int) + 5) = true := by rw [h1']; exact beq_iff_eq.2 (by omega)
 have h5 : o5.size ≤ 1000000 := by omega
 have E5 := hid e5; have E7 := hid e7
 clear e5 e7 h1 h1' h2 hl8 ho7
 go_wp2_with fail
 refine (fu o5 _ _ _ h5 E5.out (fs _) (jk (gd _))).mono ?_
 rintro e w8 ⟨a, rfl, ha, hw⟩
 subst hw
 go_wp2_with fail
 refine (fu o7 _ _ _ (by omega) E7.out (fs _) (jk (gd _))).mono ?_
 rintro e w9 ⟨b, rfl, hb, hw⟩
 subst hw
 obtain rfl : a = b := bX (ha.trans hb.symm)
 clear ha hb
 go_wp2_with fail
 go_ret
 exact ⟨rfl, Hc.out⟩
theorem fS (os : Os) (started : os.Started) (H : Type) (enc : TypeId × Value → H) :
  ReturnsInHanded {} Tryz.checked os 5 .any (fun w args => (Rows.fnExecuteUnknownSpec.pre enc Tryz.prog Tryz.f5 [] false w args ∧ laidMetH Tryz.prog bM w) ∧ sizedMet enc Tryz.prog Tryz.f5 (OpenSpec.ofChange Rows.fnExecuteUnknownSpec) false w args) (Rows.fnExecuteUnknownSpec.post enc Tryz.prog Tryz.f5 false true false false) := by
 refine bg (C := Tryz.checked) (X := fun w _ => laidMetH Tryz.prog bM w) (fun _ _ _ hh h => h.of_heap hh) dl started (by kernel_rfl) Tryz.func5
  (ChangeSpec.witness_at (enc := enc) (C := Tryz.checked) (os := os) (X := fun w _ => laidMetH Tryz.prog bM w) false (b9 os) #[.slice none 0 0] 8 (bH os) (by kernel_rfl) (by kernel_rfl) (by kernel_rfl) (by kernel_rfl) (by kernel_rfl) (bm os _)) ?_
 intro W base args ds gs before hval0 hW _ _ hL hsh
 have hg := bf hL hsh
 have hval : ∀ (j : Nat) t v, Tryz.f5.params[j]? = some t → args[j]? = some v → Value.okWide Tryz.prog W .any base t v := hval0
 have hW' := hW
 obtain ⟨p, q, hA0, hV, rfl, hfz, hnd⟩ := hW
 have hA : DataW.TrodAll enc Tryz.prog W 0 (fun _ => true) true Tryz.f5.params.toList args.toList ds p := hA0
 rw [Tryz.params5] at hA hval
 obtain ⟨v0, vs0, d0, ds0, p0, q0, hargs, rfl, rfl, h0, r0⟩ := trodAll_cons hA
 obtain ⟨rfl, rfl, rfl⟩ := trodAll_nil r0
 obtain rfl : args = #[v0] := by cases args; simp_all
 obtain ⟨rfl, rfl⟩ : gs = [] ∧ q = [] := by
  cases gs with
  | nil => exact ⟨rfl, hV⟩
  | cons g r => exact absurd hV (by intro h; cases h)
 have k0 := h0
 have lt0 : ∀ x ∈ p0, x.block < W.heap.size := by obtain ⟨m, hm⟩ := k0; exact DataW.trod_lt m _ _ _ hm
 obtain ⟨xs0, s0, f0⟩ := dc b7 Tryz.underlying22 (hval 0 22 v0 rfl rfl) h0
 clear hA0 hval0
 refine (FnExecuteUnknown_c v0 xs0 W hg s0 f0).mono fun e W' ⟨he, bel⟩ => ?_
 subst he
 exact ⟨_, rfl, _, _, _, [], _, [], hW', trodAll_mk1 (shut_bool Tryz.underlying4 _), (trodAll_cons_mk (Below.trod dj (by kernel_rfl) (of_decide_eq_true (by kernel_rfl)) k0 bel lt0) trodAll_mk0), rfl, bel.frame _, fun h => by cases h⟩
theorem gF : joinedFacts Tryz.prog 5 Tryz.f5 Rows.fnExecuteUnknownSpec Rows.fnExecuteUnknownRow = true := by
 unfold joinedFacts
 simp only [Bool.and_eq_true]
 repeat' apply And.intro
 ·as_aux_lemma => kernel_rfl
 ·as_aux_lemma => kernel_rfl
 ·as_aux_lemma => kernel_rfl
 ·as_aux_lemma => kernel_rfl
 ·as_aux_lemma => kernel_rfl
 ·as_aux_lemma => kernel_rfl
 ·as_aux_lemma => kernel_rfl
 ·as_aux_lemma => kernel_rfl
 ·as_aux_lemma => kernel_rfl
 ·as_aux_lemma => kernel_rfl
 ·as_aux_lemma => kernel_rfl
 ·as_aux_lemma => kernel_rfl
 ·as_aux_lemma => kernel_rfl
 ·as_aux_lemma => kernel_rfl
 ·as_aux_lemma => kernel_rfl
 ·as_aux_lemma => kernel_rfl
 ·as_aux_lemma => kernel_rfl
 ·as_aux_lemma => kernel_rfl
 ·as_aux_lemma => kernel_rfl
 ·as_aux_lemma => kernel_rfl
 ·as_aux_lemma => kernel_rfl
 ·as_aux_lemma => kernel_rfl
 ·as_aux_lemma => kernel_rfl
 ·as_aux_lemma => kernel_rfl
 ·as_aux_lemma => kernel_rfl
 ·exact ci
 ·rw [cj]; rfl
 ·rw [cM]; rfl
 ·as_aux_lemma => kernel_rfl
 ·as_aux_lemma => kernel_rfl
 ·as_aux_lemma => kernel_rfl
 ·as_aux_lemma => kernel_rfl
theorem gG : Tryz.prog.funcNamed Rows.fnExecuteUnknownRow.func = some 5 := by kernel_rfl
theorem il : Tryz.f5.isWrapper Tryz.prog Rows.fnExecuteUnknownRow.wrapper Rows.fnExecuteUnknownRow.mainSum := (by unfold Func.isWrapper; first | (rw [if_pos (by decide +kernel)]; kernel_rfl) | (rw [if_neg (by decide +kernel)]; exact ⟨rfl, rfl⟩))
theorem ik : Rows.fnExecuteUnknownRow.holds Tryz.pinned (OpenSpec.ofChange Rows.fnExecuteUnknownSpec) :=
 OpenClaim.holds_of_wide (p := Tryz.pinned) 5 Tryz.f5 rfl rfl rfl rfl rfl rfl rfl ⟨rfl, rfl, rfl, rfl, rfl⟩ rfl rfl rfl rfl rfl gG Tryz.func5 gF
  (of_decide_eq_true (by kernel_rfl)) il
  (fun os started H enc _ => fS os started H enc)
theorem fnExecuteUnknown_row_tie : Rows.fnExecuteUnknownRow.laidByTextAt .later Tryz.pinned [.data, .data, .data, .data, .handle, .pinned] true :=
 OpenClaim.laidByTextAt_pinned rfl rfl jn rfl rfl rfl rfl (fun y hy _e => by
  simp only [Rows.fnExecuteUnknownRow, List.zip_cons_cons, List.zip_nil_right, List.mem_cons, List.mem_nil_iff, or_false] at hy
  rcases hy with rfl | rfl | rfl | rfl | rfl | rfl
  iterate 5 (· cases _e)
  ·exact ⟨jm, by kernel_rfl⟩) fy
theorem ij : Tryz.prog.mainIs = some ((true, "ce4b402aa199ae7ade3bea3dd62e7b99986f29c4f69e87e43d86418eff50f956").1, (true, "ce4b402aa199ae7ade3bea3dd62e7b99986f29c4f69e87e43d86418eff50f956").2.toList) := by
 unfold Program.mainIs
 rw [dP, String.toList_ofList, cY, am dY (by kernel_rfl), am dZ (by kernel_rfl), am d7 (by kernel_rfl)]
 generalize wordsSigns dQ = ws
 kernel_rfl
theorem FnExecuteUnknown_holds : Rows.FnExecuteUnknownCardSaid :=
 Claim7.holds_tied_plain_at .later [] [.data, .data, .data, .data, .handle, .pinned] true (true, "ce4b402aa199ae7ade3bea3dd62e7b99986f29c4f69e87e43d86418eff50f956") true
  ik (fun _ h => by cases h) (by kernel_rfl) (fun _ h => by cases h) fnExecuteUnknown_row_tie rfl ⟨rfl, rfl⟩ ij rfl
  (fun f fn hf hfn => by
   obtain rfl : f = 5 := Option.some.inj ((show Tryz.prog.funcNamed Rows.fnExecuteUnknownRow.func = some 5 by kernel_rfl).symm.trans hf) |>.symm
   obtain rfl : fn = Tryz.f5 := (Option.some.inj (Tryz.func5.symm.trans hfn)).symm
   exact ⟨by kernel_rfl, fun j t ht => by
    rw [Tryz.params5] at ht
    rcases j with _ | _ | j
    all_goals (first | (simp at ht; done) | (simp at ht; subst ht; exact (show Tryz.prog.wantsStandIn _ = false by kernel_rfl)))⟩)
  (by kernel_rfl)
#print axioms FnExecuteUnknown_holds
end
end Go.Proofs.YtfaeojmndaplcaaGreatDoor
