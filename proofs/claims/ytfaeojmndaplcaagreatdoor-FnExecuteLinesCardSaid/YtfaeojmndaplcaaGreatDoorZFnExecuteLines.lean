/- Output consists of lines: of every drawn script, in the program as in the reference; the last line has fourteen bytes or more, or the script is too long and this is said. No condition. -/
import Derived.Test.YtfaeojmndaplcaaGreatDoorM35
import Derived.Test.YtfaeojmndaplcaaGreatDoorM36
import Derived.Test.YtfaeojmndaplcaaGreatDoorM37
set_option linter.unusedVariables false
set_option linter.unusedSimpArgs false
set_option maxHeartbeats 4000000
set_option maxRecDepth 100000
namespace Go.Proofs.YtfaeojmndaplcaaGreatDoor
open Go Go.RowKit
section
open Go.ChangeShapes Go.WideShapes Go.ChangeAt
theorem FnExecuteLines_c (v0 : Value) (xs0 : List Int) (w : World) (hg : gW w) (s0 : SlB du w.heap.size w v0 xs0) (hx0 : ∀ x ∈ xs0, (Lit.int .u8 x).wf = true) :
  Calls Tryz.prog 3 #[v0] w (ok true w.heap.size w) := by
 have hw0 : 0 < w.heap.size := World.block_lt_of_cell? _ _ hg.1
 have Hg := hid (fun (wx : World) (hb : Below w.heap.size w wx) => show bx wx from (hb.cell (p := ⟨0, 0, none⟩) hw0).trans hg.1)
 have HL := hid (fun (wx : World) (hb : Below w.heap.size w wx) => show LbW w.heap.size wx from hg.2.on hb)
 have HX := hid (fun x hx => jU (hx0 x hx))
 obtain ⟨A, c, rfl, _, _, _⟩ := s0.form
 have S0 := hid s0
 clear hg s0 hx0
 by_cases hl : 1048576 < xs0.length
 ·go_enter Tryz.func3, Tryz.ntmps3
  go_wp2
  go_ret
  exact ⟨rfl, zm⟩
 go_enter Tryz.func3, Tryz.ntmps3
 go_wp2_with fail
 refine (bG _ xs0 _ S0.out HX.out).mono ?_
 rintro e w1 ⟨t, rfl, ht, hb1⟩
 have Hc := hid hb1
 clear hb1 S0 HX
 go_wp2_with fail
 refine (aS w.heap.size t _ (Hg.out _ Hc.out) (HL.out _ Hc.out) Hc.out.size (by have := Hc.out.size; omega)).mono ?_
 rintro e w2 ⟨o, rfl, ho, hb2⟩
 replace Hc := hid (bt Hc.out hb2)
 go_wp2_with fail
 refine (cE t _).mono ?_
 rintro e w3 ⟨o', rfl, ho', hb3⟩
 obtain rfl : o' = o := bX (ho'.trans ho.symm)
 replace Hc := hid (bt Hc.out hb3)
 have Ho := hid ho
 clear hb2 hb3 ho ho'
 by_cases hs : 600 < t.size
 ·obtain rfl : o' = ⟨#[116, 111, 111, 32, 108, 111, 110, 103, 10]⟩ := bX (Ho.out.trans (show ce (bL t) = sK by unfold ce; rw [aB, if_pos hs]))
  go_wp2_with fail
  go_ret
  exact ⟨rfl, Hc.out⟩
 have hcut := fo (s := bL t) (by rw [aB]; omega)
 rw [← Ho.out] at hcut
 have hlen := kL (bL t)
 rw [← Ho.out, aB] at hlen
 have Hcut := hid hcut
 obtain ⟨n, hn⟩ : ∃ n, o'.size = n + 1 := ⟨o'.size - 1, by
  have := congrArg List.length hcut
  rw [aB] at this
  simp at this
  omega⟩
 have Hn := hid hn
 have hlt : n < o'.size := by omega
 have he : o'[n]'hlt = 10 := by
  have hg := iI hlt
  have hl : (bL o').length = n + 1 := by rw [aB, hn]
  have e2 : (bL o')[n]? = some 10 := by
   rw [hcut, ← List.append_assoc] at hl ⊢
   rw [List.length_append] at hl
   simp only [List.length_cons, List.length_nil] at hl
   rw [List.getElem?_append_right (by omega), show n - (qg (bL t) ++ sH (bY (aP 10 (bL t)).dropLast).fst).length = 0 by omega]
   rfl
  exact Option.some.inj (hg.symm.trans e2)
 have hq : (((o'[n]'hlt).toNat : Int) == 10) = true := by rw [he]; rfl
 have f1 : IntKind.i64.wrap ((o'.size : Int) - 1) = (n : Int) := by rw [bD (by omega) (by omega)]; omega
 clear hn he hcut
 go_wp2_with fail
 refine (fu o' _ _ _ (by omega) Hcut.out (fs _) (jk (gd _))).mono ?_
 rintro e w4 ⟨o4, rfl, ho4, hw⟩
 have h14 : 14 ≤ o4.size := by rw [← aB, ho4]; exact xS _
 have f14 : decide ((14 : Int) ≤ (o4.size : Int)) = true := decide_eq_true (by omega)
 subst hw
 clear ho4
 go_wp2_with fail
 go_ret
 exact ⟨rfl, Hc.out⟩
theorem ib (os : Os) (started : os.Started) (H : Type) (enc : TypeId × Value → H) :
  ReturnsInHanded {} Tryz.checked os 3 .any (fun w args => (Rows.fnExecuteLinesSpec.pre enc Tryz.prog Tryz.f3 [] false w args ∧ laidMetH Tryz.prog bM w) ∧ sizedMet enc Tryz.prog Tryz.f3 (OpenSpec.ofChange Rows.fnExecuteLinesSpec) false w args) (Rows.fnExecuteLinesSpec.post enc Tryz.prog Tryz.f3 false true false false) := by
 refine bg (C := Tryz.checked) (X := fun w _ => laidMetH Tryz.prog bM w) (fun _ _ _ hh h => h.of_heap hh) dl started (by kernel_rfl) Tryz.func3
  (ChangeSpec.witness_at (enc := enc) (C := Tryz.checked) (os := os) (X := fun w _ => laidMetH Tryz.prog bM w) false (b9 os) #[.slice none 0 0] 8 (bH os) (by kernel_rfl) (by kernel_rfl) (by kernel_rfl) (by kernel_rfl) (by kernel_rfl) (bm os _)) ?_
 intro W base args ds gs before hval0 hW _ _ hL hsh
 have hg := bf hL hsh
 have hval : ∀ (j : Nat) t v, Tryz.f3.params[j]? = some t → args[j]? = some v → Value.okWide Tryz.prog W .any base t v := hval0
 have hW' := hW
 obtain ⟨p, q, hA0, hV, rfl, hfz, hnd⟩ := hW
 have hA : DataW.TrodAll enc Tryz.prog W 0 (fun _ => true) true Tryz.f3.params.toList args.toList ds p := hA0
 rw [Tryz.params3] at hA hval
 obtain ⟨v0, vs0, d0, ds0, p0, q0, hargs, rfl, rfl, h0, r0⟩ := trodAll_cons hA
 obtain ⟨rfl, rfl, rfl⟩ := trodAll_nil r0
 obtain rfl : args = #[v0] := by cases args; simp_all
 obtain ⟨rfl, rfl⟩ : gs = [] ∧ q = [] := by
  cases gs with
  | nil => exact ⟨rfl, hV⟩
  | cons g r => exact absurd hV (by intro h; cases h)
 have k0 := h0
 have lt0 : ∀ x ∈ p0, x.block < W.heap.size := by obtain ⟨m, hm⟩ := k0; exact DataW.trod_lt m _ _ _ hm
 obtain ⟨xs0, s0, f0⟩ := dc b7 Tryz.underlying22 (hval 0 22 v0 rfl rfl) h0
 clear hA0 hval0
 refine (FnExecuteLines_c v0 xs0 W hg s0 f0).mono fun e W' ⟨he, bel⟩ => ?_
 subst he
 exact ⟨_, rfl, _, _, _, [], _, [], hW', trodAll_mk1 (shut_bool Tryz.underlying4 _), (trodAll_cons_mk (Below.trod dj (by kernel_rfl) (of_decide_eq_true (by kernel_rfl)) k0 bel lt0) trodAll_mk0), rfl, bel.frame _, fun h => by cases h⟩
theorem iC : joinedFacts Tryz.prog 3 Tryz.f3 Rows.fnExecuteLinesSpec Rows.fnExecuteLinesRow = true := by
 unfold joinedFacts
 simp only [Bool.and_eq_true]
 repeat' apply And.intro
 ·as_aux_lemma => kernel_rfl
 ·as_aux_lemma => kernel_rfl
 ·as_aux_lemma => kernel_rfl
 ·as_aux_lemma => kernel_rfl
 ·as_aux_lemma => kernel_rfl
 ·as_aux_lemma => kernel_rfl
 ·as_aux_lemma => kernel_rfl
 ·as_aux_lemma => kernel_rfl
 ·as_aux_lemma => kernel_rfl
 ·as_aux_lemma => kernel_rfl
 ·as_aux_lemma => kernel_rfl
 ·as_aux_lemma => kernel_rfl
 ·as_aux_lemma => kernel_rfl
 ·as_aux_lemma => kernel_rfl
 ·as_aux_lemma => kernel_rfl
 ·as_aux_lemma => kernel_rfl
 ·as_aux_lemma => kernel_rfl
 ·as_aux_lemma => kernel_rfl
 ·as_aux_lemma => kernel_rfl
 ·as_aux_lemma => kernel_rfl
 ·as_aux_lemma => kernel_rfl
 ·as_aux_lemma => kernel_rfl
 ·as_aux_lemma => kernel_rfl
 ·as_aux_lemma => kernel_rfl
 ·as_aux_lemma => kernel_rfl
 ·exact ci
 ·rw [cj]; rfl
 ·rw [cM]; rfl
 ·as_aux_lemma => kernel_rfl
 ·as_aux_lemma => kernel_rfl
 ·as_aux_lemma => kernel_rfl
 ·as_aux_lemma => kernel_rfl
theorem iD : Tryz.prog.funcNamed Rows.fnExecuteLinesRow.func = some 3 := by kernel_rfl
theorem jI : Tryz.f3.isWrapper Tryz.prog Rows.fnExecuteLinesRow.wrapper Rows.fnExecuteLinesRow.mainSum := (by unfold Func.isWrapper; first | (rw [if_pos (by decide +kernel)]; kernel_rfl) | (rw [if_neg (by decide +kernel)]; exact ⟨rfl, rfl⟩))
theorem jH : Rows.fnExecuteLinesRow.holds Tryz.pinned (OpenSpec.ofChange Rows.fnExecuteLinesSpec) :=
 OpenClaim.holds_of_wide (p := Tryz.pinned) 3 Tryz.f3 rfl rfl rfl rfl rfl rfl rfl ⟨rfl, rfl, rfl, rfl, rfl⟩ rfl rfl rfl rfl rfl iD Tryz.func3 iC
  (of_decide_eq_true (by kernel_rfl)) jI
  (fun os started H enc _ => ib os started H enc)
theorem fnExecuteLines_row_tie : Rows.fnExecuteLinesRow.laidByTextAt .later Tryz.pinned [.data, .data, .data, .data, .handle, .pinned] true :=
 OpenClaim.laidByTextAt_pinned rfl rfl jn rfl rfl rfl rfl (fun y hy _e => by
  simp only [Rows.fnExecuteLinesRow, List.zip_cons_cons, List.zip_nil_right, List.mem_cons, List.mem_nil_iff, or_false] at hy
  rcases hy with rfl | rfl | rfl | rfl | rfl | rfl
  iterate 5 (· cases _e)
  ·exact ⟨jm, by kernel_rfl⟩) fy
theorem jG : Tryz.prog.mainIs = some ((true, "ce4b402aa199ae7ade3bea3dd62e7b99986f29c4f69e87e43d86418eff50f956").1, (true, "ce4b402aa199ae7ade3bea3dd62e7b99986f29c4f69e87e43d86418eff50f956").2.toList) := by
 unfold Program.mainIs
 rw [dP, String.toList_ofList, cY, am dY (by kernel_rfl), am dZ (by kernel_rfl), am d7 (by kernel_rfl)]
 generalize wordsSigns dQ = ws
 kernel_rfl
theorem FnExecuteLines_holds : Rows.FnExecuteLinesCardSaid :=
 Claim7.holds_tied_plain_at .later [] [.data, .data, .data, .data, .handle, .pinned] true (true, "ce4b402aa199ae7ade3bea3dd62e7b99986f29c4f69e87e43d86418eff50f956") true
  jH (fun _ h => by cases h) (by kernel_rfl) (fun _ h => by cases h) fnExecuteLines_row_tie rfl ⟨rfl, rfl⟩ jG rfl
  (fun f fn hf hfn => by
   obtain rfl : f = 3 := Option.some.inj ((show Tryz.prog.funcNamed Rows.fnExecuteLinesRow.func = some 3 by kernel_rfl).symm.trans hf) |>.symm
   obtain rfl : fn = Tryz.f3 := (Option.some.inj (Tryz.func3.symm.trans hfn)).symm
   exact ⟨by kernel_rfl, fun j t ht => by
    rw [Tryz.params3] at ht
    rcases j with _ | _ | j
    all_goals (first | (simp at ht; done) | (simp at ht; subst ht; exact (show Tryz.prog.wantsStandIn _ = false by kernel_rfl)))⟩)
  (by kernel_rfl)
#print axioms FnExecuteLines_holds
end
end Go.Proofs.YtfaeojmndaplcaaGreatDoor
