/- The program's WorldNew returns what the reference's returns; what it returns is new memory. No condition. -/
import Derived.Test.YtbkckjobhopicaaClose
import Derived.Test.YtbkckjobhopicaaWIo
namespace Go.Proofs.Ytbkckjobhopicaa
open Go Go.RowKit Go.ChangeShapes Go.WideShapes Go.ChangeAt
set_option maxHeartbeats 400000
theorem FnExactWorldNew_c (w : World) : Calls Try.prog 4 #[] w (ok true w.heap.size w) := by
  go_enter Try.func4, Try.ntmps4
  go_wp2_with fail
  refine (specNew_c _).mono ?_
  rintro e w1 ⟨v1, rfl, d1, hb⟩
  obtain ⟨um, us, un, ug, rfl, e1, e2, e3, e4⟩ := d1
  obtain ⟨A1, c1, rfl, _, _, _⟩ := e1.form
  obtain ⟨A2, c2, rfl, _, _, _⟩ := e2.form
  obtain ⟨A3, c3, rfl, _, _, _⟩ := e3.form
  obtain ⟨A4, c4, rfl, _, _, _⟩ := e4.form
  have D1 := hid (show WdB w1.heap.size w1 _ wdNew from ⟨_, _, _, _, rfl, e1, e2, e3, e4⟩)
  clear e1 e2 e3 e4
  go_wp2_with fail
  refine (implNew_c _).mono ?_
  rintro e w2 ⟨vm, rfl, ⟨G, o2, _, _⟩, hx⟩
  obtain rfl := own_isFlat flat_flat o2
  have b0 := heap_go hx (heap_alloc_new w1 _)
  have hx := bt (lit_below w1 _) hx
  have D2 := hid (D1.out.go hx)
  have t2 : ∀ b, vm.ownBlock = some b → w1.heap.size < b ∧ b < w2.heap.size := fun b hb => by have := o2.top b hb; simp at this; omega
  obtain ⟨A, c, rfl, _, _, _⟩ := o2.form
  have T2 := hid t2
  have O2 := hid o2
  obtain ⟨k0, k1, k2, k3, k4, k5, _⟩ := fr_cells b0
  have z0 := (Array.getElem?_eq_some_iff.1 b0).1
  have B0 := hid b0
  clear o2 t2 b0
  go_wp2_with fail
  refine (eqWorld_t wdNew _ _ _ (newWd (O2.out.go (lit_below w2 _)).slB) (D2.out.go (lit_below w2 _))).mono ?_
  rintro e w3 ⟨rfl, hb3⟩
  have B0 := hid (heap_go (bt (lit_below w2 _) hb3) B0.out)
  have b1 := heap_go hb3 (heap_alloc_new w2 _)
  have B1 := hid b1
  have hb23 := bt (lit_below w2 _) hb3
  have O3 := hid (O2.out.go hb23)
  have hx := bt hx hb23
  clear hb3 hb23 O2 D2 k0 k1 k2 k3 k4 k5 z0
  obtain ⟨k0, k1, k2, k3, k4, k5, _⟩ := fr_cells b1
  have hl : (mixesNew 3).length = 3 := rfl
  clear b1
  go_wp2_with fail
  refine (markWorld_n _ _ _ (mixesNew 3) 1 _ O3.out (by omega) (by omega)).mono ?_
  rintro e w4 ⟨rfl, o4, g4⟩
  have O4 := hid o4
  have B0 := hid (heap_grown g4 B0.out (fun e => by have := T2.out _ e; omega))
  have b1 := heap_grown g4 B1.out (fun e => by have := T2.out _ e; omega)
  have hx : Below w1.heap.size w1 w4 := hx.grown g4 hx.size (fun b hb => by have := T2.out b hb; omega)
  have B1 := hid b1
  clear g4 O3 o4 k0 k1 k2 k3 k4 k5
  obtain ⟨k0, k1, k2, k3, k4, k5, _⟩ := fr_cells b1
  clear b1
  go_wp2_with fail
  refine (heldWorld_n _ _ _ 3 1 _ O4.out (by omega) (by omega)).mono ?_
  rintro e w5 ⟨rfl, hb5⟩
  have O5 := hid (O4.out.go hb5)
  have B0 := hid (heap_go hb5 B0.out)
  have B1 := hid (heap_go hb5 B1.out)
  have hx := bt hx hb5
  clear hb5 O4 k0 k1 k2 k3 k4 k5
  go_wp2_with fail
  refine (implNew_c _).mono ?_
  rintro e w6 ⟨vn, rfl, ⟨G, o6, _, _⟩, hb6⟩
  obtain rfl := own_isFlat flat_flat o6
  obtain ⟨A6, c6, rfl, _, _, _⟩ := o6.form
  have O5 := hid (O5.out.go hb6)
  have b0 := heap_go hb6 B0.out
  have B0 := hid b0
  have B1 := hid (heap_go hb6 B1.out)
  have hx := bt hx hb6
  have D6 := hid (D1.out.go hx)
  have O6 := hid o6
  clear hb6 o6
  obtain ⟨k0, k1, k2, k3, k4, k5, _⟩ := fr_cells b0
  have z0 := (Array.getElem?_eq_some_iff.1 b0).1
  clear b0
  go_wp2_with fail
  refine (eqWorld_t wdNew _ _ _ (newWd (O6.out.go (lit_below w6 _)).slB) (D6.out.go (lit_below w6 _))).mono ?_
  rintro e w7 ⟨rfl, hb7⟩
  have hb7 := bt (lit_below w6 _) hb7
  have O5 := hid (O5.out.go hb7)
  have b1 := heap_go hb7 B1.out
  have hx := bt hx hb7
  clear hb7 O6 D6 k0 k1 k2 k3 k4 k5 z0 B0
  obtain ⟨k0, k1, k2, k3, k4, k5, _⟩ := fr_cells b1
  clear b1
  go_wp2_with fail
  refine (heldWorld_n _ _ _ 3 1 _ O5.out (by omega) (by omega)).mono ?_
  rintro e w8 ⟨rfl, hb8⟩
  have hb := bt hb (bt hx hb8)
  clear hb8 O5 hx
  go_wp2
  go_ret
  exact ⟨rfl, hb⟩
set_option maxRecDepth 100000 in
theorem FnExactWorldNew_lifted (os : Os) (started : os.Started) (H : Type) (enc : TypeId × Value → H) :
    ReturnsInHanded {} Try.checked os 4 .any (Rows.fnExactWorldNewSpec.pre6 enc Try.prog Try.f4 Rows.fnExactWorldNewRow.domain false) (Rows.fnExactWorldNewSpec.post enc Try.prog Try.f4 false true false false) := by
  refine returnsInHanded_of_change (C := Try.checked) own_knob started (by kernel_rfl) Try.func4
    (ChangeSpec.witness6 (enc := enc) (C := Try.checked) false ⟨#[], #[], []⟩ 8 (by kernel_rfl) (by kernel_rfl) (by kernel_rfl) (by kernel_rfl)) ?_
  intro W base args ds gs before hval0 hW hcnd _
  have hval : ∀ (j : Nat) t v, Try.f4.params[j]? = some t → args[j]? = some v → Value.okWide Try.prog W .any base t v := hval0
  have hW' := hW
  obtain ⟨p, q, hA0, hV, rfl, hfz, hnd⟩ := hW
  have hA : DataW.TrodAll enc Try.prog W 0 (fun _ => true) true Try.f4.params.toList args.toList ds p := hA0
  rw [Try.params4] at hA hval
  obtain ⟨h0, rfl, rfl⟩ := trodAll_nil hA
  obtain rfl : args = #[] := by cases args; simp_all
  obtain ⟨rfl, rfl⟩ := trodVars_none hV
  clear hA0 hval0
  refine (FnExactWorldNew_c  W ).mono fun e W' ⟨he, bel⟩ => ?_
  subst he
  exact ⟨_, rfl, _, _, _, [], _, [], hW', trodAll_mk1 (shut_bool Try.underlying4 _), trodAll_mk0, rfl, bel.frame _, fun h => by cases h⟩

theorem FnExactWorldNew_facts : joinedFacts Try.prog 4 Try.f4 Rows.fnExactWorldNewSpec Rows.fnExactWorldNewRow = true := by
  unfold joinedFacts
  simp only [Bool.and_eq_true]
  repeat' apply And.intro
  · as_aux_lemma => kernel_rfl
  · as_aux_lemma => kernel_rfl
  · as_aux_lemma => kernel_rfl
  · as_aux_lemma => kernel_rfl
  · as_aux_lemma => kernel_rfl
  · as_aux_lemma => kernel_rfl
  · as_aux_lemma => kernel_rfl
  · as_aux_lemma => kernel_rfl
  · as_aux_lemma => kernel_rfl
  · as_aux_lemma => kernel_rfl
  · as_aux_lemma => kernel_rfl
  · as_aux_lemma => kernel_rfl
  · as_aux_lemma => kernel_rfl
  · as_aux_lemma => kernel_rfl
  · as_aux_lemma => kernel_rfl
  · as_aux_lemma => kernel_rfl
  · as_aux_lemma => kernel_rfl
  · as_aux_lemma => kernel_rfl
  · as_aux_lemma => kernel_rfl
  · as_aux_lemma => kernel_rfl
  · as_aux_lemma => kernel_rfl
  · as_aux_lemma => kernel_rfl
  · as_aux_lemma => kernel_rfl
  · as_aux_lemma => kernel_rfl
  · as_aux_lemma => kernel_rfl
  · exact fact_enter
  · rw [fact_final]; rfl
  · rw [fact_make]; rfl
  · as_aux_lemma => kernel_rfl
  · as_aux_lemma => kernel_rfl
  · as_aux_lemma => kernel_rfl
  · as_aux_lemma => kernel_rfl
theorem FnExactWorldNew_named : Try.prog.funcNamed Rows.fnExactWorldNewRow.func = some 4 := by kernel_rfl
theorem FnExactWorldNew_wrap : Try.f4.isWrapper Try.prog Rows.fnExactWorldNewRow.wrapper Rows.fnExactWorldNewRow.mainSum := (by unfold Func.isWrapper; first | (rw [if_pos (by decide +kernel)]; kernel_rfl) | (rw [if_neg (by decide +kernel)]; exact ⟨rfl, rfl⟩))
theorem FnExactWorldNew_over : Rows.fnExactWorldNewRow.holds Try.pinned (OpenSpec.ofChange Rows.fnExactWorldNewSpec) :=
  OpenClaim.holds_of_wide (p := Try.pinned) 4 Try.f4 rfl rfl rfl rfl rfl rfl rfl ⟨rfl, rfl, rfl, rfl, rfl⟩ rfl rfl rfl rfl rfl FnExactWorldNew_named Try.func4 FnExactWorldNew_facts
    (of_decide_eq_true (by kernel_rfl)) FnExactWorldNew_wrap
    (fun os started H enc _ => FnExactWorldNew_lifted os started H enc)
theorem FnExactWorldNew_holds : Rows.FnExactWorldNewSaid := FnExactWorldNew_over
#print axioms FnExactWorldNew_holds
end Go.Proofs.Ytbkckjobhopicaa
