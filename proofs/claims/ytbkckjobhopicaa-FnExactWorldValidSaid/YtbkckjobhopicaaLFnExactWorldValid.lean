/- The program's WorldValid returns what the reference's returns, for every run, and turns nothing. No condition. -/
import Derived.Test.YtbkckjobhopicaaWOpn
import Derived.Test.YtbkckjobhopicaaWTo4
import Derived.Test.YtbkckjobhopicaaWEq
import Derived.Test.YtbkckjobhopicaaWRun3
namespace Go.Proofs.Ytbkckjobhopicaa
open Go Go.RowKit Go.ChangeShapes Go.WideShapes Go.ChangeAt
set_option maxHeartbeats 800000
theorem wd_form {w : World} {x : Wd} {vm vs vn vg a b : Value} (h : WdB w.heap.size w (.agg #[vm, vs, vn, vg, a, b]) x) : ∃ A1 c1 A2 c2 A3 c3 A4 c4, vm = .slice A1 x.mixes.length c1 ∧ vs = .slice A2 x.sent.length c2 ∧ vn = .slice A3 x.net.length c3 ∧ vg = .slice A4 x.got.length c4 := by
  obtain ⟨um, us, un, ug, e, h1, h2, h3, h4⟩ := h
  simp at e
  obtain ⟨rfl, rfl, rfl, rfl, _, _⟩ := e
  obtain ⟨A1, c1, rfl, _⟩ := h1.form
  obtain ⟨A2, c2, rfl, _⟩ := h2.form
  obtain ⟨A3, c3, rfl, _⟩ := h3.form
  obtain ⟨A4, c4, rfl, _⟩ := h4.form
  exact ⟨_, _, _, _, _, _, _, _, rfl, rfl, rfl, rfl⟩
theorem six {w : World} {n t : Nat} {a b c d e f : Value} (h : w.heap[n]? = some (.cells #[a, b, c, d, e, f] t (0, 0))) :
    w.cell? ⟨n, 0, none⟩ = some a ∧ w.cell? ⟨n, 1, none⟩ = some b ∧ w.cell? ⟨n, 2, none⟩ = some c ∧ w.cell? ⟨n, 3, none⟩ = some d ∧ w.cell? ⟨n, 4, none⟩ = some e ∧ w.cell? ⟨n, 5, none⟩ = some f :=
  have k := row6 h
  ⟨k.1, k.2.1, k.2.2.1, k.2.2.2.1, k.2.2.2.2.1, k.2.2.2.2.2.1⟩
set_option maxRecDepth 100000 in
theorem FnExactWorldValid_c (v : Value) (x : Wd) (w : World) (h : WdB w.heap.size w v x) (_ : True) :
    Calls Try.prog 5 #[v] w (ok true w.heap.size w) := by
  have H := hid (fun (wx : World) (hb : Below w.heap.size w wx) => h.go hb)
  obtain ⟨vm, vs, vn, vg, rfl, h1, h2, h3, h4⟩ := h
  clear h1 h2 h3 h4
  go_enter Try.func5, Try.ntmps5
  go_wp2_with fail
  refine (szWorld_c x _ 1048576 _ (H.out _ (lit_below _ _)) (by omega) (by omega)).mono ?_
  rintro e w1 ⟨r, rfl, hr, hb1⟩
  have hc := hb1
  obtain ⟨hc1, _⟩ := bcell hb1
  have y0 : w.heap.size < w1.heap.size := by have := hb1.size; simp at this; omega
  rcases hr with rfl | ⟨r0, r1, hs⟩
  · have Hc := hid hc
    clear hb1 hc
    go_wp2
    go_ret
    exact ⟨rfl, bt (lit_below _ _) Hc.out⟩
  have hgl : x.got.length ≤ 1073741824 := by have := hs.2.2.2; unfold lenB at this; omega
  have HS := hid hs; have Hc := hid hc; have Hgl := hid hgl
  clear hb1 hc hs hgl
  go_wp2_with fail
  refine (toWorld_c x _ _ (H.out _ (bt (lit_below _ _) Hc.out)) HS.out).mono ?_
  rintro e w2 ⟨um, us, un, ug, rfl, n2, hb2⟩
  obtain ⟨hc2, _⟩ := bcell hb2
  have y1 : w.heap.size < w2.heap.size := Nat.lt_of_lt_of_le y0 hb2.size
  have Hc := hid (bt Hc.out hb2)
  have N2 := hid (newA_wdB n2)
  clear hb2 n2
  go_wp2_with fail
  refine (specWd_c x _ _ N2.out Hgl.out).mono ?_
  rintro e w3 ⟨rfl, hb3⟩
  obtain ⟨hc3, _⟩ := bcell hb3
  have y2 : w.heap.size < w3.heap.size := Nat.lt_of_lt_of_le y1 hb3.size
  have Hc := hid (bt Hc.out hb3)
  clear hb3 N2
  go_wp2_with fail
  refine (toWorld_c x _ _ (H.out _ (bt (lit_below _ _) Hc.out)) HS.out).mono ?_
  rintro e w4 ⟨vm4, vs4, vn4, vg4, rfl, n4, hb4⟩
  obtain ⟨hc4, _⟩ := bcell hb4
  have y3 : w.heap.size < w4.heap.size := Nat.lt_of_lt_of_le y2 hb4.size
  have Hc := hid (bt Hc.out hb4)
  obtain ⟨A4, c4, B4, d4, C4, e4, D4, f4, rfl, rfl, rfl, rfl⟩ := wd_form (newA_wdB n4)
  have N4 := hid (newA_wdB n4)
  clear hb4 n4
  go_wp2_with fail
  have Hc := hid (bt Hc.out (lit_below w4 (.cells #[.slice A4 x.mixes.length c4, .slice B4 x.sent.length d4, .slice C4 x.net.length e4, .slice D4 x.got.length f4, .int .i64 x.made, .int .i64 x.lost] 27)))
  have N4 := hid (N4.out.go (lit_below w4 (.cells #[.slice A4 x.mixes.length c4, .slice B4 x.sent.length d4, .slice C4 x.net.length e4, .slice D4 x.got.length f4, .int .i64 x.made, .int .i64 x.lost] 27)))
  have q5 := heap_alloc_new w4 (.cells #[.slice A4 x.mixes.length c4, .slice B4 x.sent.length d4, .slice C4 x.net.length e4, .slice D4 x.got.length f4, .int .i64 x.made, .int .i64 x.lost] 27)
  have y4 : w.heap.size < (w4.alloc (.cells #[.slice A4 x.mixes.length c4, .slice B4 x.sent.length d4, .slice C4 x.net.length e4, .slice D4 x.got.length f4, .int .i64 x.made, .int .i64 x.lost] 27)).heap.size := by simp; omega
  refine (implWd_c x _ _ N4.out Hgl.out).mono ?_
  rintro e w5 ⟨rfl, hb5⟩
  have hne : (wdB x != wdB x) = false := by simp
  go_wp2_with fail
  have q2 := heap_go hb5 q5
  have Hc := hid (bt Hc.out hb5)
  have q1 : w5.heap[w.heap.size]? = some (.cells #[vm, vs, vn, vg, .int .i64 x.made, .int .i64 x.lost] 39 (0, 0)) := heap_go Hc.out (heap_alloc_new w _)
  have S5 := hid (fun (wx : World) (hb : Below w5.heap.size w5 wx) => And.intro hb (And.intro (six (heap_go hb q1)) (six (heap_go hb q2))))
  have N5 := hid (N4.out.go hb5)
  clear hb5 hc1 hc2 hc3 hc4 N4 q5 q1 q2 y0 y1 y2 y3 y4 hne
  refine wp_region_held_drew (S := (fun w' => Below w5.heap.size w5 w' ∧ (w'.cell? ⟨w.heap.size, 0, none⟩ = some vm ∧ w'.cell? ⟨w.heap.size, 1, none⟩ = some vs ∧ w'.cell? ⟨w.heap.size, 2, none⟩ = some vn ∧ w'.cell? ⟨w.heap.size, 3, none⟩ = some vg ∧ w'.cell? ⟨w.heap.size, 4, none⟩ = some (.int .i64 x.made) ∧ w'.cell? ⟨w.heap.size, 5, none⟩ = some (.int .i64 x.lost)) ∧
  (w'.cell? ⟨w4.heap.size, 0, none⟩ = some (.slice A4 x.mixes.length c4) ∧ w'.cell? ⟨w4.heap.size, 1, none⟩ = some (.slice B4 x.sent.length d4) ∧ w'.cell? ⟨w4.heap.size, 2, none⟩ = some (.slice C4 x.net.length e4) ∧ w'.cell? ⟨w4.heap.size, 3, none⟩ = some (.slice D4 x.got.length f4) ∧ w'.cell? ⟨w4.heap.size, 4, none⟩ = some (.int .i64 x.made) ∧ w'.cell? ⟨w4.heap.size, 5, none⟩ = some (.int .i64 x.lost)))) (by kernel_rfl) ?_ (fun hHeld => ?_)
  · (try dsimp only); first | assumption | exact S5.out _ (bt (And.left (by assumption)) hb5) | exact S5.out _ (below_drew1 (Below.refl _ _))
  refine wpAnyH_take (i := 0) (v := ?vvq10) rfl (by kernel_rfl) (by kernel_rfl) (by kernel_rfl) (fun _ _ _ h => h) (Or.inl ⟨by rfl, ?hyq10⟩) (by assumption) ?restq10
  case hyq10 => ((intro w hSw); (try dsimp only at hSw); go_simp; try with_reducible rfl)
  try simp only [List.getElem_toArray, List.getElem_cons_succ, List.getElem_cons_zero, Act.put, List.setIfInBounds_toArray, List.set_cons_zero, List.set_cons_succ]
  refine wpAnyH_take (i := 1) (v := ?vvq11) rfl (by kernel_rfl) (by kernel_rfl) (by kernel_rfl) (fun _ _ _ h => h) (Or.inl ⟨by rfl, ?hyq11⟩) (by assumption) ?restq11
  case hyq11 => ((intro w hSw); (try dsimp only at hSw); go_simp; try with_reducible rfl)
  try simp only [List.getElem_toArray, List.getElem_cons_succ, List.getElem_cons_zero, Act.put, List.setIfInBounds_toArray, List.set_cons_zero, List.set_cons_succ]
  refine wpAnyH_ready (rs := [2]) (by kernel_rfl) (by simp) ?_
  refine AllReadyH.cons rfl (fun K hK => ?_) AllReadyH.nil
  go_simp
  (go_at_call 16; refine (toWorld_c x _ _ ?_ HS.out).mono ?_; (exact H.out _ (bt (lit_below _ _) (bt Hc.out (And.left (by assumption))))); rintro e w6 ⟨vm6, vs6, vn6, vg6, rfl, n6, hb5⟩; have d6 := newA_wdB n6)
  refine hK.out _ _ ?_ (fun hHeld => ?_)
  · (try dsimp only); first | assumption | exact S5.out _ (bt (And.left (by assumption)) hb5) | exact S5.out _ (below_drew1 (Below.refl _ _))
  clear hK K
  refine wpAnyH_ready (rs := [3]) (by kernel_rfl) (by simp) ?_
  refine AllReadyH.cons rfl (fun K hK => ?_) AllReadyH.nil
  go_simp
  (go_at_call 11; refine (eqWorld_t x _ _ _ ?_ ?_).mono ?_; (exact N5.out.go (And.left (by assumption))); (exact d6); rintro e w7 ⟨rfl, hb5⟩)
  refine hK.out _ _ ?_ (fun hHeld => ?_)
  · (try dsimp only); first | assumption | exact S5.out _ (bt (And.left (by assumption)) hb5) | exact S5.out _ (below_drew1 (Below.refl _ _))
  clear hK K
  refine wpAnyH_take (i := 4) (v := ?vvq14) rfl (by kernel_rfl) (by kernel_rfl) (by kernel_rfl) (fun _ _ _ h => h) (Or.inl ⟨by rfl, ?hyq14⟩) (by assumption) ?restq14
  case hyq14 => ((intro w hSw); (try dsimp only at hSw); go_simp; try with_reducible rfl)
  try simp only [List.getElem_toArray, List.getElem_cons_succ, List.getElem_cons_zero, Act.put, List.setIfInBounds_toArray, List.set_cons_zero, List.set_cons_succ]
  refine wpAnyH_done (by kernel_rfl) ?_ _
  go_wp2
  go_ret
  exact ⟨rfl, bt (lit_below _ _) (bt Hc.out (And.left (by assumption)))⟩
set_option maxRecDepth 100000 in
theorem FnExactWorldValid_lifted (os : Os) (started : os.Started) (H : Type) (enc : TypeId × Value → H) :
    ReturnsInHanded {} Try.checked os 5 .any (Rows.fnExactWorldValidSpec.pre6 enc Try.prog Try.f5 Rows.fnExactWorldValidRow.domain false) (Rows.fnExactWorldValidSpec.post enc Try.prog Try.f5 false true false false) := by
  refine returnsInHanded_of_change (C := Try.checked) own_knob started (by kernel_rfl) Try.func5
    (ChangeSpec.witness6 (enc := enc) (C := Try.checked) false ⟨#[], #[.agg #[.slice none 0 0, .slice none 0 0, .slice none 0 0, .slice none 0 0, .int .i64 0, .int .i64 0]], []⟩ 8 (by kernel_rfl) (by kernel_rfl) (by kernel_rfl) (by kernel_rfl)) ?_
  intro W base args ds gs before hval0 hW hcnd _
  have hval : ∀ (j : Nat) t v, Try.f5.params[j]? = some t → args[j]? = some v → Value.okWide Try.prog W .any base t v := hval0
  have hW' := hW
  obtain ⟨p, q, hA0, hV, rfl, hfz, hnd⟩ := hW
  have hA : DataW.TrodAll enc Try.prog W 0 (fun _ => true) true Try.f5.params.toList args.toList ds p := hA0
  rw [Try.params5] at hA hval
  obtain ⟨v0, vs0, d0, ds0, p0, q0, hargs, rfl, rfl, h0, r0⟩ := trodAll_cons hA
  obtain ⟨rfl, rfl, rfl⟩ := trodAll_nil r0
  obtain rfl : args = #[v0] := by cases args; simp_all
  obtain ⟨rfl, rfl⟩ := trodVars_none hV
  have k0 := h0
  have lt0 : ∀ x ∈ p0, x.block < W.heap.size := by obtain ⟨m, hm⟩ := k0; exact DataW.trod_lt m _ _ _ hm
  obtain ⟨x0, s0, f0⟩ := opn_W (hval 0 39 v0 rfl rfl) h0
  clear hA0 hval0
  refine (FnExactWorldValid_c v0 x0 W s0 f0).mono fun e W' ⟨he, bel⟩ => ?_
  subst he
  exact ⟨_, rfl, _, _, _, [], _, [], hW', trodAll_mk1 (shut_bool Try.underlying4 _), (trodAll_cons_mk (Below.trod laid_out (by kernel_rfl) (of_decide_eq_true (by kernel_rfl)) k0 bel lt0) trodAll_mk0), rfl, bel.frame _, fun h => by cases h⟩

theorem FnExactWorldValid_facts : joinedFacts Try.prog 5 Try.f5 Rows.fnExactWorldValidSpec Rows.fnExactWorldValidRow = true := by
  unfold joinedFacts
  simp only [Bool.and_eq_true]
  repeat' apply And.intro
  · as_aux_lemma => kernel_rfl
  · as_aux_lemma => kernel_rfl
  · as_aux_lemma => kernel_rfl
  · as_aux_lemma => kernel_rfl
  · as_aux_lemma => kernel_rfl
  · as_aux_lemma => kernel_rfl
  · as_aux_lemma => kernel_rfl
  · as_aux_lemma => kernel_rfl
  · as_aux_lemma => kernel_rfl
  · as_aux_lemma => kernel_rfl
  · as_aux_lemma => kernel_rfl
  · as_aux_lemma => kernel_rfl
  · as_aux_lemma => kernel_rfl
  · as_aux_lemma => kernel_rfl
  · as_aux_lemma => kernel_rfl
  · as_aux_lemma => kernel_rfl
  · as_aux_lemma => kernel_rfl
  · as_aux_lemma => kernel_rfl
  · as_aux_lemma => kernel_rfl
  · as_aux_lemma => kernel_rfl
  · as_aux_lemma => kernel_rfl
  · as_aux_lemma => kernel_rfl
  · as_aux_lemma => kernel_rfl
  · as_aux_lemma => kernel_rfl
  · as_aux_lemma => kernel_rfl
  · exact fact_enter
  · rw [fact_final]; rfl
  · rw [fact_make]; rfl
  · as_aux_lemma => kernel_rfl
  · as_aux_lemma => kernel_rfl
  · as_aux_lemma => kernel_rfl
  · as_aux_lemma => kernel_rfl
theorem FnExactWorldValid_named : Try.prog.funcNamed Rows.fnExactWorldValidRow.func = some 5 := by kernel_rfl
theorem FnExactWorldValid_wrap : Try.f5.isWrapper Try.prog Rows.fnExactWorldValidRow.wrapper Rows.fnExactWorldValidRow.mainSum := (by unfold Func.isWrapper; first | (rw [if_pos (by decide +kernel)]; kernel_rfl) | (rw [if_neg (by decide +kernel)]; exact ⟨rfl, rfl⟩))
theorem FnExactWorldValid_over : Rows.fnExactWorldValidRow.holds Try.pinned (OpenSpec.ofChange Rows.fnExactWorldValidSpec) :=
  OpenClaim.holds_of_wide (p := Try.pinned) 5 Try.f5 rfl rfl rfl rfl rfl rfl rfl ⟨rfl, rfl, rfl, rfl, rfl⟩ rfl rfl rfl rfl rfl FnExactWorldValid_named Try.func5 FnExactWorldValid_facts
    (of_decide_eq_true (by kernel_rfl)) FnExactWorldValid_wrap
    (fun os started H enc _ => FnExactWorldValid_lifted os started H enc)
theorem FnExactWorldValid_holds : Rows.FnExactWorldValidSaid := FnExactWorldValid_over
#print axioms FnExactWorldValid_holds
end Go.Proofs.Ytbkckjobhopicaa
