/- Walks in company: rows of numbers: equal, marked, held. -/
import Derived.Test.YtndfookgkkefnaaBH3
namespace Go.Proofs.Ytndfookgkkefnaa
set_option linter.unusedSimpArgs false
set_option linter.unusedVariables false
set_option linter.unusedSectionVars false
open Go Go.Conc Go.RowKit
/-- a row of numbers that one may count on -/
def RowN (γ : Gh) (w : World) (v : Value) (zs : List Int) : Prop :=
  ∃ p c, v = .slice p zs.length c ∧ ∀ (i : Nat) (x : Int), zs[i]? = some x → ∃ b o, p = some ⟨b, o, none⟩ ∧ γ.F b ∧ w.cell? ⟨b, o + i, none⟩ = some (.int .i64 x)
theorem RowN.ext {γ γ' : Gh} {w w' : World} {v : Value} {zs : List Int} (h : RowN γ w v zs) (e : Ext γ w γ' w') : RowN γ' w' v zs := by
  obtain ⟨p, c, rfl, hx⟩ := h
  refine ⟨p, c, rfl, fun i x hi => ?_⟩
  obtain ⟨b, o, rfl, hb, hc⟩ := hx i x hi
  exact ⟨b, o, rfl, e.F b hb, (cell_of (a := ⟨b, o + i, none⟩) (e.rl.blk b hb)).trans hc⟩
set_option maxHeartbeats 4000000 in
set_option maxRecDepth 100000 in
theorem eqIntS_c (main : Bool) (X : Pha) (γ : Gh) (w : World) (v1 v2 : Value) (zs : List Int) (h1 : RowN γ w v1 zs) (h2 : RowN γ w v2 zs) (hn : zs.length < 4611686018427387904) :
    CallsI Try.prog main X 26 #[v1, v2] γ w fun γ' r w' => γ' = γ ∧ w' = w ∧ r = .bool true := by
  obtain ⟨p1, c1, rfl, hx1⟩ := h1
  obtain ⟨p2, c2, rfl, hx2⟩ := h2
  (refine callsI_of Try.func26 (by rfl) rfl ?_; simp only [Try.ntmps26, List.size_toArray, List.length_cons, List.length_nil, Nat.reduceAdd, Nat.reduceSub, Array.replicate_succ, Array.replicate_zero, List.push_toArray, List.append_toArray, List.nil_append, List.cons_append])
  repeat (first | ((first | refine wpI_seq ?_ | refine wpI_block ?_ | refine wpI_skip ?_ | refine wpI_label ?_ | refine wpI_ret ?_ | refine wpI_exit ?_ | refine opI_nil ?_); try simp only [thenI, blkI, if_true, if_false, reduceIte, Nat.reduceEqDiff]) | (refine wpI_region ?_; simp only [List.size_toArray, List.length_cons, List.length_nil, Nat.reduceAdd, Nat.zero_add, List.range, List.range.loop]) | (refine opI_unwanted rfl (by rfl) ?_; try walk_nrm) | (refine opI_k rfl (by rfl) (fun w₁ hR K hK => ?_); skip; go_simp; refine hK _ (fun e he => ?_) ?_; (first | done | ((rw [listed_nil (by simp [go_sem, *])] at he; simp at he))); (try clear hc₁); (clear hK K hR; clear w₁); (try walk_nrm)))
  refine wpI_cond (t := false) (by simp [Act.eval]) ?_
  simp only [if_false, Bool.false_eq_true]
  repeat (first | ((first | refine wpI_seq ?_ | refine wpI_block ?_ | refine wpI_skip ?_ | refine wpI_label ?_ | refine wpI_ret ?_ | refine wpI_exit ?_ | refine opI_nil ?_); try simp only [thenI, blkI, if_true, if_false, reduceIte, Nat.reduceEqDiff]) | (refine wpI_region ?_; simp only [List.size_toArray, List.length_cons, List.length_nil, Nat.reduceAdd, Nat.zero_add, List.range, List.range.loop]) | (refine opI_unwanted rfl (by rfl) ?_; try walk_nrm) | (refine opI_k rfl (by rfl) (fun w₁ hR K hK => ?_); skip; go_simp; refine hK _ (fun e he => ?_) ?_; (first | done | ((rw [listed_nil (by simp [go_sem, *])] at he; simp at he))); (try clear hc₁); (clear hK K hR; clear w₁); (try walk_nrm)))
  refine wpI_loop (fun m γ' a' w' => Ext γ w γ' w' ∧ ∃ (k : Nat) (kz : Int) (u2 u3 u6 u7 u8 u9 u10 u11 u12 u13 u14 u15 u16 u17 u18 u19 u20 u21 u22 u23 u24 u25 : Value), a' = ⟨#[.slice p1 zs.length c1, .slice p2 zs.length c2, u2, u3, .bool false, .int .i64 kz, u6, u7, u8, u9, u10, u11, u12, u13, u14, u15, u16, u17, u18, u19, u20, u21, u22, u23, u24, u25], []⟩ ∧ k ≤ zs.length ∧ m = zs.length - k ∧ kz = k ∧ γ' = γ ∧ w' = w) zs.length
    ⟨Ext.refl _ _, 0, _, _, _, _, _, _, _, _, _, _, _, _, _, _, _, _, _, _, _, _, _, _, _, rfl, Nat.zero_le _, rfl, rfl, rfl, rfl⟩ ?_
  rintro m γ' a' w' ⟨_, k, kz, u2, u3, u6, u7, u8, u9, u10, u11, u12, u13, u14, u15, u16, u17, u18, u19, u20, u21, u22, u23, u24, u25, rfl, hk, rfl, rfl, rfl, rfl⟩
  repeat (first | ((first | refine wpI_seq ?_ | refine wpI_block ?_ | refine wpI_skip ?_ | refine wpI_label ?_ | refine wpI_ret ?_ | refine wpI_exit ?_ | refine opI_nil ?_); try simp only [thenI, blkI, if_true, if_false, reduceIte, Nat.reduceEqDiff]) | (refine wpI_region ?_; simp only [List.size_toArray, List.length_cons, List.length_nil, Nat.reduceAdd, Nat.zero_add, List.range, List.range.loop]) | (refine opI_unwanted rfl (by rfl) ?_; try walk_nrm) | (refine opI_k rfl (by rfl) (fun w₁ hR K hK => ?_); skip; go_simp; refine hK _ (fun e he => ?_) ?_; (first | done | ((rw [listed_nil (by simp [go_sem, *])] at he; simp at he))); (try clear hc₁); (clear hK K hR; clear w₁); (try walk_nrm)))
  by_cases hlt : k < zs.length
  · refine wpI_cond rfl ?_
    simp only [hlt, decide_true, if_true]
    obtain ⟨x, hxk⟩ : ∃ x, Hd (zs[k]? = some x) := ⟨_, ⟨List.getElem?_eq_getElem hlt⟩⟩
    obtain ⟨b1, o1, rfl, hb1, hcx1⟩ := hx1 k x hxk.out
    obtain ⟨b2, o2, rfl, hb2, hcx2⟩ := hx2 k x hxk.out
    have hk0 : (0 : Int) ≤ (k : Int) := by omega
    have hki : (k : Int) < (zs.length : Int) := by omega
    have e5 : Hd (IntKind.i64.wrap ((k : Int) + 1) = ((k + 1 : Nat) : Int)) := ⟨by rw [IntKind.wrap_i64]; omega⟩
    repeat (first | ((first | refine wpI_seq ?_ | refine wpI_block ?_ | refine wpI_skip ?_ | refine wpI_label ?_ | refine wpI_ret ?_ | refine wpI_exit ?_ | refine opI_nil ?_); try simp only [thenI, blkI, if_true, if_false, reduceIte, Nat.reduceEqDiff]) | (refine wpI_region ?_; simp only [List.size_toArray, List.length_cons, List.length_nil, Nat.reduceAdd, Nat.zero_add, List.range, List.range.loop]) | (refine opI_unwanted rfl (by rfl) ?_; try walk_nrm) | (refine opI_k rfl (by rfl) (fun w₁ hR K hK => ?_); skip; go_simp; refine hK _ (fun e he => ?_) ?_; (first | done | ((rw [listed_nil (by simp [go_sem, *])] at he; simp at he))); (try clear hc₁); (clear hK K hR; clear w₁); (try walk_nrm)))
    refine wpI_draw (γ₀ := γ') (w₀ := w') (by kernel_rfl) relyI_then ?_
    (refine anyI_take relyI_then (i := 0) (v := .slice (some ⟨b1, o1, none⟩) zs.length c1) rfl (by kernel_rfl) (by kernel_rfl) (by kernel_rfl) (.inl ⟨by rfl, fun γ' w' hE => ?_⟩) (Ext.refl _ _) ?_; (skip; refine ⟨run_eq_of fun K hK => (by go_simp; exact hK), fun e he => ?_⟩; (rw [listed_nil (by simp [go_sem, *])] at he; simp at he)); try walk_nrm)
    (refine anyI_take relyI_then (i := 1) (v := .int .i64 k) rfl (by kernel_rfl) (by kernel_rfl) (by kernel_rfl) (.inl ⟨by rfl, fun γ' w' hE => ?_⟩) (Ext.refl _ _) ?_; (skip; refine ⟨run_eq_of fun K hK => (by go_simp; exact hK), fun e he => ?_⟩; (rw [listed_nil (by simp [go_sem, *])] at he; simp at he)); try walk_nrm)
    (refine anyI_take relyI_then (i := 2) (v := .pointer (some ⟨b1, o1 + k, none⟩)) rfl (by kernel_rfl) (by kernel_rfl) (by kernel_rfl) (.inl ⟨by rfl, fun γ' w' hE => ?_⟩) (Ext.refl _ _) ?_; (skip; refine ⟨run_eq_of fun K hK => (by go_simp; exact hK), fun e he => ?_⟩; (rw [listed_nil (by simp [go_sem, *])] at he; simp at he)); try walk_nrm)
    (refine anyI_take relyI_then (i := 3) (v := .int .i64 x) rfl (by kernel_rfl) (by kernel_rfl) (by kernel_rfl) (.inl ⟨by rfl, fun γ' w' hE => ?_⟩) (Ext.refl _ _) ?_; (have hcc := (cell_of (hE.rl.blk _ hb1)).trans hcx1; refine ⟨run_eq_of fun K hK => (by go_simp; exact hK), fun e he => ?_⟩; (have hm := mem_listed he; simp [go_sem, *] at hm; subst hm; exact Ev.read (hE.F _ hb1))); try walk_nrm)
    (refine anyI_take relyI_then (i := 4) (v := .slice (some ⟨b2, o2, none⟩) zs.length c2) rfl (by kernel_rfl) (by kernel_rfl) (by kernel_rfl) (.inl ⟨by rfl, fun γ' w' hE => ?_⟩) (Ext.refl _ _) ?_; (skip; refine ⟨run_eq_of fun K hK => (by go_simp; exact hK), fun e he => ?_⟩; (rw [listed_nil (by simp [go_sem, *])] at he; simp at he)); try walk_nrm)
    (refine anyI_take relyI_then (i := 5) (v := .int .i64 k) rfl (by kernel_rfl) (by kernel_rfl) (by kernel_rfl) (.inl ⟨by rfl, fun γ' w' hE => ?_⟩) (Ext.refl _ _) ?_; (skip; refine ⟨run_eq_of fun K hK => (by go_simp; exact hK), fun e he => ?_⟩; (rw [listed_nil (by simp [go_sem, *])] at he; simp at he)); try walk_nrm)
    (refine anyI_take relyI_then (i := 6) (v := .pointer (some ⟨b2, o2 + k, none⟩)) rfl (by kernel_rfl) (by kernel_rfl) (by kernel_rfl) (.inl ⟨by rfl, fun γ' w' hE => ?_⟩) (Ext.refl _ _) ?_; (skip; refine ⟨run_eq_of fun K hK => (by go_simp; exact hK), fun e he => ?_⟩; (rw [listed_nil (by simp [go_sem, *])] at he; simp at he)); try walk_nrm)
    (refine anyI_take relyI_then (i := 7) (v := .int .i64 x) rfl (by kernel_rfl) (by kernel_rfl) (by kernel_rfl) (.inl ⟨by rfl, fun γ' w' hE => ?_⟩) (Ext.refl _ _) ?_; (have hcc := (cell_of (hE.rl.blk _ hb2)).trans hcx2; refine ⟨run_eq_of fun K hK => (by go_simp; exact hK), fun e he => ?_⟩; (have hm := mem_listed he; simp [go_sem, *] at hm; subst hm; exact Ev.read (hE.F _ hb2))); try walk_nrm)
    (refine anyI_take relyI_then (i := 8) (v := .bool false) rfl (by kernel_rfl) (by kernel_rfl) (by kernel_rfl) (.inl ⟨by rfl, fun γ' w' hE => ?_⟩) (Ext.refl _ _) ?_; (skip; refine ⟨run_eq_of fun K hK => (by go_simp; exact hK), fun e he => ?_⟩; (rw [listed_nil (by simp [go_sem, *])] at he; simp at he)); try walk_nrm)
    refine anyI_done (by kernel_rfl) ?_ _
    simp only [thenI]
    repeat (first | ((first | refine wpI_seq ?_ | refine wpI_block ?_ | refine wpI_skip ?_ | refine wpI_label ?_ | refine wpI_ret ?_ | refine wpI_exit ?_ | refine opI_nil ?_); try simp only [thenI, blkI, if_true, if_false, reduceIte, Nat.reduceEqDiff]) | (refine wpI_region ?_; simp only [List.size_toArray, List.length_cons, List.length_nil, Nat.reduceAdd, Nat.zero_add, List.range, List.range.loop]) | (refine opI_unwanted rfl (by rfl) ?_; try walk_nrm) | (refine opI_k rfl (by rfl) (fun w₁ hR K hK => ?_); skip; go_simp; refine hK _ (fun e he => ?_) ?_; (first | done | ((rw [listed_nil (by simp [go_sem, *])] at he; simp at he))); (try clear hc₁); (clear hK K hR; clear w₁); (try walk_nrm)))
    (refine wpI_cond (t := false) rfl ?_; simp only [if_true, if_false, Bool.false_eq_true, reduceIte])
    repeat (first | ((first | refine wpI_seq ?_ | refine wpI_block ?_ | refine wpI_skip ?_ | refine wpI_label ?_ | refine wpI_ret ?_ | refine wpI_exit ?_ | refine opI_nil ?_); try simp only [thenI, blkI, if_true, if_false, reduceIte, Nat.reduceEqDiff]) | (refine wpI_region ?_; simp only [List.size_toArray, List.length_cons, List.length_nil, Nat.reduceAdd, Nat.zero_add, List.range, List.range.loop]) | (refine opI_unwanted rfl (by rfl) ?_; try walk_nrm) | (refine opI_k rfl (by rfl) (fun w₁ hR K hK => ?_); skip; go_simp; refine hK _ (fun e he => ?_) ?_; (first | done | ((rw [listed_nil (by simp [go_sem, *])] at he; simp at he))); (try clear hc₁); (clear hK K hR; clear w₁); (try walk_nrm)))
    exact ⟨zs.length - (k + 1), by omega, Ext.refl _ _, k + 1, _, _, _, _, _, _, _, _, _, _, _, _, _, _, _, _, _, _, _, _, _, _, _, rfl, by omega, rfl, e5.out, by first | rfl | trivial, by first | rfl | trivial⟩
  · refine wpI_cond rfl ?_
    simp only [hlt, decide_false, if_false, Bool.false_eq_true]
    obtain rfl : k = zs.length := by omega
    repeat (first | ((first | refine wpI_seq ?_ | refine wpI_block ?_ | refine wpI_skip ?_ | refine wpI_label ?_ | refine wpI_ret ?_ | refine wpI_exit ?_ | refine opI_nil ?_); try simp only [thenI, blkI, if_true, if_false, reduceIte, Nat.reduceEqDiff]) | (refine wpI_region ?_; simp only [List.size_toArray, List.length_cons, List.length_nil, Nat.reduceAdd, Nat.zero_add, List.range, List.range.loop]) | (refine opI_unwanted rfl (by rfl) ?_; try walk_nrm) | (refine opI_k rfl (by rfl) (fun w₁ hR K hK => ?_); skip; go_simp; refine hK _ (fun e he => ?_) ?_; (first | done | ((rw [listed_nil (by simp [go_sem, *])] at he; simp at he))); (try clear hc₁); (clear hK K hR; clear w₁); (try walk_nrm)))
    refine ⟨rfl, _, resultsC_tmp rfl _, ?_⟩
    exact ⟨rfl, rfl, rfl⟩
set_option maxHeartbeats 4000000 in
set_option maxRecDepth 100000 in
theorem sameInts_c (main : Bool) (X : Pha) (γ : Gh) (w : World) (v1 v2 : Value) (zs : List Int) (h1 : RowN γ w v1 zs) (h2 : RowN γ w v2 zs) (hn : zs.length < 4611686018427387904) :
    CallsI Try.prog main X 14 #[v1, v2] γ w fun γ' r w' => γ' = γ ∧ w' = w ∧ r = .bool true := by
  obtain ⟨p1, c1, rfl, hx1⟩ := h1
  obtain ⟨p2, c2, rfl, hx2⟩ := h2
  (refine callsI_of Try.func14 (by rfl) rfl ?_; simp only [Try.ntmps14, List.size_toArray, List.length_cons, List.length_nil, Nat.reduceAdd, Nat.reduceSub, Array.replicate_succ, Array.replicate_zero, List.push_toArray, List.append_toArray, List.nil_append, List.cons_append])
  repeat (first | ((first | refine wpI_seq ?_ | refine wpI_block ?_ | refine wpI_skip ?_ | refine wpI_label ?_ | refine wpI_ret ?_ | refine wpI_exit ?_ | refine opI_nil ?_); try simp only [thenI, blkI, if_true, if_false, reduceIte, Nat.reduceEqDiff]) | (refine wpI_region ?_; simp only [List.size_toArray, List.length_cons, List.length_nil, Nat.reduceAdd, Nat.zero_add, List.range, List.range.loop]) | (refine opI_unwanted rfl (by rfl) ?_; try walk_nrm) | (refine opI_k rfl (by rfl) (fun w₁ hR K hK => ?_); skip; go_simp; refine hK _ (fun e he => ?_) ?_; (first | done | ((rw [listed_nil (by simp [go_sem, *])] at he; simp at he))); (try clear hc₁); (clear hK K hR; clear w₁); (try walk_nrm)))
  refine wpI_cond (t := false) (by simp [Act.eval]) ?_
  simp only [if_false, Bool.false_eq_true]
  repeat (first | ((first | refine wpI_seq ?_ | refine wpI_block ?_ | refine wpI_skip ?_ | refine wpI_label ?_ | refine wpI_ret ?_ | refine wpI_exit ?_ | refine opI_nil ?_); try simp only [thenI, blkI, if_true, if_false, reduceIte, Nat.reduceEqDiff]) | (refine wpI_region ?_; simp only [List.size_toArray, List.length_cons, List.length_nil, Nat.reduceAdd, Nat.zero_add, List.range, List.range.loop]) | (refine opI_unwanted rfl (by rfl) ?_; try walk_nrm) | (refine opI_k rfl (by rfl) (fun w₁ hR K hK => ?_); skip; go_simp; refine hK _ (fun e he => ?_) ?_; (first | done | ((rw [listed_nil (by simp [go_sem, *])] at he; simp at he))); (try clear hc₁); (clear hK K hR; clear w₁); (try walk_nrm)))
  refine wpI_loop (fun m γ' a' w' => Ext γ w γ' w' ∧ ∃ (k : Nat) (kz : Int) (u2 u3 u6 u7 u8 u9 u10 u11 u12 u13 u14 u15 u16 u17 u18 u19 u20 u21 u22 u23 u24 u25 : Value), a' = ⟨#[.slice p1 zs.length c1, .slice p2 zs.length c2, u2, u3, .bool false, .int .i64 kz, u6, u7, u8, u9, u10, u11, u12, u13, u14, u15, u16, u17, u18, u19, u20, u21, u22, u23, u24, u25], []⟩ ∧ k ≤ zs.length ∧ m = zs.length - k ∧ kz = k ∧ γ' = γ ∧ w' = w) zs.length
    ⟨Ext.refl _ _, 0, _, _, _, _, _, _, _, _, _, _, _, _, _, _, _, _, _, _, _, _, _, _, _, rfl, Nat.zero_le _, rfl, rfl, rfl, rfl⟩ ?_
  rintro m γ' a' w' ⟨_, k, kz, u2, u3, u6, u7, u8, u9, u10, u11, u12, u13, u14, u15, u16, u17, u18, u19, u20, u21, u22, u23, u24, u25, rfl, hk, rfl, rfl, rfl, rfl⟩
  repeat (first | ((first | refine wpI_seq ?_ | refine wpI_block ?_ | refine wpI_skip ?_ | refine wpI_label ?_ | refine wpI_ret ?_ | refine wpI_exit ?_ | refine opI_nil ?_); try simp only [thenI, blkI, if_true, if_false, reduceIte, Nat.reduceEqDiff]) | (refine wpI_region ?_; simp only [List.size_toArray, List.length_cons, List.length_nil, Nat.reduceAdd, Nat.zero_add, List.range, List.range.loop]) | (refine opI_unwanted rfl (by rfl) ?_; try walk_nrm) | (refine opI_k rfl (by rfl) (fun w₁ hR K hK => ?_); skip; go_simp; refine hK _ (fun e he => ?_) ?_; (first | done | ((rw [listed_nil (by simp [go_sem, *])] at he; simp at he))); (try clear hc₁); (clear hK K hR; clear w₁); (try walk_nrm)))
  by_cases hlt : k < zs.length
  · refine wpI_cond rfl ?_
    simp only [hlt, decide_true, if_true]
    obtain ⟨x, hxk⟩ : ∃ x, Hd (zs[k]? = some x) := ⟨_, ⟨List.getElem?_eq_getElem hlt⟩⟩
    obtain ⟨b1, o1, rfl, hb1, hcx1⟩ := hx1 k x hxk.out
    obtain ⟨b2, o2, rfl, hb2, hcx2⟩ := hx2 k x hxk.out
    have hk0 : (0 : Int) ≤ (k : Int) := by omega
    have hki : (k : Int) < (zs.length : Int) := by omega
    have e5 : Hd (IntKind.i64.wrap ((k : Int) + 1) = ((k + 1 : Nat) : Int)) := ⟨by rw [IntKind.wrap_i64]; omega⟩
    repeat (first | ((first | refine wpI_seq ?_ | refine wpI_block ?_ | refine wpI_skip ?_ | refine wpI_label ?_ | refine wpI_ret ?_ | refine wpI_exit ?_ | refine opI_nil ?_); try simp only [thenI, blkI, if_true, if_false, reduceIte, Nat.reduceEqDiff]) | (refine wpI_region ?_; simp only [List.size_toArray, List.length_cons, List.length_nil, Nat.reduceAdd, Nat.zero_add, List.range, List.range.loop]) | (refine opI_unwanted rfl (by rfl) ?_; try walk_nrm) | (refine opI_k rfl (by rfl) (fun w₁ hR K hK => ?_); skip; go_simp; refine hK _ (fun e he => ?_) ?_; (first | done | ((rw [listed_nil (by simp [go_sem, *])] at he; simp at he))); (try clear hc₁); (clear hK K hR; clear w₁); (try walk_nrm)))
    refine wpI_draw (γ₀ := γ') (w₀ := w') (by kernel_rfl) relyI_then ?_
    (refine anyI_take relyI_then (i := 0) (v := .slice (some ⟨b1, o1, none⟩) zs.length c1) rfl (by kernel_rfl) (by kernel_rfl) (by kernel_rfl) (.inl ⟨by rfl, fun γ' w' hE => ?_⟩) (Ext.refl _ _) ?_; (skip; refine ⟨run_eq_of fun K hK => (by go_simp; exact hK), fun e he => ?_⟩; (rw [listed_nil (by simp [go_sem, *])] at he; simp at he)); try walk_nrm)
    (refine anyI_take relyI_then (i := 1) (v := .int .i64 k) rfl (by kernel_rfl) (by kernel_rfl) (by kernel_rfl) (.inl ⟨by rfl, fun γ' w' hE => ?_⟩) (Ext.refl _ _) ?_; (skip; refine ⟨run_eq_of fun K hK => (by go_simp; exact hK), fun e he => ?_⟩; (rw [listed_nil (by simp [go_sem, *])] at he; simp at he)); try walk_nrm)
    (refine anyI_take relyI_then (i := 2) (v := .pointer (some ⟨b1, o1 + k, none⟩)) rfl (by kernel_rfl) (by kernel_rfl) (by kernel_rfl) (.inl ⟨by rfl, fun γ' w' hE => ?_⟩) (Ext.refl _ _) ?_; (skip; refine ⟨run_eq_of fun K hK => (by go_simp; exact hK), fun e he => ?_⟩; (rw [listed_nil (by simp [go_sem, *])] at he; simp at he)); try walk_nrm)
    (refine anyI_take relyI_then (i := 3) (v := .int .i64 x) rfl (by kernel_rfl) (by kernel_rfl) (by kernel_rfl) (.inl ⟨by rfl, fun γ' w' hE => ?_⟩) (Ext.refl _ _) ?_; (have hcc := (cell_of (hE.rl.blk _ hb1)).trans hcx1; refine ⟨run_eq_of fun K hK => (by go_simp; exact hK), fun e he => ?_⟩; (have hm := mem_listed he; simp [go_sem, *] at hm; subst hm; exact Ev.read (hE.F _ hb1))); try walk_nrm)
    (refine anyI_take relyI_then (i := 4) (v := .slice (some ⟨b2, o2, none⟩) zs.length c2) rfl (by kernel_rfl) (by kernel_rfl) (by kernel_rfl) (.inl ⟨by rfl, fun γ' w' hE => ?_⟩) (Ext.refl _ _) ?_; (skip; refine ⟨run_eq_of fun K hK => (by go_simp; exact hK), fun e he => ?_⟩; (rw [listed_nil (by simp [go_sem, *])] at he; simp at he)); try walk_nrm)
    (refine anyI_take relyI_then (i := 5) (v := .int .i64 k) rfl (by kernel_rfl) (by kernel_rfl) (by kernel_rfl) (.inl ⟨by rfl, fun γ' w' hE => ?_⟩) (Ext.refl _ _) ?_; (skip; refine ⟨run_eq_of fun K hK => (by go_simp; exact hK), fun e he => ?_⟩; (rw [listed_nil (by simp [go_sem, *])] at he; simp at he)); try walk_nrm)
    (refine anyI_take relyI_then (i := 6) (v := .pointer (some ⟨b2, o2 + k, none⟩)) rfl (by kernel_rfl) (by kernel_rfl) (by kernel_rfl) (.inl ⟨by rfl, fun γ' w' hE => ?_⟩) (Ext.refl _ _) ?_; (skip; refine ⟨run_eq_of fun K hK => (by go_simp; exact hK), fun e he => ?_⟩; (rw [listed_nil (by simp [go_sem, *])] at he; simp at he)); try walk_nrm)
    (refine anyI_take relyI_then (i := 7) (v := .int .i64 x) rfl (by kernel_rfl) (by kernel_rfl) (by kernel_rfl) (.inl ⟨by rfl, fun γ' w' hE => ?_⟩) (Ext.refl _ _) ?_; (have hcc := (cell_of (hE.rl.blk _ hb2)).trans hcx2; refine ⟨run_eq_of fun K hK => (by go_simp; exact hK), fun e he => ?_⟩; (have hm := mem_listed he; simp [go_sem, *] at hm; subst hm; exact Ev.read (hE.F _ hb2))); try walk_nrm)
    (refine anyI_take relyI_then (i := 8) (v := .bool false) rfl (by kernel_rfl) (by kernel_rfl) (by kernel_rfl) (.inl ⟨by rfl, fun γ' w' hE => ?_⟩) (Ext.refl _ _) ?_; (skip; refine ⟨run_eq_of fun K hK => (by go_simp; exact hK), fun e he => ?_⟩; (rw [listed_nil (by simp [go_sem, *])] at he; simp at he)); try walk_nrm)
    refine anyI_done (by kernel_rfl) ?_ _
    simp only [thenI]
    repeat (first | ((first | refine wpI_seq ?_ | refine wpI_block ?_ | refine wpI_skip ?_ | refine wpI_label ?_ | refine wpI_ret ?_ | refine wpI_exit ?_ | refine opI_nil ?_); try simp only [thenI, blkI, if_true, if_false, reduceIte, Nat.reduceEqDiff]) | (refine wpI_region ?_; simp only [List.size_toArray, List.length_cons, List.length_nil, Nat.reduceAdd, Nat.zero_add, List.range, List.range.loop]) | (refine opI_unwanted rfl (by rfl) ?_; try walk_nrm) | (refine opI_k rfl (by rfl) (fun w₁ hR K hK => ?_); skip; go_simp; refine hK _ (fun e he => ?_) ?_; (first | done | ((rw [listed_nil (by simp [go_sem, *])] at he; simp at he))); (try clear hc₁); (clear hK K hR; clear w₁); (try walk_nrm)))
    (refine wpI_cond (t := false) rfl ?_; simp only [if_true, if_false, Bool.false_eq_true, reduceIte])
    repeat (first | ((first | refine wpI_seq ?_ | refine wpI_block ?_ | refine wpI_skip ?_ | refine wpI_label ?_ | refine wpI_ret ?_ | refine wpI_exit ?_ | refine opI_nil ?_); try simp only [thenI, blkI, if_true, if_false, reduceIte, Nat.reduceEqDiff]) | (refine wpI_region ?_; simp only [List.size_toArray, List.length_cons, List.length_nil, Nat.reduceAdd, Nat.zero_add, List.range, List.range.loop]) | (refine opI_unwanted rfl (by rfl) ?_; try walk_nrm) | (refine opI_k rfl (by rfl) (fun w₁ hR K hK => ?_); skip; go_simp; refine hK _ (fun e he => ?_) ?_; (first | done | ((rw [listed_nil (by simp [go_sem, *])] at he; simp at he))); (try clear hc₁); (clear hK K hR; clear w₁); (try walk_nrm)))
    exact ⟨zs.length - (k + 1), by omega, Ext.refl _ _, k + 1, _, _, _, _, _, _, _, _, _, _, _, _, _, _, _, _, _, _, _, _, _, _, _, rfl, by omega, rfl, e5.out, by first | rfl | trivial, by first | rfl | trivial⟩
  · refine wpI_cond rfl ?_
    simp only [hlt, decide_false, if_false, Bool.false_eq_true]
    obtain rfl : k = zs.length := by omega
    repeat (first | ((first | refine wpI_seq ?_ | refine wpI_block ?_ | refine wpI_skip ?_ | refine wpI_label ?_ | refine wpI_ret ?_ | refine wpI_exit ?_ | refine opI_nil ?_); try simp only [thenI, blkI, if_true, if_false, reduceIte, Nat.reduceEqDiff]) | (refine wpI_region ?_; simp only [List.size_toArray, List.length_cons, List.length_nil, Nat.reduceAdd, Nat.zero_add, List.range, List.range.loop]) | (refine opI_unwanted rfl (by rfl) ?_; try walk_nrm) | (refine opI_k rfl (by rfl) (fun w₁ hR K hK => ?_); skip; go_simp; refine hK _ (fun e he => ?_) ?_; (first | done | ((rw [listed_nil (by simp [go_sem, *])] at he; simp at he))); (try clear hc₁); (clear hK K hR; clear w₁); (try walk_nrm)))
    refine ⟨rfl, _, resultsC_tmp rfl _, ?_⟩
    exact ⟨rfl, rfl, rfl⟩
set_option maxHeartbeats 4000000 in
set_option maxRecDepth 100000 in
theorem hasInt_c (main : Bool) (X : Pha) (γ : Gh) (w : World) (v : Value) (zs : List Int) (r : Int) (hT : RowN γ w v zs) (hn : zs.length ≤ 1048576) :
    CallsI Try.prog main X 25 #[v, .int .i64 r] γ w fun γ' u w' => γ' = γ ∧ w' = w ∧ u = .bool (zs.contains r) := by
  obtain ⟨p, c, rfl, hx⟩ := hT
  (refine callsI_of Try.func25 (by rfl) rfl ?_; simp only [Try.ntmps25, List.size_toArray, List.length_cons, List.length_nil, Nat.reduceAdd, Nat.reduceSub, Array.replicate_succ, Array.replicate_zero, List.push_toArray, List.append_toArray, List.nil_append, List.cons_append])
  repeat (first | ((first | refine wpI_seq ?_ | refine wpI_block ?_ | refine wpI_skip ?_ | refine wpI_label ?_ | refine wpI_ret ?_ | refine wpI_exit ?_ | refine opI_nil ?_); try simp only [thenI, blkI, if_true, if_false, reduceIte, Nat.reduceEqDiff]) | (refine wpI_region ?_; simp only [List.size_toArray, List.length_cons, List.length_nil, Nat.reduceAdd, Nat.zero_add, List.range, List.range.loop]) | (refine opI_unwanted rfl (by rfl) ?_; try walk_nrm) | (refine opI_k rfl (by rfl) (fun w₁ hR K hK => ?_); skip; go_simp; refine hK _ (fun e he => ?_) ?_; (first | done | ((rw [listed_nil (by simp [go_sem, *])] at he; simp at he))); (try clear hc₁); (clear hK K hR; clear w₁); (try walk_nrm)))
  refine wpI_loop (fun m γ' a' w' => γ' = γ ∧ w' = w ∧ ∃ (k : Nat) (kz : Int) (u2 u3 u6 u7 u8 u9 u10 u11 u12 u13 u14 u15 u16 u17 : Value), a' = ⟨#[.slice p zs.length c, .int .i64 r, u2, u3, .bool false, .int .i64 kz, u6, u7, u8, u9, u10, u11, u12, u13, u14, u15, u16, u17], []⟩ ∧ k ≤ zs.length ∧ m = zs.length - k ∧ kz = k ∧ ∀ u ∈ zs.take k, u ≠ r) zs.length
    ⟨rfl, rfl, 0, _, _, _, _, _, _, _, _, _, _, _, _, _, _, _, rfl, Nat.zero_le _, rfl, rfl, by simp⟩ ?_
  rintro m γ' a' w' ⟨rfl, rfl, k, kz, u2, u3, u6, u7, u8, u9, u10, u11, u12, u13, u14, u15, u16, u17, rfl, hk, rfl, rfl, hall⟩
  repeat (first | ((first | refine wpI_seq ?_ | refine wpI_block ?_ | refine wpI_skip ?_ | refine wpI_label ?_ | refine wpI_ret ?_ | refine wpI_exit ?_ | refine opI_nil ?_); try simp only [thenI, blkI, if_true, if_false, reduceIte, Nat.reduceEqDiff]) | (refine wpI_region ?_; simp only [List.size_toArray, List.length_cons, List.length_nil, Nat.reduceAdd, Nat.zero_add, List.range, List.range.loop]) | (refine opI_unwanted rfl (by rfl) ?_; try walk_nrm) | (refine opI_k rfl (by rfl) (fun w₁ hR K hK => ?_); skip; go_simp; refine hK _ (fun e he => ?_) ?_; (first | done | ((rw [listed_nil (by simp [go_sem, *])] at he; simp at he))); (try clear hc₁); (clear hK K hR; clear w₁); (try walk_nrm)))
  by_cases hlt : k < zs.length
  · refine wpI_cond rfl ?_
    simp only [hlt, decide_true, if_true]
    obtain ⟨u, hu⟩ : ∃ u, Hd (zs[k]? = some u) := ⟨_, ⟨List.getElem?_eq_getElem hlt⟩⟩
    obtain ⟨b, o, rfl, hb, hc⟩ := hx k u hu.out
    have hk0 : (0 : Int) ≤ (k : Int) := by omega
    have hki : (k : Int) < (zs.length : Int) := by omega
    repeat (first | ((first | refine wpI_seq ?_ | refine wpI_block ?_ | refine wpI_skip ?_ | refine wpI_label ?_ | refine wpI_ret ?_ | refine wpI_exit ?_ | refine opI_nil ?_); try simp only [thenI, blkI, if_true, if_false, reduceIte, Nat.reduceEqDiff]) | (refine wpI_region ?_; simp only [List.size_toArray, List.length_cons, List.length_nil, Nat.reduceAdd, Nat.zero_add, List.range, List.range.loop]) | (refine opI_unwanted rfl (by rfl) ?_; try walk_nrm) | (refine opI_k rfl (by rfl) (fun w₁ hR K hK => ?_); skip; go_simp; refine hK _ (fun e he => ?_) ?_; (first | done | ((rw [listed_nil (by simp [go_sem, *])] at he; simp at he))); (try clear hc₁); (clear hK K hR; clear w₁); (try walk_nrm)))
    (refine opI_k rfl (by rfl) (fun w₁ hR K hK => ?_); have hc₁ := hR.get hb hc; go_simp; refine hK _ (fun e he => ?_) ?_; (first | done | ((have hm := mem_listed he; simp [go_sem, *] at hm; subst hm; exact Ev.read hb))); (try clear hc₁); (clear hK K hR; clear w₁); (try walk_nrm))
    repeat (first | ((first | refine wpI_seq ?_ | refine wpI_block ?_ | refine wpI_skip ?_ | refine wpI_label ?_ | refine wpI_ret ?_ | refine wpI_exit ?_ | refine opI_nil ?_); try simp only [thenI, blkI, if_true, if_false, reduceIte, Nat.reduceEqDiff]) | (refine wpI_region ?_; simp only [List.size_toArray, List.length_cons, List.length_nil, Nat.reduceAdd, Nat.zero_add, List.range, List.range.loop]) | (refine opI_unwanted rfl (by rfl) ?_; try walk_nrm) | (refine opI_k rfl (by rfl) (fun w₁ hR K hK => ?_); skip; go_simp; refine hK _ (fun e he => ?_) ?_; (first | done | ((rw [listed_nil (by simp [go_sem, *])] at he; simp at he))); (try clear hc₁); (clear hK K hR; clear w₁); (try walk_nrm)))
    by_cases he : u = r
    · have hv : Hd (zs.contains r = true) := ⟨by simpa using (he ▸ List.mem_of_getElem? hu.out : r ∈ zs)⟩
      refine wpI_cond (t := true) (by simp [Act.eval, he]) ?_
      clear he
      simp only [if_true]
      repeat (first | ((first | refine wpI_seq ?_ | refine wpI_block ?_ | refine wpI_skip ?_ | refine wpI_label ?_ | refine wpI_ret ?_ | refine wpI_exit ?_ | refine opI_nil ?_); try simp only [thenI, blkI, if_true, if_false, reduceIte, Nat.reduceEqDiff]) | (refine wpI_region ?_; simp only [List.size_toArray, List.length_cons, List.length_nil, Nat.reduceAdd, Nat.zero_add, List.range, List.range.loop]) | (refine opI_unwanted rfl (by rfl) ?_; try walk_nrm) | (refine opI_k rfl (by rfl) (fun w₁ hR K hK => ?_); skip; go_simp; refine hK _ (fun e he => ?_) ?_; (first | done | ((rw [listed_nil (by simp [go_sem, *])] at he; simp at he))); (try clear hc₁); (clear hK K hR; clear w₁); (try walk_nrm)))
      exact ⟨rfl, _, resultsC_tmp rfl _, rfl, rfl, by rw [hv.out]; rfl⟩
    · have e7 : Hd (IntKind.i64.wrap ((k : Int) + 1) = ((k + 1 : Nat) : Int)) := ⟨by rw [IntKind.wrap_i64]; omega⟩
      refine wpI_cond (t := false) (by simp [Act.eval, he]) ?_
      have he' : Hd (u ≠ r) := ⟨he⟩
      clear he
      simp only [if_false, Bool.false_eq_true]
      repeat (first | ((first | refine wpI_seq ?_ | refine wpI_block ?_ | refine wpI_skip ?_ | refine wpI_label ?_ | refine wpI_ret ?_ | refine wpI_exit ?_ | refine opI_nil ?_); try simp only [thenI, blkI, if_true, if_false, reduceIte, Nat.reduceEqDiff]) | (refine wpI_region ?_; simp only [List.size_toArray, List.length_cons, List.length_nil, Nat.reduceAdd, Nat.zero_add, List.range, List.range.loop]) | (refine opI_unwanted rfl (by rfl) ?_; try walk_nrm) | (refine opI_k rfl (by rfl) (fun w₁ hR K hK => ?_); skip; go_simp; refine hK _ (fun e he => ?_) ?_; (first | done | ((rw [listed_nil (by simp [go_sem, *])] at he; simp at he))); (try clear hc₁); (clear hK K hR; clear w₁); (try walk_nrm)))
      refine ⟨zs.length - (k + 1), by omega, trivial, trivial, k + 1, _, _, _, _, _, _, _, _, _, _, _, _, _, _, _, rfl, by omega, rfl, e7.out, fun r' hr => ?_⟩
      rw [List.take_add_one, hu.out] at hr
      rcases List.mem_append.1 hr with h | h
      · exact hall r' h
      · simp at h; subst h; exact he'.out
  · refine wpI_cond rfl ?_
    simp only [hlt, decide_false, if_false, Bool.false_eq_true]
    obtain rfl : k = zs.length := by omega
    have hv : Hd (zs.contains r = false) := ⟨by
      rw [List.take_length] at hall
      simp only [List.contains_eq_mem, decide_eq_false_iff_not]
      exact fun h => hall r h rfl⟩
    repeat (first | ((first | refine wpI_seq ?_ | refine wpI_block ?_ | refine wpI_skip ?_ | refine wpI_label ?_ | refine wpI_ret ?_ | refine wpI_exit ?_ | refine opI_nil ?_); try simp only [thenI, blkI, if_true, if_false, reduceIte, Nat.reduceEqDiff]) | (refine wpI_region ?_; simp only [List.size_toArray, List.length_cons, List.length_nil, Nat.reduceAdd, Nat.zero_add, List.range, List.range.loop]) | (refine opI_unwanted rfl (by rfl) ?_; try walk_nrm) | (refine opI_k rfl (by rfl) (fun w₁ hR K hK => ?_); skip; go_simp; refine hK _ (fun e he => ?_) ?_; (first | done | ((rw [listed_nil (by simp [go_sem, *])] at he; simp at he))); (try clear hc₁); (clear hK K hR; clear w₁); (try walk_nrm)))
    exact ⟨rfl, _, resultsC_tmp rfl _, rfl, rfl, by rw [hv.out]; rfl⟩
/-- a row that one may write; R: its block's place -/
def RowW (γ : Gh) (w : World) (R : Nat → Prop) (v : Value) (n : Nat) : Prop :=
  ∃ p c, v = .slice p n c ∧ ∀ i, i < n → ∃ b, p = some ⟨b, 0, none⟩ ∧ R b ∧ γ.F b ∧ γ.W b ∧ w.frozen? ⟨b, i, none⟩ = false ∧ ∃ u, w.cell? ⟨b, i, none⟩ = some u
theorem RowW.ext {γ γ' : Gh} {w w' : World} {R : Nat → Prop} {v : Value} {n : Nat} (h : RowW γ w R v n) (e : Ext γ w γ' w') : RowW γ' w' R v n := by
  obtain ⟨p, c, rfl, hx⟩ := h
  refine ⟨p, c, rfl, fun i hi => ?_⟩
  obtain ⟨b, rfl, hR, hF, hW, hz, u, hu⟩ := hx i hi
  exact ⟨b, rfl, hR, e.F b hF, e.W b hW, (World.frozen?_of_block (e.rl.blk b hF)).trans hz, u, (cell_of (a := ⟨b, i, none⟩) (e.rl.blk b hF)).trans hu⟩
theorem RowW.set {γ : Gh} {w : World} {R : Nat → Prop} {v : Value} {n : Nat} (h : RowW γ w R v n) (x : Addr) (y : Value) : RowW γ (w.setCell x y) R v n := by
  obtain ⟨p, c, rfl, hx⟩ := h
  refine ⟨p, c, rfl, fun i hi => ?_⟩
  obtain ⟨b, rfl, hR, hF, hW, hz, u, hu⟩ := hx i hi
  exact ⟨b, rfl, hR, hF, hW, by rw [fz_set]; exact hz, cell_set hu x y⟩
/-- what marking turns: single cells of blocks at R -/
structure Mk (γ₀ : Gh) (w₀ : World) (γ : Gh) (R : Nat → Prop) (w w' : World) : Prop where
  ext : Ext γ₀ w₀ γ w'
  lies : Lies γ w'
  blk : ∀ b, ¬ R b → w'.heap[b]? = w.heap[b]?
  fz : ∀ a, w'.frozen? a = w.frozen? a
  ex : ∀ a u, w.cell? a = some u → ∃ u', w'.cell? a = some u'
section
variable {γ₀ γ : Gh} {w₀ w w' w₁ : World} {R : Nat → Prop}
theorem Mk.refl (h : Ext γ₀ w₀ γ w) (hL : Lies γ w) : Mk γ₀ w₀ γ R w w := ⟨h, hL, fun _ _ => rfl, fun _ => rfl, fun _ u h => ⟨u, h⟩⟩
theorem Mk.set (h : Mk γ₀ w₀ γ R w w') (hL₀ : Lies γ₀ w₀) (hR : ∀ b, R b → w₀.heap.size ≤ b) {x : Addr} (hx : R x.block) (v : Value) : Mk γ₀ w₀ γ R w (w'.setCell x v) :=
  ⟨h.ext.set hL₀ (hR _ hx) v, h.lies.set x v, fun b hb => (set_other (fun e => hb (by rw [e]; exact hx)) v).trans (h.blk b hb), fun a => (fz_set w' x a v).trans (h.fz a), fun a u hu => let ⟨_, h1⟩ := h.ex a u hu; cell_set h1 x v⟩
theorem Mk.trans (h : Mk γ₀ w₀ γ R w w') (k : Mk γ₀ w₀ γ R w' w₁) : Mk γ₀ w₀ γ R w w₁ :=
  ⟨k.ext, k.lies, fun b hb => (k.blk b hb).trans (h.blk b hb), fun a => (k.fz a).trans (h.fz a), fun a u hu => let ⟨_, h1⟩ := h.ex a u hu; k.ex a _ h1⟩
theorem RowW.mk {v : Value} {n : Nat} {R' : Nat → Prop} (h : RowW γ w R' v n) (k : Mk γ₀ w₀ γ R w w') : RowW γ w' R' v n := by
  obtain ⟨p, c, rfl, hx⟩ := h
  refine ⟨p, c, rfl, fun i hi => ?_⟩
  obtain ⟨b, rfl, hR, hF, hW, hz, u, hu⟩ := hx i hi
  exact ⟨b, rfl, hR, hF, hW, (k.fz _).trans hz, k.ex _ u hu⟩
end
def upTo (n : Nat) : List Int := (List.range n).map fun (i : Nat) => (i : Int) + 1
theorem upTo_get {n i : Nat} {x : Int} (h : (upTo n)[i]? = some x) : i < n ∧ x = (i : Int) + 1 := by
  simp only [upTo, List.getElem?_map, Option.map_eq_some_iff] at h
  obtain ⟨j, hj, rfl⟩ := h
  obtain ⟨h1, h2⟩ := List.getElem?_eq_some_iff.1 hj
  simp at h1 h2
  exact ⟨h1, by rw [h2]⟩
theorem upTo_length (n : Nat) : (upTo n).length = n := by simp [upTo]
set_option maxHeartbeats 4000000 in
set_option maxRecDepth 100000 in
theorem markIntS_c (main : Bool) (X : Pha) (γ₀ γ : Gh) (w₀ w : World) (R : Nat → Prop) (hR : ∀ b, R b → w₀.heap.size ≤ b) (v : Value) (n : Nat) (hE : Ext γ₀ w₀ γ w) (hL₀ : Lies γ₀ w₀) (hL : Lies γ w) (hW : RowW γ w R v n) (hn : n ≤ 1048576) :
    CallsI Try.prog main X 28 #[v, .int .i64 1] γ w fun γ' r w' => γ' = γ ∧ r = .int .i64 ((n : Int) + 1) ∧ Mk γ₀ w₀ γ R w w' ∧ RowN γ w' v (upTo n) := by
  have hK0 : Mk γ₀ w₀ γ R w w := Mk.refl hE hL
  obtain ⟨p, c, rfl, hx⟩ := hW
  have hn' := Hd.mk hn
  (refine callsI_of Try.func28 (by rfl) rfl ?_; simp only [Try.ntmps28, List.size_toArray, List.length_cons, List.length_nil, Nat.reduceAdd, Nat.reduceSub, Array.replicate_succ, Array.replicate_zero, List.push_toArray, List.append_toArray, List.nil_append, List.cons_append])
  repeat (first | ((first | refine wpI_seq ?_ | refine wpI_block ?_ | refine wpI_skip ?_ | refine wpI_label ?_ | refine wpI_ret ?_ | refine wpI_exit ?_ | refine opI_nil ?_); try simp only [thenI, blkI, if_true, if_false, reduceIte, Nat.reduceEqDiff]) | (refine wpI_region ?_; simp only [List.size_toArray, List.length_cons, List.length_nil, Nat.reduceAdd, Nat.zero_add, List.range, List.range.loop]) | (refine opI_unwanted rfl (by rfl) ?_; try walk_nrm) | (refine opI_k rfl (by rfl) (fun w₁ hR K hK => ?_); skip; go_simp; refine hK _ (fun e he => ?_) ?_; (first | done | ((rw [listed_nil (by simp [go_sem, *])] at he; simp at he))); (try clear hc₁); (clear hK K hR; clear w₁); (try walk_nrm)))
  refine wpI_loop (fun m γ' a' w' => ∃ (k : Nat) (kz lz : Int) (u2 u3 u6 u7 u8 u9 u10 u11 u12 u13 u14 u15 u16 u17 u18 : Value), a' = ⟨#[.slice p n c, .int .i64 lz, u2, u3, .int .i64 0, .int .i64 kz, u6, u7, u8, u9, u10, u11, u12, u13, u14, u15, u16, u17, u18], []⟩ ∧ k ≤ n ∧ m = n - k ∧ kz = k ∧ lz = (k : Int) + 1 ∧ γ' = γ ∧ Mk γ₀ w₀ γ R w w' ∧ ∀ i, i < k → ∃ b, p = some ⟨b, 0, none⟩ ∧ w'.cell? ⟨b, i, none⟩ = some (.int .i64 ((i : Int) + 1))) n
    ⟨0, _, _, _, _, _, _, _, _, _, _, _, _, _, _, _, _, _, rfl, Nat.zero_le _, rfl, rfl, rfl, rfl, hK0, fun i hi => absurd hi (Nat.not_lt_zero i)⟩ ?_
  clear hK0 hE hL
  rintro m γ' a' w' ⟨k, kz, lz, u2, u3, u6, u7, u8, u9, u10, u11, u12, u13, u14, u15, u16, u17, u18, rfl, hk, rfl, rfl, rfl, rfl, hK, hcs⟩
  repeat (first | ((first | refine wpI_seq ?_ | refine wpI_block ?_ | refine wpI_skip ?_ | refine wpI_label ?_ | refine wpI_ret ?_ | refine wpI_exit ?_ | refine opI_nil ?_); try simp only [thenI, blkI, if_true, if_false, reduceIte, Nat.reduceEqDiff]) | (refine wpI_region ?_; simp only [List.size_toArray, List.length_cons, List.length_nil, Nat.reduceAdd, Nat.zero_add, List.range, List.range.loop]) | (refine opI_unwanted rfl (by rfl) ?_; try walk_nrm) | (refine opI_k rfl (by rfl) (fun w₁ hR K hK => ?_); skip; go_simp; refine hK _ (fun e he => ?_) ?_; (first | done | ((rw [listed_nil (by simp [go_sem, *])] at he; simp at he))); (try clear hc₁); (clear hK K hR; clear w₁); (try walk_nrm)))
  by_cases hlt : k < n
  · refine wpI_cond rfl ?_
    simp only [hlt, decide_true, if_true]
    obtain ⟨b, rfl, hRb, hF, hWb, hz, u0, hu0⟩ := hx k hlt
    obtain ⟨u, hu⟩ := hK.ex _ u0 hu0
    have hzz := (hK.fz ⟨b, k, none⟩).trans hz
    have hk0 : (0 : Int) ≤ (k : Int) := by omega
    have hki : (k : Int) < (n : Int) := by omega
    have e5 : Hd (IntKind.i64.wrap ((k : Int) + 1) = ((k + 1 : Nat) : Int)) := ⟨by have := hn'.out; rw [IntKind.wrap_i64]; omega⟩
    have e1 : Hd (IntKind.i64.wrap ((k : Int) + 1 + 1) = ((k + 1 : Nat) : Int) + 1) := ⟨by have := hn'.out; rw [IntKind.wrap_i64]; omega⟩
    have hset : Hd (∀ i, i < k + 1 → ∃ b', some (⟨b, 0, none⟩ : Addr) = some ⟨b', 0, none⟩ ∧ (w'.setCell ⟨b, k, none⟩ (.int .i64 ((k : Int) + 1))).cell? ⟨b', i, none⟩ = some (.int .i64 ((i : Int) + 1))) := ⟨fun i hi => by
      refine ⟨b, rfl, ?_⟩
      by_cases e : i = k
      · subst e; exact set_same hu _
      · obtain ⟨b', hb', hc'⟩ := hcs i (by omega)
        obtain rfl : b = b' := by simpa using hb'
        rw [set_ne' (by simp [e])]; exact hc'⟩
    clear hz hu0 hcs
    repeat (first | ((first | refine wpI_seq ?_ | refine wpI_block ?_ | refine wpI_skip ?_ | refine wpI_label ?_ | refine wpI_ret ?_ | refine wpI_exit ?_ | refine opI_nil ?_); try simp only [thenI, blkI, if_true, if_false, reduceIte, Nat.reduceEqDiff]) | (refine wpI_region ?_; simp only [List.size_toArray, List.length_cons, List.length_nil, Nat.reduceAdd, Nat.zero_add, List.range, List.range.loop]) | (refine opI_unwanted rfl (by rfl) ?_; try walk_nrm) | (refine opI_k rfl (by rfl) (fun w₁ hR K hK => ?_); skip; go_simp; refine hK _ (fun e he => ?_) ?_; (first | done | ((rw [listed_nil (by simp [go_sem, *])] at he; simp at he))); (try clear hc₁); (clear hK K hR; clear w₁); (try walk_nrm)))
    (refine opI_st (⟨b, k, none⟩) (u) ((.int .i64 ((k : Int) + 1))) rfl (by rfl) hu hzz ⟨hWb, hF⟩ (fun w₁ hc₁ hz₁ K hK => ?_); go_simp; refine hK _ (fun e he => ?_) ?_; (first | done | (have hm := mem_listed he; simp [go_sem, evS_bool, evS_slice, evS_int, evS_ptr, storedEv, *] at hm; exact hm)); (clear hK K hc₁ hz₁; clear w₁); (try walk_nrm))
    repeat (first | ((first | refine wpI_seq ?_ | refine wpI_block ?_ | refine wpI_skip ?_ | refine wpI_label ?_ | refine wpI_ret ?_ | refine wpI_exit ?_ | refine opI_nil ?_); try simp only [thenI, blkI, if_true, if_false, reduceIte, Nat.reduceEqDiff]) | (refine wpI_region ?_; simp only [List.size_toArray, List.length_cons, List.length_nil, Nat.reduceAdd, Nat.zero_add, List.range, List.range.loop]) | (refine opI_unwanted rfl (by rfl) ?_; try walk_nrm) | (refine opI_k rfl (by rfl) (fun w₁ hR K hK => ?_); skip; go_simp; refine hK _ (fun e he => ?_) ?_; (first | done | ((rw [listed_nil (by simp [go_sem, *])] at he; simp at he))); (try clear hc₁); (clear hK K hR; clear w₁); (try walk_nrm)))
    exact ⟨n - (k + 1), by omega, k + 1, _, _, _, _, _, _, _, _, _, _, _, _, _, _, _, _, _, rfl, by omega, rfl, e5.out, e1.out, by first | rfl | trivial, hK.set hL₀ hR hRb _, hset.out⟩
  · refine wpI_cond rfl ?_
    simp only [hlt, decide_false, if_false, Bool.false_eq_true]
    obtain rfl : k = n := by omega
    have hrow : RowN γ' w' (.slice p k c) (upTo k) := ⟨p, c, by rw [upTo_length], fun i x hi => by
      obtain ⟨hi', rfl⟩ := upTo_get hi
      obtain ⟨b, rfl, _, hF, _⟩ := hx i hi'
      obtain ⟨b', hb', hc'⟩ := hcs i hi'
      obtain rfl : b = b' := by simpa using hb'
      exact ⟨b, 0, rfl, hF, by rw [Nat.zero_add]; exact hc'⟩⟩
    clear hcs
    repeat (first | ((first | refine wpI_seq ?_ | refine wpI_block ?_ | refine wpI_skip ?_ | refine wpI_label ?_ | refine wpI_ret ?_ | refine wpI_exit ?_ | refine opI_nil ?_); try simp only [thenI, blkI, if_true, if_false, reduceIte, Nat.reduceEqDiff]) | (refine wpI_region ?_; simp only [List.size_toArray, List.length_cons, List.length_nil, Nat.reduceAdd, Nat.zero_add, List.range, List.range.loop]) | (refine opI_unwanted rfl (by rfl) ?_; try walk_nrm) | (refine opI_k rfl (by rfl) (fun w₁ hR K hK => ?_); skip; go_simp; refine hK _ (fun e he => ?_) ?_; (first | done | ((rw [listed_nil (by simp [go_sem, *])] at he; simp at he))); (try clear hc₁); (clear hK K hR; clear w₁); (try walk_nrm)))
    refine ⟨rfl, _, resultsC_tmp rfl _, ?_⟩
    exact ⟨rfl, rfl, hK, hrow⟩
set_option maxHeartbeats 4000000 in
set_option maxRecDepth 100000 in
theorem heldIntS_c (main : Bool) (X : Pha) (γ : Gh) (w : World) (v : Value) (n : Nat) (hT : RowN γ w v (upTo n)) (hn : n ≤ 1048576) :
    CallsI Try.prog main X 29 #[v, .int .i64 1] γ w fun γ' r w' => γ' = γ ∧ w' = w ∧ r = .int .i64 ((n : Int) + 1) := by
  obtain ⟨p, c, rfl, hx⟩ := hT
  rw [upTo_length]
  have hn' := Hd.mk hn
  (refine callsI_of Try.func29 (by rfl) rfl ?_; simp only [Try.ntmps29, List.size_toArray, List.length_cons, List.length_nil, Nat.reduceAdd, Nat.reduceSub, Array.replicate_succ, Array.replicate_zero, List.push_toArray, List.append_toArray, List.nil_append, List.cons_append])
  repeat (first | ((first | refine wpI_seq ?_ | refine wpI_block ?_ | refine wpI_skip ?_ | refine wpI_label ?_ | refine wpI_ret ?_ | refine wpI_exit ?_ | refine opI_nil ?_); try simp only [thenI, blkI, if_true, if_false, reduceIte, Nat.reduceEqDiff]) | (refine wpI_region ?_; simp only [List.size_toArray, List.length_cons, List.length_nil, Nat.reduceAdd, Nat.zero_add, List.range, List.range.loop]) | (refine opI_unwanted rfl (by rfl) ?_; try walk_nrm) | (refine opI_k rfl (by rfl) (fun w₁ hR K hK => ?_); skip; go_simp; refine hK _ (fun e he => ?_) ?_; (first | done | ((rw [listed_nil (by simp [go_sem, *])] at he; simp at he))); (try clear hc₁); (clear hK K hR; clear w₁); (try walk_nrm)))
  refine wpI_loop (fun m γ' a' w' => γ' = γ ∧ w' = w ∧ ∃ (k : Nat) (kz lz : Int) (u2 u3 u6 u7 u8 u9 u10 u11 u12 u13 u14 u15 u16 u17 u18 u19 u20 : Value), a' = ⟨#[.slice p n c, .int .i64 lz, u2, u3, .int .i64 0, .int .i64 kz, u6, u7, u8, u9, u10, u11, u12, u13, u14, u15, u16, u17, u18, u19, u20], []⟩ ∧ k ≤ n ∧ m = n - k ∧ kz = k ∧ lz = (k : Int) + 1) n
    ⟨rfl, rfl, 0, _, _, _, _, _, _, _, _, _, _, _, _, _, _, _, _, _, _, _, rfl, Nat.zero_le _, rfl, rfl, rfl⟩ ?_
  rintro m γ' a' w' ⟨rfl, rfl, k, kz, lz, u2, u3, u6, u7, u8, u9, u10, u11, u12, u13, u14, u15, u16, u17, u18, u19, u20, rfl, hk, rfl, rfl, rfl⟩
  repeat (first | ((first | refine wpI_seq ?_ | refine wpI_block ?_ | refine wpI_skip ?_ | refine wpI_label ?_ | refine wpI_ret ?_ | refine wpI_exit ?_ | refine opI_nil ?_); try simp only [thenI, blkI, if_true, if_false, reduceIte, Nat.reduceEqDiff]) | (refine wpI_region ?_; simp only [List.size_toArray, List.length_cons, List.length_nil, Nat.reduceAdd, Nat.zero_add, List.range, List.range.loop]) | (refine opI_unwanted rfl (by rfl) ?_; try walk_nrm) | (refine opI_k rfl (by rfl) (fun w₁ hR K hK => ?_); skip; go_simp; refine hK _ (fun e he => ?_) ?_; (first | done | ((rw [listed_nil (by simp [go_sem, *])] at he; simp at he))); (try clear hc₁); (clear hK K hR; clear w₁); (try walk_nrm)))
  by_cases hlt : k < n
  · refine wpI_cond rfl ?_
    simp only [hlt, decide_true, if_true]
    obtain ⟨b, o, rfl, hb, hc⟩ := hx k ((k : Int) + 1) (by simp [upTo, hlt])
    have hk0 : (0 : Int) ≤ (k : Int) := by omega
    have hki : (k : Int) < (n : Int) := by omega
    have e5 : Hd (IntKind.i64.wrap ((k : Int) + 1) = ((k + 1 : Nat) : Int)) := ⟨by have := hn'.out; rw [IntKind.wrap_i64]; omega⟩
    have e1 : Hd (IntKind.i64.wrap ((k : Int) + 1 + 1) = ((k + 1 : Nat) : Int) + 1) := ⟨by have := hn'.out; rw [IntKind.wrap_i64]; omega⟩
    repeat (first | ((first | refine wpI_seq ?_ | refine wpI_block ?_ | refine wpI_skip ?_ | refine wpI_label ?_ | refine wpI_ret ?_ | refine wpI_exit ?_ | refine opI_nil ?_); try simp only [thenI, blkI, if_true, if_false, reduceIte, Nat.reduceEqDiff]) | (refine wpI_region ?_; simp only [List.size_toArray, List.length_cons, List.length_nil, Nat.reduceAdd, Nat.zero_add, List.range, List.range.loop]) | (refine opI_unwanted rfl (by rfl) ?_; try walk_nrm) | (refine opI_k rfl (by rfl) (fun w₁ hR K hK => ?_); skip; go_simp; refine hK _ (fun e he => ?_) ?_; (first | done | ((rw [listed_nil (by simp [go_sem, *])] at he; simp at he))); (try clear hc₁); (clear hK K hR; clear w₁); (try walk_nrm)))
    (refine opI_k rfl (by rfl) (fun w₁ hR K hK => ?_); have hc₁ := hR.get hb hc; go_simp; refine hK _ (fun e he => ?_) ?_; (first | done | ((have hm := mem_listed he; simp [go_sem, *] at hm; subst hm; exact Ev.read hb))); (try clear hc₁); (clear hK K hR; clear w₁); (try walk_nrm))
    repeat (first | ((first | refine wpI_seq ?_ | refine wpI_block ?_ | refine wpI_skip ?_ | refine wpI_label ?_ | refine wpI_ret ?_ | refine wpI_exit ?_ | refine opI_nil ?_); try simp only [thenI, blkI, if_true, if_false, reduceIte, Nat.reduceEqDiff]) | (refine wpI_region ?_; simp only [List.size_toArray, List.length_cons, List.length_nil, Nat.reduceAdd, Nat.zero_add, List.range, List.range.loop]) | (refine opI_unwanted rfl (by rfl) ?_; try walk_nrm) | (refine opI_k rfl (by rfl) (fun w₁ hR K hK => ?_); skip; go_simp; refine hK _ (fun e he => ?_) ?_; (first | done | ((rw [listed_nil (by simp [go_sem, *])] at he; simp at he))); (try clear hc₁); (clear hK K hR; clear w₁); (try walk_nrm)))
    refine wpI_cond (t := false) (by simp [Act.eval]) ?_
    simp only [if_false, Bool.false_eq_true]
    repeat (first | ((first | refine wpI_seq ?_ | refine wpI_block ?_ | refine wpI_skip ?_ | refine wpI_label ?_ | refine wpI_ret ?_ | refine wpI_exit ?_ | refine opI_nil ?_); try simp only [thenI, blkI, if_true, if_false, reduceIte, Nat.reduceEqDiff]) | (refine wpI_region ?_; simp only [List.size_toArray, List.length_cons, List.length_nil, Nat.reduceAdd, Nat.zero_add, List.range, List.range.loop]) | (refine opI_unwanted rfl (by rfl) ?_; try walk_nrm) | (refine opI_k rfl (by rfl) (fun w₁ hR K hK => ?_); skip; go_simp; refine hK _ (fun e he => ?_) ?_; (first | done | ((rw [listed_nil (by simp [go_sem, *])] at he; simp at he))); (try clear hc₁); (clear hK K hR; clear w₁); (try walk_nrm)))
    exact ⟨n - (k + 1), by omega, trivial, trivial, k + 1, _, _, _, _, _, _, _, _, _, _, _, _, _, _, _, _, _, _, _, rfl, by omega, rfl, e5.out, e1.out⟩
  · refine wpI_cond rfl ?_
    simp only [hlt, decide_false, if_false, Bool.false_eq_true]
    obtain rfl : k = n := by omega
    repeat (first | ((first | refine wpI_seq ?_ | refine wpI_block ?_ | refine wpI_skip ?_ | refine wpI_label ?_ | refine wpI_ret ?_ | refine wpI_exit ?_ | refine opI_nil ?_); try simp only [thenI, blkI, if_true, if_false, reduceIte, Nat.reduceEqDiff]) | (refine wpI_region ?_; simp only [List.size_toArray, List.length_cons, List.length_nil, Nat.reduceAdd, Nat.zero_add, List.range, List.range.loop]) | (refine opI_unwanted rfl (by rfl) ?_; try walk_nrm) | (refine opI_k rfl (by rfl) (fun w₁ hR K hK => ?_); skip; go_simp; refine hK _ (fun e he => ?_) ?_; (first | done | ((rw [listed_nil (by simp [go_sem, *])] at he; simp at he))); (try clear hc₁); (clear hK K hR; clear w₁); (try walk_nrm)))
    exact ⟨rfl, _, resultsC_tmp rfl _, rfl, rfl, rfl⟩
end Go.Proofs.Ytndfookgkkefnaa
