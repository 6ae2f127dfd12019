/- Walks in company: equal tables are found equal. -/
import Derived.Test.YtndfookgkkefnaaBH1
namespace Go.Proofs.Ytndfookgkkefnaa
set_option linter.unusedSimpArgs false
set_option linter.unusedVariables false
set_option linter.unusedSectionVars false
open Go Go.Conc Go.RowKit
theorem ev_neq_bool (x y : Bool) (w : World) : Sem.events Try.prog (binOp .neq 4 (Value.bool x) (Value.bool y)) w #[] = #[] := by
  have ht : Try.prog.underlying 4 = some .bool := by kernel_rfl
  show Sem.events Try.prog (do pure (Value.bool (!(← Op.equal 4 (.bool x) (.bool y))))) w #[] = #[]
  have h : ∀ d, Sem.events Try.prog (Op.equalIn (d + 1) 4 (.bool x) (.bool y)) w #[] = #[] ∧ (Op.equalIn (d + 1) 4 (.bool x) (.bool y)).run Try.prog w = .ok (x == y) w := fun d => by
    simp [Op.equalIn, run_underlying ht]
  have h := h 9999
  simp only [Op.equal, Op.maxDepth]
  simp [h.1]
set_option maxHeartbeats 4000000 in
set_option maxRecDepth 100000 in
theorem eqBoolS_c (main : Bool) (X : Pha) (γ : Gh) (w : World) (v1 v2 : Value) (bs : List Bool) (h1 : RowI γ w v1 bs) (h2 : RowI γ w v2 bs) (hn : bs.length < 4611686018427387904) :
    CallsI Try.prog main X 44 #[v1, v2] γ w fun γ' r w' => γ' = γ ∧ w' = w ∧ r = .bool true := by
  obtain ⟨p1, c1, rfl, hx1⟩ := h1.form
  obtain ⟨p2, c2, rfl, hx2⟩ := h2.form
  (refine callsI_of Try.func44 (by rfl) rfl ?_; simp only [Try.ntmps44, List.size_toArray, List.length_cons, List.length_nil, Nat.reduceAdd, Nat.reduceSub, Array.replicate_succ, Array.replicate_zero, List.push_toArray, List.append_toArray, List.nil_append, List.cons_append])
  repeat (first | ((first | refine wpI_seq ?_ | refine wpI_block ?_ | refine wpI_skip ?_ | refine wpI_label ?_ | refine wpI_ret ?_ | refine wpI_exit ?_ | refine opI_nil ?_); try simp only [thenI, blkI, if_true, if_false, reduceIte, Nat.reduceEqDiff]) | (refine wpI_region ?_; simp only [List.size_toArray, List.length_cons, List.length_nil, Nat.reduceAdd, Nat.zero_add, List.range, List.range.loop]) | (refine opI_unwanted rfl (by rfl) ?_; try walk_nrm) | (refine opI_k rfl (by rfl) (fun w₁ hR K hK => ?_); skip; go_simp; refine hK _ (fun e he => ?_) ?_; (first | done | ((rw [listed_nil (by simp [go_sem, *])] at he; simp at he))); (try clear hc₁); (clear hK K hR; clear w₁); (try walk_nrm)))
  refine wpI_cond (t := false) (by simp [Act.eval]) ?_
  simp only [if_false, Bool.false_eq_true]
  repeat (first | ((first | refine wpI_seq ?_ | refine wpI_block ?_ | refine wpI_skip ?_ | refine wpI_label ?_ | refine wpI_ret ?_ | refine wpI_exit ?_ | refine opI_nil ?_); try simp only [thenI, blkI, if_true, if_false, reduceIte, Nat.reduceEqDiff]) | (refine wpI_region ?_; simp only [List.size_toArray, List.length_cons, List.length_nil, Nat.reduceAdd, Nat.zero_add, List.range, List.range.loop]) | (refine opI_unwanted rfl (by rfl) ?_; try walk_nrm) | (refine opI_k rfl (by rfl) (fun w₁ hR K hK => ?_); skip; go_simp; refine hK _ (fun e he => ?_) ?_; (first | done | ((rw [listed_nil (by simp [go_sem, *])] at he; simp at he))); (try clear hc₁); (clear hK K hR; clear w₁); (try walk_nrm)))
  refine wpI_loop (fun m γ' a' w' => Ext γ w γ' w' ∧ ∃ (k : Nat) (kz : Int) (u2 u3 u6 u7 u8 u9 u10 u11 u12 u13 u14 u15 u16 u17 u18 u19 u20 u21 u22 u23 u24 u25 : Value), a' = ⟨#[.slice p1 bs.length c1, .slice p2 bs.length c2, u2, u3, .bool false, .int .i64 kz, u6, u7, u8, u9, u10, u11, u12, u13, u14, u15, u16, u17, u18, u19, u20, u21, u22, u23, u24, u25], []⟩ ∧ k ≤ bs.length ∧ m = bs.length - k ∧ kz = k ∧ γ' = γ ∧ w' = w) bs.length
    ⟨Ext.refl _ _, 0, _, _, _, _, _, _, _, _, _, _, _, _, _, _, _, _, _, _, _, _, _, _, _, rfl, Nat.zero_le _, rfl, rfl, rfl, rfl⟩ ?_
  rintro m γ' a' w' ⟨_, k, kz, u2, u3, u6, u7, u8, u9, u10, u11, u12, u13, u14, u15, u16, u17, u18, u19, u20, u21, u22, u23, u24, u25, rfl, hk, rfl, rfl, rfl, rfl⟩
  repeat (first | ((first | refine wpI_seq ?_ | refine wpI_block ?_ | refine wpI_skip ?_ | refine wpI_label ?_ | refine wpI_ret ?_ | refine wpI_exit ?_ | refine opI_nil ?_); try simp only [thenI, blkI, if_true, if_false, reduceIte, Nat.reduceEqDiff]) | (refine wpI_region ?_; simp only [List.size_toArray, List.length_cons, List.length_nil, Nat.reduceAdd, Nat.zero_add, List.range, List.range.loop]) | (refine opI_unwanted rfl (by rfl) ?_; try walk_nrm) | (refine opI_k rfl (by rfl) (fun w₁ hR K hK => ?_); skip; go_simp; refine hK _ (fun e he => ?_) ?_; (first | done | ((rw [listed_nil (by simp [go_sem, *])] at he; simp at he))); (try clear hc₁); (clear hK K hR; clear w₁); (try walk_nrm)))
  by_cases hlt : k < bs.length
  · refine wpI_cond rfl ?_
    simp only [hlt, decide_true, if_true]
    obtain ⟨x, hxk⟩ : ∃ x, Hd (bs[k]? = some x) := ⟨_, ⟨List.getElem?_eq_getElem hlt⟩⟩
    obtain ⟨b1, o1, rfl, hb1, hcx1⟩ := hx1 k x hxk.out
    obtain ⟨b2, o2, rfl, hb2, hcx2⟩ := hx2 k x hxk.out
    have hk0 : (0 : Int) ≤ (k : Int) := by omega
    have hki : (k : Int) < (bs.length : Int) := by omega
    have e5 : Hd (IntKind.i64.wrap ((k : Int) + 1) = ((k + 1 : Nat) : Int)) := ⟨by rw [IntKind.wrap_i64]; omega⟩
    repeat (first | ((first | refine wpI_seq ?_ | refine wpI_block ?_ | refine wpI_skip ?_ | refine wpI_label ?_ | refine wpI_ret ?_ | refine wpI_exit ?_ | refine opI_nil ?_); try simp only [thenI, blkI, if_true, if_false, reduceIte, Nat.reduceEqDiff]) | (refine wpI_region ?_; simp only [List.size_toArray, List.length_cons, List.length_nil, Nat.reduceAdd, Nat.zero_add, List.range, List.range.loop]) | (refine opI_unwanted rfl (by rfl) ?_; try walk_nrm) | (refine opI_k rfl (by rfl) (fun w₁ hR K hK => ?_); skip; go_simp; refine hK _ (fun e he => ?_) ?_; (first | done | ((rw [listed_nil (by simp [go_sem, *])] at he; simp at he))); (try clear hc₁); (clear hK K hR; clear w₁); (try walk_nrm)))
    refine wpI_draw (γ₀ := γ') (w₀ := w') (by kernel_rfl) relyI_then ?_
    (refine anyI_take relyI_then (i := 0) (v := .slice (some ⟨b1, o1, none⟩) bs.length c1) rfl (by kernel_rfl) (by kernel_rfl) (by kernel_rfl) (.inl ⟨by rfl, fun γ' w' hE => ?_⟩) (Ext.refl _ _) ?_; (skip; refine ⟨run_eq_of fun K hK => (by go_simp; exact hK), fun e he => ?_⟩; (rw [listed_nil (by simp [go_sem, ev_neq_bool, *])] at he; simp at he)); try walk_nrm)
    (refine anyI_take relyI_then (i := 1) (v := .int .i64 k) rfl (by kernel_rfl) (by kernel_rfl) (by kernel_rfl) (.inl ⟨by rfl, fun γ' w' hE => ?_⟩) (Ext.refl _ _) ?_; (skip; refine ⟨run_eq_of fun K hK => (by go_simp; exact hK), fun e he => ?_⟩; (rw [listed_nil (by simp [go_sem, ev_neq_bool, *])] at he; simp at he)); try walk_nrm)
    (refine anyI_take relyI_then (i := 2) (v := .pointer (some ⟨b1, o1 + k, none⟩)) rfl (by kernel_rfl) (by kernel_rfl) (by kernel_rfl) (.inl ⟨by rfl, fun γ' w' hE => ?_⟩) (Ext.refl _ _) ?_; (skip; refine ⟨run_eq_of fun K hK => (by go_simp; exact hK), fun e he => ?_⟩; (rw [listed_nil (by simp [go_sem, ev_neq_bool, *])] at he; simp at he)); try walk_nrm)
    (refine anyI_take relyI_then (i := 3) (v := .bool x) rfl (by kernel_rfl) (by kernel_rfl) (by kernel_rfl) (.inl ⟨by rfl, fun γ' w' hE => ?_⟩) (Ext.refl _ _) ?_; (have hcc := (cell_of (hE.rl.blk _ hb1)).trans hcx1; refine ⟨run_eq_of fun K hK => (by go_simp; exact hK), fun e he => ?_⟩; (have hm := mem_listed he; simp [go_sem, *] at hm; subst hm; exact Ev.read (hE.F _ hb1))); try walk_nrm)
    (refine anyI_take relyI_then (i := 4) (v := .slice (some ⟨b2, o2, none⟩) bs.length c2) rfl (by kernel_rfl) (by kernel_rfl) (by kernel_rfl) (.inl ⟨by rfl, fun γ' w' hE => ?_⟩) (Ext.refl _ _) ?_; (skip; refine ⟨run_eq_of fun K hK => (by go_simp; exact hK), fun e he => ?_⟩; (rw [listed_nil (by simp [go_sem, ev_neq_bool, *])] at he; simp at he)); try walk_nrm)
    (refine anyI_take relyI_then (i := 5) (v := .int .i64 k) rfl (by kernel_rfl) (by kernel_rfl) (by kernel_rfl) (.inl ⟨by rfl, fun γ' w' hE => ?_⟩) (Ext.refl _ _) ?_; (skip; refine ⟨run_eq_of fun K hK => (by go_simp; exact hK), fun e he => ?_⟩; (rw [listed_nil (by simp [go_sem, ev_neq_bool, *])] at he; simp at he)); try walk_nrm)
    (refine anyI_take relyI_then (i := 6) (v := .pointer (some ⟨b2, o2 + k, none⟩)) rfl (by kernel_rfl) (by kernel_rfl) (by kernel_rfl) (.inl ⟨by rfl, fun γ' w' hE => ?_⟩) (Ext.refl _ _) ?_; (skip; refine ⟨run_eq_of fun K hK => (by go_simp; exact hK), fun e he => ?_⟩; (rw [listed_nil (by simp [go_sem, ev_neq_bool, *])] at he; simp at he)); try walk_nrm)
    (refine anyI_take relyI_then (i := 7) (v := .bool x) rfl (by kernel_rfl) (by kernel_rfl) (by kernel_rfl) (.inl ⟨by rfl, fun γ' w' hE => ?_⟩) (Ext.refl _ _) ?_; (have hcc := (cell_of (hE.rl.blk _ hb2)).trans hcx2; refine ⟨run_eq_of fun K hK => (by go_simp; exact hK), fun e he => ?_⟩; (have hm := mem_listed he; simp [go_sem, *] at hm; subst hm; exact Ev.read (hE.F _ hb2))); try walk_nrm)
    (refine anyI_take relyI_then (i := 8) (v := .bool false) rfl (by kernel_rfl) (by kernel_rfl) (by kernel_rfl) (.inl ⟨by rfl, fun γ' w' hE => ?_⟩) (Ext.refl _ _) ?_; (skip; refine ⟨run_eq_of fun K hK => (by go_simp; exact hK), fun e he => ?_⟩; (rw [listed_nil (by simp [go_sem, ev_neq_bool, *])] at he; simp at he)); try walk_nrm)
    refine anyI_done (by kernel_rfl) ?_ _
    simp only [thenI]
    repeat (first | ((first | refine wpI_seq ?_ | refine wpI_block ?_ | refine wpI_skip ?_ | refine wpI_label ?_ | refine wpI_ret ?_ | refine wpI_exit ?_ | refine opI_nil ?_); try simp only [thenI, blkI, if_true, if_false, reduceIte, Nat.reduceEqDiff]) | (refine wpI_region ?_; simp only [List.size_toArray, List.length_cons, List.length_nil, Nat.reduceAdd, Nat.zero_add, List.range, List.range.loop]) | (refine opI_unwanted rfl (by rfl) ?_; try walk_nrm) | (refine opI_k rfl (by rfl) (fun w₁ hR K hK => ?_); skip; go_simp; refine hK _ (fun e he => ?_) ?_; (first | done | ((rw [listed_nil (by simp [go_sem, *])] at he; simp at he))); (try clear hc₁); (clear hK K hR; clear w₁); (try walk_nrm)))
    (refine wpI_cond (t := false) rfl ?_; simp only [if_true, if_false, Bool.false_eq_true, reduceIte])
    repeat (first | ((first | refine wpI_seq ?_ | refine wpI_block ?_ | refine wpI_skip ?_ | refine wpI_label ?_ | refine wpI_ret ?_ | refine wpI_exit ?_ | refine opI_nil ?_); try simp only [thenI, blkI, if_true, if_false, reduceIte, Nat.reduceEqDiff]) | (refine wpI_region ?_; simp only [List.size_toArray, List.length_cons, List.length_nil, Nat.reduceAdd, Nat.zero_add, List.range, List.range.loop]) | (refine opI_unwanted rfl (by rfl) ?_; try walk_nrm) | (refine opI_k rfl (by rfl) (fun w₁ hR K hK => ?_); skip; go_simp; refine hK _ (fun e he => ?_) ?_; (first | done | ((rw [listed_nil (by simp [go_sem, *])] at he; simp at he))); (try clear hc₁); (clear hK K hR; clear w₁); (try walk_nrm)))
    exact ⟨bs.length - (k + 1), by omega, Ext.refl _ _, k + 1, _, _, _, _, _, _, _, _, _, _, _, _, _, _, _, _, _, _, _, _, _, _, _, rfl, by omega, rfl, e5.out, by first | rfl | trivial, by first | rfl | trivial⟩
  · refine wpI_cond rfl ?_
    simp only [hlt, decide_false, if_false, Bool.false_eq_true]
    obtain rfl : k = bs.length := by omega
    repeat (first | ((first | refine wpI_seq ?_ | refine wpI_block ?_ | refine wpI_skip ?_ | refine wpI_label ?_ | refine wpI_ret ?_ | refine wpI_exit ?_ | refine opI_nil ?_); try simp only [thenI, blkI, if_true, if_false, reduceIte, Nat.reduceEqDiff]) | (refine wpI_region ?_; simp only [List.size_toArray, List.length_cons, List.length_nil, Nat.reduceAdd, Nat.zero_add, List.range, List.range.loop]) | (refine opI_unwanted rfl (by rfl) ?_; try walk_nrm) | (refine opI_k rfl (by rfl) (fun w₁ hR K hK => ?_); skip; go_simp; refine hK _ (fun e he => ?_) ?_; (first | done | ((rw [listed_nil (by simp [go_sem, *])] at he; simp at he))); (try clear hc₁); (clear hK K hR; clear w₁); (try walk_nrm)))
    refine ⟨rfl, _, resultsC_tmp rfl _, ?_⟩
    exact ⟨rfl, rfl, rfl⟩
set_option maxHeartbeats 4000000 in
set_option maxRecDepth 100000 in
theorem eqBoolSS_c (main : Bool) (X : Pha) (γ : Gh) (w : World) (v1 v2 : Value) (xs : List (List Bool)) (h1 : TabV γ w v1 xs) (h2 : TabV γ w v2 xs) (hn : xs.length < 4611686018427387904) (hm0 : ∀ bs ∈ xs, bs.length ≤ 1048576) :
    CallsI Try.prog main X 21 #[v1, v2] γ w fun γ' r w' => Ext γ w γ' w' ∧ (Lies γ w → Lies γ' w') ∧ r = .bool true := by
  obtain ⟨p1, c1, rfl, hx1⟩ := h1.form
  obtain ⟨p2, c2, rfl, hx2⟩ := h2.form
  have hm := Hd.mk hm0
  clear hm0
  (refine callsI_of Try.func21 (by rfl) rfl ?_; simp only [Try.ntmps21, List.size_toArray, List.length_cons, List.length_nil, Nat.reduceAdd, Nat.reduceSub, Array.replicate_succ, Array.replicate_zero, List.push_toArray, List.append_toArray, List.nil_append, List.cons_append])
  repeat (first | ((first | refine wpI_seq ?_ | refine wpI_block ?_ | refine wpI_skip ?_ | refine wpI_label ?_ | refine wpI_ret ?_ | refine wpI_exit ?_ | refine opI_nil ?_); try simp only [thenI, blkI, if_true, if_false, reduceIte, Nat.reduceEqDiff]) | (refine wpI_region ?_; simp only [List.size_toArray, List.length_cons, List.length_nil, Nat.reduceAdd, Nat.zero_add, List.range, List.range.loop]) | (refine opI_unwanted rfl (by rfl) ?_; try walk_nrm) | (refine opI_k rfl (by rfl) (fun w₁ hR K hK => ?_); skip; go_simp; refine hK _ (fun e he => ?_) ?_; (first | done | ((rw [listed_nil (by simp [go_sem, *])] at he; simp at he))); (try clear hc₁); (clear hK K hR; clear w₁); (try walk_nrm)))
  refine wpI_cond (t := false) (by simp [Act.eval]) ?_
  simp only [if_false, Bool.false_eq_true]
  repeat (first | ((first | refine wpI_seq ?_ | refine wpI_block ?_ | refine wpI_skip ?_ | refine wpI_label ?_ | refine wpI_ret ?_ | refine wpI_exit ?_ | refine opI_nil ?_); try simp only [thenI, blkI, if_true, if_false, reduceIte, Nat.reduceEqDiff]) | (refine wpI_region ?_; simp only [List.size_toArray, List.length_cons, List.length_nil, Nat.reduceAdd, Nat.zero_add, List.range, List.range.loop]) | (refine opI_unwanted rfl (by rfl) ?_; try walk_nrm) | (refine opI_k rfl (by rfl) (fun w₁ hR K hK => ?_); skip; go_simp; refine hK _ (fun e he => ?_) ?_; (first | done | ((rw [listed_nil (by simp [go_sem, *])] at he; simp at he))); (try clear hc₁); (clear hK K hR; clear w₁); (try walk_nrm)))
  refine wpI_loop (fun m γ' a' w' => Ext γ w γ' w' ∧ (Lies γ w → Lies γ' w') ∧ ∃ (k : Nat) (kz : Int) (u2 u3 u6 u7 u8 u9 u10 u11 u12 u13 u14 u15 u16 u17 u18 u19 u20 u21 u22 u23 u24 u25 u26 : Value), a' = ⟨#[.slice p1 xs.length c1, .slice p2 xs.length c2, u2, u3, .bool false, .int .i64 kz, u6, u7, u8, u9, u10, u11, u12, u13, u14, u15, u16, u17, u18, u19, u20, u21, u22, u23, u24, u25, u26], []⟩ ∧ k ≤ xs.length ∧ m = xs.length - k ∧ kz = k) xs.length
    ⟨Ext.refl _ _, id, 0, _, _, _, _, _, _, _, _, _, _, _, _, _, _, _, _, _, _, _, _, _, _, _, _, rfl, Nat.zero_le _, rfl, rfl⟩ ?_
  rintro m γ' a' w' ⟨hE, hLL, k, kz, u2, u3, u6, u7, u8, u9, u10, u11, u12, u13, u14, u15, u16, u17, u18, u19, u20, u21, u22, u23, u24, u25, u26, rfl, hk, rfl, rfl⟩
  repeat (first | ((first | refine wpI_seq ?_ | refine wpI_block ?_ | refine wpI_skip ?_ | refine wpI_label ?_ | refine wpI_ret ?_ | refine wpI_exit ?_ | refine opI_nil ?_); try simp only [thenI, blkI, if_true, if_false, reduceIte, Nat.reduceEqDiff]) | (refine wpI_region ?_; simp only [List.size_toArray, List.length_cons, List.length_nil, Nat.reduceAdd, Nat.zero_add, List.range, List.range.loop]) | (refine opI_unwanted rfl (by rfl) ?_; try walk_nrm) | (refine opI_k rfl (by rfl) (fun w₁ hR K hK => ?_); skip; go_simp; refine hK _ (fun e he => ?_) ?_; (first | done | ((rw [listed_nil (by simp [go_sem, *])] at he; simp at he))); (try clear hc₁); (clear hK K hR; clear w₁); (try walk_nrm)))
  by_cases hlt : k < xs.length
  · refine wpI_cond rfl ?_
    simp only [hlt, decide_true, if_true]
    obtain ⟨bs, hbs⟩ : ∃ bs, Hd (xs[k]? = some bs) := ⟨_, ⟨List.getElem?_eq_getElem hlt⟩⟩
    obtain ⟨b1, o1, u1', rfl, hb1, hu1, hR1⟩ := hx1 k bs hbs.out
    obtain ⟨b2, o2, u2', rfl, hb2, hu2, hR2⟩ := hx2 k bs hbs.out
    replace hu1 := (cell_of (a := ⟨b1, o1 + k, none⟩) (hE.rl.blk b1 hb1)).trans hu1
    replace hu2 := (cell_of (a := ⟨b2, o2 + k, none⟩) (hE.rl.blk b2 hb2)).trans hu2
    replace hb1 := hE.F _ hb1
    replace hb2 := hE.F _ hb2
    replace hR1 := hR1.ext hE
    replace hR2 := hR2.ext hE
    have hbl := Hd.mk (hm.out bs (List.mem_of_getElem? hbs.out))
    have hk0 : (0 : Int) ≤ (k : Int) := by omega
    have hki : (k : Int) < (xs.length : Int) := by omega
    have e5 : Hd (IntKind.i64.wrap ((k : Int) + 1) = ((k + 1 : Nat) : Int)) := ⟨by rw [IntKind.wrap_i64]; omega⟩
    clear hx1 hx2
    repeat (first | ((first | refine wpI_seq ?_ | refine wpI_block ?_ | refine wpI_skip ?_ | refine wpI_label ?_ | refine wpI_ret ?_ | refine wpI_exit ?_ | refine opI_nil ?_); try simp only [thenI, blkI, if_true, if_false, reduceIte, Nat.reduceEqDiff]) | (refine wpI_region ?_; simp only [List.size_toArray, List.length_cons, List.length_nil, Nat.reduceAdd, Nat.zero_add, List.range, List.range.loop]) | (refine opI_unwanted rfl (by rfl) ?_; try walk_nrm) | (refine opI_k rfl (by rfl) (fun w₁ hR K hK => ?_); skip; go_simp; refine hK _ (fun e he => ?_) ?_; (first | done | ((rw [listed_nil (by simp [go_sem, *])] at he; simp at he))); (try clear hc₁); (clear hK K hR; clear w₁); (try walk_nrm)))
    refine wpI_draw (γ₀ := γ') (w₀ := w') (by kernel_rfl) relyI_then ?_
    (refine anyI_take relyI_then (i := 0) (v := .slice (some ⟨b1, o1, none⟩) xs.length c1) rfl (by kernel_rfl) (by kernel_rfl) (by kernel_rfl) (.inl ⟨by rfl, fun γ' w' hE => ?_⟩) (Ext.refl _ _) ?_; (skip; refine ⟨run_eq_of fun K hK => (by go_simp; exact hK), fun e he => ?_⟩; (rw [listed_nil (by simp [go_sem, ev_neq_bool, *])] at he; simp at he)); try walk_nrm)
    (refine anyI_take relyI_then (i := 1) (v := .int .i64 k) rfl (by kernel_rfl) (by kernel_rfl) (by kernel_rfl) (.inl ⟨by rfl, fun γ' w' hE => ?_⟩) (Ext.refl _ _) ?_; (skip; refine ⟨run_eq_of fun K hK => (by go_simp; exact hK), fun e he => ?_⟩; (rw [listed_nil (by simp [go_sem, ev_neq_bool, *])] at he; simp at he)); try walk_nrm)
    (refine anyI_take relyI_then (i := 2) (v := .pointer (some ⟨b1, o1 + k, none⟩)) rfl (by kernel_rfl) (by kernel_rfl) (by kernel_rfl) (.inl ⟨by rfl, fun γ' w' hE => ?_⟩) (Ext.refl _ _) ?_; (skip; refine ⟨run_eq_of fun K hK => (by go_simp; exact hK), fun e he => ?_⟩; (rw [listed_nil (by simp [go_sem, ev_neq_bool, *])] at he; simp at he)); try walk_nrm)
    (refine anyI_take relyI_then (i := 3) (v := u1') rfl (by kernel_rfl) (by kernel_rfl) (by kernel_rfl) (.inl ⟨by rfl, fun γ' w' hE => ?_⟩) (Ext.refl _ _) ?_; (have hcc := (cell_of (hE.rl.blk _ hb1)).trans hu1; refine ⟨run_eq_of fun K hK => (by go_simp; exact hK), fun e he => ?_⟩; (have hm := mem_listed he; simp [go_sem, *] at hm; subst hm; exact Ev.read (hE.F _ hb1))); try walk_nrm)
    (refine anyI_take relyI_then (i := 4) (v := .slice (some ⟨b2, o2, none⟩) xs.length c2) rfl (by kernel_rfl) (by kernel_rfl) (by kernel_rfl) (.inl ⟨by rfl, fun γ' w' hE => ?_⟩) (Ext.refl _ _) ?_; (skip; refine ⟨run_eq_of fun K hK => (by go_simp; exact hK), fun e he => ?_⟩; (rw [listed_nil (by simp [go_sem, ev_neq_bool, *])] at he; simp at he)); try walk_nrm)
    (refine anyI_take relyI_then (i := 5) (v := .int .i64 k) rfl (by kernel_rfl) (by kernel_rfl) (by kernel_rfl) (.inl ⟨by rfl, fun γ' w' hE => ?_⟩) (Ext.refl _ _) ?_; (skip; refine ⟨run_eq_of fun K hK => (by go_simp; exact hK), fun e he => ?_⟩; (rw [listed_nil (by simp [go_sem, ev_neq_bool, *])] at he; simp at he)); try walk_nrm)
    (refine anyI_take relyI_then (i := 6) (v := .pointer (some ⟨b2, o2 + k, none⟩)) rfl (by kernel_rfl) (by kernel_rfl) (by kernel_rfl) (.inl ⟨by rfl, fun γ' w' hE => ?_⟩) (Ext.refl _ _) ?_; (skip; refine ⟨run_eq_of fun K hK => (by go_simp; exact hK), fun e he => ?_⟩; (rw [listed_nil (by simp [go_sem, ev_neq_bool, *])] at he; simp at he)); try walk_nrm)
    (refine anyI_take relyI_then (i := 7) (v := u2') rfl (by kernel_rfl) (by kernel_rfl) (by kernel_rfl) (.inl ⟨by rfl, fun γ' w' hE => ?_⟩) (Ext.refl _ _) ?_; (have hcc := (cell_of (hE.rl.blk _ hb2)).trans hu2; refine ⟨run_eq_of fun K hK => (by go_simp; exact hK), fun e he => ?_⟩; (have hm := mem_listed he; simp [go_sem, *] at hm; subst hm; exact Ev.read (hE.F _ hb2))); try walk_nrm)
    refine anyI_all (rs := [8]) (by kernel_rfl) (by simp) fun i hi => ?_
    obtain rfl : i = 8 := by simpa using hi
    refine oneI_call rfl (by rfl) rfl Try.func44 (by kernel_rfl) rfl fun w₂ hR₂ => ?_
    try walk_nrm
    have hE2 := Ext.of_rl hR₂
    have hLL' : Lies γ w → Lies γ' w₂ := fun h => (hLL h).rely hR₂
    refine (eqBoolS_c main X γ' w₂ u1' u2' bs (hR1.ext hE2) (hR2.ext hE2) (by have := hbl.out; omega)).mono ?_
    rintro _ _ _ ⟨rfl, rfl, rfl⟩
    replace hE := hE.trans hE2
    refine ⟨hE2, ?_⟩
    clear hR₂ hu1 hu2 hb1 hb2 hR1 hR2
    try walk_nrm
    refine anyI_take relyI_then (i := 9) (v := .bool false) rfl (by kernel_rfl) (by kernel_rfl) (by kernel_rfl) (.inl ⟨by rfl, fun γ' w' hE => ⟨run_eq_of fun K hK => (by go_simp; exact hK), fun e he => (by rw [listed_nil (by simp [go_sem, *])] at he; simp at he)⟩⟩) hE2 ?_
    try walk_nrm
    refine anyI_done (by kernel_rfl) ?_ _
    simp only [thenI]
    repeat (first | ((first | refine wpI_seq ?_ | refine wpI_block ?_ | refine wpI_skip ?_ | refine wpI_label ?_ | refine wpI_ret ?_ | refine wpI_exit ?_ | refine opI_nil ?_); try simp only [thenI, blkI, if_true, if_false, reduceIte, Nat.reduceEqDiff]) | (refine wpI_region ?_; simp only [List.size_toArray, List.length_cons, List.length_nil, Nat.reduceAdd, Nat.zero_add, List.range, List.range.loop]) | (refine opI_unwanted rfl (by rfl) ?_; try walk_nrm) | (refine opI_k rfl (by rfl) (fun w₁ hR K hK => ?_); skip; go_simp; refine hK _ (fun e he => ?_) ?_; (first | done | ((rw [listed_nil (by simp [go_sem, *])] at he; simp at he))); (try clear hc₁); (clear hK K hR; clear w₁); (try walk_nrm)))
    (refine wpI_cond (t := false) rfl ?_; simp only [if_true, if_false, Bool.false_eq_true, reduceIte])
    repeat (first | ((first | refine wpI_seq ?_ | refine wpI_block ?_ | refine wpI_skip ?_ | refine wpI_label ?_ | refine wpI_ret ?_ | refine wpI_exit ?_ | refine opI_nil ?_); try simp only [thenI, blkI, if_true, if_false, reduceIte, Nat.reduceEqDiff]) | (refine wpI_region ?_; simp only [List.size_toArray, List.length_cons, List.length_nil, Nat.reduceAdd, Nat.zero_add, List.range, List.range.loop]) | (refine opI_unwanted rfl (by rfl) ?_; try walk_nrm) | (refine opI_k rfl (by rfl) (fun w₁ hR K hK => ?_); skip; go_simp; refine hK _ (fun e he => ?_) ?_; (first | done | ((rw [listed_nil (by simp [go_sem, *])] at he; simp at he))); (try clear hc₁); (clear hK K hR; clear w₁); (try walk_nrm)))
    exact ⟨xs.length - (k + 1), by omega, hE, hLL', k + 1, _, _, _, _, _, _, _, _, _, _, _, _, _, _, _, _, _, _, _, _, _, _, _, _, rfl, by omega, rfl, e5.out⟩
  · refine wpI_cond rfl ?_
    simp only [hlt, decide_false, if_false, Bool.false_eq_true]
    obtain rfl : k = xs.length := by omega
    repeat (first | ((first | refine wpI_seq ?_ | refine wpI_block ?_ | refine wpI_skip ?_ | refine wpI_label ?_ | refine wpI_ret ?_ | refine wpI_exit ?_ | refine opI_nil ?_); try simp only [thenI, blkI, if_true, if_false, reduceIte, Nat.reduceEqDiff]) | (refine wpI_region ?_; simp only [List.size_toArray, List.length_cons, List.length_nil, Nat.reduceAdd, Nat.zero_add, List.range, List.range.loop]) | (refine opI_unwanted rfl (by rfl) ?_; try walk_nrm) | (refine opI_k rfl (by rfl) (fun w₁ hR K hK => ?_); skip; go_simp; refine hK _ (fun e he => ?_) ?_; (first | done | ((rw [listed_nil (by simp [go_sem, *])] at he; simp at he))); (try clear hc₁); (clear hK K hR; clear w₁); (try walk_nrm)))
    refine ⟨rfl, _, resultsC_tmp rfl _, ?_⟩
    exact ⟨hE, hLL, rfl⟩
end Go.Proofs.Ytndfookgkkefnaa
