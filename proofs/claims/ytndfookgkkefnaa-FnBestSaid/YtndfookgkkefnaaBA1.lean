/- Walks in company: the two greatest common divisors. -/
import Derived.Test.YtndfookgkkefnaaBH2
namespace Go.Proofs.Ytndfookgkkefnaa
set_option linter.unusedSimpArgs false
set_option linter.unusedVariables false
set_option linter.unusedSectionVars false
open Go Go.Conc Go.RowKit
theorem tmod_nat (a b : Nat) : Int.tmod (a : Int) (b : Int) = ((a % b : Nat) : Int) := by
  rw [Int.tmod_eq_emod_of_nonneg (by omega)]
  omega
theorem tdiv_nat (a b : Nat) : Int.tdiv (a : Int) (b : Int) = ((a / b : Nat) : Int) := by
  rw [Int.tdiv_eq_ediv_of_nonneg (by omega)]
  omega
theorem gcd_step (a b : Nat) : Nat.gcd b (a % b) = Nat.gcd a b := by
  rw [Nat.gcd_comm a b, Nat.gcd_rec b a, Nat.gcd_comm]
set_option maxHeartbeats 4000000 in
set_option maxRecDepth 100000 in
theorem specGcd_c (main : Bool) (X : Pha) (γ : Gh) (w : World) (a b : Nat) : CallsI Try.prog main X 45 #[.int .i64 a, .int .i64 b] γ w fun γ' r w' => γ' = γ ∧ w' = w ∧ r = .int .i64 (Nat.gcd a b : Nat) := by
  (refine callsI_of Try.func45 (by rfl) rfl ?_; simp only [Try.ntmps45, List.size_toArray, List.length_cons, List.length_nil, Nat.reduceAdd, Nat.reduceSub, Array.replicate_succ, Array.replicate_zero, List.push_toArray, List.append_toArray, List.nil_append, List.cons_append])
  repeat (first | ((first | refine wpI_seq ?_ | refine wpI_block ?_ | refine wpI_skip ?_ | refine wpI_label ?_ | refine wpI_ret ?_ | refine wpI_exit ?_ | refine opI_nil ?_); try simp only [thenI, blkI, if_true, if_false, reduceIte, Nat.reduceEqDiff]) | (refine wpI_region ?_; simp only [List.size_toArray, List.length_cons, List.length_nil, Nat.reduceAdd, Nat.zero_add, List.range, List.range.loop]) | (refine opI_unwanted rfl (by rfl) ?_; try walk_nrm) | (refine opI_k rfl (by rfl) (fun w₁ hR K hK => ?_); skip; go_simp; refine hK _ (fun e he => ?_) ?_; (first | done | ((rw [listed_nil (by simp [go_sem, *])] at he; simp at he))); (try clear hc₁); (clear hK K hR; clear w₁); (try walk_nrm)))
  obtain ⟨G, hG⟩ : ∃ G, Hd (G = Nat.gcd a b) := ⟨_, ⟨rfl⟩⟩
  rw [← hG.out]
  refine wpI_loop (fun m γ' a' w' => γ' = γ ∧ w' = w ∧ ∃ (x y : Nat) (u2 u3 u5 u6 u7 u8 u9 u10 u11 u12 u13 : Value), a' = ⟨#[.int .i64 x, .int .i64 y, u2, u3, .int .i64 0, u5, u6, u7, u8, u9, u10, u11, u12, u13], []⟩ ∧ m = y ∧ G = Nat.gcd x y) b
    ⟨rfl, rfl, a, b, _, _, _, _, _, _, _, _, _, _, _, rfl, rfl, hG.out⟩ ?_
  clear hG
  rintro m γ' a' w' ⟨rfl, rfl, x, y, u2, u3, u5, u6, u7, u8, u9, u10, u11, u12, u13, rfl, rfl, hG⟩
  have hG' := Hd.mk hG
  clear hG
  repeat (first | ((first | refine wpI_seq ?_ | refine wpI_block ?_ | refine wpI_skip ?_ | refine wpI_label ?_ | refine wpI_ret ?_ | refine wpI_exit ?_ | refine opI_nil ?_); try simp only [thenI, blkI, if_true, if_false, reduceIte, Nat.reduceEqDiff]) | (refine wpI_region ?_; simp only [List.size_toArray, List.length_cons, List.length_nil, Nat.reduceAdd, Nat.zero_add, List.range, List.range.loop]) | (refine opI_unwanted rfl (by rfl) ?_; try walk_nrm) | (refine opI_k rfl (by rfl) (fun w₁ hR K hK => ?_); skip; go_simp; refine hK _ (fun e he => ?_) ?_; (first | done | ((rw [listed_nil (by simp [go_sem, *])] at he; simp at he))); (try clear hc₁); (clear hK K hR; clear w₁); (try walk_nrm)))
  by_cases hy : 0 < m
  · refine wpI_cond (t := true) (by simp [Act.eval, hy]) ?_
    simp only [if_true]
    have hy0 : ¬ m = 0 := by omega
    have hlt := Hd.mk (Nat.mod_lt x hy)
    clear hy
    repeat (first | ((first | refine wpI_seq ?_ | refine wpI_block ?_ | refine wpI_skip ?_ | refine wpI_label ?_ | refine wpI_ret ?_ | refine wpI_exit ?_ | refine opI_nil ?_); try simp only [thenI, blkI, if_true, if_false, reduceIte, Nat.reduceEqDiff]) | (refine wpI_region ?_; simp only [List.size_toArray, List.length_cons, List.length_nil, Nat.reduceAdd, Nat.zero_add, List.range, List.range.loop]) | (refine opI_unwanted rfl (by rfl) ?_; try walk_nrm) | (refine opI_k rfl (by rfl) (fun w₁ hR K hK => ?_); skip; go_simp; refine hK _ (fun e he => ?_) ?_; (first | done | ((rw [listed_nil (by simp [go_sem, *])] at he; simp at he))); (try clear hc₁); (clear hK K hR; clear w₁); (try walk_nrm)))
    exact ⟨x % m, hlt.out, by first | rfl | trivial, by first | rfl | trivial, m, x % m, _, _, _, _, _, _, _, _, _, _, _, rfl, rfl, by rw [gcd_step]; exact hG'.out⟩
  · refine wpI_cond (t := false) (by simp [Act.eval]; omega) ?_
    obtain rfl : m = 0 := by omega
    have e : Hd (x = G) := ⟨by rw [hG'.out, Nat.gcd_zero_right]⟩
    simp only [if_false, Bool.false_eq_true]
    repeat (first | ((first | refine wpI_seq ?_ | refine wpI_block ?_ | refine wpI_skip ?_ | refine wpI_label ?_ | refine wpI_ret ?_ | refine wpI_exit ?_ | refine opI_nil ?_); try simp only [thenI, blkI, if_true, if_false, reduceIte, Nat.reduceEqDiff]) | (refine wpI_region ?_; simp only [List.size_toArray, List.length_cons, List.length_nil, Nat.reduceAdd, Nat.zero_add, List.range, List.range.loop]) | (refine opI_unwanted rfl (by rfl) ?_; try walk_nrm) | (refine opI_k rfl (by rfl) (fun w₁ hR K hK => ?_); skip; go_simp; refine hK _ (fun e he => ?_) ?_; (first | done | ((rw [listed_nil (by simp [go_sem, *])] at he; simp at he))); (try clear hc₁); (clear hK K hR; clear w₁); (try walk_nrm)))
    refine ⟨rfl, _, resultsC_tmp rfl _, ?_⟩
    rw [← e.out]
    exact ⟨rfl, rfl, rfl⟩
set_option maxHeartbeats 4000000 in
set_option maxRecDepth 100000 in
theorem implGcd_c (main : Bool) (X : Pha) (γ : Gh) (w : World) (a b : Nat) : CallsI Try.prog main X 38 #[.int .i64 a, .int .i64 b] γ w fun γ' r w' => γ' = γ ∧ Rl γ w w' ∧ r = .int .i64 (Nat.gcd a b : Nat) := by
  (refine callsI_of Try.func38 (by rfl) rfl ?_; simp only [Try.ntmps38, List.size_toArray, List.length_cons, List.length_nil, Nat.reduceAdd, Nat.reduceSub, Array.replicate_succ, Array.replicate_zero, List.push_toArray, List.append_toArray, List.nil_append, List.cons_append])
  repeat (first | ((first | refine wpI_seq ?_ | refine wpI_block ?_ | refine wpI_skip ?_ | refine wpI_label ?_ | refine wpI_ret ?_ | refine wpI_exit ?_ | refine opI_nil ?_); try simp only [thenI, blkI, if_true, if_false, reduceIte, Nat.reduceEqDiff]) | (refine wpI_region ?_; simp only [List.size_toArray, List.length_cons, List.length_nil, Nat.reduceAdd, Nat.zero_add, List.range, List.range.loop]) | (refine opI_unwanted rfl (by rfl) ?_; try walk_nrm) | (refine opI_k rfl (by rfl) (fun w₁ hR K hK => ?_); skip; go_simp; refine hK _ (fun e he => ?_) ?_; (first | done | ((rw [listed_nil (by simp [go_sem, *])] at he; simp at he))); (try clear hc₁); (clear hK K hR; clear w₁); (try walk_nrm)))
  obtain ⟨G, hG⟩ : ∃ G, Hd (G = Nat.gcd a b) := ⟨_, ⟨rfl⟩⟩
  rw [← hG.out]
  refine wpI_loop (fun m γ' a' w' => γ' = γ ∧ Rl γ w w' ∧ ∃ (x y : Nat) (u2 u3 u5 u6 u7 u8 u9 u10 u11 : Value), a' = ⟨#[.int .i64 x, .int .i64 y, u2, u3, .int .i64 0, u5, u6, u7, u8, u9, u10, u11], []⟩ ∧ m = y ∧ G = Nat.gcd x y) b
    ⟨rfl, Rl.refl _ _, a, b, _, _, _, _, _, _, _, _, _, rfl, rfl, hG.out⟩ ?_
  clear hG
  rintro m γ' a' w' ⟨rfl, hE0, x, y, u2, u3, u5, u6, u7, u8, u9, u10, u11, rfl, rfl, hG⟩
  have hG' := Hd.mk hG
  clear hG
  repeat (first | ((first | refine wpI_seq ?_ | refine wpI_block ?_ | refine wpI_skip ?_ | refine wpI_label ?_ | refine wpI_ret ?_ | refine wpI_exit ?_ | refine opI_nil ?_); try simp only [thenI, blkI, if_true, if_false, reduceIte, Nat.reduceEqDiff]) | (refine wpI_region ?_; simp only [List.size_toArray, List.length_cons, List.length_nil, Nat.reduceAdd, Nat.zero_add, List.range, List.range.loop]) | (refine opI_unwanted rfl (by rfl) ?_; try walk_nrm) | (refine opI_k rfl (by rfl) (fun w₁ hR K hK => ?_); skip; go_simp; refine hK _ (fun e he => ?_) ?_; (first | done | ((rw [listed_nil (by simp [go_sem, *])] at he; simp at he))); (try clear hc₁); (clear hK K hR; clear w₁); (try walk_nrm)))
  by_cases hy : 0 < m
  · refine wpI_cond (t := true) (by simp [Act.eval]; omega) ?_
    simp only [if_true]
    have hy0 : ¬ m = 0 := by omega
    have hlt := Hd.mk (Nat.mod_lt x hy)
    clear hy
    repeat (first | ((first | refine wpI_seq ?_ | refine wpI_block ?_ | refine wpI_skip ?_ | refine wpI_label ?_ | refine wpI_ret ?_ | refine wpI_exit ?_ | refine opI_nil ?_); try simp only [thenI, blkI, if_true, if_false, reduceIte, Nat.reduceEqDiff]) | (refine wpI_region ?_; simp only [List.size_toArray, List.length_cons, List.length_nil, Nat.reduceAdd, Nat.zero_add, List.range, List.range.loop]) | (refine opI_unwanted rfl (by rfl) ?_; try walk_nrm) | (refine opI_k rfl (by rfl) (fun w₁ hR K hK => ?_); skip; go_simp; refine hK _ (fun e he => ?_) ?_; (first | done | ((rw [listed_nil (by simp [go_sem, *])] at he; simp at he))); (try clear hc₁); (clear hK K hR; clear w₁); (try walk_nrm)))
    refine wpI_draw (γ₀ := γ') (w₀ := w') (by kernel_rfl) (fun γ a w w₁ ⟨m, hm, hγ, hE, rest⟩ r => ⟨m, hm, hγ, hE.trans (hγ ▸ r), rest⟩) ?_
    (refine anyI_take (by first | exact relyI_then | exact fun γ a w w₁ ⟨m, hm, hγ, hE, rest⟩ r => ⟨m, hm, hγ, hE.trans (hγ ▸ r), rest⟩) (i := 0) (v := .int .i64 m) rfl (by kernel_rfl) (by kernel_rfl) (by kernel_rfl) (.inl ⟨by rfl, fun γ' w' hE => ?_⟩) (Ext.refl _ _) ?_; (skip; refine ⟨run_eq_of fun K hK => (by go_simp; exact hK), fun e he => ?_⟩; (rw [listed_nil (by simp [go_sem, ev_neq_bool, *])] at he; simp at he)); try walk_nrm)
    (refine anyI_take (by first | exact relyI_then | exact fun γ a w w₁ ⟨m, hm, hγ, hE, rest⟩ r => ⟨m, hm, hγ, hE.trans (hγ ▸ r), rest⟩) (i := 1) (v := .int .i64 x) rfl (by kernel_rfl) (by kernel_rfl) (by kernel_rfl) (.inl ⟨by rfl, fun γ' w' hE => ?_⟩) (Ext.refl _ _) ?_; (skip; refine ⟨run_eq_of fun K hK => (by go_simp; exact hK), fun e he => ?_⟩; (rw [listed_nil (by simp [go_sem, ev_neq_bool, *])] at he; simp at he)); try walk_nrm)
    (refine anyI_take (by first | exact relyI_then | exact fun γ a w w₁ ⟨m, hm, hγ, hE, rest⟩ r => ⟨m, hm, hγ, hE.trans (hγ ▸ r), rest⟩) (i := 2) (v := .int .i64 m) rfl (by kernel_rfl) (by kernel_rfl) (by kernel_rfl) (.inl ⟨by rfl, fun γ' w' hE => ?_⟩) (Ext.refl _ _) ?_; (skip; refine ⟨run_eq_of fun K hK => (by go_simp; exact hK), fun e he => ?_⟩; (rw [listed_nil (by simp [go_sem, ev_neq_bool, *])] at he; simp at he)); try walk_nrm)
    (refine anyI_take (by first | exact relyI_then | exact fun γ a w w₁ ⟨m, hm, hγ, hE, rest⟩ r => ⟨m, hm, hγ, hE.trans (hγ ▸ r), rest⟩) (i := 3) (v := .int .i64 ((x : Int) % (m : Int))) rfl (by kernel_rfl) (by kernel_rfl) (by kernel_rfl) (.inl ⟨by rfl, fun γ' w' hE => ?_⟩) (Ext.refl _ _) ?_; (skip; refine ⟨run_eq_of fun K hK => (by go_simp; exact hK), fun e he => ?_⟩; (rw [listed_nil (by simp [go_sem, ev_neq_bool, *])] at he; simp at he)); try walk_nrm)
    (refine anyI_take (by first | exact relyI_then | exact fun γ a w w₁ ⟨m, hm, hγ, hE, rest⟩ r => ⟨m, hm, hγ, hE.trans (hγ ▸ r), rest⟩) (i := 4) (v := .int .i64 m) rfl (by kernel_rfl) (by kernel_rfl) (by kernel_rfl) (.inl ⟨by rfl, fun γ' w' hE => ?_⟩) (Ext.refl _ _) ?_; (skip; refine ⟨run_eq_of fun K hK => (by go_simp; exact hK), fun e he => ?_⟩; (rw [listed_nil (by simp [go_sem, ev_neq_bool, *])] at he; simp at he)); try walk_nrm)
    (refine anyI_take (by first | exact relyI_then | exact fun γ a w w₁ ⟨m, hm, hγ, hE, rest⟩ r => ⟨m, hm, hγ, hE.trans (hγ ▸ r), rest⟩) (i := 5) (v := .int .i64 ((x : Int) % (m : Int))) rfl (by kernel_rfl) (by kernel_rfl) (by kernel_rfl) (.inl ⟨by rfl, fun γ' w' hE => ?_⟩) (Ext.refl _ _) ?_; (skip; refine ⟨run_eq_of fun K hK => (by go_simp; exact hK), fun e he => ?_⟩; (rw [listed_nil (by simp [go_sem, ev_neq_bool, *])] at he; simp at he)); try walk_nrm)
    refine anyI_done (by kernel_rfl) ?_ _
    simp only [blkI, thenI]
    try simp only [if_true, if_false, reduceIte]
    exact ⟨x % m, hlt.out, by first | rfl | trivial, hE0, m, x % m, _, _, _, _, _, _, _, _, _, rfl, rfl, by rw [gcd_step]; exact hG'.out⟩
  · obtain rfl : m = 0 := by omega
    refine wpI_cond (t := false) (by simp [Act.eval]) ?_
    have e : Hd (x = G) := ⟨by rw [hG'.out, Nat.gcd_zero_right]⟩
    simp only [if_false, Bool.false_eq_true]
    repeat (first | ((first | refine wpI_seq ?_ | refine wpI_block ?_ | refine wpI_skip ?_ | refine wpI_label ?_ | refine wpI_ret ?_ | refine wpI_exit ?_ | refine opI_nil ?_); try simp only [thenI, blkI, if_true, if_false, reduceIte, Nat.reduceEqDiff]) | (refine wpI_region ?_; simp only [List.size_toArray, List.length_cons, List.length_nil, Nat.reduceAdd, Nat.zero_add, List.range, List.range.loop]) | (refine opI_unwanted rfl (by rfl) ?_; try walk_nrm) | (refine opI_k rfl (by rfl) (fun w₁ hR K hK => ?_); skip; go_simp; refine hK _ (fun e he => ?_) ?_; (first | done | ((rw [listed_nil (by simp [go_sem, *])] at he; simp at he))); (try clear hc₁); (clear hK K hR; clear w₁); (try walk_nrm)))
    refine ⟨rfl, _, resultsC_tmp rfl _, ?_⟩
    rw [← e.out]
    exact ⟨rfl, hE0, rfl⟩
end Go.Proofs.Ytndfookgkkefnaa
