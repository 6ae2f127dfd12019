/- The law FnBestHalf, walked. -/
import Derived.Test.YtndfookgkkefnaaBQ4
import Derived.Test.YtndfookgkkefnaaBL3
import Derived.Test.YtndfookgkkefnaaBT4
namespace Go.Proofs.Ytndfookgkkefnaa
set_option linter.unusedSimpArgs false
set_option linter.unusedVariables false
set_option linter.unusedSectionVars false
open Go Go.Conc Go.RowKit
theorem mul_in {a b : Nat} (ha : a ≤ 3125) (hb : b ≤ 3125) : IntKind.i64.wrap ((a : Int) * (b : Int)) = (a : Int) * (b : Int) := by
  have h : a * b ≤ 3125 * 3125 := Nat.mul_le_mul ha hb
  rw [← Int.natCast_mul]
  exact wrap_in (by omega) (by omega)
set_option maxHeartbeats 8000000 in
set_option maxRecDepth 100000 in
theorem lawBestHalf_c (γ : Gh) (w : World) (v : Value) (n : Nat) (hY : RowY γ w v n) (hn : n < 9223372036854775808) (hL : Lies γ w) (hp : γ.p = .no) (hCs : ∀ a, ¬ γ.Cs a) :
    CallsI Try.prog true XB 5 #[v] γ w fun γ' r w' => Ext γ w γ' w' ∧ r = .bool true := by
  obtain ⟨q, c, rfl, -⟩ := id hY
  have hY' := Hd.mk hY
  clear hY
  (refine callsI_of Try.func5 (by rfl) rfl ?_; simp only [Try.ntmps5, List.size_toArray, List.length_cons, List.length_nil, Nat.reduceAdd, Nat.reduceSub, Array.replicate_succ, Array.replicate_zero, List.push_toArray, List.append_toArray, List.nil_append, List.cons_append])
  repeat (first | ((first | refine wpI_seq ?_ | refine wpI_block ?_ | refine wpI_skip ?_ | refine wpI_label ?_ | refine wpI_ret ?_ | refine wpI_exit ?_ | refine opI_nil ?_); try simp only [thenI, blkI, if_true, if_false, reduceIte, Nat.reduceEqDiff]) | (refine wpI_region ?_; simp only [List.size_toArray, List.length_cons, List.length_nil, Nat.reduceAdd, Nat.zero_add, List.range, List.range.loop]) | (refine opI_unwanted rfl (by rfl) ?_; try walk_nrm) | (refine opI_k rfl (by rfl) (fun w₁ hR K hK => ?_); skip; go_simp; refine hK _ (fun e he => ?_) ?_; (first | done | ((rw [listed_nil (by simp [go_sem, *])] at he; simp at he))); (try clear hc₁); (clear hK K hR; clear w₁); (try walk_nrm)))
  by_cases h : (1048576 : Int) < (n : Int)
  · refine wpI_cond (t := true) (by simp [Act.eval, h]) ?_
    clear h
    simp only [if_true]
    repeat (first | ((first | refine wpI_seq ?_ | refine wpI_block ?_ | refine wpI_skip ?_ | refine wpI_label ?_ | refine wpI_ret ?_ | refine wpI_exit ?_ | refine opI_nil ?_); try simp only [thenI, blkI, if_true, if_false, reduceIte, Nat.reduceEqDiff]) | (refine wpI_region ?_; simp only [List.size_toArray, List.length_cons, List.length_nil, Nat.reduceAdd, Nat.zero_add, List.range, List.range.loop]) | (refine opI_unwanted rfl (by rfl) ?_; try walk_nrm) | (refine opI_k rfl (by rfl) (fun w₁ hR K hK => ?_); skip; go_simp; refine hK _ (fun e he => ?_) ?_; (first | done | ((rw [listed_nil (by simp [go_sem, *])] at he; simp at he))); (try clear hc₁); (clear hK K hR; clear w₁); (try walk_nrm)))
    refine ⟨rfl, _, resultsC_tmp rfl _, ?_⟩
    exact ⟨Ext.refl _ _, rfl⟩
  · refine wpI_cond (t := false) (by simp [Act.eval]; omega) ?_
    clear h
    simp only [if_false, Bool.false_eq_true]
    repeat (first | ((first | refine wpI_seq ?_ | refine wpI_block ?_ | refine wpI_skip ?_ | refine wpI_label ?_ | refine wpI_ret ?_ | refine wpI_exit ?_ | refine opI_nil ?_); try simp only [thenI, blkI, if_true, if_false, reduceIte, Nat.reduceEqDiff]) | (refine wpI_region ?_; simp only [List.size_toArray, List.length_cons, List.length_nil, Nat.reduceAdd, Nat.zero_add, List.range, List.range.loop]) | (refine opI_unwanted rfl (by rfl) ?_; try walk_nrm) | (refine opI_k rfl (by rfl) (fun w₁ hR K hK => ?_); skip; go_simp; refine hK _ (fun e he => ?_) ?_; (first | done | ((rw [listed_nil (by simp [go_sem, *])] at he; simp at he))); (try clear hc₁); (clear hK K hR; clear w₁); (try walk_nrm)))
    refine opI_call rfl (by rfl) rfl (by
      have h := drawBest_c true XB γ w _ n hY'.out hL
      walk_nrm
      exact h) ?_
    rintro γ1 u1 w1 ⟨hE1, hL1, u, s, xs, rfl, hT1, hl⟩
    obtain ⟨q1, c1, rfl, -⟩ := hT1.form
    try walk_nrm
    repeat (first | ((first | refine wpI_seq ?_ | refine wpI_block ?_ | refine wpI_skip ?_ | refine wpI_label ?_ | refine wpI_ret ?_ | refine wpI_exit ?_ | refine opI_nil ?_); try simp only [thenI, blkI, if_true, if_false, reduceIte, Nat.reduceEqDiff]) | (refine wpI_region ?_; simp only [List.size_toArray, List.length_cons, List.length_nil, Nat.reduceAdd, Nat.zero_add, List.range, List.range.loop]) | (refine opI_unwanted rfl (by rfl) ?_; try walk_nrm) | (refine opI_k rfl (by rfl) (fun w₁ hR K hK => ?_); skip; go_simp; refine hK _ (fun e he => ?_) ?_; (first | done | ((rw [listed_nil (by simp [go_sem, *])] at he; simp at he))); (try clear hc₁); (clear hK K hR; clear w₁); (try walk_nrm)))
    replace hE1 := hE1.noCs hCs
    have hT : TabV γ1.noCs w1 (.slice q1 xs.length c1) xs := hT1
    replace hL1 := hL1.noCs
    clear hT1
    refine opI_callN rfl (by rfl) rfl (by
      have h := implBest_c γ1.noCs w1 _ xs s hT (by omega) hL1 (hE1.p.trans hp) (fun _ h => h)
      walk_nrm
      exact h) ?_
    rintro γ2 u2 w2 ⟨hX, hL2, -, rfl⟩
    rw [best_eq]
    try walk_nrm
    repeat (first | ((first | refine wpI_seq ?_ | refine wpI_block ?_ | refine wpI_skip ?_ | refine wpI_label ?_ | refine wpI_ret ?_ | refine wpI_exit ?_ | refine opI_nil ?_); try simp only [thenI, blkI, if_true, if_false, reduceIte, Nat.reduceEqDiff]) | (refine wpI_region ?_; simp only [List.size_toArray, List.length_cons, List.length_nil, Nat.reduceAdd, Nat.zero_add, List.range, List.range.loop]) | (refine opI_unwanted rfl (by rfl) ?_; try walk_nrm) | (refine opI_k rfl (by rfl) (fun w₁ hR K hK => ?_); skip; go_simp; refine hK _ (fun e he => ?_) ?_; (first | done | ((rw [listed_nil (by simp [go_sem, *])] at he; simp at he))); (try clear hc₁); (clear hK K hR; clear w₁); (try walk_nrm)))
    refine opI_call rfl (by rfl) rfl (by
      have h := specBest_c true XB γ2 w2 _ xs s (hT.ext hX) (by omega) hL2
      walk_nrm
      exact h) ?_
    rintro γ3 u3 w3 ⟨hE3, hL3, rfl⟩
    replace hX := hX.trans hE3
    clear hE3 hL2
    clear w2
    obtain ⟨O, hO⟩ : ∃ O, Hd (O = bestS xs s) := ⟨_, ⟨rfl⟩⟩
    rw [← hO.out]
    try walk_nrm
    by_cases hneg : O < 0
    · repeat (first | ((first | refine wpI_seq ?_ | refine wpI_block ?_ | refine wpI_skip ?_ | refine wpI_label ?_ | refine wpI_ret ?_ | refine wpI_exit ?_ | refine opI_nil ?_); try simp only [thenI, blkI, if_true, if_false, reduceIte, Nat.reduceEqDiff]) | (refine wpI_region ?_; simp only [List.size_toArray, List.length_cons, List.length_nil, Nat.reduceAdd, Nat.zero_add, List.range, List.range.loop]) | (refine opI_unwanted rfl (by rfl) ?_; try walk_nrm) | (refine opI_k rfl (by rfl) (fun w₁ hR K hK => ?_); skip; go_simp; refine hK _ (fun e he => ?_) ?_; (first | done | ((rw [listed_nil (by simp [go_sem, *])] at he; simp at he))); (try clear hc₁); (clear hK K hR; clear w₁); (try walk_nrm)))
      (refine wpI_cond (t := true) rfl ?_; simp only [if_true, if_false, Bool.false_eq_true, reduceIte])
      repeat (first | ((first | refine wpI_seq ?_ | refine wpI_block ?_ | refine wpI_skip ?_ | refine wpI_label ?_ | refine wpI_ret ?_ | refine wpI_exit ?_ | refine opI_nil ?_); try simp only [thenI, blkI, if_true, if_false, reduceIte, Nat.reduceEqDiff]) | (refine wpI_region ?_; simp only [List.size_toArray, List.length_cons, List.length_nil, Nat.reduceAdd, Nat.zero_add, List.range, List.range.loop]) | (refine opI_unwanted rfl (by rfl) ?_; try walk_nrm) | (refine opI_k rfl (by rfl) (fun w₁ hR K hK => ?_); skip; go_simp; refine hK _ (fun e he => ?_) ?_; (first | done | ((rw [listed_nil (by simp [go_sem, *])] at he; simp at he))); (try clear hc₁); (clear hK K hR; clear w₁); (try walk_nrm)))
      refine ⟨rfl, _, resultsC_tmp rfl _, ?_⟩
      exact ⟨hE1.trans hX, rfl⟩
    · obtain ⟨o, a, b, ho, hol, hab, hb0, ha, hb, hhalf, h5, hall⟩ := best_law (xs := xs) (s := s) (by rw [← hO.out]; omega)
      obtain rfl : O = o := hO.out.trans ho
      have hhalf' := Hd.mk hhalf
      have hall' := Hd.mk hall
      have hab' := Hd.mk hab
      clear hhalf hall hab hO ho
      replace hX := hX.noCs (fun _ h => h)
      replace hL3 := hL3.noCs
      repeat (first | ((first | refine wpI_seq ?_ | refine wpI_block ?_ | refine wpI_skip ?_ | refine wpI_label ?_ | refine wpI_ret ?_ | refine wpI_exit ?_ | refine opI_nil ?_); try simp only [thenI, blkI, if_true, if_false, reduceIte, Nat.reduceEqDiff]) | (refine wpI_region ?_; simp only [List.size_toArray, List.length_cons, List.length_nil, Nat.reduceAdd, Nat.zero_add, List.range, List.range.loop]) | (refine opI_unwanted rfl (by rfl) ?_; try walk_nrm) | (refine opI_k rfl (by rfl) (fun w₁ hR K hK => ?_); skip; go_simp; refine hK _ (fun e he => ?_) ?_; (first | done | ((rw [listed_nil (by simp [go_sem, *])] at he; simp at he))); (try clear hc₁); (clear hK K hR; clear w₁); (try walk_nrm)))
      (refine wpI_cond (t := false) rfl ?_; simp only [if_true, if_false, Bool.false_eq_true, reduceIte])
      repeat (first | ((first | refine wpI_seq ?_ | refine wpI_block ?_ | refine wpI_skip ?_ | refine wpI_label ?_ | refine wpI_ret ?_ | refine wpI_exit ?_ | refine opI_nil ?_); try simp only [thenI, blkI, if_true, if_false, reduceIte, Nat.reduceEqDiff]) | (refine wpI_region ?_; simp only [List.size_toArray, List.length_cons, List.length_nil, Nat.reduceAdd, Nat.zero_add, List.range, List.range.loop]) | (refine opI_unwanted rfl (by rfl) ?_; try walk_nrm) | (refine opI_k rfl (by rfl) (fun w₁ hR K hK => ?_); skip; go_simp; refine hK _ (fun e he => ?_) ?_; (first | done | ((rw [listed_nil (by simp [go_sem, *])] at he; simp at he))); (try clear hc₁); (clear hK K hR; clear w₁); (try walk_nrm)))
      refine opI_callN rfl (by rfl) rfl (by
        have h := implChance_c γ3.noCs w3 _ xs s o (hT.ext hX) (by omega) hL3 ((hX.p.trans hE1.p).trans hp) (fun _ h => h)
        walk_nrm
        exact h) ?_
      rintro γ4 u4 w4 ⟨hE4, hL4, rfl⟩
      rw [hab'.out]
      simp only [chV]
      replace hX := hX.trans hE4
      clear hE4 hL3
      clear γ3 w3
      try walk_nrm
      obtain ⟨P, hP, hw⟩ : ∃ P, Hd (P = (a : Int) * (xs.length : Int)) ∧ IntKind.i64.wrap ((a : Int) * (xs.length : Int)) = P := ⟨_, ⟨rfl⟩, mul_in ha (by omega)⟩
      have hge : (b : Int) ≤ (a : Int) * (xs.length : Int) := by rw [← Int.natCast_mul]; exact Int.ofNat_le.2 hhalf'.out
      rw [← hP.out] at hge
      repeat (first | ((first | refine wpI_seq ?_ | refine wpI_block ?_ | refine wpI_skip ?_ | refine wpI_label ?_ | refine wpI_ret ?_ | refine wpI_exit ?_ | refine opI_nil ?_); try simp only [thenI, blkI, if_true, if_false, reduceIte, Nat.reduceEqDiff]) | (refine wpI_region ?_; simp only [List.size_toArray, List.length_cons, List.length_nil, Nat.reduceAdd, Nat.zero_add, List.range, List.range.loop]) | (refine opI_unwanted rfl (by rfl) ?_; try walk_nrm) | (refine opI_k rfl (by rfl) (fun w₁ hR K hK => ?_); skip; go_simp; refine hK _ (fun e he => ?_) ?_; (first | done | ((rw [listed_nil (by simp [go_sem, *])] at he; simp at he))); (try clear hc₁); (clear hK K hR; clear w₁); (try walk_nrm)))
      refine ⟨rfl, _, resultsC_tmp rfl _, ?_⟩
      exact ⟨hE1.trans hX, rfl⟩
end Go.Proofs.Ytndfookgkkefnaa
