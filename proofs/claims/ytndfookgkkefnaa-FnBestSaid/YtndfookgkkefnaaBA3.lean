/- Walks in company: the reference's AssignChance; the law FnExactAssignChance. -/
import Derived.Test.YtndfookgkkefnaaBA2
import Derived.Test.YtndfookgkkefnaaBH3
namespace Go.Proofs.Ytndfookgkkefnaa
set_option linter.unusedSimpArgs false
set_option linter.unusedVariables false
set_option linter.unusedSectionVars false
open Go Go.Conc Go.RowKit
theorem isP_cnt (xs : List (List Bool)) (s : Int) : isP xs s = (decide (0 < cntV xs) && (decide (0 ≤ s) && decide (s ≤ (xs.length : Int) - 1))) := by rw [isP, cntV_eq]
set_option maxHeartbeats 8000000 in
set_option maxRecDepth 100000 in
theorem specChance_c (main : Bool) (X : Pha) (γ : Gh) (w : World) (v : Value) (xs : List (List Bool)) (s q : Int) (hT : TabV γ w v xs) (hn : xs.length < 4611686018427387904) (hL : Lies γ w) :
    CallsI Try.prog main X 22 #[v, .int .i64 s, .int .i64 q] γ w fun γ' u w' => Ext γ w γ' w' ∧ Lies γ' w' ∧ u = chV (chance xs s q) := by
  obtain ⟨p, c, rfl, _⟩ := hT.form
  (refine callsI_of Try.func22 (by rfl) rfl ?_; simp only [Try.ntmps22, List.size_toArray, List.length_cons, List.length_nil, Nat.reduceAdd, Nat.reduceSub, Array.replicate_succ, Array.replicate_zero, List.push_toArray, List.append_toArray, List.nil_append, List.cons_append])
  repeat (first | ((first | refine wpI_seq ?_ | refine wpI_block ?_ | refine wpI_skip ?_ | refine wpI_label ?_ | refine wpI_ret ?_ | refine wpI_exit ?_ | refine opI_nil ?_); try simp only [thenI, blkI, if_true, if_false, reduceIte, Nat.reduceEqDiff]) | (refine wpI_region ?_; simp only [List.size_toArray, List.length_cons, List.length_nil, Nat.reduceAdd, Nat.zero_add, List.range, List.range.loop]) | (refine opI_unwanted rfl (by rfl) ?_; try walk_nrm) | (refine opI_k rfl (by rfl) (fun w₁ hR K hK => ?_); skip; go_simp; refine hK _ (fun e he => ?_) ?_; (first | done | ((rw [listed_nil (by simp [go_sem, *])] at he; simp at he))); (try clear hc₁); (clear hK K hR; clear w₁); (try walk_nrm)))
  refine opI_call rfl (by rfl) rfl (by
    have h := specCount_c main X γ w _ xs hT hn hL
    walk_nrm
    exact h) ?_
  rintro γ1 u1 w1 ⟨hE1, hL1, rfl⟩
  try walk_nrm
  have ew : IntKind.i64.wrap ((xs.length : Int) - 1) = (xs.length : Int) - 1 := by rw [IntKind.wrap_i64]; omega
  by_cases h : 0 < cntV xs
  · have hle : decide (cntV xs ≤ 0) = false := by simp; omega
    have e1 : Hd (isP xs s = (decide (0 ≤ s) && decide (s ≤ (xs.length : Int) - 1))) := ⟨by rw [isP_cnt]; simp [h]⟩
    have e2 : Hd (isP xs q = (decide (0 ≤ q) && decide (q ≤ (xs.length : Int) - 1))) := ⟨by rw [isP_cnt]; simp [h]⟩
    have hpos := Hd.mk h
    clear h
    repeat (first | ((first | refine wpI_seq ?_ | refine wpI_block ?_ | refine wpI_skip ?_ | refine wpI_label ?_ | refine wpI_ret ?_ | refine wpI_exit ?_ | refine opI_nil ?_); try simp only [thenI, blkI, if_true, if_false, reduceIte, Nat.reduceEqDiff]) | (refine wpI_region ?_; simp only [List.size_toArray, List.length_cons, List.length_nil, Nat.reduceAdd, Nat.zero_add, List.range, List.range.loop]) | (refine opI_unwanted rfl (by rfl) ?_; try walk_nrm) | (refine opI_k rfl (by rfl) (fun w₁ hR K hK => ?_); skip; go_simp; refine hK _ (fun e he => ?_) ?_; (first | done | ((rw [listed_nil (by simp [go_sem, *])] at he; simp at he))); (try clear hc₁); (clear hK K hR; clear w₁); (try walk_nrm)))
    (refine opI_call (Post := fun γ'' r w'' => γ'' = _ ∧ w'' = _ ∧ r = .bool (decide (0 ≤ s) && decide (s ≤ (xs.length : Int) - 1))) rfl (by rfl) rfl (by have h := (l6In_c main X γ1 w1 s 0 ((xs.length : Int) - 1)); walk_nrm; exact h) ?_; intro γx ux wx hx; obtain ⟨hx1, hx2, rfl⟩ := hx; rw [hx1, hx2]; clear hx1 hx2; clear wx; clear γx; walk_nrm)
    rw [← e1.out]
    cases hv : isP xs s with
    | false =>
      have hc : Hd (chance xs s q = (0, 0)) := ⟨by rw [chance, hv]; rfl⟩
      repeat (first | ((first | refine wpI_seq ?_ | refine wpI_block ?_ | refine wpI_skip ?_ | refine wpI_label ?_ | refine wpI_ret ?_ | refine wpI_exit ?_ | refine opI_nil ?_); try simp only [thenI, blkI, if_true, if_false, reduceIte, Nat.reduceEqDiff]) | (refine wpI_region ?_; simp only [List.size_toArray, List.length_cons, List.length_nil, Nat.reduceAdd, Nat.zero_add, List.range, List.range.loop]) | (refine opI_unwanted rfl (by rfl) ?_; try walk_nrm) | (refine opI_k rfl (by rfl) (fun w₁ hR K hK => ?_); skip; go_simp; refine hK _ (fun e he => ?_) ?_; (first | done | ((rw [listed_nil (by simp [go_sem, *])] at he; simp at he))); (try clear hc₁); (clear hK K hR; clear w₁); (try walk_nrm)))
      (refine wpI_cond (t := true) rfl ?_; simp only [if_true, if_false, Bool.false_eq_true, reduceIte])
      repeat (first | ((first | refine wpI_seq ?_ | refine wpI_block ?_ | refine wpI_skip ?_ | refine wpI_label ?_ | refine wpI_ret ?_ | refine wpI_exit ?_ | refine opI_nil ?_); try simp only [thenI, blkI, if_true, if_false, reduceIte, Nat.reduceEqDiff]) | (refine wpI_region ?_; simp only [List.size_toArray, List.length_cons, List.length_nil, Nat.reduceAdd, Nat.zero_add, List.range, List.range.loop]) | (refine opI_unwanted rfl (by rfl) ?_; try walk_nrm) | (refine opI_k rfl (by rfl) (fun w₁ hR K hK => ?_); skip; go_simp; refine hK _ (fun e he => ?_) ?_; (first | done | ((rw [listed_nil (by simp [go_sem, *])] at he; simp at he))); (try clear hc₁); (clear hK K hR; clear w₁); (try walk_nrm)))
      refine ⟨rfl, _, resultsC_tmp2 rfl _, ?_⟩
      exact ⟨hE1, hL1, by rw [hc.out]; rfl⟩
    | true =>
      repeat (first | ((first | refine wpI_seq ?_ | refine wpI_block ?_ | refine wpI_skip ?_ | refine wpI_label ?_ | refine wpI_ret ?_ | refine wpI_exit ?_ | refine opI_nil ?_); try simp only [thenI, blkI, if_true, if_false, reduceIte, Nat.reduceEqDiff]) | (refine wpI_region ?_; simp only [List.size_toArray, List.length_cons, List.length_nil, Nat.reduceAdd, Nat.zero_add, List.range, List.range.loop]) | (refine opI_unwanted rfl (by rfl) ?_; try walk_nrm) | (refine opI_k rfl (by rfl) (fun w₁ hR K hK => ?_); skip; go_simp; refine hK _ (fun e he => ?_) ?_; (first | done | ((rw [listed_nil (by simp [go_sem, *])] at he; simp at he))); (try clear hc₁); (clear hK K hR; clear w₁); (try walk_nrm)))
      (refine opI_call (Post := fun γ'' r w'' => γ'' = _ ∧ w'' = _ ∧ r = .bool (decide (0 ≤ q) && decide (q ≤ (xs.length : Int) - 1))) rfl (by rfl) rfl (by have h := (l6In_c main X γ1 w1 q 0 ((xs.length : Int) - 1)); walk_nrm; exact h) ?_; intro γx ux wx hx; obtain ⟨hx1, hx2, rfl⟩ := hx; rw [hx1, hx2]; clear hx1 hx2; clear wx; clear γx; walk_nrm)
      rw [← e2.out]
      cases hv' : isP xs q with
      | false =>
        have hc : Hd (chance xs s q = (0, 0)) := ⟨by rw [chance, hv, hv']; rfl⟩
        repeat (first | ((first | refine wpI_seq ?_ | refine wpI_block ?_ | refine wpI_skip ?_ | refine wpI_label ?_ | refine wpI_ret ?_ | refine wpI_exit ?_ | refine opI_nil ?_); try simp only [thenI, blkI, if_true, if_false, reduceIte, Nat.reduceEqDiff]) | (refine wpI_region ?_; simp only [List.size_toArray, List.length_cons, List.length_nil, Nat.reduceAdd, Nat.zero_add, List.range, List.range.loop]) | (refine opI_unwanted rfl (by rfl) ?_; try walk_nrm) | (refine opI_k rfl (by rfl) (fun w₁ hR K hK => ?_); skip; go_simp; refine hK _ (fun e he => ?_) ?_; (first | done | ((rw [listed_nil (by simp [go_sem, *])] at he; simp at he))); (try clear hc₁); (clear hK K hR; clear w₁); (try walk_nrm)))
        (refine wpI_cond (t := true) rfl ?_; simp only [if_true, if_false, Bool.false_eq_true, reduceIte])
        repeat (first | ((first | refine wpI_seq ?_ | refine wpI_block ?_ | refine wpI_skip ?_ | refine wpI_label ?_ | refine wpI_ret ?_ | refine wpI_exit ?_ | refine opI_nil ?_); try simp only [thenI, blkI, if_true, if_false, reduceIte, Nat.reduceEqDiff]) | (refine wpI_region ?_; simp only [List.size_toArray, List.length_cons, List.length_nil, Nat.reduceAdd, Nat.zero_add, List.range, List.range.loop]) | (refine opI_unwanted rfl (by rfl) ?_; try walk_nrm) | (refine opI_k rfl (by rfl) (fun w₁ hR K hK => ?_); skip; go_simp; refine hK _ (fun e he => ?_) ?_; (first | done | ((rw [listed_nil (by simp [go_sem, *])] at he; simp at he))); (try clear hc₁); (clear hK K hR; clear w₁); (try walk_nrm)))
        refine ⟨rfl, _, resultsC_tmp2 rfl _, ?_⟩
        exact ⟨hE1, hL1, by rw [hc.out]; rfl⟩
      | true =>
        obtain ⟨hv1, hp0, hpl, hpe⟩ := isP_props hv
        obtain ⟨_, hq0, hql, hqe⟩ := isP_props hv'
        obtain ⟨h0, h5, hr⟩ := validB_props hv1
        obtain ⟨s', rfl⟩ : ∃ s' : Nat, s = s' := ⟨s.toNat, hpe.symm⟩
        obtain ⟨r', rfl⟩ : ∃ r' : Nat, q = r' := ⟨q.toNat, hqe.symm⟩
        rw [Int.toNat_natCast] at hpl hql
        have hc0 : chance xs s' r' = ((((cntW xs s' r').toNat / gN xs s' r' : Nat) : Int), (((cntV xs).toNat / gN xs s' r' : Nat) : Int)) := by rw [chance, hv, hv']; rfl
        have hW := cntW_bd h5 s' r'
        have hV : cntV xs ≤ 3125 := by
          rw [cntV, hv1]
          exact (cntS_bd' h5 []).2
        obtain ⟨n, hn1⟩ : ∃ n : Nat, Hd ((n : Int) = cntW xs s' r') := ⟨(cntW xs s' r').toNat, ⟨by omega⟩⟩
        obtain ⟨A, hA1⟩ : ∃ A : Nat, Hd ((A : Int) = cntV xs) := ⟨(cntV xs).toNat, ⟨by have := hpos.out; omega⟩⟩
        have hn2 : n ≤ 3125 := by have := hn1.out; omega
        have hA2 : A ≤ 3125 := by have := hA1.out; omega
        have hA3 : 0 < A := by have := hA1.out; have := hpos.out; omega
        obtain ⟨g, hg⟩ : ∃ g : Nat, Hd (g = Nat.gcd A n) := ⟨_, ⟨rfl⟩⟩
        have hg1 : 1 ≤ g := by rw [hg.out]; exact Nat.gcd_pos_of_pos_left _ hA3
        have hc : Hd (chance xs s' r' = (((n / g : Nat) : Int), ((A / g : Nat) : Int))) := ⟨by
          have e1 : (cntW xs s' r').toNat = n := by have := hn1.out; omega
          have e2 : (cntV xs).toNat = A := by have := hA1.out; omega
          rw [hc0, gN, e1, e2, hg.out, Nat.gcd_comm]⟩
        have hT1 := (hT.tab h0).ext hE1
        have hg0 : ¬ g = 0 := by omega
        have hwn := div_in n g hn2
        have hwA := div_in A g hA2
        rw [← hA1.out] at hle ⊢
        clear hc0 hW hV hv hv' hv1 hpe hqe e1 e2
        have hr' := Hd.mk hr
        have h5' := Hd.mk h5
        clear hr h5
        repeat (first | ((first | refine wpI_seq ?_ | refine wpI_block ?_ | refine wpI_skip ?_ | refine wpI_label ?_ | refine wpI_ret ?_ | refine wpI_exit ?_ | refine opI_nil ?_); try simp only [thenI, blkI, if_true, if_false, reduceIte, Nat.reduceEqDiff]) | (refine wpI_region ?_; simp only [List.size_toArray, List.length_cons, List.length_nil, Nat.reduceAdd, Nat.zero_add, List.range, List.range.loop]) | (refine opI_unwanted rfl (by rfl) ?_; try walk_nrm) | (refine opI_k rfl (by rfl) (fun w₁ hR K hK => ?_); skip; go_simp; refine hK _ (fun e he => ?_) ?_; (first | done | ((rw [listed_nil (by simp [go_sem, *])] at he; simp at he))); (try clear hc₁); (clear hK K hR; clear w₁); (try walk_nrm)))
        (refine wpI_cond (t := false) rfl ?_; simp only [if_true, if_false, Bool.false_eq_true, reduceIte])
        repeat (first | ((first | refine wpI_seq ?_ | refine wpI_block ?_ | refine wpI_skip ?_ | refine wpI_label ?_ | refine wpI_ret ?_ | refine wpI_exit ?_ | refine opI_nil ?_); try simp only [thenI, blkI, if_true, if_false, reduceIte, Nat.reduceEqDiff]) | (refine wpI_region ?_; simp only [List.size_toArray, List.length_cons, List.length_nil, Nat.reduceAdd, Nat.zero_add, List.range, List.range.loop]) | (refine opI_unwanted rfl (by rfl) ?_; try walk_nrm) | (refine opI_k rfl (by rfl) (fun w₁ hR K hK => ?_); skip; go_simp; refine hK _ (fun e he => ?_) ?_; (first | done | ((rw [listed_nil (by simp [go_sem, *])] at he; simp at he))); (try clear hc₁); (clear hK K hR; clear w₁); (try walk_nrm)))
        refine opI_call rfl (by rfl) rfl (by
          have h := l33With_c main X γ1 w1 _ xs s' r' hT1 h0 h5'.out hr'.out hpl hql hL1
          walk_nrm
          exact h) ?_
        rintro γ2 u2 w2 ⟨hE2, hL2, hT3⟩
        try walk_nrm
        repeat (first | ((first | refine wpI_seq ?_ | refine wpI_block ?_ | refine wpI_skip ?_ | refine wpI_label ?_ | refine wpI_ret ?_ | refine wpI_exit ?_ | refine opI_nil ?_); try simp only [thenI, blkI, if_true, if_false, reduceIte, Nat.reduceEqDiff]) | (refine wpI_region ?_; simp only [List.size_toArray, List.length_cons, List.length_nil, Nat.reduceAdd, Nat.zero_add, List.range, List.range.loop]) | (refine opI_unwanted rfl (by rfl) ?_; try walk_nrm) | (refine opI_k rfl (by rfl) (fun w₁ hR K hK => ?_); skip; go_simp; refine hK _ (fun e he => ?_) ?_; (first | done | ((rw [listed_nil (by simp [go_sem, *])] at he; simp at he))); (try clear hc₁); (clear hK K hR; clear w₁); (try walk_nrm)))
        (refine opI_new (v := fun n => .slice (some ⟨n, 0, none⟩) 0 0) (ob := .cells #[] 3) rfl (by rfl) (fun w₁ hR => ⟨run_eq_of (fun K hK => (by go_simp; exact hK)), fun e he => (by exfalso; have hm := mem_listed he; simp [go_sem, *] at hm)⟩) fun w₁ hR => ?_)
        have hE3 := Ext.new' (w₁ := w₁) hL2 hR (.cells #[] 3)
        have hL3 := Lies.new (hL2.rely hR) (.cells #[] 3)
        have hZ := emptyZ (γ := γ2) (w₁ := w₁) (w := w)
        clear hR
        generalize Value.slice (some ⟨w₁.heap.size, 0, none⟩) 0 0 = vo at hZ ⊢
        generalize γ2.new w₁.heap.size = γ3 at hZ hE3 hL3 ⊢
        generalize w₁.alloc (.cells #[] 3) = w3 at hZ hE3 hL3 ⊢
        clear w₁
        try walk_nrm
        repeat (first | ((first | refine wpI_seq ?_ | refine wpI_block ?_ | refine wpI_skip ?_ | refine wpI_label ?_ | refine wpI_ret ?_ | refine wpI_exit ?_ | refine opI_nil ?_); try simp only [thenI, blkI, if_true, if_false, reduceIte, Nat.reduceEqDiff]) | (refine wpI_region ?_; simp only [List.size_toArray, List.length_cons, List.length_nil, Nat.reduceAdd, Nat.zero_add, List.range, List.range.loop]) | (refine opI_unwanted rfl (by rfl) ?_; try walk_nrm) | (refine opI_k rfl (by rfl) (fun w₁ hR K hK => ?_); skip; go_simp; refine hK _ (fun e he => ?_) ?_; (first | done | ((rw [listed_nil (by simp [go_sem, *])] at he; simp at he))); (try clear hc₁); (clear hK K hR; clear w₁); (try walk_nrm)))
        refine opI_call rfl (by rfl) rfl (by
          have h := withCount_c main X s' r' h5'.out hr'.out (hT3.ext hE3) hZ hL3
          walk_nrm
          exact h) ?_
        rintro γ4 u4 w4 ⟨hE4, hL4, rfl⟩
        have hE5 := ((hE1.trans hE2).trans hE3).trans hE4
        rw [← hn1.out]
        clear hE2 hE3 hE4 hZ hL2 hL3 hT3
        try walk_nrm
        repeat (first | ((first | refine wpI_seq ?_ | refine wpI_block ?_ | refine wpI_skip ?_ | refine wpI_label ?_ | refine wpI_ret ?_ | refine wpI_exit ?_ | refine opI_nil ?_); try simp only [thenI, blkI, if_true, if_false, reduceIte, Nat.reduceEqDiff]) | (refine wpI_region ?_; simp only [List.size_toArray, List.length_cons, List.length_nil, Nat.reduceAdd, Nat.zero_add, List.range, List.range.loop]) | (refine opI_unwanted rfl (by rfl) ?_; try walk_nrm) | (refine opI_k rfl (by rfl) (fun w₁ hR K hK => ?_); skip; go_simp; refine hK _ (fun e he => ?_) ?_; (first | done | ((rw [listed_nil (by simp [go_sem, *])] at he; simp at he))); (try clear hc₁); (clear hK K hR; clear w₁); (try walk_nrm)))
        (refine opI_call (Post := fun γ'' r w'' => γ'' = _ ∧ w'' = _ ∧ r = .int .i64 g) rfl (by rfl) rfl (by have h := (hg.out ▸ specGcd_c main X γ4 w4 A n); walk_nrm; exact h) ?_; intro γx ux wx hx; obtain ⟨hx1, hx2, rfl⟩ := hx; rw [hx1, hx2]; clear hx1 hx2; clear wx; clear γx; walk_nrm)
        repeat (first | ((first | refine wpI_seq ?_ | refine wpI_block ?_ | refine wpI_skip ?_ | refine wpI_label ?_ | refine wpI_ret ?_ | refine wpI_exit ?_ | refine opI_nil ?_); try simp only [thenI, blkI, if_true, if_false, reduceIte, Nat.reduceEqDiff]) | (refine wpI_region ?_; simp only [List.size_toArray, List.length_cons, List.length_nil, Nat.reduceAdd, Nat.zero_add, List.range, List.range.loop]) | (refine opI_unwanted rfl (by rfl) ?_; try walk_nrm) | (refine opI_k rfl (by rfl) (fun w₁ hR K hK => ?_); skip; go_simp; refine hK _ (fun e he => ?_) ?_; (first | done | ((rw [listed_nil (by simp [go_sem, *])] at he; simp at he))); (try clear hc₁); (clear hK K hR; clear w₁); (try walk_nrm)))
        refine wpI_draw (γ₀ := γ4) (w₀ := w4) (by kernel_rfl) relyI_then ?_
        (refine anyI_take (by first | exact relyI_then | exact fun γ a w w₁ ⟨m, hm, hE, rest⟩ r => ⟨m, hm, hE.rely r, rest⟩) (i := 0) (v := .int .i64 n) rfl (by kernel_rfl) (by kernel_rfl) (by kernel_rfl) (.inl ⟨by rfl, fun γ' w' hE => ?_⟩) (Ext.refl _ _) ?_; (skip; refine ⟨run_eq_of fun K hK => (by go_simp; exact hK), fun e he => ?_⟩; (rw [listed_nil (by simp [go_sem, ev_neq_bool, *])] at he; simp at he)); try walk_nrm)
        (refine anyI_take (by first | exact relyI_then | exact fun γ a w w₁ ⟨m, hm, hE, rest⟩ r => ⟨m, hm, hE.rely r, rest⟩) (i := 1) (v := .int .i64 g) rfl (by kernel_rfl) (by kernel_rfl) (by kernel_rfl) (.inl ⟨by rfl, fun γ' w' hE => ?_⟩) (Ext.refl _ _) ?_; (skip; refine ⟨run_eq_of fun K hK => (by go_simp; exact hK), fun e he => ?_⟩; (rw [listed_nil (by simp [go_sem, ev_neq_bool, *])] at he; simp at he)); try walk_nrm)
        (refine anyI_take (by first | exact relyI_then | exact fun γ a w w₁ ⟨m, hm, hE, rest⟩ r => ⟨m, hm, hE.rely r, rest⟩) (i := 2) (v := .int .i64 ((n : Int) / (g : Int))) rfl (by kernel_rfl) (by kernel_rfl) (by kernel_rfl) (.inl ⟨by rfl, fun γ' w' hE => ?_⟩) (Ext.refl _ _) ?_; (skip; refine ⟨run_eq_of fun K hK => (by go_simp; exact hK), fun e he => ?_⟩; (rw [listed_nil (by simp [go_sem, ev_neq_bool, *])] at he; simp at he)); try walk_nrm)
        (refine anyI_take (by first | exact relyI_then | exact fun γ a w w₁ ⟨m, hm, hE, rest⟩ r => ⟨m, hm, hE.rely r, rest⟩) (i := 3) (v := .int .i64 A) rfl (by kernel_rfl) (by kernel_rfl) (by kernel_rfl) (.inl ⟨by rfl, fun γ' w' hE => ?_⟩) (Ext.refl _ _) ?_; (skip; refine ⟨run_eq_of fun K hK => (by go_simp; exact hK), fun e he => ?_⟩; (rw [listed_nil (by simp [go_sem, ev_neq_bool, *])] at he; simp at he)); try walk_nrm)
        (refine anyI_take (by first | exact relyI_then | exact fun γ a w w₁ ⟨m, hm, hE, rest⟩ r => ⟨m, hm, hE.rely r, rest⟩) (i := 4) (v := .int .i64 g) rfl (by kernel_rfl) (by kernel_rfl) (by kernel_rfl) (.inl ⟨by rfl, fun γ' w' hE => ?_⟩) (Ext.refl _ _) ?_; (skip; refine ⟨run_eq_of fun K hK => (by go_simp; exact hK), fun e he => ?_⟩; (rw [listed_nil (by simp [go_sem, ev_neq_bool, *])] at he; simp at he)); try walk_nrm)
        (refine anyI_take (by first | exact relyI_then | exact fun γ a w w₁ ⟨m, hm, hE, rest⟩ r => ⟨m, hm, hE.rely r, rest⟩) (i := 5) (v := .int .i64 ((A : Int) / (g : Int))) rfl (by kernel_rfl) (by kernel_rfl) (by kernel_rfl) (.inl ⟨by rfl, fun γ' w' hE => ?_⟩) (Ext.refl _ _) ?_; (skip; refine ⟨run_eq_of fun K hK => (by go_simp; exact hK), fun e he => ?_⟩; (rw [listed_nil (by simp [go_sem, ev_neq_bool, *])] at he; simp at he)); try walk_nrm)
        (refine anyI_take (by first | exact relyI_then | exact fun γ a w w₁ ⟨m, hm, hE, rest⟩ r => ⟨m, hm, hE.rely r, rest⟩) (i := 6) (v := .int .i64 ((n : Int) / (g : Int))) rfl (by kernel_rfl) (by kernel_rfl) (by kernel_rfl) (.inl ⟨by rfl, fun γ' w' hE => ?_⟩) (Ext.refl _ _) ?_; (skip; refine ⟨run_eq_of fun K hK => (by go_simp; exact hK), fun e he => ?_⟩; (rw [listed_nil (by simp [go_sem, ev_neq_bool, *])] at he; simp at he)); try walk_nrm)
        (refine anyI_take (by first | exact relyI_then | exact fun γ a w w₁ ⟨m, hm, hE, rest⟩ r => ⟨m, hm, hE.rely r, rest⟩) (i := 7) (v := .int .i64 ((A : Int) / (g : Int))) rfl (by kernel_rfl) (by kernel_rfl) (by kernel_rfl) (.inl ⟨by rfl, fun γ' w' hE => ?_⟩) (Ext.refl _ _) ?_; (skip; refine ⟨run_eq_of fun K hK => (by go_simp; exact hK), fun e he => ?_⟩; (rw [listed_nil (by simp [go_sem, ev_neq_bool, *])] at he; simp at he)); try walk_nrm)
        refine anyI_done (by kernel_rfl) ?_ _
        simp only [thenI]
        repeat (first | ((first | refine wpI_seq ?_ | refine wpI_block ?_ | refine wpI_skip ?_ | refine wpI_label ?_ | refine wpI_ret ?_ | refine wpI_exit ?_ | refine opI_nil ?_); try simp only [thenI, blkI, if_true, if_false, reduceIte, Nat.reduceEqDiff]) | (refine wpI_region ?_; simp only [List.size_toArray, List.length_cons, List.length_nil, Nat.reduceAdd, Nat.zero_add, List.range, List.range.loop]) | (refine opI_unwanted rfl (by rfl) ?_; try walk_nrm) | (refine opI_k rfl (by rfl) (fun w₁ hR K hK => ?_); skip; go_simp; refine hK _ (fun e he => ?_) ?_; (first | done | ((rw [listed_nil (by simp [go_sem, *])] at he; simp at he))); (try clear hc₁); (clear hK K hR; clear w₁); (try walk_nrm)))
        refine ⟨rfl, _, resultsC_tmp2 rfl _, ?_⟩
        exact ⟨hE5, hL4, by rw [hc.out]; rfl⟩
  · have hle : decide (cntV xs ≤ 0) = true := by simp; omega
    have hc : Hd (chance xs s q = (0, 0)) := ⟨by rw [chance, isP_cnt]; simp [h]⟩
    clear h
    repeat (first | ((first | refine wpI_seq ?_ | refine wpI_block ?_ | refine wpI_skip ?_ | refine wpI_label ?_ | refine wpI_ret ?_ | refine wpI_exit ?_ | refine opI_nil ?_); try simp only [thenI, blkI, if_true, if_false, reduceIte, Nat.reduceEqDiff]) | (refine wpI_region ?_; simp only [List.size_toArray, List.length_cons, List.length_nil, Nat.reduceAdd, Nat.zero_add, List.range, List.range.loop]) | (refine opI_unwanted rfl (by rfl) ?_; try walk_nrm) | (refine opI_k rfl (by rfl) (fun w₁ hR K hK => ?_); skip; go_simp; refine hK _ (fun e he => ?_) ?_; (first | done | ((rw [listed_nil (by simp [go_sem, *])] at he; simp at he))); (try clear hc₁); (clear hK K hR; clear w₁); (try walk_nrm)))
    (refine wpI_cond (t := true) rfl ?_; simp only [if_true, if_false, Bool.false_eq_true, reduceIte])
    repeat (first | ((first | refine wpI_seq ?_ | refine wpI_block ?_ | refine wpI_skip ?_ | refine wpI_label ?_ | refine wpI_ret ?_ | refine wpI_exit ?_ | refine opI_nil ?_); try simp only [thenI, blkI, if_true, if_false, reduceIte, Nat.reduceEqDiff]) | (refine wpI_region ?_; simp only [List.size_toArray, List.length_cons, List.length_nil, Nat.reduceAdd, Nat.zero_add, List.range, List.range.loop]) | (refine opI_unwanted rfl (by rfl) ?_; try walk_nrm) | (refine opI_k rfl (by rfl) (fun w₁ hR K hK => ?_); skip; go_simp; refine hK _ (fun e he => ?_) ?_; (first | done | ((rw [listed_nil (by simp [go_sem, *])] at he; simp at he))); (try clear hc₁); (clear hK K hR; clear w₁); (try walk_nrm)))
    refine ⟨rfl, _, resultsC_tmp2 rfl _, ?_⟩
    exact ⟨hE1, hL1, by rw [hc.out]; rfl⟩
end Go.Proofs.Ytndfookgkkefnaa
