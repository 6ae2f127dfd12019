/- The law FnCertainOne, walked. -/
import Derived.Test.YtndfookgkkefnaaBQ4
import Derived.Test.YtndfookgkkefnaaBL3
import Derived.Test.YtndfookgkkefnaaBT4
namespace Go.Proofs.Ytndfookgkkefnaa
set_option linter.unusedSimpArgs false
set_option linter.unusedVariables false
set_option linter.unusedSectionVars false
open Go Go.Conc Go.RowKit
theorem one_a {γ : Gh} {w w₁ : World} (hL : Lies γ w) (hR : Rl γ w w₁) : Ext γ w (γ.new w₁.heap.size) (w₁.alloc (.cells #[.bool true] 4)) ∧ Lies (γ.new w₁.heap.size) (w₁.alloc (.cells #[.bool true] 4)) ∧ (γ.new w₁.heap.size).F w₁.heap.size ∧ (w₁.alloc (.cells #[.bool true] 4)).cell? ⟨w₁.heap.size, 0, none⟩ = some (.bool true) :=
  ⟨Ext.new' hL hR _, Lies.new (hL.rely hR) _, .inr rfl, by unfold World.cell?; rw [alloc_new]; rfl⟩
theorem one_b {γ : Gh} {w w₁ : World} {na : Nat} (hL : Lies γ w) (hR : Rl γ w w₁) (hF : γ.F na) (hc : w.cell? ⟨na, 0, none⟩ = some (.bool true)) :
    Ext γ w (γ.new w₁.heap.size) (w₁.alloc (.cells #[.slice (some ⟨na, 0, none⟩) 1 1] 28)) ∧ Lies (γ.new w₁.heap.size) (w₁.alloc (.cells #[.slice (some ⟨na, 0, none⟩) 1 1] 28)) ∧
      TabI (γ.new w₁.heap.size) (w₁.alloc (.cells #[.slice (some ⟨na, 0, none⟩) 1 1] 28)) (.slice (some ⟨w₁.heap.size, 0, none⟩) 1 1) [[true]] := by
  have hE := Ext.new' hL hR (.cells #[.slice (some ⟨na, 0, none⟩) 1 1] 28)
  refine ⟨hE, Lies.new (hL.rely hR) _, w₁.heap.size, 0, 1, rfl, .inr rfl, fun i bs hi => ?_⟩
  match i, hi with
  | 0, hi =>
    obtain rfl : [true] = bs := by simpa using hi
    refine ⟨.slice (some ⟨na, 0, none⟩) 1 1, by unfold World.cell?; rw [alloc_new]; rfl, .inr ⟨na, 0, 1, rfl, hE.F na hF, fun k x hk => ?_⟩⟩
    match k, hk with
    | 0, hk =>
      obtain rfl : true = x := by simpa using hk
      exact (cell_of (a := ⟨na, 0 + 0, none⟩) (hE.rl.blk na hF)).trans hc
    | k + 1, hk => simp at hk
  | i + 1, hi => simp at hi
/-- a row of one number -/
theorem one_n {γ : Gh} {w w₁ : World} (hL : Lies γ w) (hR : Rl γ w w₁) : Ext γ w (γ.new w₁.heap.size) (w₁.alloc (.cells #[.int .i64 0] 3)) ∧ Lies (γ.new w₁.heap.size) (w₁.alloc (.cells #[.int .i64 0] 3)) ∧ RowN (γ.new w₁.heap.size) (w₁.alloc (.cells #[.int .i64 0] 3)) (.slice (some ⟨w₁.heap.size, 0, none⟩) 1 1) [0] := by
  refine ⟨Ext.new' hL hR _, Lies.new (hL.rely hR) _, _, 1, rfl, fun i x hi => ?_⟩
  match i, hi with
  | 0, hi =>
    obtain rfl : 0 = x := by simpa using hi
    exact ⟨w₁.heap.size, 0, rfl, .inr rfl, by unfold World.cell?; rw [alloc_new]; rfl⟩
  | i + 1, hi => simp at hi
set_option maxHeartbeats 8000000 in
set_option maxRecDepth 100000 in
theorem lawCertainOne_c (γ : Gh) (w : World) (v : Value) (n : Nat) (hY : RowY γ w v n) (hn : n < 9223372036854775808) (hL : Lies γ w) (hp : γ.p = .no) (hCs : ∀ a, ¬ γ.Cs a) :
    CallsI Try.prog true XB 3 #[v] γ w fun γ' r w' => Ext γ w γ' w' ∧ r = .bool true := by
  obtain ⟨q, c, rfl, -⟩ := id hY
  have hY' := Hd.mk hY
  clear hY
  (refine callsI_of Try.func3 (by rfl) rfl ?_; simp only [Try.ntmps3, List.size_toArray, List.length_cons, List.length_nil, Nat.reduceAdd, Nat.reduceSub, Array.replicate_succ, Array.replicate_zero, List.push_toArray, List.append_toArray, List.nil_append, List.cons_append])
  repeat (first | ((first | refine wpI_seq ?_ | refine wpI_block ?_ | refine wpI_skip ?_ | refine wpI_label ?_ | refine wpI_ret ?_ | refine wpI_exit ?_ | refine opI_nil ?_); try simp only [thenI, blkI, if_true, if_false, reduceIte, Nat.reduceEqDiff]) | (refine wpI_region ?_; simp only [List.size_toArray, List.length_cons, List.length_nil, Nat.reduceAdd, Nat.zero_add, List.range, List.range.loop]) | (refine opI_unwanted rfl (by rfl) ?_; try walk_nrm) | (refine opI_k rfl (by rfl) (fun w₁ hR K hK => ?_); skip; go_simp; refine hK _ (fun e he => ?_) ?_; (first | done | ((rw [listed_nil (by simp [go_sem, *])] at he; simp at he))); (try clear hc₁); (clear hK K hR; clear w₁); (try walk_nrm)))
  by_cases h : (1048576 : Int) < (n : Int)
  · refine wpI_cond (t := true) (by simp [Act.eval, h]) ?_
    clear h
    simp only [if_true]
    repeat (first | ((first | refine wpI_seq ?_ | refine wpI_block ?_ | refine wpI_skip ?_ | refine wpI_label ?_ | refine wpI_ret ?_ | refine wpI_exit ?_ | refine opI_nil ?_); try simp only [thenI, blkI, if_true, if_false, reduceIte, Nat.reduceEqDiff]) | (refine wpI_region ?_; simp only [List.size_toArray, List.length_cons, List.length_nil, Nat.reduceAdd, Nat.zero_add, List.range, List.range.loop]) | (refine opI_unwanted rfl (by rfl) ?_; try walk_nrm) | (refine opI_k rfl (by rfl) (fun w₁ hR K hK => ?_); skip; go_simp; refine hK _ (fun e he => ?_) ?_; (first | done | ((rw [listed_nil (by simp [go_sem, *])] at he; simp at he))); (try clear hc₁); (clear hK K hR; clear w₁); (try walk_nrm)))
    refine ⟨rfl, _, resultsC_tmp rfl _, ?_⟩
    exact ⟨Ext.refl _ _, rfl⟩
  · refine wpI_cond (t := false) (by simp [Act.eval]; omega) ?_
    clear h
    simp only [if_false, Bool.false_eq_true]
    repeat (first | ((first | refine wpI_seq ?_ | refine wpI_block ?_ | refine wpI_skip ?_ | refine wpI_label ?_ | refine wpI_ret ?_ | refine wpI_exit ?_ | refine opI_nil ?_); try simp only [thenI, blkI, if_true, if_false, reduceIte, Nat.reduceEqDiff]) | (refine wpI_region ?_; simp only [List.size_toArray, List.length_cons, List.length_nil, Nat.reduceAdd, Nat.zero_add, List.range, List.range.loop]) | (refine opI_unwanted rfl (by rfl) ?_; try walk_nrm) | (refine opI_k rfl (by rfl) (fun w₁ hR K hK => ?_); skip; go_simp; refine hK _ (fun e he => ?_) ?_; (first | done | ((rw [listed_nil (by simp [go_sem, *])] at he; simp at he))); (try clear hc₁); (clear hK K hR; clear w₁); (try walk_nrm)))
    refine opI_call rfl (by rfl) rfl (by
      have h := drawCount_c true XB γ w _ n hY'.out hL
      walk_nrm
      exact h) ?_
    rintro γ1 u1 w1 ⟨hE1, hL1, xs, hT1, hl⟩
    obtain ⟨q1, c1, rfl, -⟩ := hT1.form
    try walk_nrm
    repeat (first | ((first | refine wpI_seq ?_ | refine wpI_block ?_ | refine wpI_skip ?_ | refine wpI_label ?_ | refine wpI_ret ?_ | refine wpI_exit ?_ | refine opI_nil ?_); try simp only [thenI, blkI, if_true, if_false, reduceIte, Nat.reduceEqDiff]) | (refine wpI_region ?_; simp only [List.size_toArray, List.length_cons, List.length_nil, Nat.reduceAdd, Nat.zero_add, List.range, List.range.loop]) | (refine opI_unwanted rfl (by rfl) ?_; try walk_nrm) | (refine opI_k rfl (by rfl) (fun w₁ hR K hK => ?_); skip; go_simp; refine hK _ (fun e he => ?_) ?_; (first | done | ((rw [listed_nil (by simp [go_sem, *])] at he; simp at he))); (try clear hc₁); (clear hK K hR; clear w₁); (try walk_nrm)))
    (refine opI_call (Post := fun γ'' r w'' => γ'' = _ ∧ w'' = _ ∧ r = .int .i64 (cntV xs)) rfl (by rfl) rfl (by have h := (cntV_eq xs ▸ implCount_c true XB γ1 w1 _ xs hT1 (by omega)); walk_nrm; exact h) ?_; intro γx ux wx hx; obtain ⟨hx1, hx2, rfl⟩ := hx; rw [hx1, hx2]; clear hx1 hx2; clear wx; clear γx; walk_nrm)
    repeat (first | ((first | refine wpI_seq ?_ | refine wpI_block ?_ | refine wpI_skip ?_ | refine wpI_label ?_ | refine wpI_ret ?_ | refine wpI_exit ?_ | refine opI_nil ?_); try simp only [thenI, blkI, if_true, if_false, reduceIte, Nat.reduceEqDiff]) | (refine wpI_region ?_; simp only [List.size_toArray, List.length_cons, List.length_nil, Nat.reduceAdd, Nat.zero_add, List.range, List.range.loop]) | (refine opI_unwanted rfl (by rfl) ?_; try walk_nrm) | (refine opI_k rfl (by rfl) (fun w₁ hR K hK => ?_); skip; go_simp; refine hK _ (fun e he => ?_) ?_; (first | done | ((rw [listed_nil (by simp [go_sem, *])] at he; simp at he))); (try clear hc₁); (clear hK K hR; clear w₁); (try walk_nrm)))
    refine opI_call rfl (by rfl) rfl (by
      have h := specCount_c true XB γ1 w1 _ xs hT1 (by omega) hL1
      walk_nrm
      exact h) ?_
    rintro γ2 u2 w2 ⟨hE2, hL2, rfl⟩
    have hX := hE1.trans hE2
    clear hE1 hE2 hL1 hT1
    obtain ⟨A, hA⟩ : ∃ A, Hd (A = cntV xs) := ⟨_, ⟨rfl⟩⟩
    rw [← hA.out]
    try walk_nrm
    by_cases hneg : A < 0
    · repeat (first | ((first | refine wpI_seq ?_ | refine wpI_block ?_ | refine wpI_skip ?_ | refine wpI_label ?_ | refine wpI_ret ?_ | refine wpI_exit ?_ | refine opI_nil ?_); try simp only [thenI, blkI, if_true, if_false, reduceIte, Nat.reduceEqDiff]) | (refine wpI_region ?_; simp only [List.size_toArray, List.length_cons, List.length_nil, Nat.reduceAdd, Nat.zero_add, List.range, List.range.loop]) | (refine opI_unwanted rfl (by rfl) ?_; try walk_nrm) | (refine opI_k rfl (by rfl) (fun w₁ hR K hK => ?_); skip; go_simp; refine hK _ (fun e he => ?_) ?_; (first | done | ((rw [listed_nil (by simp [go_sem, *])] at he; simp at he))); (try clear hc₁); (clear hK K hR; clear w₁); (try walk_nrm)))
      (refine wpI_cond (t := true) rfl ?_; simp only [if_true, if_false, Bool.false_eq_true, reduceIte])
      repeat (first | ((first | refine wpI_seq ?_ | refine wpI_block ?_ | refine wpI_skip ?_ | refine wpI_label ?_ | refine wpI_ret ?_ | refine wpI_exit ?_ | refine opI_nil ?_); try simp only [thenI, blkI, if_true, if_false, reduceIte, Nat.reduceEqDiff]) | (refine wpI_region ?_; simp only [List.size_toArray, List.length_cons, List.length_nil, Nat.reduceAdd, Nat.zero_add, List.range, List.range.loop]) | (refine opI_unwanted rfl (by rfl) ?_; try walk_nrm) | (refine opI_k rfl (by rfl) (fun w₁ hR K hK => ?_); skip; go_simp; refine hK _ (fun e he => ?_) ?_; (first | done | ((rw [listed_nil (by simp [go_sem, *])] at he; simp at he))); (try clear hc₁); (clear hK K hR; clear w₁); (try walk_nrm)))
      refine ⟨rfl, _, resultsC_tmp rfl _, ?_⟩
      exact ⟨hX, rfl⟩
    · repeat (first | ((first | refine wpI_seq ?_ | refine wpI_block ?_ | refine wpI_skip ?_ | refine wpI_label ?_ | refine wpI_ret ?_ | refine wpI_exit ?_ | refine opI_nil ?_); try simp only [thenI, blkI, if_true, if_false, reduceIte, Nat.reduceEqDiff]) | (refine wpI_region ?_; simp only [List.size_toArray, List.length_cons, List.length_nil, Nat.reduceAdd, Nat.zero_add, List.range, List.range.loop]) | (refine opI_unwanted rfl (by rfl) ?_; try walk_nrm) | (refine opI_k rfl (by rfl) (fun w₁ hR K hK => ?_); skip; go_simp; refine hK _ (fun e he => ?_) ?_; (first | done | ((rw [listed_nil (by simp [go_sem, *])] at he; simp at he))); (try clear hc₁); (clear hK K hR; clear w₁); (try walk_nrm)))
      (refine wpI_cond (t := false) rfl ?_; simp only [if_true, if_false, Bool.false_eq_true, reduceIte])
      repeat (first | ((first | refine wpI_seq ?_ | refine wpI_block ?_ | refine wpI_skip ?_ | refine wpI_label ?_ | refine wpI_ret ?_ | refine wpI_exit ?_ | refine opI_nil ?_); try simp only [thenI, blkI, if_true, if_false, reduceIte, Nat.reduceEqDiff]) | (refine wpI_region ?_; simp only [List.size_toArray, List.length_cons, List.length_nil, Nat.reduceAdd, Nat.zero_add, List.range, List.range.loop]) | (refine opI_unwanted rfl (by rfl) ?_; try walk_nrm) | (refine opI_k rfl (by rfl) (fun w₁ hR K hK => ?_); skip; go_simp; refine hK _ (fun e he => ?_) ?_; (first | done | ((rw [listed_nil (by simp [go_sem, *])] at he; simp at he))); (try clear hc₁); (clear hK K hR; clear w₁); (try walk_nrm)))
      (refine opI_new (v := fun n => .slice (some ⟨n, 0, none⟩) 1 1) (ob := .cells #[.bool true] 4) rfl (by rfl) (fun w₁ hR => ⟨run_eq_of (fun K hK => (by go_simp; exact hK)), fun e he => (by exfalso; have hm := mem_listed he; simp [go_sem, *] at hm)⟩) fun w₁ hR => ?_)
      obtain ⟨hEa, hLa, hFa, hca⟩ := one_a hL2 hR
      clear hR
      generalize w₁.heap.size = na at hEa hLa hFa hca ⊢
      generalize Gh.new _ na = γa at hEa hLa hFa ⊢
      generalize World.alloc w₁ _ = wa at hEa hLa hca ⊢
      clear w₁
      try walk_nrm
      repeat (first | ((first | refine wpI_seq ?_ | refine wpI_block ?_ | refine wpI_skip ?_ | refine wpI_label ?_ | refine wpI_ret ?_ | refine wpI_exit ?_ | refine opI_nil ?_); try simp only [thenI, blkI, if_true, if_false, reduceIte, Nat.reduceEqDiff]) | (refine wpI_region ?_; simp only [List.size_toArray, List.length_cons, List.length_nil, Nat.reduceAdd, Nat.zero_add, List.range, List.range.loop]) | (refine opI_unwanted rfl (by rfl) ?_; try walk_nrm) | (refine opI_k rfl (by rfl) (fun w₁ hR K hK => ?_); skip; go_simp; refine hK _ (fun e he => ?_) ?_; (first | done | ((rw [listed_nil (by simp [go_sem, *])] at he; simp at he))); (try clear hc₁); (clear hK K hR; clear w₁); (try walk_nrm)))
      (refine opI_new (v := fun n => .slice (some ⟨n, 0, none⟩) 1 1) (ob := .cells #[.slice (some ⟨na, 0, none⟩) 1 1] 28) rfl (by rfl) (fun w₁ hR => ⟨run_eq_of (fun K hK => (by go_simp; exact hK)), fun e he => (by exfalso; have hm := mem_listed he; simp [go_sem, *] at hm)⟩) fun w₁ hR => ?_)
      obtain ⟨hEb, hLb, hTb⟩ := one_b hLa hR hFa hca
      clear hR hFa hca hLa
      generalize w₁.heap.size = nb at hEb hLb hTb ⊢
      generalize Gh.new _ nb = γb at hEb hLb hTb ⊢
      generalize World.alloc w₁ _ = wb at hEb hLb hTb ⊢
      clear w₁
      replace hEb := hEa.trans hEb
      clear hEa
      clear wa
      try walk_nrm
      repeat (first | ((first | refine wpI_seq ?_ | refine wpI_block ?_ | refine wpI_skip ?_ | refine wpI_label ?_ | refine wpI_ret ?_ | refine wpI_exit ?_ | refine opI_nil ?_); try simp only [thenI, blkI, if_true, if_false, reduceIte, Nat.reduceEqDiff]) | (refine wpI_region ?_; simp only [List.size_toArray, List.length_cons, List.length_nil, Nat.reduceAdd, Nat.zero_add, List.range, List.range.loop]) | (refine opI_unwanted rfl (by rfl) ?_; try walk_nrm) | (refine opI_k rfl (by rfl) (fun w₁ hR K hK => ?_); skip; go_simp; refine hK _ (fun e he => ?_) ?_; (first | done | ((rw [listed_nil (by simp [go_sem, *])] at he; simp at he))); (try clear hc₁); (clear hK K hR; clear w₁); (try walk_nrm)))
      replace hX := (hX.trans hEb).noCs hCs
      replace hLb := hLb.noCs
      replace hTb : TabI γb.noCs wb (.slice (some ⟨nb, 0, none⟩) 1 1) [[true]] := hTb
      clear hEb
      refine opI_callN rfl (by rfl) rfl (by
        have h := implChance_c γb.noCs wb _ [[true]] 0 0 (.inr hTb) (by decide) hLb (hX.p.trans hp) (fun _ h => h)
        walk_nrm
        exact h) ?_
      rintro γ3 u3 w3 ⟨hE3, hL3, rfl⟩
      rw [chance_one]
      simp only [chV]
      replace hX := hX.trans hE3
      clear hE3 hLb hTb hL2
      clear γb wb
      try walk_nrm
      repeat (first | ((first | refine wpI_seq ?_ | refine wpI_block ?_ | refine wpI_skip ?_ | refine wpI_label ?_ | refine wpI_ret ?_ | refine wpI_exit ?_ | refine opI_nil ?_); try simp only [thenI, blkI, if_true, if_false, reduceIte, Nat.reduceEqDiff]) | (refine wpI_region ?_; simp only [List.size_toArray, List.length_cons, List.length_nil, Nat.reduceAdd, Nat.zero_add, List.range, List.range.loop]) | (refine opI_unwanted rfl (by rfl) ?_; try walk_nrm) | (refine opI_k rfl (by rfl) (fun w₁ hR K hK => ?_); skip; go_simp; refine hK _ (fun e he => ?_) ?_; (first | done | ((rw [listed_nil (by simp [go_sem, *])] at he; simp at he))); (try clear hc₁); (clear hK K hR; clear w₁); (try walk_nrm)))
      (refine opI_new (v := fun n => .slice (some ⟨n, 0, none⟩) 1 1) (ob := .cells #[.bool true] 4) rfl (by rfl) (fun w₁ hR => ⟨run_eq_of (fun K hK => (by go_simp; exact hK)), fun e he => (by exfalso; have hm := mem_listed he; simp [go_sem, *] at hm)⟩) fun w₁ hR => ?_)
      obtain ⟨hEa, hLa, hFa, hca⟩ := one_a hL3 hR
      clear hR
      generalize w₁.heap.size = na at hEa hLa hFa hca ⊢
      generalize Gh.new _ na = γa at hEa hLa hFa ⊢
      generalize World.alloc w₁ _ = wa at hEa hLa hca ⊢
      clear w₁
      try walk_nrm
      repeat (first | ((first | refine wpI_seq ?_ | refine wpI_block ?_ | refine wpI_skip ?_ | refine wpI_label ?_ | refine wpI_ret ?_ | refine wpI_exit ?_ | refine opI_nil ?_); try simp only [thenI, blkI, if_true, if_false, reduceIte, Nat.reduceEqDiff]) | (refine wpI_region ?_; simp only [List.size_toArray, List.length_cons, List.length_nil, Nat.reduceAdd, Nat.zero_add, List.range, List.range.loop]) | (refine opI_unwanted rfl (by rfl) ?_; try walk_nrm) | (refine opI_k rfl (by rfl) (fun w₁ hR K hK => ?_); skip; go_simp; refine hK _ (fun e he => ?_) ?_; (first | done | ((rw [listed_nil (by simp [go_sem, *])] at he; simp at he))); (try clear hc₁); (clear hK K hR; clear w₁); (try walk_nrm)))
      (refine opI_new (v := fun n => .slice (some ⟨n, 0, none⟩) 1 1) (ob := .cells #[.slice (some ⟨na, 0, none⟩) 1 1] 28) rfl (by rfl) (fun w₁ hR => ⟨run_eq_of (fun K hK => (by go_simp; exact hK)), fun e he => (by exfalso; have hm := mem_listed he; simp [go_sem, *] at hm)⟩) fun w₁ hR => ?_)
      obtain ⟨hEb, hLb, hTb⟩ := one_b hLa hR hFa hca
      clear hR hFa hca hLa
      generalize w₁.heap.size = nb at hEb hLb hTb ⊢
      generalize Gh.new _ nb = γb at hEb hLb hTb ⊢
      generalize World.alloc w₁ _ = wb at hEb hLb hTb ⊢
      clear w₁
      replace hEb := hEa.trans hEb
      clear hEa
      clear wa
      try walk_nrm
      repeat (first | ((first | refine wpI_seq ?_ | refine wpI_block ?_ | refine wpI_skip ?_ | refine wpI_label ?_ | refine wpI_ret ?_ | refine wpI_exit ?_ | refine opI_nil ?_); try simp only [thenI, blkI, if_true, if_false, reduceIte, Nat.reduceEqDiff]) | (refine wpI_region ?_; simp only [List.size_toArray, List.length_cons, List.length_nil, Nat.reduceAdd, Nat.zero_add, List.range, List.range.loop]) | (refine opI_unwanted rfl (by rfl) ?_; try walk_nrm) | (refine opI_k rfl (by rfl) (fun w₁ hR K hK => ?_); skip; go_simp; refine hK _ (fun e he => ?_) ?_; (first | done | ((rw [listed_nil (by simp [go_sem, *])] at he; simp at he))); (try clear hc₁); (clear hK K hR; clear w₁); (try walk_nrm)))
      replace hX := (hX.trans hEb).noCs hCs
      replace hLb := hLb.noCs
      replace hTb : TabI γb.noCs wb (.slice (some ⟨nb, 0, none⟩) 1 1) [[true]] := hTb
      clear hEb
      refine opI_callN rfl (by rfl) rfl (by
        have h := implCertain_c γb.noCs wb _ [[true]] (.inr hTb) (by decide) hLb (hX.p.trans hp) (fun _ h => h)
        walk_nrm
        exact h) ?_
      rintro γ4 u4 w4 ⟨hE4, hL4, -, hN4, -⟩
      rw [cert_one] at hN4
      obtain ⟨q4, c4, rfl, -⟩ := id hN4
      replace hX := hX.trans hE4
      clear hE4 hLb hTb hL3
      clear γb wb
      try walk_nrm
      repeat (first | ((first | refine wpI_seq ?_ | refine wpI_block ?_ | refine wpI_skip ?_ | refine wpI_label ?_ | refine wpI_ret ?_ | refine wpI_exit ?_ | refine opI_nil ?_); try simp only [thenI, blkI, if_true, if_false, reduceIte, Nat.reduceEqDiff]) | (refine wpI_region ?_; simp only [List.size_toArray, List.length_cons, List.length_nil, Nat.reduceAdd, Nat.zero_add, List.range, List.range.loop]) | (refine opI_unwanted rfl (by rfl) ?_; try walk_nrm) | (refine opI_k rfl (by rfl) (fun w₁ hR K hK => ?_); skip; go_simp; refine hK _ (fun e he => ?_) ?_; (first | done | ((rw [listed_nil (by simp [go_sem, *])] at he; simp at he))); (try clear hc₁); (clear hK K hR; clear w₁); (try walk_nrm)))
      (refine opI_new (v := fun n => .slice (some ⟨n, 0, none⟩) 1 1) (ob := .cells #[.int .i64 0] 3) rfl (by rfl) (fun w₁ hR => ⟨run_eq_of (fun K hK => (by go_simp; exact hK)), fun e he => (by exfalso; have hm := mem_listed he; simp [go_sem, *] at hm)⟩) fun w₁ hR => ?_)
      obtain ⟨hEd, hLd, hNd⟩ := one_n hL4 hR
      clear hR
      generalize w₁.heap.size = nd at hEd hLd hNd ⊢
      generalize Gh.new _ nd = γd at hEd hLd hNd ⊢
      generalize World.alloc w₁ _ = wd at hEd hLd hNd ⊢
      clear w₁
      replace hX := hX.trans hEd
      have hN5 := hN4.ext hEd
      clear hN4 hEd hL4
      try walk_nrm
      repeat (first | ((first | refine wpI_seq ?_ | refine wpI_block ?_ | refine wpI_skip ?_ | refine wpI_label ?_ | refine wpI_ret ?_ | refine wpI_exit ?_ | refine opI_nil ?_); try simp only [thenI, blkI, if_true, if_false, reduceIte, Nat.reduceEqDiff]) | (refine wpI_region ?_; simp only [List.size_toArray, List.length_cons, List.length_nil, Nat.reduceAdd, Nat.zero_add, List.range, List.range.loop]) | (refine opI_unwanted rfl (by rfl) ?_; try walk_nrm) | (refine opI_k rfl (by rfl) (fun w₁ hR K hK => ?_); skip; go_simp; refine hK _ (fun e he => ?_) ?_; (first | done | ((rw [listed_nil (by simp [go_sem, *])] at he; simp at he))); (try clear hc₁); (clear hK K hR; clear w₁); (try walk_nrm)))
      (refine opI_call (Post := fun γ'' r w'' => γ'' = _ ∧ w'' = _ ∧ r = .bool true) rfl (by rfl) rfl (by have h := (sameInts_c true XB γd wd _ _ [0] hN5 hNd (by decide)); walk_nrm; exact h) ?_; intro γx ux wx hx; obtain ⟨hx1, hx2, rfl⟩ := hx; rw [hx1, hx2]; clear hx1 hx2; clear wx; clear γx; walk_nrm)
      repeat (first | ((first | refine wpI_seq ?_ | refine wpI_block ?_ | refine wpI_skip ?_ | refine wpI_label ?_ | refine wpI_ret ?_ | refine wpI_exit ?_ | refine opI_nil ?_); try simp only [thenI, blkI, if_true, if_false, reduceIte, Nat.reduceEqDiff]) | (refine wpI_region ?_; simp only [List.size_toArray, List.length_cons, List.length_nil, Nat.reduceAdd, Nat.zero_add, List.range, List.range.loop]) | (refine opI_unwanted rfl (by rfl) ?_; try walk_nrm) | (refine opI_k rfl (by rfl) (fun w₁ hR K hK => ?_); skip; go_simp; refine hK _ (fun e he => ?_) ?_; (first | done | ((rw [listed_nil (by simp [go_sem, *])] at he; simp at he))); (try clear hc₁); (clear hK K hR; clear w₁); (try walk_nrm)))
      (refine opI_new (v := fun n => .slice (some ⟨n, 0, none⟩) 1 1) (ob := .cells #[.bool true] 4) rfl (by rfl) (fun w₁ hR => ⟨run_eq_of (fun K hK => (by go_simp; exact hK)), fun e he => (by exfalso; have hm := mem_listed he; simp [go_sem, *] at hm)⟩) fun w₁ hR => ?_)
      obtain ⟨hEa, hLa, hFa, hca⟩ := one_a hLd hR
      clear hR
      generalize w₁.heap.size = na at hEa hLa hFa hca ⊢
      generalize Gh.new _ na = γa at hEa hLa hFa ⊢
      generalize World.alloc w₁ _ = wa at hEa hLa hca ⊢
      clear w₁
      try walk_nrm
      repeat (first | ((first | refine wpI_seq ?_ | refine wpI_block ?_ | refine wpI_skip ?_ | refine wpI_label ?_ | refine wpI_ret ?_ | refine wpI_exit ?_ | refine opI_nil ?_); try simp only [thenI, blkI, if_true, if_false, reduceIte, Nat.reduceEqDiff]) | (refine wpI_region ?_; simp only [List.size_toArray, List.length_cons, List.length_nil, Nat.reduceAdd, Nat.zero_add, List.range, List.range.loop]) | (refine opI_unwanted rfl (by rfl) ?_; try walk_nrm) | (refine opI_k rfl (by rfl) (fun w₁ hR K hK => ?_); skip; go_simp; refine hK _ (fun e he => ?_) ?_; (first | done | ((rw [listed_nil (by simp [go_sem, *])] at he; simp at he))); (try clear hc₁); (clear hK K hR; clear w₁); (try walk_nrm)))
      (refine opI_new (v := fun n => .slice (some ⟨n, 0, none⟩) 1 1) (ob := .cells #[.slice (some ⟨na, 0, none⟩) 1 1] 28) rfl (by rfl) (fun w₁ hR => ⟨run_eq_of (fun K hK => (by go_simp; exact hK)), fun e he => (by exfalso; have hm := mem_listed he; simp [go_sem, *] at hm)⟩) fun w₁ hR => ?_)
      obtain ⟨hEb, hLb, hTb⟩ := one_b hLa hR hFa hca
      clear hR hFa hca hLa
      generalize w₁.heap.size = nb at hEb hLb hTb ⊢
      generalize Gh.new _ nb = γb at hEb hLb hTb ⊢
      generalize World.alloc w₁ _ = wb at hEb hLb hTb ⊢
      clear w₁
      replace hEb := hEa.trans hEb
      clear hEa
      clear wa
      try walk_nrm
      repeat (first | ((first | refine wpI_seq ?_ | refine wpI_block ?_ | refine wpI_skip ?_ | refine wpI_label ?_ | refine wpI_ret ?_ | refine wpI_exit ?_ | refine opI_nil ?_); try simp only [thenI, blkI, if_true, if_false, reduceIte, Nat.reduceEqDiff]) | (refine wpI_region ?_; simp only [List.size_toArray, List.length_cons, List.length_nil, Nat.reduceAdd, Nat.zero_add, List.range, List.range.loop]) | (refine opI_unwanted rfl (by rfl) ?_; try walk_nrm) | (refine opI_k rfl (by rfl) (fun w₁ hR K hK => ?_); skip; go_simp; refine hK _ (fun e he => ?_) ?_; (first | done | ((rw [listed_nil (by simp [go_sem, *])] at he; simp at he))); (try clear hc₁); (clear hK K hR; clear w₁); (try walk_nrm)))
      replace hX := (hX.trans hEb).noCs hCs
      replace hLb := hLb.noCs
      replace hTb : TabI γb.noCs wb (.slice (some ⟨nb, 0, none⟩) 1 1) [[true]] := hTb
      clear hEb
      refine opI_callN rfl (by rfl) rfl (by
        have h := implBest_c γb.noCs wb _ [[true]] 0 (.inr hTb) (by decide) hLb (hX.p.trans hp) (fun _ h => h)
        walk_nrm
        exact h) ?_
      rintro γ6 u6 w6 ⟨hE6, hL6, -, rfl⟩
      rw [best_eq, best_one]
      replace hX := hX.trans hE6
      clear hE6
      try walk_nrm
      repeat (first | ((first | refine wpI_seq ?_ | refine wpI_block ?_ | refine wpI_skip ?_ | refine wpI_label ?_ | refine wpI_ret ?_ | refine wpI_exit ?_ | refine opI_nil ?_); try simp only [thenI, blkI, if_true, if_false, reduceIte, Nat.reduceEqDiff]) | (refine wpI_region ?_; simp only [List.size_toArray, List.length_cons, List.length_nil, Nat.reduceAdd, Nat.zero_add, List.range, List.range.loop]) | (refine opI_unwanted rfl (by rfl) ?_; try walk_nrm) | (refine opI_k rfl (by rfl) (fun w₁ hR K hK => ?_); skip; go_simp; refine hK _ (fun e he => ?_) ?_; (first | done | ((rw [listed_nil (by simp [go_sem, *])] at he; simp at he))); (try clear hc₁); (clear hK K hR; clear w₁); (try walk_nrm)))
      refine ⟨rfl, _, resultsC_tmp rfl _, ?_⟩
      exact ⟨hX, rfl⟩
end Go.Proofs.Ytndfookgkkefnaa
