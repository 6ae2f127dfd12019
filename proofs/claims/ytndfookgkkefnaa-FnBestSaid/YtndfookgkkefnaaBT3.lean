/- Walks in company: the reference's AssignCertain. -/
import Derived.Test.YtndfookgkkefnaaBT2
namespace Go.Proofs.Ytndfookgkkefnaa
set_option linter.unusedSimpArgs false
set_option linter.unusedVariables false
set_option linter.unusedSectionVars false
open Go Go.Conc Go.RowKit
set_option maxHeartbeats 8000000 in
set_option maxRecDepth 100000 in
theorem specCertain_c (main : Bool) (X : Pha) (γ : Gh) (w : World) (v : Value) (xs : List (List Bool)) (hT : TabV γ w v xs) (hn : xs.length < 4611686018427387904) (hL : Lies γ w) :
    CallsI Try.prog main X 24 #[v] γ w fun γ' u w' => Ext γ w γ' w' ∧ Lies γ' w' ∧ RowN γ' w' u (certV xs) := by
  obtain ⟨i0, hi, hz0, hz1, hz2⟩ := info_parts infoInt'
  obtain ⟨p, c, rfl, _⟩ := hT.form
  (refine callsI_of Try.func24 (by rfl) rfl ?_; simp only [Try.ntmps24, List.size_toArray, List.length_cons, List.length_nil, Nat.reduceAdd, Nat.reduceSub, Array.replicate_succ, Array.replicate_zero, List.push_toArray, List.append_toArray, List.nil_append, List.cons_append])
  repeat (first | ((first | refine wpI_seq ?_ | refine wpI_block ?_ | refine wpI_skip ?_ | refine wpI_label ?_ | refine wpI_ret ?_ | refine wpI_exit ?_ | refine opI_nil ?_); try simp only [thenI, blkI, if_true, if_false, reduceIte, Nat.reduceEqDiff]) | (refine wpI_region ?_; simp only [List.size_toArray, List.length_cons, List.length_nil, Nat.reduceAdd, Nat.zero_add, List.range, List.range.loop]) | (refine opI_unwanted rfl (by rfl) ?_; try walk_nrm) | (refine opI_k rfl (by rfl) (fun w₁ hR K hK => ?_); skip; go_simp; refine hK _ (fun e he => ?_) ?_; (first | done | ((rw [listed_nil (by simp [go_sem, *])] at he; simp at he))); (try clear hc₁); (clear hK K hR; clear w₁); (try walk_nrm)))
  (refine opI_new (v := fun n => .slice (some ⟨n, 0, none⟩) 0 0) (ob := .cells #[] 3) rfl (by rfl) (fun w₁ hR => ⟨run_eq_of (fun K hK => (by go_simp; exact hK)), fun e he => (by exfalso; have hm := mem_listed he; simp [go_sem, *] at hm)⟩) fun w₁ hR => ?_)
  have hV := AccV.start hL hR 3
  have hvf : ∃ b l c, Value.slice (some ⟨w₁.heap.size, 0, none⟩) 0 0 = .slice (some ⟨b, 0, none⟩) l c := ⟨_, _, _, rfl⟩
  clear hR
  generalize Value.slice (some ⟨w₁.heap.size, 0, none⟩) 0 0 = vo at hV hvf ⊢
  generalize γ.new w₁.heap.size = γ1 at hV ⊢
  generalize w₁.alloc (.cells #[] 3) = w1 at hV ⊢
  clear w₁
  try walk_nrm
  repeat (first | ((first | refine wpI_seq ?_ | refine wpI_block ?_ | refine wpI_skip ?_ | refine wpI_label ?_ | refine wpI_ret ?_ | refine wpI_exit ?_ | refine opI_nil ?_); try simp only [thenI, blkI, if_true, if_false, reduceIte, Nat.reduceEqDiff]) | (refine wpI_region ?_; simp only [List.size_toArray, List.length_cons, List.length_nil, Nat.reduceAdd, Nat.zero_add, List.range, List.range.loop]) | (refine opI_unwanted rfl (by rfl) ?_; try walk_nrm) | (refine opI_k rfl (by rfl) (fun w₁ hR K hK => ?_); skip; go_simp; refine hK _ (fun e he => ?_) ?_; (first | done | ((rw [listed_nil (by simp [go_sem, *])] at he; simp at he))); (try clear hc₁); (clear hK K hR; clear w₁); (try walk_nrm)))
  have hT1 := hT.ext hV.ext
  refine opI_call rfl (by rfl) rfl (by
    have h := specCount_c main X γ1 w1 _ xs hT1 hn hV.lies
    walk_nrm
    exact h) ?_
  rintro γ2 u2 w2 ⟨hE2, hL2, rfl⟩
  have hV2 := hV.mono hE2 hL2
  clear hV hE2 hL2 hT1
  clear γ1 w1
  try walk_nrm
  by_cases h : 0 < cntV xs
  · obtain ⟨h0, h5, hr⟩ := validB_props (cntV_pos h)
    have hc : Hd (certV xs = certL (cntW xs) (cntV xs) xs.length xs.length) := ⟨by rw [certV, if_pos h]⟩
    have hT' := hT.tab h0
    obtain ⟨A, hA⟩ : ∃ A, Hd (A = cntV xs) := ⟨_, ⟨rfl⟩⟩
    rw [← hA.out] at hc h ⊢
    clear hn hA
    have hr' := Hd.mk hr
    have h5' := Hd.mk h5
    clear hr h5
    repeat (first | ((first | refine wpI_seq ?_ | refine wpI_block ?_ | refine wpI_skip ?_ | refine wpI_label ?_ | refine wpI_ret ?_ | refine wpI_exit ?_ | refine opI_nil ?_); try simp only [thenI, blkI, if_true, if_false, reduceIte, Nat.reduceEqDiff]) | (refine wpI_region ?_; simp only [List.size_toArray, List.length_cons, List.length_nil, Nat.reduceAdd, Nat.zero_add, List.range, List.range.loop]) | (refine opI_unwanted rfl (by rfl) ?_; try walk_nrm) | (refine opI_k rfl (by rfl) (fun w₁ hR K hK => ?_); skip; go_simp; refine hK _ (fun e he => ?_) ?_; (first | done | ((rw [listed_nil (by simp [go_sem, *])] at he; simp at he))); (try clear hc₁); (clear hK K hR; clear w₁); (try walk_nrm)))
    refine wpI_loop (fun m γ' a' w' => ∃ (k : Nat) (kz : Int) (vo : Value) (u1 u6 u7 u8 u9 u10 u11 u12 u13 u14 u15 u16 u17 u18 u19 u20 u21 u22 u23 u24 u25 u26 u27 u28 u29 u30 u31 u32 u33 u34 u35 u36 u37 u38 : Value), a' = ⟨#[.slice p xs.length c, u1, .slice none 0 0, vo, .int .i64 A, .int .i64 kz, u6, u7, u8, u9, u10, u11, u12, u13, u14, u15, u16, u17, u18, u19, u20, u21, u22, u23, u24, u25, u26, u27, u28, u29, u30, u31, u32, u33, u34, u35, u36, u37, u38], []⟩ ∧ k ≤ xs.length ∧ m = xs.length - k ∧ kz = k ∧ (∃ b l c, vo = .slice (some ⟨b, 0, none⟩) l c) ∧ AccV γ w γ' w' 3 vo ((certL (cntW xs) A xs.length k).map fun z => .int .i64 z)) xs.length
      ⟨0, _, _, _, _, _, _, _, _, _, _, _, _, _, _, _, _, _, _, _, _, _, _, _, _, _, _, _, _, _, _, _, _, _, _, _, _, rfl, Nat.zero_le _, rfl, rfl, hvf, hV2⟩ ?_
    clear hV2 hvf
    clear vo γ2 w2
    rintro m γ' a' w' ⟨k, kz, vo, u1, u6, u7, u8, u9, u10, u11, u12, u13, u14, u15, u16, u17, u18, u19, u20, u21, u22, u23, u24, u25, u26, u27, u28, u29, u30, u31, u32, u33, u34, u35, u36, u37, u38, rfl, hk, rfl, rfl, hvf, hV⟩
    by_cases hlt : k < xs.length
    · have hk0 : (0 : Int) ≤ (k : Int) := by omega
      have hki : (k : Int) < (xs.length : Int) := by omega
      have e5 : Hd (IntKind.i64.wrap ((k : Int) + 1) = ((k + 1 : Nat) : Int)) := ⟨by have := h5'.out; rw [IntKind.wrap_i64]; omega⟩
      obtain ⟨f, hf⟩ : ∃ f : Nat → Int, Hd (f = cntW xs k) := ⟨_, ⟨rfl⟩⟩
      have hV2 : AccV γ w γ' w' 3 vo ((certL (cntW xs) A xs.length k ++ certR f A k 0).map fun z => .int .i64 z) := by rw [certR, List.append_nil]; exact hV
      clear hV
      repeat (first | ((first | refine wpI_seq ?_ | refine wpI_block ?_ | refine wpI_skip ?_ | refine wpI_label ?_ | refine wpI_ret ?_ | refine wpI_exit ?_ | refine opI_nil ?_); try simp only [thenI, blkI, if_true, if_false, reduceIte, Nat.reduceEqDiff]) | (refine wpI_region ?_; simp only [List.size_toArray, List.length_cons, List.length_nil, Nat.reduceAdd, Nat.zero_add, List.range, List.range.loop]) | (refine opI_unwanted rfl (by rfl) ?_; try walk_nrm) | (refine opI_k rfl (by rfl) (fun w₁ hR K hK => ?_); skip; go_simp; refine hK _ (fun e he => ?_) ?_; (first | done | ((rw [listed_nil (by simp [go_sem, *])] at he; simp at he))); (try clear hc₁); (clear hK K hR; clear w₁); (try walk_nrm)))
      (refine wpI_cond (t := true) rfl ?_; simp only [if_true, if_false, Bool.false_eq_true, reduceIte])
      repeat (first | ((first | refine wpI_seq ?_ | refine wpI_block ?_ | refine wpI_skip ?_ | refine wpI_label ?_ | refine wpI_ret ?_ | refine wpI_exit ?_ | refine opI_nil ?_); try simp only [thenI, blkI, if_true, if_false, reduceIte, Nat.reduceEqDiff]) | (refine wpI_region ?_; simp only [List.size_toArray, List.length_cons, List.length_nil, Nat.reduceAdd, Nat.zero_add, List.range, List.range.loop]) | (refine opI_unwanted rfl (by rfl) ?_; try walk_nrm) | (refine opI_k rfl (by rfl) (fun w₁ hR K hK => ?_); skip; go_simp; refine hK _ (fun e he => ?_) ?_; (first | done | ((rw [listed_nil (by simp [go_sem, *])] at he; simp at he))); (try clear hc₁); (clear hK K hR; clear w₁); (try walk_nrm)))
      refine wpI_loop (fun m γ' a' w' => ∃ (κ : Nat) (kz : Int) (vo : Value) (u1 u7 u8 u9 u10 u11 u12 u13 u14 u15 u16 u17 u18 u19 u20 u21 u22 u23 u24 u25 u26 u27 u28 u29 u30 u31 u32 u33 u34 u35 u36 u37 u38 : Value), a' = ⟨#[.slice p xs.length c, u1, .slice none 0 0, vo, .int .i64 A, .int .i64 k, .int .i64 kz, u7, u8, u9, u10, u11, u12, u13, u14, u15, u16, u17, u18, u19, u20, u21, u22, u23, u24, u25, u26, u27, u28, u29, u30, u31, u32, u33, u34, u35, u36, u37, u38], []⟩ ∧ κ ≤ xs.length ∧ m = xs.length - κ ∧ kz = κ ∧ (∃ b l c, vo = .slice (some ⟨b, 0, none⟩) l c) ∧ AccV γ w γ' w' 3 vo ((certL (cntW xs) A xs.length k ++ certR f A k κ).map fun z => .int .i64 z)) xs.length
        ⟨0, _, _, _, _, _, _, _, _, _, _, _, _, _, _, _, _, _, _, _, _, _, _, _, _, _, _, _, _, _, _, _, _, _, _, _, rfl, Nat.zero_le _, rfl, rfl, hvf, hV2⟩ ?_
      clear hV2 hvf
      clear vo γ' w'
      rintro m γ' a' w' ⟨κ, kz, vo, u1, u7, u8, u9, u10, u11, u12, u13, u14, u15, u16, u17, u18, u19, u20, u21, u22, u23, u24, u25, u26, u27, u28, u29, u30, u31, u32, u33, u34, u35, u36, u37, u38, rfl, hκ, rfl, rfl, hvf, hV⟩
      repeat (first | ((first | refine wpI_seq ?_ | refine wpI_block ?_ | refine wpI_skip ?_ | refine wpI_label ?_ | refine wpI_ret ?_ | refine wpI_exit ?_ | refine opI_nil ?_); try simp only [thenI, blkI, if_true, if_false, reduceIte, Nat.reduceEqDiff]) | (refine wpI_region ?_; simp only [List.size_toArray, List.length_cons, List.length_nil, Nat.reduceAdd, Nat.zero_add, List.range, List.range.loop]) | (refine opI_unwanted rfl (by rfl) ?_; try walk_nrm) | (refine opI_k rfl (by rfl) (fun w₁ hR K hK => ?_); skip; go_simp; refine hK _ (fun e he => ?_) ?_; (first | done | ((rw [listed_nil (by simp [go_sem, *])] at he; simp at he))); (try clear hc₁); (clear hK K hR; clear w₁); (try walk_nrm)))
      by_cases hlt' : κ < xs.length
      · refine wpI_cond rfl ?_
        simp only [hlt', decide_true, if_true]
        have hκ0 : (0 : Int) ≤ (κ : Int) := by omega
        have hκi : (κ : Int) < (xs.length : Int) := by omega
        have e6 : Hd (IntKind.i64.wrap ((κ : Int) + 1) = ((κ + 1 : Nat) : Int)) := ⟨by have := h5'.out; rw [IntKind.wrap_i64]; omega⟩
        have hln : Hd ((certL (cntW xs) A xs.length k ++ certR f A k κ).length ≤ 1000) := ⟨by
          have h1 := certL_length (cntW xs) A xs.length k
          have h2 := certR_length f A k κ
          have h3 : k * xs.length ≤ 5 * 5 := Nat.mul_le_mul (by have := h5'.out; omega) h5'.out
          have := h5'.out
          rw [List.length_append]
          omega⟩
        have hT2 := hT'.ext hV.ext
        repeat (first | ((first | refine wpI_seq ?_ | refine wpI_block ?_ | refine wpI_skip ?_ | refine wpI_label ?_ | refine wpI_ret ?_ | refine wpI_exit ?_ | refine opI_nil ?_); try simp only [thenI, blkI, if_true, if_false, reduceIte, Nat.reduceEqDiff]) | (refine wpI_region ?_; simp only [List.size_toArray, List.length_cons, List.length_nil, Nat.reduceAdd, Nat.zero_add, List.range, List.range.loop]) | (refine opI_unwanted rfl (by rfl) ?_; try walk_nrm) | (refine opI_k rfl (by rfl) (fun w₁ hR K hK => ?_); skip; go_simp; refine hK _ (fun e he => ?_) ?_; (first | done | ((rw [listed_nil (by simp [go_sem, *])] at he; simp at he))); (try clear hc₁); (clear hK K hR; clear w₁); (try walk_nrm)))
        refine opI_call rfl (by rfl) rfl (by
          have h := l33With_c main X γ' w' _ xs k κ hT2 h0 h5'.out hr'.out hlt hlt' hV.lies
          walk_nrm
          exact h) ?_
        rintro γ2 u2 w2 ⟨hE2, hL2, hT3⟩
        try walk_nrm
        repeat (first | ((first | refine wpI_seq ?_ | refine wpI_block ?_ | refine wpI_skip ?_ | refine wpI_label ?_ | refine wpI_ret ?_ | refine wpI_exit ?_ | refine opI_nil ?_); try simp only [thenI, blkI, if_true, if_false, reduceIte, Nat.reduceEqDiff]) | (refine wpI_region ?_; simp only [List.size_toArray, List.length_cons, List.length_nil, Nat.reduceAdd, Nat.zero_add, List.range, List.range.loop]) | (refine opI_unwanted rfl (by rfl) ?_; try walk_nrm) | (refine opI_k rfl (by rfl) (fun w₁ hR K hK => ?_); skip; go_simp; refine hK _ (fun e he => ?_) ?_; (first | done | ((rw [listed_nil (by simp [go_sem, *])] at he; simp at he))); (try clear hc₁); (clear hK K hR; clear w₁); (try walk_nrm)))
        (refine opI_new (v := fun n => .slice (some ⟨n, 0, none⟩) 0 0) (ob := .cells #[] 3) rfl (by rfl) (fun w₁ hR => ⟨run_eq_of (fun K hK => (by go_simp; exact hK)), fun e he => (by exfalso; have hm := mem_listed he; simp [go_sem, *] at hm)⟩) fun w₁ hR => ?_)
        have hE3 := Ext.new' (w₁ := w₁) hL2 hR (.cells #[] 3)
        have hL3 := Lies.new (hL2.rely hR) (.cells #[] 3)
        have hZ := emptyZ (γ := γ2) (w₁ := w₁) (w := w)
        clear hR
        generalize Value.slice (some ⟨w₁.heap.size, 0, none⟩) 0 0 = vz at hZ ⊢
        generalize γ2.new w₁.heap.size = γ3 at hZ hE3 hL3 ⊢
        generalize w₁.alloc (.cells #[] 3) = w3 at hZ hE3 hL3 ⊢
        clear w₁
        try walk_nrm
        repeat (first | ((first | refine wpI_seq ?_ | refine wpI_block ?_ | refine wpI_skip ?_ | refine wpI_label ?_ | refine wpI_ret ?_ | refine wpI_exit ?_ | refine opI_nil ?_); try simp only [thenI, blkI, if_true, if_false, reduceIte, Nat.reduceEqDiff]) | (refine wpI_region ?_; simp only [List.size_toArray, List.length_cons, List.length_nil, Nat.reduceAdd, Nat.zero_add, List.range, List.range.loop]) | (refine opI_unwanted rfl (by rfl) ?_; try walk_nrm) | (refine opI_k rfl (by rfl) (fun w₁ hR K hK => ?_); skip; go_simp; refine hK _ (fun e he => ?_) ?_; (first | done | ((rw [listed_nil (by simp [go_sem, *])] at he; simp at he))); (try clear hc₁); (clear hK K hR; clear w₁); (try walk_nrm)))
        refine opI_call rfl (by rfl) rfl (by
          have h := withCount_c main X k κ h5'.out hr'.out (hT3.ext hE3) hZ hL3
          walk_nrm
          exact h) ?_
        rintro γ4 u4 w4 ⟨hE4, hL4, rfl⟩
        have hA4 := hV.mono ((hE2.trans hE3).trans hE4) hL4
        rw [← hf.out]
        clear hE2 hE3 hE4 hZ hL2 hL3 hT3 hT2 hV hL4
        clear γ2 γ3 w2 w3
        try walk_nrm
        repeat (first | ((first | refine wpI_seq ?_ | refine wpI_block ?_ | refine wpI_skip ?_ | refine wpI_label ?_ | refine wpI_ret ?_ | refine wpI_exit ?_ | refine opI_nil ?_); try simp only [thenI, blkI, if_true, if_false, reduceIte, Nat.reduceEqDiff]) | (refine wpI_region ?_; simp only [List.size_toArray, List.length_cons, List.length_nil, Nat.reduceAdd, Nat.zero_add, List.range, List.range.loop]) | (refine opI_unwanted rfl (by rfl) ?_; try walk_nrm) | (refine opI_k rfl (by rfl) (fun w₁ hR K hK => ?_); skip; go_simp; refine hK _ (fun e he => ?_) ?_; (first | done | ((rw [listed_nil (by simp [go_sem, *])] at he; simp at he))); (try clear hc₁); (clear hK K hR; clear w₁); (try walk_nrm)))
        by_cases hm : f κ = A
        · have ea : Hd (certR f A k (κ + 1) = certR f A k κ ++ [(k : Int)]) := ⟨by rw [certR, if_pos hm]⟩
          refine wpI_cond (t := true) (by simp [Act.eval, hm]) ?_
          clear hm
          simp only [if_true]
          repeat (first | ((first | refine wpI_seq ?_ | refine wpI_block ?_ | refine wpI_skip ?_ | refine wpI_label ?_ | refine wpI_ret ?_ | refine wpI_exit ?_ | refine opI_nil ?_); try simp only [thenI, blkI, if_true, if_false, reduceIte, Nat.reduceEqDiff]) | (refine wpI_region ?_; simp only [List.size_toArray, List.length_cons, List.length_nil, Nat.reduceAdd, Nat.zero_add, List.range, List.range.loop]) | (refine opI_unwanted rfl (by rfl) ?_; try walk_nrm) | (refine opI_k rfl (by rfl) (fun w₁ hR K hK => ?_); skip; go_simp; refine hK _ (fun e he => ?_) ?_; (first | done | ((rw [listed_nil (by simp [go_sem, *])] at he; simp at he))); (try clear hc₁); (clear hK K hR; clear w₁); (try walk_nrm)))
          (refine opI_new (v := fun n => .slice (some ⟨n, 0, none⟩) 1 1) (ob := .cells #[.int .i64 k] 3) rfl (by rfl) (fun w₁ hR => ⟨run_eq_of (fun K hK => (by go_simp; exact hK)), fun e he => (by exfalso; have hm := mem_listed he; simp [go_sem, *] at hm)⟩) fun w₁ hR => ?_)
          have hA5 := hA4.mono (Ext.new' (w₁ := w₁) hA4.lies hR (.cells #[.int .i64 k] 3)) (Lies.new (hA4.lies.rely hR) (.cells #[.int .i64 k] 3))
          have hFn : (γ4.new w₁.heap.size).F w₁.heap.size := .inr rfl
          have hcn : (w₁.alloc (.cells #[.int .i64 k] 3)).cell? ⟨w₁.heap.size, 0, none⟩ = some (.int .i64 k) := by unfold World.cell?; rw [alloc_new]; rfl
          clear hR hA4
          generalize w₁.heap.size = nb at hFn hcn hA5 ⊢
          generalize γ4.new nb = γ5 at hA5 hFn ⊢
          generalize w₁.alloc (.cells #[.int .i64 k] 3) = w5 at hA5 hcn ⊢
          clear w₁
          try walk_nrm
          repeat (first | ((first | refine wpI_seq ?_ | refine wpI_block ?_ | refine wpI_skip ?_ | refine wpI_label ?_ | refine wpI_ret ?_ | refine wpI_exit ?_ | refine opI_nil ?_); try simp only [thenI, blkI, if_true, if_false, reduceIte, Nat.reduceEqDiff]) | (refine wpI_region ?_; simp only [List.size_toArray, List.length_cons, List.length_nil, Nat.reduceAdd, Nat.zero_add, List.range, List.range.loop]) | (refine opI_unwanted rfl (by rfl) ?_; try walk_nrm) | (refine opI_k rfl (by rfl) (fun w₁ hR K hK => ?_); skip; go_simp; refine hK _ (fun e he => ?_) ?_; (first | done | ((rw [listed_nil (by simp [go_sem, *])] at he; simp at he))); (try clear hc₁); (clear hK K hR; clear w₁); (try walk_nrm)))
          refine opI_accN hA5 hL rfl (by rfl) (.tmp 34) (.tmp 36) 30 rfl (by kernel_rfl) i0 (.int .i64 0) 8 hi hz0 hz1 hz2 rfl rfl ⟨nb, 0, none⟩ 1 1 rfl hFn [.int .i64 k] rfl (fun j u hj => ?_) (fun u hu => ?_) (by have := hln.out; rw [List.length_map]; omega) (by decide) ?_
          · cases j with
            | zero => obtain rfl : Value.int .i64 k = u := by simpa using hj
                      rw [Addr.add_lit]; exact hcn
            | succ j => simp at hj
          · obtain rfl : u = Value.int .i64 k := by simpa using hu
            rfl
          intro γ6 vo6 w6 hA6 hCs6 hx6
          have hA7 : AccV γ w γ6 w6 3 vo6 ((certL (cntW xs) A xs.length k ++ certR f A k (κ + 1)).map fun z => .int .i64 z) := by
            rw [ea.out, ← List.append_assoc, List.map_append]; exact hA6
          have hvf6 : ∃ b l c, vo6 = .slice (some ⟨b, 0, none⟩) l c := by
            obtain ⟨b, c, h, _⟩ := hA6.cell (.inl (by simp))
            exact ⟨b, _, c, h⟩
          clear hA6 hCs6 hx6 hA5 hcn hFn
          try walk_nrm
          repeat (first | ((first | refine wpI_seq ?_ | refine wpI_block ?_ | refine wpI_skip ?_ | refine wpI_label ?_ | refine wpI_ret ?_ | refine wpI_exit ?_ | refine opI_nil ?_); try simp only [thenI, blkI, if_true, if_false, reduceIte, Nat.reduceEqDiff]) | (refine wpI_region ?_; simp only [List.size_toArray, List.length_cons, List.length_nil, Nat.reduceAdd, Nat.zero_add, List.range, List.range.loop]) | (refine opI_unwanted rfl (by rfl) ?_; try walk_nrm) | (refine opI_k rfl (by rfl) (fun w₁ hR K hK => ?_); skip; go_simp; refine hK _ (fun e he => ?_) ?_; (first | done | ((rw [listed_nil (by simp [go_sem, *])] at he; simp at he))); (try clear hc₁); (clear hK K hR; clear w₁); (try walk_nrm)))
          exact ⟨xs.length - (κ + 1), by omega, κ + 1, _, _, _, _, _, _, _, _, _, _, _, _, _, _, _, _, _, _, _, _, _, _, _, _, _, _, _, _, _, _, _, _, _, _, _, rfl, by omega, rfl, e6.out, hvf6, hA7⟩
        · have ea : Hd (certR f A k (κ + 1) = certR f A k κ) := ⟨by rw [certR, if_neg hm, List.append_nil]⟩
          refine wpI_cond (t := false) (by simp [Act.eval, hm]) ?_
          clear hm
          simp only [if_false, Bool.false_eq_true]
          repeat (first | ((first | refine wpI_seq ?_ | refine wpI_block ?_ | refine wpI_skip ?_ | refine wpI_label ?_ | refine wpI_ret ?_ | refine wpI_exit ?_ | refine opI_nil ?_); try simp only [thenI, blkI, if_true, if_false, reduceIte, Nat.reduceEqDiff]) | (refine wpI_region ?_; simp only [List.size_toArray, List.length_cons, List.length_nil, Nat.reduceAdd, Nat.zero_add, List.range, List.range.loop]) | (refine opI_unwanted rfl (by rfl) ?_; try walk_nrm) | (refine opI_k rfl (by rfl) (fun w₁ hR K hK => ?_); skip; go_simp; refine hK _ (fun e he => ?_) ?_; (first | done | ((rw [listed_nil (by simp [go_sem, *])] at he; simp at he))); (try clear hc₁); (clear hK K hR; clear w₁); (try walk_nrm)))
          exact ⟨xs.length - (κ + 1), by omega, κ + 1, _, _, _, _, _, _, _, _, _, _, _, _, _, _, _, _, _, _, _, _, _, _, _, _, _, _, _, _, _, _, _, _, _, _, _, rfl, by omega, rfl, e6.out, hvf, by rw [ea.out]; exact hA4⟩
      · refine wpI_cond rfl ?_
        simp only [hlt', decide_false, if_false, Bool.false_eq_true]
        obtain rfl : κ = xs.length := by omega
        have hV3 : AccV γ w γ' w' 3 vo ((certL (cntW xs) A xs.length (k + 1)).map fun z => .int .i64 z) := by rw [certL, ← hf.out]; exact hV
        clear hV
        repeat (first | ((first | refine wpI_seq ?_ | refine wpI_block ?_ | refine wpI_skip ?_ | refine wpI_label ?_ | refine wpI_ret ?_ | refine wpI_exit ?_ | refine opI_nil ?_); try simp only [thenI, blkI, if_true, if_false, reduceIte, Nat.reduceEqDiff]) | (refine wpI_region ?_; simp only [List.size_toArray, List.length_cons, List.length_nil, Nat.reduceAdd, Nat.zero_add, List.range, List.range.loop]) | (refine opI_unwanted rfl (by rfl) ?_; try walk_nrm) | (refine opI_k rfl (by rfl) (fun w₁ hR K hK => ?_); skip; go_simp; refine hK _ (fun e he => ?_) ?_; (first | done | ((rw [listed_nil (by simp [go_sem, *])] at he; simp at he))); (try clear hc₁); (clear hK K hR; clear w₁); (try walk_nrm)))
        exact ⟨xs.length - (k + 1), by omega, k + 1, _, _, _, _, _, _, _, _, _, _, _, _, _, _, _, _, _, _, _, _, _, _, _, _, _, _, _, _, _, _, _, _, _, _, _, _, rfl, by omega, rfl, e5.out, hvf, hV3⟩
    · obtain rfl : k = xs.length := by omega
      have hfin : Ext γ w γ' w' ∧ Lies γ' w' ∧ RowN γ' w' vo (certV xs) := by
        rw [hc.out]
        exact ⟨hV.ext, hV.lies, (hV.rowN hvf).1⟩
      clear hV
      repeat (first | ((first | refine wpI_seq ?_ | refine wpI_block ?_ | refine wpI_skip ?_ | refine wpI_label ?_ | refine wpI_ret ?_ | refine wpI_exit ?_ | refine opI_nil ?_); try simp only [thenI, blkI, if_true, if_false, reduceIte, Nat.reduceEqDiff]) | (refine wpI_region ?_; simp only [List.size_toArray, List.length_cons, List.length_nil, Nat.reduceAdd, Nat.zero_add, List.range, List.range.loop]) | (refine opI_unwanted rfl (by rfl) ?_; try walk_nrm) | (refine opI_k rfl (by rfl) (fun w₁ hR K hK => ?_); skip; go_simp; refine hK _ (fun e he => ?_) ?_; (first | done | ((rw [listed_nil (by simp [go_sem, *])] at he; simp at he))); (try clear hc₁); (clear hK K hR; clear w₁); (try walk_nrm)))
      (refine wpI_cond (t := false) rfl ?_; simp only [if_true, if_false, Bool.false_eq_true, reduceIte])
      repeat (first | ((first | refine wpI_seq ?_ | refine wpI_block ?_ | refine wpI_skip ?_ | refine wpI_label ?_ | refine wpI_ret ?_ | refine wpI_exit ?_ | refine opI_nil ?_); try simp only [thenI, blkI, if_true, if_false, reduceIte, Nat.reduceEqDiff]) | (refine wpI_region ?_; simp only [List.size_toArray, List.length_cons, List.length_nil, Nat.reduceAdd, Nat.zero_add, List.range, List.range.loop]) | (refine opI_unwanted rfl (by rfl) ?_; try walk_nrm) | (refine opI_k rfl (by rfl) (fun w₁ hR K hK => ?_); skip; go_simp; refine hK _ (fun e he => ?_) ?_; (first | done | ((rw [listed_nil (by simp [go_sem, *])] at he; simp at he))); (try clear hc₁); (clear hK K hR; clear w₁); (try walk_nrm)))
      refine ⟨rfl, _, resultsC_tmp rfl _, ?_⟩
      exact hfin
  · have hfin : Ext γ w γ2 w2 ∧ Lies γ2 w2 ∧ RowN γ2 w2 vo (certV xs) := by
      have e : certV xs = [] := by rw [certV, if_neg h]
      rw [e]
      exact ⟨hV2.ext, hV2.lies, (hV2.rowN (zs := []) hvf).1⟩
    have h0' : decide (0 < cntV xs) = false := by simpa using h
    clear hV2
    repeat (first | ((first | refine wpI_seq ?_ | refine wpI_block ?_ | refine wpI_skip ?_ | refine wpI_label ?_ | refine wpI_ret ?_ | refine wpI_exit ?_ | refine opI_nil ?_); try simp only [thenI, blkI, if_true, if_false, reduceIte, Nat.reduceEqDiff]) | (refine wpI_region ?_; simp only [List.size_toArray, List.length_cons, List.length_nil, Nat.reduceAdd, Nat.zero_add, List.range, List.range.loop]) | (refine opI_unwanted rfl (by rfl) ?_; try walk_nrm) | (refine opI_k rfl (by rfl) (fun w₁ hR K hK => ?_); skip; go_simp; refine hK _ (fun e he => ?_) ?_; (first | done | ((rw [listed_nil (by simp [go_sem, *])] at he; simp at he))); (try clear hc₁); (clear hK K hR; clear w₁); (try walk_nrm)))
    refine wpI_loop (fun m γ' a' w' => γ' = γ2 ∧ w' = w2 ∧ ∃ (u1 u6 u7 u8 u9 u10 u11 u12 u13 u14 u15 u16 u17 u18 u19 u20 u21 u22 u23 u24 u25 u26 u27 u28 u29 u30 u31 u32 u33 u34 u35 u36 u37 u38 : Value), a' = ⟨#[.slice p xs.length c, u1, .slice none 0 0, vo, .int .i64 (cntV xs), .int .i64 0, u6, u7, u8, u9, u10, u11, u12, u13, u14, u15, u16, u17, u18, u19, u20, u21, u22, u23, u24, u25, u26, u27, u28, u29, u30, u31, u32, u33, u34, u35, u36, u37, u38], []⟩) 0 ⟨rfl, rfl, _, _, _, _, _, _, _, _, _, _, _, _, _, _, _, _, _, _, _, _, _, _, _, _, _, _, _, _, _, _, _, _, _, _, rfl⟩ ?_
    rintro m γ' a' w' ⟨rfl, rfl, u1, u6, u7, u8, u9, u10, u11, u12, u13, u14, u15, u16, u17, u18, u19, u20, u21, u22, u23, u24, u25, u26, u27, u28, u29, u30, u31, u32, u33, u34, u35, u36, u37, u38, rfl⟩
    by_cases hl : 0 < xs.length
    · have hli : (0 : Int) < (xs.length : Int) := by omega
      repeat (first | ((first | refine wpI_seq ?_ | refine wpI_block ?_ | refine wpI_skip ?_ | refine wpI_label ?_ | refine wpI_ret ?_ | refine wpI_exit ?_ | refine opI_nil ?_); try simp only [thenI, blkI, if_true, if_false, reduceIte, Nat.reduceEqDiff]) | (refine wpI_region ?_; simp only [List.size_toArray, List.length_cons, List.length_nil, Nat.reduceAdd, Nat.zero_add, List.range, List.range.loop]) | (refine opI_unwanted rfl (by rfl) ?_; try walk_nrm) | (refine opI_k rfl (by rfl) (fun w₁ hR K hK => ?_); skip; go_simp; refine hK _ (fun e he => ?_) ?_; (first | done | ((rw [listed_nil (by simp [go_sem, *])] at he; simp at he))); (try clear hc₁); (clear hK K hR; clear w₁); (try walk_nrm)))
      (refine wpI_cond (t := false) rfl ?_; simp only [if_true, if_false, Bool.false_eq_true, reduceIte])
      repeat (first | ((first | refine wpI_seq ?_ | refine wpI_block ?_ | refine wpI_skip ?_ | refine wpI_label ?_ | refine wpI_ret ?_ | refine wpI_exit ?_ | refine opI_nil ?_); try simp only [thenI, blkI, if_true, if_false, reduceIte, Nat.reduceEqDiff]) | (refine wpI_region ?_; simp only [List.size_toArray, List.length_cons, List.length_nil, Nat.reduceAdd, Nat.zero_add, List.range, List.range.loop]) | (refine opI_unwanted rfl (by rfl) ?_; try walk_nrm) | (refine opI_k rfl (by rfl) (fun w₁ hR K hK => ?_); skip; go_simp; refine hK _ (fun e he => ?_) ?_; (first | done | ((rw [listed_nil (by simp [go_sem, *])] at he; simp at he))); (try clear hc₁); (clear hK K hR; clear w₁); (try walk_nrm)))
      refine ⟨rfl, _, resultsC_tmp rfl _, ?_⟩
      exact hfin
    · have hli : ¬ (0 : Int) < (xs.length : Int) := by omega
      have hlj : decide ((0 : Int) < (xs.length : Int)) = false := by simpa using hl
      have hlk : decide (0 < xs.length) = false := by simpa using hl
      repeat (first | ((first | refine wpI_seq ?_ | refine wpI_block ?_ | refine wpI_skip ?_ | refine wpI_label ?_ | refine wpI_ret ?_ | refine wpI_exit ?_ | refine opI_nil ?_); try simp only [thenI, blkI, if_true, if_false, reduceIte, Nat.reduceEqDiff]) | (refine wpI_region ?_; simp only [List.size_toArray, List.length_cons, List.length_nil, Nat.reduceAdd, Nat.zero_add, List.range, List.range.loop]) | (refine opI_unwanted rfl (by rfl) ?_; try walk_nrm) | (refine opI_k rfl (by rfl) (fun w₁ hR K hK => ?_); skip; go_simp; refine hK _ (fun e he => ?_) ?_; (first | done | ((rw [listed_nil (by simp [go_sem, *])] at he; simp at he))); (try clear hc₁); (clear hK K hR; clear w₁); (try walk_nrm)))
      (refine wpI_cond (t := false) rfl ?_; simp only [if_true, if_false, Bool.false_eq_true, reduceIte])
      repeat (first | ((first | refine wpI_seq ?_ | refine wpI_block ?_ | refine wpI_skip ?_ | refine wpI_label ?_ | refine wpI_ret ?_ | refine wpI_exit ?_ | refine opI_nil ?_); try simp only [thenI, blkI, if_true, if_false, reduceIte, Nat.reduceEqDiff]) | (refine wpI_region ?_; simp only [List.size_toArray, List.length_cons, List.length_nil, Nat.reduceAdd, Nat.zero_add, List.range, List.range.loop]) | (refine opI_unwanted rfl (by rfl) ?_; try walk_nrm) | (refine opI_k rfl (by rfl) (fun w₁ hR K hK => ?_); skip; go_simp; refine hK _ (fun e he => ?_) ?_; (first | done | ((rw [listed_nil (by simp [go_sem, *])] at he; simp at he))); (try clear hc₁); (clear hK K hR; clear w₁); (try walk_nrm)))
      refine ⟨rfl, _, resultsC_tmp rfl _, ?_⟩
      exact hfin
end Go.Proofs.Ytndfookgkkefnaa
