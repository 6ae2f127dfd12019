/- Walks in company: whether a table is valid; how many assignments there are. -/
import Derived.Test.YtndfookgkkefnaaBW3
namespace Go.Proofs.Ytndfookgkkefnaa
set_option linter.unusedSimpArgs false
set_option linter.unusedVariables false
set_option linter.unusedSectionVars false
open Go Go.Conc Go.RowKit
/-- a table, nil or not -/
def TabV (γ : Gh) (w : World) (v : Value) (xs : List (List Bool)) : Prop := ((∃ p c, v = .slice p 0 c) ∧ xs = []) ∨ TabI γ w v xs
theorem TabV.form {γ : Gh} {w : World} {v : Value} {xs : List (List Bool)} (h : TabV γ w v xs) :
    ∃ p c, v = .slice p xs.length c ∧ ∀ (i : Nat) (bs : List Bool), xs[i]? = some bs → ∃ b o u, p = some ⟨b, o, none⟩ ∧ γ.F b ∧ w.cell? ⟨b, o + i, none⟩ = some u ∧ RowI γ w u bs := by
  rcases h with ⟨⟨p, c, rfl⟩, rfl⟩ | ⟨b, o, c, rfl, hb, hx⟩
  · exact ⟨p, c, rfl, fun i bs h => by simp at h⟩
  · exact ⟨_, c, rfl, fun i bs h => let ⟨u, hu, hr⟩ := hx i bs h; ⟨b, o, u, rfl, hb, hu, hr⟩⟩
theorem TabV.ext {γ γ' : Gh} {w w' : World} {v : Value} {xs : List (List Bool)} (h : TabV γ w v xs) (e : Ext γ w γ' w') : TabV γ' w' v xs := h.imp id fun h => h.ext e
theorem TabV.tab {γ : Gh} {w : World} {v : Value} {xs : List (List Bool)} (h : TabV γ w v xs) (h0 : xs ≠ []) : TabI γ w v xs := h.elim (fun h => absurd h.2 h0) id
def rowsOk (xs : List (List Bool)) : Bool := xs.all fun r => r.length == xs.length
def validB (xs : List (List Bool)) : Bool := rowsOk xs && (decide (1 ≤ xs.length) && decide (xs.length ≤ 5))
theorem within_c (main : Bool) (X : Pha) (γ : Gh) (w : World) (a b c : Int) : CallsI Try.prog main X 47 #[.int .i64 a, .int .i64 b, .int .i64 c] γ w fun γ' r w' => γ' = γ ∧ w' = w ∧ r = .bool (decide (b ≤ a) && decide (a ≤ c)) := by
  (refine callsI_of Try.func47 (by rfl) rfl ?_; simp only [Try.ntmps47, List.size_toArray, List.length_cons, List.length_nil, Nat.reduceAdd, Nat.reduceSub, Array.replicate_succ, Array.replicate_zero, List.push_toArray, List.append_toArray, List.nil_append, List.cons_append])
  by_cases h : b ≤ a
  · repeat (first | ((first | refine wpI_seq ?_ | refine wpI_block ?_ | refine wpI_skip ?_ | refine wpI_label ?_ | refine wpI_ret ?_ | refine wpI_exit ?_ | refine opI_nil ?_); try simp only [thenI, blkI, if_true, if_false, reduceIte, Nat.reduceEqDiff]) | (refine wpI_region ?_; simp only [List.size_toArray, List.length_cons, List.length_nil, Nat.reduceAdd, Nat.zero_add, List.range, List.range.loop]) | (refine opI_unwanted rfl (by rfl) ?_; try walk_nrm) | (refine opI_k rfl (by rfl) (fun w₁ hR K hK => ?_); skip; go_simp; refine hK _ (fun e he => ?_) ?_; (first | done | ((rw [listed_nil (by simp [go_sem, *])] at he; simp at he))); (try clear hc₁); (clear hK K hR; clear w₁); (try walk_nrm)))
    exact ⟨rfl, _, resultsC_tmp rfl _, rfl, rfl, by simp [h]⟩
  · repeat (first | ((first | refine wpI_seq ?_ | refine wpI_block ?_ | refine wpI_skip ?_ | refine wpI_label ?_ | refine wpI_ret ?_ | refine wpI_exit ?_ | refine opI_nil ?_); try simp only [thenI, blkI, if_true, if_false, reduceIte, Nat.reduceEqDiff]) | (refine wpI_region ?_; simp only [List.size_toArray, List.length_cons, List.length_nil, Nat.reduceAdd, Nat.zero_add, List.range, List.range.loop]) | (refine opI_unwanted rfl (by rfl) ?_; try walk_nrm) | (refine opI_k rfl (by rfl) (fun w₁ hR K hK => ?_); skip; go_simp; refine hK _ (fun e he => ?_) ?_; (first | done | ((rw [listed_nil (by simp [go_sem, *])] at he; simp at he))); (try clear hc₁); (clear hK K hR; clear w₁); (try walk_nrm)))
    exact ⟨rfl, _, resultsC_tmp rfl _, rfl, rfl, by simp [h]⟩
theorem l6In_c (main : Bool) (X : Pha) (γ : Gh) (w : World) (a b c : Int) : CallsI Try.prog main X 40 #[.int .i64 a, .int .i64 b, .int .i64 c] γ w fun γ' r w' => γ' = γ ∧ w' = w ∧ r = .bool (decide (b ≤ a) && decide (a ≤ c)) := by
  (refine callsI_of Try.func40 (by rfl) rfl ?_; simp only [Try.ntmps40, List.size_toArray, List.length_cons, List.length_nil, Nat.reduceAdd, Nat.reduceSub, Array.replicate_succ, Array.replicate_zero, List.push_toArray, List.append_toArray, List.nil_append, List.cons_append])
  by_cases h : b ≤ a
  · repeat (first | ((first | refine wpI_seq ?_ | refine wpI_block ?_ | refine wpI_skip ?_ | refine wpI_label ?_ | refine wpI_ret ?_ | refine wpI_exit ?_ | refine opI_nil ?_); try simp only [thenI, blkI, if_true, if_false, reduceIte, Nat.reduceEqDiff]) | (refine wpI_region ?_; simp only [List.size_toArray, List.length_cons, List.length_nil, Nat.reduceAdd, Nat.zero_add, List.range, List.range.loop]) | (refine opI_unwanted rfl (by rfl) ?_; try walk_nrm) | (refine opI_k rfl (by rfl) (fun w₁ hR K hK => ?_); skip; go_simp; refine hK _ (fun e he => ?_) ?_; (first | done | ((rw [listed_nil (by simp [go_sem, *])] at he; simp at he))); (try clear hc₁); (clear hK K hR; clear w₁); (try walk_nrm)))
    exact ⟨rfl, _, resultsC_tmp rfl _, rfl, rfl, by simp [h]⟩
  · repeat (first | ((first | refine wpI_seq ?_ | refine wpI_block ?_ | refine wpI_skip ?_ | refine wpI_label ?_ | refine wpI_ret ?_ | refine wpI_exit ?_ | refine opI_nil ?_); try simp only [thenI, blkI, if_true, if_false, reduceIte, Nat.reduceEqDiff]) | (refine wpI_region ?_; simp only [List.size_toArray, List.length_cons, List.length_nil, Nat.reduceAdd, Nat.zero_add, List.range, List.range.loop]) | (refine opI_unwanted rfl (by rfl) ?_; try walk_nrm) | (refine opI_k rfl (by rfl) (fun w₁ hR K hK => ?_); skip; go_simp; refine hK _ (fun e he => ?_) ?_; (first | done | ((rw [listed_nil (by simp [go_sem, *])] at he; simp at he))); (try clear hc₁); (clear hK K hR; clear w₁); (try walk_nrm)))
    exact ⟨rfl, _, resultsC_tmp rfl _, rfl, rfl, by simp [h]⟩
set_option maxHeartbeats 4000000 in
set_option maxRecDepth 100000 in
theorem implValid_c (main : Bool) (X : Pha) (γ : Gh) (w : World) (v : Value) (xs : List (List Bool)) (hT : TabV γ w v xs) (hn : xs.length < 4611686018427387904) :
    CallsI Try.prog main X 32 #[v] γ w fun γ' r w' => γ' = γ ∧ w' = w ∧ r = .bool (validB xs) := by
  obtain ⟨p, c, rfl, hx⟩ := hT.form
  (refine callsI_of Try.func32 (by rfl) rfl ?_; simp only [Try.ntmps32, List.size_toArray, List.length_cons, List.length_nil, Nat.reduceAdd, Nat.reduceSub, Array.replicate_succ, Array.replicate_zero, List.push_toArray, List.append_toArray, List.nil_append, List.cons_append])
  repeat (first | ((first | refine wpI_seq ?_ | refine wpI_block ?_ | refine wpI_skip ?_ | refine wpI_label ?_ | refine wpI_ret ?_ | refine wpI_exit ?_ | refine opI_nil ?_); try simp only [thenI, blkI, if_true, if_false, reduceIte, Nat.reduceEqDiff]) | (refine wpI_region ?_; simp only [List.size_toArray, List.length_cons, List.length_nil, Nat.reduceAdd, Nat.zero_add, List.range, List.range.loop]) | (refine opI_unwanted rfl (by rfl) ?_; try walk_nrm) | (refine opI_k rfl (by rfl) (fun w₁ hR K hK => ?_); skip; go_simp; refine hK _ (fun e he => ?_) ?_; (first | done | ((rw [listed_nil (by simp [go_sem, *])] at he; simp at he))); (try clear hc₁); (clear hK K hR; clear w₁); (try walk_nrm)))
  refine wpI_loop (fun m γ' a' w' => γ' = γ ∧ w' = w ∧ ∃ (k : Nat) (kz : Int) (u1 u3 u4 u8 u9 u10 u11 u12 u13 u14 u15 u16 u17 u18 u19 : Value), a' = ⟨#[.slice p xs.length c, u1, .bool false, u3, u4, .slice p xs.length c, .int .i64 xs.length, .int .i64 kz, u8, u9, u10, u11, u12, u13, u14, u15, u16, u17, u18, u19], []⟩ ∧ k ≤ xs.length ∧ m = xs.length - k ∧ kz = k ∧ ∀ r ∈ xs.take k, r.length = xs.length) xs.length
    ⟨rfl, rfl, 0, _, _, _, _, _, _, _, _, _, _, _, _, _, _, _, _, rfl, Nat.zero_le _, rfl, rfl, by simp⟩ ?_
  rintro m γ' a' w' ⟨rfl, rfl, k, kz, u1, u3, u4, u8, u9, u10, u11, u12, u13, u14, u15, u16, u17, u18, u19, rfl, hk, rfl, rfl, hall⟩
  repeat (first | ((first | refine wpI_seq ?_ | refine wpI_block ?_ | refine wpI_skip ?_ | refine wpI_label ?_ | refine wpI_ret ?_ | refine wpI_exit ?_ | refine opI_nil ?_); try simp only [thenI, blkI, if_true, if_false, reduceIte, Nat.reduceEqDiff]) | (refine wpI_region ?_; simp only [List.size_toArray, List.length_cons, List.length_nil, Nat.reduceAdd, Nat.zero_add, List.range, List.range.loop]) | (refine opI_unwanted rfl (by rfl) ?_; try walk_nrm) | (refine opI_k rfl (by rfl) (fun w₁ hR K hK => ?_); skip; go_simp; refine hK _ (fun e he => ?_) ?_; (first | done | ((rw [listed_nil (by simp [go_sem, *])] at he; simp at he))); (try clear hc₁); (clear hK K hR; clear w₁); (try walk_nrm)))
  by_cases hlt : k < xs.length
  · refine wpI_cond rfl ?_
    simp only [hlt, decide_true, if_true]
    obtain ⟨bs, hbs⟩ : ∃ bs, Hd (xs[k]? = some bs) := ⟨_, ⟨List.getElem?_eq_getElem hlt⟩⟩
    obtain ⟨b, o, u, rfl, hb, hu, hR⟩ := hx k bs hbs.out
    obtain ⟨q, cq, rfl, _⟩ := hR.form
    have hk0 : (0 : Int) ≤ (k : Int) := by omega
    have hki : (k : Int) < (xs.length : Int) := by omega
    have hmem : bs ∈ xs := List.mem_of_getElem? hbs.out
    repeat (first | ((first | refine wpI_seq ?_ | refine wpI_block ?_ | refine wpI_skip ?_ | refine wpI_label ?_ | refine wpI_ret ?_ | refine wpI_exit ?_ | refine opI_nil ?_); try simp only [thenI, blkI, if_true, if_false, reduceIte, Nat.reduceEqDiff]) | (refine wpI_region ?_; simp only [List.size_toArray, List.length_cons, List.length_nil, Nat.reduceAdd, Nat.zero_add, List.range, List.range.loop]) | (refine opI_unwanted rfl (by rfl) ?_; try walk_nrm) | (refine opI_k rfl (by rfl) (fun w₁ hR K hK => ?_); skip; go_simp; refine hK _ (fun e he => ?_) ?_; (first | done | ((rw [listed_nil (by simp [go_sem, *])] at he; simp at he))); (try clear hc₁); (clear hK K hR; clear w₁); (try walk_nrm)))
    (refine opI_k rfl (by rfl) (fun w₁ hR K hK => ?_); have hc₁ := hR.get hb hu; go_simp; refine hK _ (fun e he => ?_) ?_; (first | done | ((have hm := mem_listed he; simp [go_sem, *] at hm; subst hm; exact Ev.read hb))); (try clear hc₁); (clear hK K hR; clear w₁); (try walk_nrm))
    repeat (first | ((first | refine wpI_seq ?_ | refine wpI_block ?_ | refine wpI_skip ?_ | refine wpI_label ?_ | refine wpI_ret ?_ | refine wpI_exit ?_ | refine opI_nil ?_); try simp only [thenI, blkI, if_true, if_false, reduceIte, Nat.reduceEqDiff]) | (refine wpI_region ?_; simp only [List.size_toArray, List.length_cons, List.length_nil, Nat.reduceAdd, Nat.zero_add, List.range, List.range.loop]) | (refine opI_unwanted rfl (by rfl) ?_; try walk_nrm) | (refine opI_k rfl (by rfl) (fun w₁ hR K hK => ?_); skip; go_simp; refine hK _ (fun e he => ?_) ?_; (first | done | ((rw [listed_nil (by simp [go_sem, *])] at he; simp at he))); (try clear hc₁); (clear hK K hR; clear w₁); (try walk_nrm)))
    by_cases he : bs.length = xs.length
    · have e7 : Hd (IntKind.i64.wrap ((k : Int) + 1) = ((k + 1 : Nat) : Int)) := ⟨by rw [IntKind.wrap_i64]; omega⟩
      refine wpI_cond (t := false) (by simp [Act.eval, he]) ?_
      have he' : Hd (bs.length = xs.length) := ⟨he⟩
      clear he
      simp only [if_false, Bool.false_eq_true]
      repeat (first | ((first | refine wpI_seq ?_ | refine wpI_block ?_ | refine wpI_skip ?_ | refine wpI_label ?_ | refine wpI_ret ?_ | refine wpI_exit ?_ | refine opI_nil ?_); try simp only [thenI, blkI, if_true, if_false, reduceIte, Nat.reduceEqDiff]) | (refine wpI_region ?_; simp only [List.size_toArray, List.length_cons, List.length_nil, Nat.reduceAdd, Nat.zero_add, List.range, List.range.loop]) | (refine opI_unwanted rfl (by rfl) ?_; try walk_nrm) | (refine opI_k rfl (by rfl) (fun w₁ hR K hK => ?_); skip; go_simp; refine hK _ (fun e he => ?_) ?_; (first | done | ((rw [listed_nil (by simp [go_sem, *])] at he; simp at he))); (try clear hc₁); (clear hK K hR; clear w₁); (try walk_nrm)))
      refine ⟨xs.length - (k + 1), by omega, trivial, trivial, k + 1, _, _, _, _, _, _, _, _, _, _, _, _, _, _, _, _, rfl, by omega, rfl, e7.out, fun r hr => ?_⟩
      rw [List.take_add_one, hbs.out] at hr
      rcases List.mem_append.1 hr with h | h
      · exact hall r h
      · simp at h; subst h; exact he'.out
    · refine wpI_cond (t := true) (by simp [Act.eval]; omega) ?_
      simp only [if_true]
      have hv : Hd (validB xs = false) := ⟨by
        have : rowsOk xs = false := by
          simp only [rowsOk, List.all_eq_false]
          exact ⟨bs, hmem, by simpa using he⟩
        simp [validB, this]⟩
      clear he
      repeat (first | ((first | refine wpI_seq ?_ | refine wpI_block ?_ | refine wpI_skip ?_ | refine wpI_label ?_ | refine wpI_ret ?_ | refine wpI_exit ?_ | refine opI_nil ?_); try simp only [thenI, blkI, if_true, if_false, reduceIte, Nat.reduceEqDiff]) | (refine wpI_region ?_; simp only [List.size_toArray, List.length_cons, List.length_nil, Nat.reduceAdd, Nat.zero_add, List.range, List.range.loop]) | (refine opI_unwanted rfl (by rfl) ?_; try walk_nrm) | (refine opI_k rfl (by rfl) (fun w₁ hR K hK => ?_); skip; go_simp; refine hK _ (fun e he => ?_) ?_; (first | done | ((rw [listed_nil (by simp [go_sem, *])] at he; simp at he))); (try clear hc₁); (clear hK K hR; clear w₁); (try walk_nrm)))
      refine ⟨rfl, _, resultsC_tmp rfl _, rfl, rfl, ?_⟩
      rw [hv.out]
      simp
  · refine wpI_cond rfl ?_
    simp only [hlt, decide_false, if_false, Bool.false_eq_true]
    obtain rfl : k = xs.length := by omega
    have hv : Hd (validB xs = (decide ((1 : Int) ≤ (xs.length : Int)) && decide ((xs.length : Int) ≤ 5))) := ⟨by
      have h1 : rowsOk xs = true := by
        simp only [rowsOk, List.all_eq_true]
        intro r hr
        rw [List.take_length] at hall
        simpa using hall r hr
      have e1 : decide ((1 : Int) ≤ (xs.length : Int)) = decide (1 ≤ xs.length) := by by_cases h : 1 ≤ xs.length <;> simp [h] <;> omega
      have e2 : decide ((xs.length : Int) ≤ 5) = decide (xs.length ≤ 5) := by by_cases h : xs.length ≤ 5 <;> simp [h] <;> omega
      rw [validB, h1, e1, e2, Bool.true_and]⟩
    repeat (first | ((first | refine wpI_seq ?_ | refine wpI_block ?_ | refine wpI_skip ?_ | refine wpI_label ?_ | refine wpI_ret ?_ | refine wpI_exit ?_ | refine opI_nil ?_); try simp only [thenI, blkI, if_true, if_false, reduceIte, Nat.reduceEqDiff]) | (refine wpI_region ?_; simp only [List.size_toArray, List.length_cons, List.length_nil, Nat.reduceAdd, Nat.zero_add, List.range, List.range.loop]) | (refine opI_unwanted rfl (by rfl) ?_; try walk_nrm) | (refine opI_k rfl (by rfl) (fun w₁ hR K hK => ?_); skip; go_simp; refine hK _ (fun e he => ?_) ?_; (first | done | ((rw [listed_nil (by simp [go_sem, *])] at he; simp at he))); (try clear hc₁); (clear hK K hR; clear w₁); (try walk_nrm)))
    refine opI_call (Post := fun γ'' r w'' => γ'' = γ' ∧ w'' = w' ∧ r = .bool (decide ((1 : Int) ≤ (xs.length : Int)) && decide ((xs.length : Int) ≤ 5))) rfl (by rfl) rfl (by
      have h := within_c main X γ' w' xs.length 1 5
      walk_nrm
      exact h) ?_
    rintro _ _ _ ⟨rfl, rfl, rfl⟩
    rw [← hv.out]
    walk_nrm
    repeat (first | ((first | refine wpI_seq ?_ | refine wpI_block ?_ | refine wpI_skip ?_ | refine wpI_label ?_ | refine wpI_ret ?_ | refine wpI_exit ?_ | refine opI_nil ?_); try simp only [thenI, blkI, if_true, if_false, reduceIte, Nat.reduceEqDiff]) | (refine wpI_region ?_; simp only [List.size_toArray, List.length_cons, List.length_nil, Nat.reduceAdd, Nat.zero_add, List.range, List.range.loop]) | (refine opI_unwanted rfl (by rfl) ?_; try walk_nrm) | (refine opI_k rfl (by rfl) (fun w₁ hR K hK => ?_); skip; go_simp; refine hK _ (fun e he => ?_) ?_; (first | done | ((rw [listed_nil (by simp [go_sem, *])] at he; simp at he))); (try clear hc₁); (clear hK K hR; clear w₁); (try walk_nrm)))
    exact ⟨rfl, _, resultsC_tmp rfl _, rfl, rfl, rfl⟩
end Go.Proofs.Ytndfookgkkefnaa
