/- Walks in company: the reference's validity and count. -/
import Derived.Test.YtndfookgkkefnaaBX2
import Derived.Test.YtndfookgkkefnaaBS1
namespace Go.Proofs.Ytndfookgkkefnaa
set_option linter.unusedSimpArgs false
set_option linter.unusedVariables false
set_option linter.unusedSectionVars false
open Go Go.Conc Go.RowKit
set_option maxHeartbeats 4000000 in
set_option maxRecDepth 100000 in
theorem specValid_c (main : Bool) (X : Pha) (γ : Gh) (w : World) (v : Value) (xs : List (List Bool)) (hT : TabV γ w v xs) (hn : xs.length < 4611686018427387904) :
    CallsI Try.prog main X 34 #[v] γ w fun γ' r w' => γ' = γ ∧ w' = w ∧ r = .bool (validB xs) := by
  obtain ⟨p, c, rfl, hx⟩ := hT.form
  (refine callsI_of Try.func34 (by rfl) rfl ?_; simp only [Try.ntmps34, List.size_toArray, List.length_cons, List.length_nil, Nat.reduceAdd, Nat.reduceSub, Array.replicate_succ, Array.replicate_zero, List.push_toArray, List.append_toArray, List.nil_append, List.cons_append])
  repeat (first | ((first | refine wpI_seq ?_ | refine wpI_block ?_ | refine wpI_skip ?_ | refine wpI_label ?_ | refine wpI_ret ?_ | refine wpI_exit ?_ | refine opI_nil ?_); try simp only [thenI, blkI, if_true, if_false, reduceIte, Nat.reduceEqDiff]) | (refine wpI_region ?_; simp only [List.size_toArray, List.length_cons, List.length_nil, Nat.reduceAdd, Nat.zero_add, List.range, List.range.loop]) | (refine opI_unwanted rfl (by rfl) ?_; try walk_nrm) | (refine opI_k rfl (by rfl) (fun w₁ hR K hK => ?_); skip; go_simp; refine hK _ (fun e he => ?_) ?_; (first | done | ((rw [listed_nil (by simp [go_sem, *])] at he; simp at he))); (try clear hc₁); (clear hK K hR; clear w₁); (try walk_nrm)))
  refine wpI_loop (fun m γ' a' w' => γ' = γ ∧ w' = w ∧ ∃ (k : Nat) (kz : Int) (u1 u4 u5 u6 u7 u8 u9 u10 u11 u12 u13 u14 u15 u16 u17 u18 u19 u20 : Value), a' = ⟨#[.slice p xs.length c, u1, .bool false, .int .i64 kz, u4, u5, u6, u7, u8, u9, u10, u11, u12, u13, u14, u15, u16, u17, u18, u19, u20], []⟩ ∧ k ≤ xs.length ∧ m = xs.length - k ∧ kz = k ∧ ∀ r ∈ xs.take k, r.length = xs.length) xs.length
    ⟨rfl, rfl, 0, _, _, _, _, _, _, _, _, _, _, _, _, _, _, _, _, _, _, _, rfl, Nat.zero_le _, rfl, rfl, by simp⟩ ?_
  rintro m γ' a' w' ⟨rfl, rfl, k, kz, u1, u4, u5, u6, u7, u8, u9, u10, u11, u12, u13, u14, u15, u16, u17, u18, u19, u20, rfl, hk, rfl, rfl, hall⟩
  repeat (first | ((first | refine wpI_seq ?_ | refine wpI_block ?_ | refine wpI_skip ?_ | refine wpI_label ?_ | refine wpI_ret ?_ | refine wpI_exit ?_ | refine opI_nil ?_); try simp only [thenI, blkI, if_true, if_false, reduceIte, Nat.reduceEqDiff]) | (refine wpI_region ?_; simp only [List.size_toArray, List.length_cons, List.length_nil, Nat.reduceAdd, Nat.zero_add, List.range, List.range.loop]) | (refine opI_unwanted rfl (by rfl) ?_; try walk_nrm) | (refine opI_k rfl (by rfl) (fun w₁ hR K hK => ?_); skip; go_simp; refine hK _ (fun e he => ?_) ?_; (first | done | ((rw [listed_nil (by simp [go_sem, *])] at he; simp at he))); (try clear hc₁); (clear hK K hR; clear w₁); (try walk_nrm)))
  by_cases hlt : k < xs.length
  · refine wpI_cond rfl ?_
    simp only [hlt, decide_true, if_true]
    obtain ⟨bs, hbs⟩ : ∃ bs, Hd (xs[k]? = some bs) := ⟨_, ⟨List.getElem?_eq_getElem hlt⟩⟩
    obtain ⟨b, o, u, rfl, hb, hu, hR⟩ := hx k bs hbs.out
    obtain ⟨q, cq, rfl, _⟩ := hR.form
    have hk0 : (0 : Int) ≤ (k : Int) := by omega
    have hki : (k : Int) < (xs.length : Int) := by omega
    have hmem : bs ∈ xs := List.mem_of_getElem? hbs.out
    repeat (first | ((first | refine wpI_seq ?_ | refine wpI_block ?_ | refine wpI_skip ?_ | refine wpI_label ?_ | refine wpI_ret ?_ | refine wpI_exit ?_ | refine opI_nil ?_); try simp only [thenI, blkI, if_true, if_false, reduceIte, Nat.reduceEqDiff]) | (refine wpI_region ?_; simp only [List.size_toArray, List.length_cons, List.length_nil, Nat.reduceAdd, Nat.zero_add, List.range, List.range.loop]) | (refine opI_unwanted rfl (by rfl) ?_; try walk_nrm) | (refine opI_k rfl (by rfl) (fun w₁ hR K hK => ?_); skip; go_simp; refine hK _ (fun e he => ?_) ?_; (first | done | ((rw [listed_nil (by simp [go_sem, *])] at he; simp at he))); (try clear hc₁); (clear hK K hR; clear w₁); (try walk_nrm)))
    (refine opI_k rfl (by rfl) (fun w₁ hR K hK => ?_); have hc₁ := hR.get hb hu; go_simp; refine hK _ (fun e he => ?_) ?_; (first | done | ((have hm := mem_listed he; simp [go_sem, *] at hm; subst hm; exact Ev.read hb))); (try clear hc₁); (clear hK K hR; clear w₁); (try walk_nrm))
    repeat (first | ((first | refine wpI_seq ?_ | refine wpI_block ?_ | refine wpI_skip ?_ | refine wpI_label ?_ | refine wpI_ret ?_ | refine wpI_exit ?_ | refine opI_nil ?_); try simp only [thenI, blkI, if_true, if_false, reduceIte, Nat.reduceEqDiff]) | (refine wpI_region ?_; simp only [List.size_toArray, List.length_cons, List.length_nil, Nat.reduceAdd, Nat.zero_add, List.range, List.range.loop]) | (refine opI_unwanted rfl (by rfl) ?_; try walk_nrm) | (refine opI_k rfl (by rfl) (fun w₁ hR K hK => ?_); skip; go_simp; refine hK _ (fun e he => ?_) ?_; (first | done | ((rw [listed_nil (by simp [go_sem, *])] at he; simp at he))); (try clear hc₁); (clear hK K hR; clear w₁); (try walk_nrm)))
    by_cases he : bs.length = xs.length
    · have e7 : Hd (IntKind.i64.wrap ((k : Int) + 1) = ((k + 1 : Nat) : Int)) := ⟨by rw [IntKind.wrap_i64]; omega⟩
      refine wpI_cond (t := false) (by simp [Act.eval, he]) ?_
      have he' : Hd (bs.length = xs.length) := ⟨he⟩
      clear he
      simp only [if_false, Bool.false_eq_true]
      repeat (first | ((first | refine wpI_seq ?_ | refine wpI_block ?_ | refine wpI_skip ?_ | refine wpI_label ?_ | refine wpI_ret ?_ | refine wpI_exit ?_ | refine opI_nil ?_); try simp only [thenI, blkI, if_true, if_false, reduceIte, Nat.reduceEqDiff]) | (refine wpI_region ?_; simp only [List.size_toArray, List.length_cons, List.length_nil, Nat.reduceAdd, Nat.zero_add, List.range, List.range.loop]) | (refine opI_unwanted rfl (by rfl) ?_; try walk_nrm) | (refine opI_k rfl (by rfl) (fun w₁ hR K hK => ?_); skip; go_simp; refine hK _ (fun e he => ?_) ?_; (first | done | ((rw [listed_nil (by simp [go_sem, *])] at he; simp at he))); (try clear hc₁); (clear hK K hR; clear w₁); (try walk_nrm)))
      refine ⟨xs.length - (k + 1), by omega, trivial, trivial, k + 1, _, _, _, _, _, _, _, _, _, _, _, _, _, _, _, _, _, _, _, rfl, by omega, rfl, e7.out, fun r hr => ?_⟩
      rw [List.take_add_one, hbs.out] at hr
      rcases List.mem_append.1 hr with h | h
      · exact hall r h
      · simp at h; subst h; exact he'.out
    · refine wpI_cond (t := true) (by simp [Act.eval]; omega) ?_
      simp only [if_true]
      have hv : Hd (validB xs = false) := ⟨by
        have : rowsOk xs = false := by
          simp only [rowsOk, List.all_eq_false]
          exact ⟨bs, hmem, by simpa using he⟩
        simp [validB, this]⟩
      clear he
      repeat (first | ((first | refine wpI_seq ?_ | refine wpI_block ?_ | refine wpI_skip ?_ | refine wpI_label ?_ | refine wpI_ret ?_ | refine wpI_exit ?_ | refine opI_nil ?_); try simp only [thenI, blkI, if_true, if_false, reduceIte, Nat.reduceEqDiff]) | (refine wpI_region ?_; simp only [List.size_toArray, List.length_cons, List.length_nil, Nat.reduceAdd, Nat.zero_add, List.range, List.range.loop]) | (refine opI_unwanted rfl (by rfl) ?_; try walk_nrm) | (refine opI_k rfl (by rfl) (fun w₁ hR K hK => ?_); skip; go_simp; refine hK _ (fun e he => ?_) ?_; (first | done | ((rw [listed_nil (by simp [go_sem, *])] at he; simp at he))); (try clear hc₁); (clear hK K hR; clear w₁); (try walk_nrm)))
      refine ⟨rfl, _, resultsC_tmp rfl _, rfl, rfl, ?_⟩
      rw [hv.out]
      simp
  · refine wpI_cond rfl ?_
    simp only [hlt, decide_false, if_false, Bool.false_eq_true]
    obtain rfl : k = xs.length := by omega
    have hv : Hd (validB xs = (decide ((1 : Int) ≤ (xs.length : Int)) && decide ((xs.length : Int) ≤ 5))) := ⟨by
      have h1 : rowsOk xs = true := by
        simp only [rowsOk, List.all_eq_true]
        intro r hr
        rw [List.take_length] at hall
        simpa using hall r hr
      have e1 : decide ((1 : Int) ≤ (xs.length : Int)) = decide (1 ≤ xs.length) := by by_cases h : 1 ≤ xs.length <;> simp [h] <;> omega
      have e2 : decide ((xs.length : Int) ≤ 5) = decide (xs.length ≤ 5) := by by_cases h : xs.length ≤ 5 <;> simp [h] <;> omega
      rw [validB, h1, e1, e2, Bool.true_and]⟩
    repeat (first | ((first | refine wpI_seq ?_ | refine wpI_block ?_ | refine wpI_skip ?_ | refine wpI_label ?_ | refine wpI_ret ?_ | refine wpI_exit ?_ | refine opI_nil ?_); try simp only [thenI, blkI, if_true, if_false, reduceIte, Nat.reduceEqDiff]) | (refine wpI_region ?_; simp only [List.size_toArray, List.length_cons, List.length_nil, Nat.reduceAdd, Nat.zero_add, List.range, List.range.loop]) | (refine opI_unwanted rfl (by rfl) ?_; try walk_nrm) | (refine opI_k rfl (by rfl) (fun w₁ hR K hK => ?_); skip; go_simp; refine hK _ (fun e he => ?_) ?_; (first | done | ((rw [listed_nil (by simp [go_sem, *])] at he; simp at he))); (try clear hc₁); (clear hK K hR; clear w₁); (try walk_nrm)))
    (refine opI_call (Post := fun γ'' r w'' => γ'' = _ ∧ w'' = _ ∧ r = .bool (decide ((1 : Int) ≤ (xs.length : Int)) && decide ((xs.length : Int) ≤ 5))) rfl (by rfl) rfl (by have h := (l6In_c main X γ' w' xs.length 1 5); walk_nrm; exact h) ?_; intro γx ux wx hx; obtain ⟨hx1, hx2, rfl⟩ := hx; rw [hx1, hx2]; clear hx1 hx2; clear wx; clear γx; walk_nrm)
    rw [← hv.out]
    repeat (first | ((first | refine wpI_seq ?_ | refine wpI_block ?_ | refine wpI_skip ?_ | refine wpI_label ?_ | refine wpI_ret ?_ | refine wpI_exit ?_ | refine opI_nil ?_); try simp only [thenI, blkI, if_true, if_false, reduceIte, Nat.reduceEqDiff]) | (refine wpI_region ?_; simp only [List.size_toArray, List.length_cons, List.length_nil, Nat.reduceAdd, Nat.zero_add, List.range, List.range.loop]) | (refine opI_unwanted rfl (by rfl) ?_; try walk_nrm) | (refine opI_k rfl (by rfl) (fun w₁ hR K hK => ?_); skip; go_simp; refine hK _ (fun e he => ?_) ?_; (first | done | ((rw [listed_nil (by simp [go_sem, *])] at he; simp at he))); (try clear hc₁); (clear hK K hR; clear w₁); (try walk_nrm)))
    exact ⟨rfl, _, resultsC_tmp rfl _, rfl, rfl, rfl⟩
/-- a row of numbers -/
def RowZ (γ : Gh) (w : World) (v : Value) (us : List Nat) : Prop := ∃ b o c, v = .slice (some ⟨b, o, none⟩) us.length c ∧ γ.F b ∧ ∀ (i u : Nat), us[i]? = some u → w.cell? ⟨b, o + i, none⟩ = some (.int .i64 (u : Int))
theorem RowZ.ext {γ γ' : Gh} {w w' : World} {v : Value} {us : List Nat} (h : RowZ γ w v us) (e : Ext γ w γ' w') : RowZ γ' w' v us := by
  obtain ⟨b, o, c, rfl, hb, hx⟩ := h
  exact ⟨b, o, c, rfl, e.F b hb, fun i u hi => (cell_of (a := ⟨b, o + i, none⟩) (e.rl.blk b hb)).trans (hx i u hi)⟩
set_option maxHeartbeats 4000000 in
set_option maxRecDepth 100000 in
theorem l1Has_c (main : Bool) (X : Pha) (γ : Gh) (w : World) (v : Value) (us : List Nat) (r : Nat) (hT : RowZ γ w v us) (hn : us.length ≤ 5) :
    CallsI Try.prog main X 48 #[v, .int .i64 r] γ w fun γ' u w' => γ' = γ ∧ w' = w ∧ u = .bool (us.contains r) := by
  obtain ⟨b, o, c, rfl, hb, hx⟩ := hT
  (refine callsI_of Try.func48 (by rfl) rfl ?_; simp only [Try.ntmps48, List.size_toArray, List.length_cons, List.length_nil, Nat.reduceAdd, Nat.reduceSub, Array.replicate_succ, Array.replicate_zero, List.push_toArray, List.append_toArray, List.nil_append, List.cons_append])
  repeat (first | ((first | refine wpI_seq ?_ | refine wpI_block ?_ | refine wpI_skip ?_ | refine wpI_label ?_ | refine wpI_ret ?_ | refine wpI_exit ?_ | refine opI_nil ?_); try simp only [thenI, blkI, if_true, if_false, reduceIte, Nat.reduceEqDiff]) | (refine wpI_region ?_; simp only [List.size_toArray, List.length_cons, List.length_nil, Nat.reduceAdd, Nat.zero_add, List.range, List.range.loop]) | (refine opI_unwanted rfl (by rfl) ?_; try walk_nrm) | (refine opI_k rfl (by rfl) (fun w₁ hR K hK => ?_); skip; go_simp; refine hK _ (fun e he => ?_) ?_; (first | done | ((rw [listed_nil (by simp [go_sem, *])] at he; simp at he))); (try clear hc₁); (clear hK K hR; clear w₁); (try walk_nrm)))
  refine wpI_loop (fun m γ' a' w' => γ' = γ ∧ w' = w ∧ ∃ (k : Nat) (kz : Int) (u2 u3 u6 u7 u8 u9 u10 u11 u12 u13 u14 u15 u16 u17 : Value), a' = ⟨#[.slice (some ⟨b, o, none⟩) us.length c, .int .i64 r, u2, u3, .bool false, .int .i64 kz, u6, u7, u8, u9, u10, u11, u12, u13, u14, u15, u16, u17], []⟩ ∧ k ≤ us.length ∧ m = us.length - k ∧ kz = k ∧ ∀ u ∈ us.take k, u ≠ r) us.length
    ⟨rfl, rfl, 0, _, _, _, _, _, _, _, _, _, _, _, _, _, _, _, rfl, Nat.zero_le _, rfl, rfl, by simp⟩ ?_
  rintro m γ' a' w' ⟨rfl, rfl, k, kz, u2, u3, u6, u7, u8, u9, u10, u11, u12, u13, u14, u15, u16, u17, rfl, hk, rfl, rfl, hall⟩
  repeat (first | ((first | refine wpI_seq ?_ | refine wpI_block ?_ | refine wpI_skip ?_ | refine wpI_label ?_ | refine wpI_ret ?_ | refine wpI_exit ?_ | refine opI_nil ?_); try simp only [thenI, blkI, if_true, if_false, reduceIte, Nat.reduceEqDiff]) | (refine wpI_region ?_; simp only [List.size_toArray, List.length_cons, List.length_nil, Nat.reduceAdd, Nat.zero_add, List.range, List.range.loop]) | (refine opI_unwanted rfl (by rfl) ?_; try walk_nrm) | (refine opI_k rfl (by rfl) (fun w₁ hR K hK => ?_); skip; go_simp; refine hK _ (fun e he => ?_) ?_; (first | done | ((rw [listed_nil (by simp [go_sem, *])] at he; simp at he))); (try clear hc₁); (clear hK K hR; clear w₁); (try walk_nrm)))
  by_cases hlt : k < us.length
  · refine wpI_cond rfl ?_
    simp only [hlt, decide_true, if_true]
    obtain ⟨u, hu⟩ : ∃ u, Hd (us[k]? = some u) := ⟨_, ⟨List.getElem?_eq_getElem hlt⟩⟩
    have hc := hx k u hu.out
    have hk0 : (0 : Int) ≤ (k : Int) := by omega
    have hki : (k : Int) < (us.length : Int) := by omega
    repeat (first | ((first | refine wpI_seq ?_ | refine wpI_block ?_ | refine wpI_skip ?_ | refine wpI_label ?_ | refine wpI_ret ?_ | refine wpI_exit ?_ | refine opI_nil ?_); try simp only [thenI, blkI, if_true, if_false, reduceIte, Nat.reduceEqDiff]) | (refine wpI_region ?_; simp only [List.size_toArray, List.length_cons, List.length_nil, Nat.reduceAdd, Nat.zero_add, List.range, List.range.loop]) | (refine opI_unwanted rfl (by rfl) ?_; try walk_nrm) | (refine opI_k rfl (by rfl) (fun w₁ hR K hK => ?_); skip; go_simp; refine hK _ (fun e he => ?_) ?_; (first | done | ((rw [listed_nil (by simp [go_sem, *])] at he; simp at he))); (try clear hc₁); (clear hK K hR; clear w₁); (try walk_nrm)))
    (refine opI_k rfl (by rfl) (fun w₁ hR K hK => ?_); have hc₁ := hR.get hb hc; go_simp; refine hK _ (fun e he => ?_) ?_; (first | done | ((have hm := mem_listed he; simp [go_sem, *] at hm; subst hm; exact Ev.read hb))); (try clear hc₁); (clear hK K hR; clear w₁); (try walk_nrm))
    repeat (first | ((first | refine wpI_seq ?_ | refine wpI_block ?_ | refine wpI_skip ?_ | refine wpI_label ?_ | refine wpI_ret ?_ | refine wpI_exit ?_ | refine opI_nil ?_); try simp only [thenI, blkI, if_true, if_false, reduceIte, Nat.reduceEqDiff]) | (refine wpI_region ?_; simp only [List.size_toArray, List.length_cons, List.length_nil, Nat.reduceAdd, Nat.zero_add, List.range, List.range.loop]) | (refine opI_unwanted rfl (by rfl) ?_; try walk_nrm) | (refine opI_k rfl (by rfl) (fun w₁ hR K hK => ?_); skip; go_simp; refine hK _ (fun e he => ?_) ?_; (first | done | ((rw [listed_nil (by simp [go_sem, *])] at he; simp at he))); (try clear hc₁); (clear hK K hR; clear w₁); (try walk_nrm)))
    by_cases he : u = r
    · have hv : Hd (us.contains r = true) := ⟨by simpa using (he ▸ List.mem_of_getElem? hu.out : r ∈ us)⟩
      refine wpI_cond (t := true) (by simp [Act.eval, he]) ?_
      clear he
      simp only [if_true]
      repeat (first | ((first | refine wpI_seq ?_ | refine wpI_block ?_ | refine wpI_skip ?_ | refine wpI_label ?_ | refine wpI_ret ?_ | refine wpI_exit ?_ | refine opI_nil ?_); try simp only [thenI, blkI, if_true, if_false, reduceIte, Nat.reduceEqDiff]) | (refine wpI_region ?_; simp only [List.size_toArray, List.length_cons, List.length_nil, Nat.reduceAdd, Nat.zero_add, List.range, List.range.loop]) | (refine opI_unwanted rfl (by rfl) ?_; try walk_nrm) | (refine opI_k rfl (by rfl) (fun w₁ hR K hK => ?_); skip; go_simp; refine hK _ (fun e he => ?_) ?_; (first | done | ((rw [listed_nil (by simp [go_sem, *])] at he; simp at he))); (try clear hc₁); (clear hK K hR; clear w₁); (try walk_nrm)))
      exact ⟨rfl, _, resultsC_tmp rfl _, rfl, rfl, by rw [hv.out]; rfl⟩
    · have e7 : Hd (IntKind.i64.wrap ((k : Int) + 1) = ((k + 1 : Nat) : Int)) := ⟨by rw [IntKind.wrap_i64]; omega⟩
      refine wpI_cond (t := false) (by simp [Act.eval]; omega) ?_
      have he' : Hd (u ≠ r) := ⟨he⟩
      clear he
      simp only [if_false, Bool.false_eq_true]
      repeat (first | ((first | refine wpI_seq ?_ | refine wpI_block ?_ | refine wpI_skip ?_ | refine wpI_label ?_ | refine wpI_ret ?_ | refine wpI_exit ?_ | refine opI_nil ?_); try simp only [thenI, blkI, if_true, if_false, reduceIte, Nat.reduceEqDiff]) | (refine wpI_region ?_; simp only [List.size_toArray, List.length_cons, List.length_nil, Nat.reduceAdd, Nat.zero_add, List.range, List.range.loop]) | (refine opI_unwanted rfl (by rfl) ?_; try walk_nrm) | (refine opI_k rfl (by rfl) (fun w₁ hR K hK => ?_); skip; go_simp; refine hK _ (fun e he => ?_) ?_; (first | done | ((rw [listed_nil (by simp [go_sem, *])] at he; simp at he))); (try clear hc₁); (clear hK K hR; clear w₁); (try walk_nrm)))
      refine ⟨us.length - (k + 1), by omega, trivial, trivial, k + 1, _, _, _, _, _, _, _, _, _, _, _, _, _, _, _, rfl, by omega, rfl, e7.out, fun r' hr => ?_⟩
      rw [List.take_add_one, hu.out] at hr
      rcases List.mem_append.1 hr with h | h
      · exact hall r' h
      · simp at h; subst h; exact he'.out
  · refine wpI_cond rfl ?_
    simp only [hlt, decide_false, if_false, Bool.false_eq_true]
    obtain rfl : k = us.length := by omega
    have hv : Hd (us.contains r = false) := ⟨by
      rw [List.take_length] at hall
      simp only [List.contains_eq_mem, decide_eq_false_iff_not]
      exact fun h => hall r h rfl⟩
    repeat (first | ((first | refine wpI_seq ?_ | refine wpI_block ?_ | refine wpI_skip ?_ | refine wpI_label ?_ | refine wpI_ret ?_ | refine wpI_exit ?_ | refine opI_nil ?_); try simp only [thenI, blkI, if_true, if_false, reduceIte, Nat.reduceEqDiff]) | (refine wpI_region ?_; simp only [List.size_toArray, List.length_cons, List.length_nil, Nat.reduceAdd, Nat.zero_add, List.range, List.range.loop]) | (refine opI_unwanted rfl (by rfl) ?_; try walk_nrm) | (refine opI_k rfl (by rfl) (fun w₁ hR K hK => ?_); skip; go_simp; refine hK _ (fun e he => ?_) ?_; (first | done | ((rw [listed_nil (by simp [go_sem, *])] at he; simp at he))); (try clear hc₁); (clear hK K hR; clear w₁); (try walk_nrm)))
    exact ⟨rfl, _, resultsC_tmp rfl _, rfl, rfl, by rw [hv.out]; rfl⟩
end Go.Proofs.Ytndfookgkkefnaa
