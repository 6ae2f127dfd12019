/- Walks in company: the laws' helpers on tables: their size, their copy. -/
import Derived.Test.YtndfookgkkefnaaBS6
namespace Go.Proofs.Ytndfookgkkefnaa
set_option linter.unusedSimpArgs false
set_option linter.unusedVariables false
set_option linter.unusedSectionVars false
open Go Go.Conc Go.RowKit
set_option maxHeartbeats 4000000 in
set_option maxRecDepth 100000 in
theorem szBoolS_c (main : Bool) (X : Pha) (γ : Gh) (w : World) (v : Value) (bs : List Bool) (left : Int) (hR : RowI γ w v bs) (hn : bs.length < 9223372036854775808) (h0 : 0 ≤ left) (h1 : left ≤ 1048576) :
    CallsI Try.prog main X 42 #[v, .int .i64 left] γ w fun γ' r w' => γ' = γ ∧ w' = w ∧ r = .int .i64 (if left - (bs.length : Int) < 0 then -1 else left - (bs.length : Int)) := by
  obtain ⟨p, c, rfl, _⟩ := hR.form
  have ew : IntKind.i64.wrap (left - (bs.length : Int)) = left - (bs.length : Int) := by rw [IntKind.wrap_i64]; omega
  (refine callsI_of Try.func42 (by rfl) rfl ?_; simp only [Try.ntmps42, List.size_toArray, List.length_cons, List.length_nil, Nat.reduceAdd, Nat.reduceSub, Array.replicate_succ, Array.replicate_zero, List.push_toArray, List.append_toArray, List.nil_append, List.cons_append])
  repeat (first | ((first | refine wpI_seq ?_ | refine wpI_block ?_ | refine wpI_skip ?_ | refine wpI_label ?_ | refine wpI_ret ?_ | refine wpI_exit ?_ | refine opI_nil ?_); try simp only [thenI, blkI, if_true, if_false, reduceIte, Nat.reduceEqDiff]) | (refine wpI_region ?_; simp only [List.size_toArray, List.length_cons, List.length_nil, Nat.reduceAdd, Nat.zero_add, List.range, List.range.loop]) | (refine opI_unwanted rfl (by rfl) ?_; try walk_nrm) | (refine opI_k rfl (by rfl) (fun w₁ hR K hK => ?_); skip; go_simp; refine hK _ (fun e he => ?_) ?_; (first | done | ((rw [listed_nil (by simp [go_sem, *])] at he; simp at he))); (try clear hc₁); (clear hK K hR; clear w₁); (try walk_nrm)))
  by_cases h : left - (bs.length : Int) < 0
  · refine wpI_cond (t := true) (by simp [Act.eval, h]) ?_
    have e : Hd ((if left - (bs.length : Int) < 0 then -1 else left - (bs.length : Int)) = -1) := ⟨if_pos h⟩
    rw [e.out]
    clear h
    simp only [if_true]
    repeat (first | ((first | refine wpI_seq ?_ | refine wpI_block ?_ | refine wpI_skip ?_ | refine wpI_label ?_ | refine wpI_ret ?_ | refine wpI_exit ?_ | refine opI_nil ?_); try simp only [thenI, blkI, if_true, if_false, reduceIte, Nat.reduceEqDiff]) | (refine wpI_region ?_; simp only [List.size_toArray, List.length_cons, List.length_nil, Nat.reduceAdd, Nat.zero_add, List.range, List.range.loop]) | (refine opI_unwanted rfl (by rfl) ?_; try walk_nrm) | (refine opI_k rfl (by rfl) (fun w₁ hR K hK => ?_); skip; go_simp; refine hK _ (fun e he => ?_) ?_; (first | done | ((rw [listed_nil (by simp [go_sem, *])] at he; simp at he))); (try clear hc₁); (clear hK K hR; clear w₁); (try walk_nrm)))
    exact ⟨rfl, _, resultsC_tmp rfl _, rfl, rfl, rfl⟩
  · refine wpI_cond (t := false) (by simp [Act.eval]; omega) ?_
    have e : Hd ((if left - (bs.length : Int) < 0 then -1 else left - (bs.length : Int)) = left - (bs.length : Int)) := ⟨if_neg h⟩
    rw [e.out]
    clear h
    simp only [if_false, Bool.false_eq_true]
    repeat (first | ((first | refine wpI_seq ?_ | refine wpI_block ?_ | refine wpI_skip ?_ | refine wpI_label ?_ | refine wpI_ret ?_ | refine wpI_exit ?_ | refine opI_nil ?_); try simp only [thenI, blkI, if_true, if_false, reduceIte, Nat.reduceEqDiff]) | (refine wpI_region ?_; simp only [List.size_toArray, List.length_cons, List.length_nil, Nat.reduceAdd, Nat.zero_add, List.range, List.range.loop]) | (refine opI_unwanted rfl (by rfl) ?_; try walk_nrm) | (refine opI_k rfl (by rfl) (fun w₁ hR K hK => ?_); skip; go_simp; refine hK _ (fun e he => ?_) ?_; (first | done | ((rw [listed_nil (by simp [go_sem, *])] at he; simp at he))); (try clear hc₁); (clear hK K hR; clear w₁); (try walk_nrm)))
    exact ⟨rfl, _, resultsC_tmp rfl _, rfl, rfl, rfl⟩
set_option maxHeartbeats 4000000 in
set_option maxRecDepth 100000 in
theorem szBoolSS_c (main : Bool) (X : Pha) (γ : Gh) (w : World) (v : Value) (xs : List (List Bool)) (hT : TabV γ w v xs) (hn : xs.length < 9223372036854775808) (hm : ∀ bs ∈ xs, bs.length < 9223372036854775808) :
    CallsI Try.prog main X 19 #[v, .int .i64 1048576] γ w fun γ' r w' => γ' = γ ∧ w' = w ∧ ∃ z : Int, r = .int .i64 z ∧ (0 ≤ z → xs.length ≤ 1048576 ∧ ∀ bs ∈ xs, bs.length ≤ 1048576) := by
  obtain ⟨p, c, rfl, hx⟩ := hT.form
  have ew : IntKind.i64.wrap (1048576 - (xs.length : Int)) = 1048576 - (xs.length : Int) := by rw [IntKind.wrap_i64]; omega
  have hm' := Hd.mk hm
  clear hm
  (refine callsI_of Try.func19 (by rfl) rfl ?_; simp only [Try.ntmps19, List.size_toArray, List.length_cons, List.length_nil, Nat.reduceAdd, Nat.reduceSub, Array.replicate_succ, Array.replicate_zero, List.push_toArray, List.append_toArray, List.nil_append, List.cons_append])
  repeat (first | ((first | refine wpI_seq ?_ | refine wpI_block ?_ | refine wpI_skip ?_ | refine wpI_label ?_ | refine wpI_ret ?_ | refine wpI_exit ?_ | refine opI_nil ?_); try simp only [thenI, blkI, if_true, if_false, reduceIte, Nat.reduceEqDiff]) | (refine wpI_region ?_; simp only [List.size_toArray, List.length_cons, List.length_nil, Nat.reduceAdd, Nat.zero_add, List.range, List.range.loop]) | (refine opI_unwanted rfl (by rfl) ?_; try walk_nrm) | (refine opI_k rfl (by rfl) (fun w₁ hR K hK => ?_); skip; go_simp; refine hK _ (fun e he => ?_) ?_; (first | done | ((rw [listed_nil (by simp [go_sem, *])] at he; simp at he))); (try clear hc₁); (clear hK K hR; clear w₁); (try walk_nrm)))
  by_cases h : (1048576 : Int) - (xs.length : Int) < 0
  · refine wpI_cond (t := true) (by simp [Act.eval, h]) ?_
    clear h
    simp only [if_true]
    repeat (first | ((first | refine wpI_seq ?_ | refine wpI_block ?_ | refine wpI_skip ?_ | refine wpI_label ?_ | refine wpI_ret ?_ | refine wpI_exit ?_ | refine opI_nil ?_); try simp only [thenI, blkI, if_true, if_false, reduceIte, Nat.reduceEqDiff]) | (refine wpI_region ?_; simp only [List.size_toArray, List.length_cons, List.length_nil, Nat.reduceAdd, Nat.zero_add, List.range, List.range.loop]) | (refine opI_unwanted rfl (by rfl) ?_; try walk_nrm) | (refine opI_k rfl (by rfl) (fun w₁ hR K hK => ?_); skip; go_simp; refine hK _ (fun e he => ?_) ?_; (first | done | ((rw [listed_nil (by simp [go_sem, *])] at he; simp at he))); (try clear hc₁); (clear hK K hR; clear w₁); (try walk_nrm)))
    exact ⟨rfl, _, resultsC_tmp rfl _, rfl, rfl, -1, rfl, fun h => absurd h (by decide)⟩
  · refine wpI_cond (t := false) (by simp [Act.eval]; omega) ?_
    have hle : Hd (xs.length ≤ 1048576) := ⟨by omega⟩
    clear h
    simp only [if_false, Bool.false_eq_true]
    repeat (first | ((first | refine wpI_seq ?_ | refine wpI_block ?_ | refine wpI_skip ?_ | refine wpI_label ?_ | refine wpI_ret ?_ | refine wpI_exit ?_ | refine opI_nil ?_); try simp only [thenI, blkI, if_true, if_false, reduceIte, Nat.reduceEqDiff]) | (refine wpI_region ?_; simp only [List.size_toArray, List.length_cons, List.length_nil, Nat.reduceAdd, Nat.zero_add, List.range, List.range.loop]) | (refine opI_unwanted rfl (by rfl) ?_; try walk_nrm) | (refine opI_k rfl (by rfl) (fun w₁ hR K hK => ?_); skip; go_simp; refine hK _ (fun e he => ?_) ?_; (first | done | ((rw [listed_nil (by simp [go_sem, *])] at he; simp at he))); (try clear hc₁); (clear hK K hR; clear w₁); (try walk_nrm)))
    refine wpI_loop (fun m γ' a' w' => γ' = γ ∧ w' = w ∧ ∃ (k : Nat) (kz lz : Int) (u2 u3 u6 u7 u8 u9 u10 u11 u12 u13 u14 u15 u16 u17 u18 u19 u20 u21 u22 u23 u24 u25 u26 : Value), a' = ⟨#[.slice p xs.length c, .int .i64 lz, u2, u3, .int .i64 0, .int .i64 kz, u6, u7, u8, u9, u10, u11, u12, u13, u14, u15, u16, u17, u18, u19, u20, u21, u22, u23, u24, u25, u26], []⟩ ∧ k ≤ xs.length ∧ m = xs.length - k ∧ kz = k ∧ 0 ≤ lz ∧ lz ≤ 1048576 ∧ ∀ r ∈ xs.take k, r.length ≤ 1048576) xs.length
      ⟨rfl, rfl, 0, _, _, _, _, _, _, _, _, _, _, _, _, _, _, _, _, _, _, _, _, _, _, _, _, _, rfl, Nat.zero_le _, rfl, rfl, by have := hle.out; omega, by omega, by simp⟩ ?_
    rintro m γ' a' w' ⟨rfl, rfl, k, kz, lz, u2, u3, u6, u7, u8, u9, u10, u11, u12, u13, u14, u15, u16, u17, u18, u19, u20, u21, u22, u23, u24, u25, u26, rfl, hk, rfl, rfl, hl0, hl1, hall⟩
    repeat (first | ((first | refine wpI_seq ?_ | refine wpI_block ?_ | refine wpI_skip ?_ | refine wpI_label ?_ | refine wpI_ret ?_ | refine wpI_exit ?_ | refine opI_nil ?_); try simp only [thenI, blkI, if_true, if_false, reduceIte, Nat.reduceEqDiff]) | (refine wpI_region ?_; simp only [List.size_toArray, List.length_cons, List.length_nil, Nat.reduceAdd, Nat.zero_add, List.range, List.range.loop]) | (refine opI_unwanted rfl (by rfl) ?_; try walk_nrm) | (refine opI_k rfl (by rfl) (fun w₁ hR K hK => ?_); skip; go_simp; refine hK _ (fun e he => ?_) ?_; (first | done | ((rw [listed_nil (by simp [go_sem, *])] at he; simp at he))); (try clear hc₁); (clear hK K hR; clear w₁); (try walk_nrm)))
    by_cases hlt : k < xs.length
    · refine wpI_cond rfl ?_
      simp only [hlt, decide_true, if_true]
      obtain ⟨bs, hbs⟩ : ∃ bs, Hd (xs[k]? = some bs) := ⟨_, ⟨List.getElem?_eq_getElem hlt⟩⟩
      obtain ⟨b, o, u, rfl, hb, hu, hR⟩ := hx k bs hbs.out
      have hk0 : (0 : Int) ≤ (k : Int) := by omega
      have hki : (k : Int) < (xs.length : Int) := by omega
      have hbm := Hd.mk (hm'.out bs (List.mem_of_getElem? hbs.out))
      have e5 : Hd (IntKind.i64.wrap ((k : Int) + 1) = ((k + 1 : Nat) : Int)) := ⟨by rw [IntKind.wrap_i64]; omega⟩
      repeat (first | ((first | refine wpI_seq ?_ | refine wpI_block ?_ | refine wpI_skip ?_ | refine wpI_label ?_ | refine wpI_ret ?_ | refine wpI_exit ?_ | refine opI_nil ?_); try simp only [thenI, blkI, if_true, if_false, reduceIte, Nat.reduceEqDiff]) | (refine wpI_region ?_; simp only [List.size_toArray, List.length_cons, List.length_nil, Nat.reduceAdd, Nat.zero_add, List.range, List.range.loop]) | (refine opI_unwanted rfl (by rfl) ?_; try walk_nrm) | (refine opI_k rfl (by rfl) (fun w₁ hR K hK => ?_); skip; go_simp; refine hK _ (fun e he => ?_) ?_; (first | done | ((rw [listed_nil (by simp [go_sem, *])] at he; simp at he))); (try clear hc₁); (clear hK K hR; clear w₁); (try walk_nrm)))
      (refine opI_k rfl (by rfl) (fun w₁ hR K hK => ?_); have hc₁ := hR.get hb hu; go_simp; refine hK _ (fun e he => ?_) ?_; (first | done | ((have hm := mem_listed he; simp [go_sem, *] at hm; subst hm; exact Ev.read hb))); (try clear hc₁); (clear hK K hR; clear w₁); (try walk_nrm))
      repeat (first | ((first | refine wpI_seq ?_ | refine wpI_block ?_ | refine wpI_skip ?_ | refine wpI_label ?_ | refine wpI_ret ?_ | refine wpI_exit ?_ | refine opI_nil ?_); try simp only [thenI, blkI, if_true, if_false, reduceIte, Nat.reduceEqDiff]) | (refine wpI_region ?_; simp only [List.size_toArray, List.length_cons, List.length_nil, Nat.reduceAdd, Nat.zero_add, List.range, List.range.loop]) | (refine opI_unwanted rfl (by rfl) ?_; try walk_nrm) | (refine opI_k rfl (by rfl) (fun w₁ hR K hK => ?_); skip; go_simp; refine hK _ (fun e he => ?_) ?_; (first | done | ((rw [listed_nil (by simp [go_sem, *])] at he; simp at he))); (try clear hc₁); (clear hK K hR; clear w₁); (try walk_nrm)))
      (refine opI_call (Post := fun γ'' r w'' => γ'' = _ ∧ w'' = _ ∧ r = .int .i64 (if lz - (bs.length : Int) < 0 then -1 else lz - (bs.length : Int))) rfl (by rfl) rfl (by have h := (szBoolS_c main X γ' w' u bs lz hR hbm.out hl0 hl1); walk_nrm; exact h) ?_; intro γx ux wx hx; obtain ⟨hx1, hx2, rfl⟩ := hx; rw [hx1, hx2]; clear hx1 hx2; clear wx; clear γx; walk_nrm)
      by_cases he : lz - (bs.length : Int) < 0
      · have e : Hd ((if lz - (bs.length : Int) < 0 then -1 else lz - (bs.length : Int)) = -1) := ⟨if_pos he⟩
        rw [e.out]
        clear e he
        repeat (first | ((first | refine wpI_seq ?_ | refine wpI_block ?_ | refine wpI_skip ?_ | refine wpI_label ?_ | refine wpI_ret ?_ | refine wpI_exit ?_ | refine opI_nil ?_); try simp only [thenI, blkI, if_true, if_false, reduceIte, Nat.reduceEqDiff]) | (refine wpI_region ?_; simp only [List.size_toArray, List.length_cons, List.length_nil, Nat.reduceAdd, Nat.zero_add, List.range, List.range.loop]) | (refine opI_unwanted rfl (by rfl) ?_; try walk_nrm) | (refine opI_k rfl (by rfl) (fun w₁ hR K hK => ?_); skip; go_simp; refine hK _ (fun e he => ?_) ?_; (first | done | ((rw [listed_nil (by simp [go_sem, *])] at he; simp at he))); (try clear hc₁); (clear hK K hR; clear w₁); (try walk_nrm)))
        (refine wpI_cond (t := true) rfl ?_; simp only [if_true, if_false, Bool.false_eq_true, reduceIte])
        repeat (first | ((first | refine wpI_seq ?_ | refine wpI_block ?_ | refine wpI_skip ?_ | refine wpI_label ?_ | refine wpI_ret ?_ | refine wpI_exit ?_ | refine opI_nil ?_); try simp only [thenI, blkI, if_true, if_false, reduceIte, Nat.reduceEqDiff]) | (refine wpI_region ?_; simp only [List.size_toArray, List.length_cons, List.length_nil, Nat.reduceAdd, Nat.zero_add, List.range, List.range.loop]) | (refine opI_unwanted rfl (by rfl) ?_; try walk_nrm) | (refine opI_k rfl (by rfl) (fun w₁ hR K hK => ?_); skip; go_simp; refine hK _ (fun e he => ?_) ?_; (first | done | ((rw [listed_nil (by simp [go_sem, *])] at he; simp at he))); (try clear hc₁); (clear hK K hR; clear w₁); (try walk_nrm)))
        exact ⟨rfl, _, resultsC_tmp rfl _, rfl, rfl, -1, rfl, fun h => absurd h (by decide)⟩
      · have e : Hd ((if lz - (bs.length : Int) < 0 then -1 else lz - (bs.length : Int)) = lz - (bs.length : Int)) := ⟨if_neg he⟩
        rw [e.out]
        have he' := Hd.mk he
        clear e
        repeat (first | ((first | refine wpI_seq ?_ | refine wpI_block ?_ | refine wpI_skip ?_ | refine wpI_label ?_ | refine wpI_ret ?_ | refine wpI_exit ?_ | refine opI_nil ?_); try simp only [thenI, blkI, if_true, if_false, reduceIte, Nat.reduceEqDiff]) | (refine wpI_region ?_; simp only [List.size_toArray, List.length_cons, List.length_nil, Nat.reduceAdd, Nat.zero_add, List.range, List.range.loop]) | (refine opI_unwanted rfl (by rfl) ?_; try walk_nrm) | (refine opI_k rfl (by rfl) (fun w₁ hR K hK => ?_); skip; go_simp; refine hK _ (fun e he => ?_) ?_; (first | done | ((rw [listed_nil (by simp [go_sem, *])] at he; simp at he))); (try clear hc₁); (clear hK K hR; clear w₁); (try walk_nrm)))
        (refine wpI_cond (t := false) rfl ?_; simp only [if_true, if_false, Bool.false_eq_true, reduceIte])
        clear he
        repeat (first | ((first | refine wpI_seq ?_ | refine wpI_block ?_ | refine wpI_skip ?_ | refine wpI_label ?_ | refine wpI_ret ?_ | refine wpI_exit ?_ | refine opI_nil ?_); try simp only [thenI, blkI, if_true, if_false, reduceIte, Nat.reduceEqDiff]) | (refine wpI_region ?_; simp only [List.size_toArray, List.length_cons, List.length_nil, Nat.reduceAdd, Nat.zero_add, List.range, List.range.loop]) | (refine opI_unwanted rfl (by rfl) ?_; try walk_nrm) | (refine opI_k rfl (by rfl) (fun w₁ hR K hK => ?_); skip; go_simp; refine hK _ (fun e he => ?_) ?_; (first | done | ((rw [listed_nil (by simp [go_sem, *])] at he; simp at he))); (try clear hc₁); (clear hK K hR; clear w₁); (try walk_nrm)))
        refine ⟨xs.length - (k + 1), by omega, trivial, trivial, k + 1, _, _, _, _, _, _, _, _, _, _, _, _, _, _, _, _, _, _, _, _, _, _, _, _, _, rfl, by omega, rfl, e5.out, by have := he'.out; omega, by omega, fun r hr => ?_⟩
        rw [List.take_add_one, hbs.out] at hr
        rcases List.mem_append.1 hr with h | h
        · exact hall r h
        · simp at h; subst h; have := he'.out; omega
    · refine wpI_cond rfl ?_
      simp only [hlt, decide_false, if_false, Bool.false_eq_true]
      obtain rfl : k = xs.length := by omega
      repeat (first | ((first | refine wpI_seq ?_ | refine wpI_block ?_ | refine wpI_skip ?_ | refine wpI_label ?_ | refine wpI_ret ?_ | refine wpI_exit ?_ | refine opI_nil ?_); try simp only [thenI, blkI, if_true, if_false, reduceIte, Nat.reduceEqDiff]) | (refine wpI_region ?_; simp only [List.size_toArray, List.length_cons, List.length_nil, Nat.reduceAdd, Nat.zero_add, List.range, List.range.loop]) | (refine opI_unwanted rfl (by rfl) ?_; try walk_nrm) | (refine opI_k rfl (by rfl) (fun w₁ hR K hK => ?_); skip; go_simp; refine hK _ (fun e he => ?_) ?_; (first | done | ((rw [listed_nil (by simp [go_sem, *])] at he; simp at he))); (try clear hc₁); (clear hK K hR; clear w₁); (try walk_nrm)))
      refine ⟨rfl, _, resultsC_tmp rfl _, rfl, rfl, lz, rfl, fun _ => ⟨hle.out, fun bs hb => ?_⟩⟩
      rw [List.take_length] at hall
      exact hall bs hb
theorem cells_alloc (w : World) (cs : Array Value) (t : TypeId) (i : Nat) : (w.alloc (.cells cs t)).cell? ⟨w.heap.size, i, none⟩ = cs[i]? := by
  unfold World.cell?
  rw [alloc_new]
  rfl
theorem made_get (z : Value) (n i : Nat) (h : i < n) : (madeCells #[z] n)[i]? = some z := by simp [madeCells, h, Nat.mod_one]
set_option maxHeartbeats 4000000 in
set_option maxRecDepth 100000 in
theorem toBoolS_c (main : Bool) (X : Pha) (γ : Gh) (w : World) (v : Value) (bs : List Bool) (hR0 : RowI γ w v bs) (hn0 : bs.length ≤ 1048576) (hL : Lies γ w) :
    CallsI Try.prog main X 43 #[v] γ w fun γ' r w' => Ext γ w γ' w' ∧ Lies γ' w' ∧ ∃ b, w.heap.size ≤ b ∧ RowB γ' w' b r bs ∧ ∀ i, w'.frozen? ⟨b, i, none⟩ = false := by
  obtain ⟨i0, hi, hz0, hz1, hz2⟩ := info_parts infoBool
  obtain ⟨p, c, rfl, hx⟩ := hR0.form
  have hn := Hd.mk hn0
  have hmk := fun w => run_make (P := Try.prog) w 28 4 i0 (.bool false) (by kernel_rfl) hi hz0 .i64 .i64 bs.length bs.length (by omega) (by omega) (by rw [hz2]; omega) (by omega)
  have hme := fun w es => events_make (P := Try.prog) w 28 4 i0 (.bool false) (by kernel_rfl) hi hz0 .i64 .i64 bs.length bs.length (by omega) (by omega) (by rw [hz2]; omega) (by omega) (by rw [hz2]; simp; omega) es
  clear hn0
  (refine callsI_of Try.func43 (by rfl) rfl ?_; simp only [Try.ntmps43, List.size_toArray, List.length_cons, List.length_nil, Nat.reduceAdd, Nat.reduceSub, Array.replicate_succ, Array.replicate_zero, List.push_toArray, List.append_toArray, List.nil_append, List.cons_append])
  repeat (first | ((first | refine wpI_seq ?_ | refine wpI_block ?_ | refine wpI_skip ?_ | refine wpI_label ?_ | refine wpI_ret ?_ | refine wpI_exit ?_ | refine opI_nil ?_); try simp only [thenI, blkI, if_true, if_false, reduceIte, Nat.reduceEqDiff]) | (refine wpI_region ?_; simp only [List.size_toArray, List.length_cons, List.length_nil, Nat.reduceAdd, Nat.zero_add, List.range, List.range.loop]) | (refine opI_unwanted rfl (by rfl) ?_; try walk_nrm) | (refine opI_k rfl (by rfl) (fun w₁ hR K hK => ?_); skip; go_simp; refine hK _ (fun e he => ?_) ?_; (first | done | ((rw [listed_nil (by simp [go_sem, *])] at he; simp at he))); (try clear hc₁); (clear hK K hR; clear w₁); (try walk_nrm)))
  refine opI_new (v := fun n => .slice (some ⟨n, 0, none⟩) bs.length bs.length) (ob := .cells (madeCells #[.bool false] bs.length) 4) rfl (by rfl) (fun w₁ hR => ⟨?_, fun e he => ?_⟩) fun w₁ hR => ?_
  · have h := hmk w₁
    refine run_eq_of (fun K hK => ?_)
    go_simp
    exact hK
  · have h := hme w₁
    exfalso
    have hm := mem_listed he
    simp [go_sem, *] at hm
  clear hmk hme
  have hE1 := Ext.new' hL hR (.cells (madeCells #[.bool false] bs.length) 4)
  have hL1 := Lies.new (hL.rely hR) (.cells (madeCells #[.bool false] bs.length) 4)
  have hF1 : (γ.new w₁.heap.size).F w₁.heap.size ∧ (γ.new w₁.heap.size).W w₁.heap.size := ⟨.inr rfl, .inr rfl⟩
  have hz1 : ∀ i, (w₁.alloc (.cells (madeCells #[.bool false] bs.length) 4)).frozen? ⟨w₁.heap.size, i, none⟩ = false := fun i => fz_alloc _ _ _ i
  have hc1 : ∀ (i : Nat) (x : Bool), bs[i]? = some x → ∃ u, (w₁.alloc (.cells (madeCells #[.bool false] bs.length) 4)).cell? ⟨w₁.heap.size, i, none⟩ = some u ∧ (i < 0 → u = .bool x) := fun i x hi =>
    ⟨.bool false, by rw [cells_alloc]; exact made_get _ _ _ (List.getElem?_eq_some_iff.1 hi).1, fun h => by omega⟩
  have hge : w.heap.size ≤ w₁.heap.size := hR.size
  clear hR
  generalize w₁.alloc (.cells (madeCells #[.bool false] bs.length) 4) = w1 at hE1 hL1 hz1 hc1 ⊢
  generalize γ.new w₁.heap.size = γ1 at hE1 hL1 hF1 ⊢
  generalize w₁.heap.size = rb at hF1 hz1 hc1 hge ⊢
  clear w₁
  try walk_nrm
  repeat (first | ((first | refine wpI_seq ?_ | refine wpI_block ?_ | refine wpI_skip ?_ | refine wpI_label ?_ | refine wpI_ret ?_ | refine wpI_exit ?_ | refine opI_nil ?_); try simp only [thenI, blkI, if_true, if_false, reduceIte, Nat.reduceEqDiff]) | (refine wpI_region ?_; simp only [List.size_toArray, List.length_cons, List.length_nil, Nat.reduceAdd, Nat.zero_add, List.range, List.range.loop]) | (refine opI_unwanted rfl (by rfl) ?_; try walk_nrm) | (refine opI_k rfl (by rfl) (fun w₁ hR K hK => ?_); skip; go_simp; refine hK _ (fun e he => ?_) ?_; (first | done | ((rw [listed_nil (by simp [go_sem, *])] at he; simp at he))); (try clear hc₁); (clear hK K hR; clear w₁); (try walk_nrm)))
  refine wpI_loop (fun m γ' a' w' => γ' = γ1 ∧ Ext γ w γ1 w' ∧ Lies γ1 w' ∧ (∀ i, w'.frozen? ⟨rb, i, none⟩ = false) ∧ ∃ (k : Nat) (kz : Int) (u1 u5 u6 u7 u8 u9 u10 u11 u12 u13 u14 u15 u16 u17 u18 u19 u20 u21 : Value), a' = ⟨#[.slice p bs.length c, u1, .slice none 0 0, .slice (some ⟨rb, 0, none⟩) bs.length bs.length, .int .i64 kz, u5, u6, u7, u8, u9, u10, u11, u12, u13, u14, u15, u16, u17, u18, u19, u20, u21], []⟩ ∧ k ≤ bs.length ∧ m = bs.length - k ∧ kz = k ∧
      (∀ (i : Nat) (x : Bool), bs[i]? = some x → ∃ u, w'.cell? ⟨rb, i, none⟩ = some u ∧ (i < k → u = .bool x))) bs.length
    ⟨rfl, hE1, hL1, hz1, 0, _, _, _, _, _, _, _, _, _, _, _, _, _, _, _, _, _, _, _, rfl, Nat.zero_le _, rfl, rfl, hc1⟩ ?_
  clear hE1 hL1 hz1 hc1
  clear w1
  rintro m γ' a' w' ⟨rfl, hE, hL', hz, k, kz, u1, u5, u6, u7, u8, u9, u10, u11, u12, u13, u14, u15, u16, u17, u18, u19, u20, u21, rfl, hk, rfl, rfl, hc⟩
  repeat (first | ((first | refine wpI_seq ?_ | refine wpI_block ?_ | refine wpI_skip ?_ | refine wpI_label ?_ | refine wpI_ret ?_ | refine wpI_exit ?_ | refine opI_nil ?_); try simp only [thenI, blkI, if_true, if_false, reduceIte, Nat.reduceEqDiff]) | (refine wpI_region ?_; simp only [List.size_toArray, List.length_cons, List.length_nil, Nat.reduceAdd, Nat.zero_add, List.range, List.range.loop]) | (refine opI_unwanted rfl (by rfl) ?_; try walk_nrm) | (refine opI_k rfl (by rfl) (fun w₁ hR K hK => ?_); skip; go_simp; refine hK _ (fun e he => ?_) ?_; (first | done | ((rw [listed_nil (by simp [go_sem, *])] at he; simp at he))); (try clear hc₁); (clear hK K hR; clear w₁); (try walk_nrm)))
  by_cases hlt : k < bs.length
  · refine wpI_cond rfl ?_
    simp only [hlt, decide_true, if_true]
    obtain ⟨x, hxk⟩ : ∃ x, Hd (bs[k]? = some x) := ⟨_, ⟨List.getElem?_eq_getElem hlt⟩⟩
    obtain ⟨b, o, rfl, hb, hcx⟩ := hx k x hxk.out
    have hb' := hE.F b hb
    have hcx' := (cell_of (a := ⟨b, o + k, none⟩) (hE.rl.blk b hb)).trans hcx
    obtain ⟨u, hu, _⟩ := hc k x hxk.out
    have hk0 : (0 : Int) ≤ (k : Int) := by omega
    have hki : (k : Int) < (bs.length : Int) := by omega
    have e4 : Hd (IntKind.i64.wrap ((k : Int) + 1) = ((k + 1 : Nat) : Int)) := ⟨by have := hn.out; rw [IntKind.wrap_i64]; omega⟩
    have hset : Hd (∀ (i : Nat) (y : Bool), bs[i]? = some y → ∃ u, (w'.setCell ⟨rb, k, none⟩ (.bool x)).cell? ⟨rb, i, none⟩ = some u ∧ (i < k + 1 → u = .bool y)) := ⟨fun i y hi => by
      by_cases e : i = k
      · subst e
        obtain rfl : y = x := by have := hxk.out; rw [hi] at this; exact Option.some.inj this
        exact ⟨_, set_same hu _, fun _ => rfl⟩
      · obtain ⟨u', hu', h'⟩ := hc i y hi
        exact ⟨u', by rw [set_ne' (by simp [e])]; exact hu', fun h => h' (by omega)⟩⟩
    repeat (first | ((first | refine wpI_seq ?_ | refine wpI_block ?_ | refine wpI_skip ?_ | refine wpI_label ?_ | refine wpI_ret ?_ | refine wpI_exit ?_ | refine opI_nil ?_); try simp only [thenI, blkI, if_true, if_false, reduceIte, Nat.reduceEqDiff]) | (refine wpI_region ?_; simp only [List.size_toArray, List.length_cons, List.length_nil, Nat.reduceAdd, Nat.zero_add, List.range, List.range.loop]) | (refine opI_unwanted rfl (by rfl) ?_; try walk_nrm) | (refine opI_k rfl (by rfl) (fun w₁ hR K hK => ?_); skip; go_simp; refine hK _ (fun e he => ?_) ?_; (first | done | ((rw [listed_nil (by simp [go_sem, *])] at he; simp at he))); (try clear hc₁); (clear hK K hR; clear w₁); (try walk_nrm)))
    (refine opI_k rfl (by rfl) (fun w₁ hR K hK => ?_); have hc₁ := hR.get hb' hcx'; go_simp; refine hK _ (fun e he => ?_) ?_; (first | done | ((have hm := mem_listed he; simp [go_sem, *] at hm; subst hm; exact Ev.read hb'))); (try clear hc₁); (clear hK K hR; clear w₁); (try walk_nrm))
    repeat (first | ((first | refine wpI_seq ?_ | refine wpI_block ?_ | refine wpI_skip ?_ | refine wpI_label ?_ | refine wpI_ret ?_ | refine wpI_exit ?_ | refine opI_nil ?_); try simp only [thenI, blkI, if_true, if_false, reduceIte, Nat.reduceEqDiff]) | (refine wpI_region ?_; simp only [List.size_toArray, List.length_cons, List.length_nil, Nat.reduceAdd, Nat.zero_add, List.range, List.range.loop]) | (refine opI_unwanted rfl (by rfl) ?_; try walk_nrm) | (refine opI_k rfl (by rfl) (fun w₁ hR K hK => ?_); skip; go_simp; refine hK _ (fun e he => ?_) ?_; (first | done | ((rw [listed_nil (by simp [go_sem, *])] at he; simp at he))); (try clear hc₁); (clear hK K hR; clear w₁); (try walk_nrm)))
    (refine opI_st (⟨rb, k, none⟩) (u) (.bool x) rfl (by rfl) hu (hz k) ⟨hF1.2, hF1.1⟩ (fun w₁ hc₁ hz₁ K hK => ?_); go_simp; refine hK _ (fun e he => ?_) ?_; (first | done | (have hm := mem_listed he; simp [go_sem, evS_bool, evS_slice, evS_int, evS_ptr, storedEv, *] at hm; exact hm)); (clear hK K hc₁ hz₁; clear w₁); (try walk_nrm))
    repeat (first | ((first | refine wpI_seq ?_ | refine wpI_block ?_ | refine wpI_skip ?_ | refine wpI_label ?_ | refine wpI_ret ?_ | refine wpI_exit ?_ | refine opI_nil ?_); try simp only [thenI, blkI, if_true, if_false, reduceIte, Nat.reduceEqDiff]) | (refine wpI_region ?_; simp only [List.size_toArray, List.length_cons, List.length_nil, Nat.reduceAdd, Nat.zero_add, List.range, List.range.loop]) | (refine opI_unwanted rfl (by rfl) ?_; try walk_nrm) | (refine opI_k rfl (by rfl) (fun w₁ hR K hK => ?_); skip; go_simp; refine hK _ (fun e he => ?_) ?_; (first | done | ((rw [listed_nil (by simp [go_sem, *])] at he; simp at he))); (try clear hc₁); (clear hK K hR; clear w₁); (try walk_nrm)))
    exact ⟨bs.length - (k + 1), by omega, trivial, hE.set hL hge _, hL'.set _ _, fun i => by rw [fz_set]; exact hz i, k + 1, _, _, _, _, _, _, _, _, _, _, _, _, _, _, _, _, _, _, _, rfl, by omega, rfl, e4.out, hset.out⟩
  · refine wpI_cond rfl ?_
    simp only [hlt, decide_false, if_false, Bool.false_eq_true]
    obtain rfl : k = bs.length := by omega
    have hrow : RowB γ' w' rb (.slice (some ⟨rb, 0, none⟩) bs.length bs.length) bs := ⟨_, rfl, hF1.1, hF1.2, fun i x hi => by
      obtain ⟨u, hu, h'⟩ := hc i x hi
      rw [hu, h' (List.getElem?_eq_some_iff.1 hi).1]⟩
    clear hc
    repeat (first | ((first | refine wpI_seq ?_ | refine wpI_block ?_ | refine wpI_skip ?_ | refine wpI_label ?_ | refine wpI_ret ?_ | refine wpI_exit ?_ | refine opI_nil ?_); try simp only [thenI, blkI, if_true, if_false, reduceIte, Nat.reduceEqDiff]) | (refine wpI_region ?_; simp only [List.size_toArray, List.length_cons, List.length_nil, Nat.reduceAdd, Nat.zero_add, List.range, List.range.loop]) | (refine opI_unwanted rfl (by rfl) ?_; try walk_nrm) | (refine opI_k rfl (by rfl) (fun w₁ hR K hK => ?_); skip; go_simp; refine hK _ (fun e he => ?_) ?_; (first | done | ((rw [listed_nil (by simp [go_sem, *])] at he; simp at he))); (try clear hc₁); (clear hK K hR; clear w₁); (try walk_nrm)))
    refine ⟨rfl, _, resultsC_tmp rfl _, ?_⟩
    exact ⟨hE, hL', rb, hge, hrow, hz⟩
/-- a copied table: its rows lie in blocks of one's own -/
def CopT (γ : Gh) (w₀ w : World) (v : Value) (xs : List (List Bool)) : Prop :=
  ∃ rb c, v = .slice (some ⟨rb, 0, none⟩) xs.length c ∧ γ.F rb ∧ w₀.heap.size ≤ rb ∧ ∀ (i : Nat) (bs : List Bool), xs[i]? = some bs → ∃ u b, w.cell? ⟨rb, i, none⟩ = some u ∧ RowB γ w b u bs ∧ w₀.heap.size ≤ b ∧ b ≠ rb ∧ ∀ i, w.frozen? ⟨b, i, none⟩ = false
theorem CopT.tab {γ : Gh} {w₀ w : World} {v : Value} {xs : List (List Bool)} (h : CopT γ w₀ w v xs) : TabI γ w v xs := by
  obtain ⟨rb, c, rfl, hF, _, hx⟩ := h
  refine ⟨rb, 0, c, rfl, hF, fun i bs hi => ?_⟩
  obtain ⟨u, b, hu, hr, _⟩ := hx i bs hi
  exact ⟨u, by rw [Nat.zero_add]; exact hu, hr.row⟩
set_option maxHeartbeats 4000000 in
set_option maxRecDepth 100000 in
theorem toBoolSSW_c (main : Bool) (X : Pha) (γ : Gh) (w : World) (v : Value) (xs : List (List Bool)) (hT : TabV γ w v xs) (hn0 : xs.length ≤ 1048576) (hm0 : ∀ bs ∈ xs, bs.length ≤ 1048576) (hL : Lies γ w) :
    CallsI Try.prog main X 20 #[v] γ w fun γ' r w' => Ext γ w γ' w' ∧ Lies γ' w' ∧ CopT γ' w w' r xs := by
  obtain ⟨i0, hi, hz0, hz1, hz2⟩ := info_parts infoRow
  obtain ⟨p, c, rfl, hx⟩ := hT.form
  have hn := Hd.mk hn0
  have hm := Hd.mk hm0
  have hmk := fun w => run_make (P := Try.prog) w 23 28 i0 (.slice none 0 0) (by kernel_rfl) hi hz0 .i64 .i64 xs.length xs.length (by omega) (by omega) (by rw [hz2]; omega) (by omega)
  have hme := fun w es => events_make (P := Try.prog) w 23 28 i0 (.slice none 0 0) (by kernel_rfl) hi hz0 .i64 .i64 xs.length xs.length (by omega) (by omega) (by rw [hz2]; omega) (by omega) (by rw [hz2]; simp; omega) es
  clear hn0 hm0
  (refine callsI_of Try.func20 (by rfl) rfl ?_; simp only [Try.ntmps20, List.size_toArray, List.length_cons, List.length_nil, Nat.reduceAdd, Nat.reduceSub, Array.replicate_succ, Array.replicate_zero, List.push_toArray, List.append_toArray, List.nil_append, List.cons_append])
  repeat (first | ((first | refine wpI_seq ?_ | refine wpI_block ?_ | refine wpI_skip ?_ | refine wpI_label ?_ | refine wpI_ret ?_ | refine wpI_exit ?_ | refine opI_nil ?_); try simp only [thenI, blkI, if_true, if_false, reduceIte, Nat.reduceEqDiff]) | (refine wpI_region ?_; simp only [List.size_toArray, List.length_cons, List.length_nil, Nat.reduceAdd, Nat.zero_add, List.range, List.range.loop]) | (refine opI_unwanted rfl (by rfl) ?_; try walk_nrm) | (refine opI_k rfl (by rfl) (fun w₁ hR K hK => ?_); skip; go_simp; refine hK _ (fun e he => ?_) ?_; (first | done | ((rw [listed_nil (by simp [go_sem, *])] at he; simp at he))); (try clear hc₁); (clear hK K hR; clear w₁); (try walk_nrm)))
  refine opI_new (v := fun n => .slice (some ⟨n, 0, none⟩) xs.length xs.length) (ob := .cells (madeCells #[.slice none 0 0] xs.length) 28) rfl (by rfl) (fun w₁ hR => ⟨?_, fun e he => ?_⟩) fun w₁ hR => ?_
  · have h := hmk w₁
    refine run_eq_of (fun K hK => ?_)
    go_simp
    exact hK
  · have h := hme w₁
    exfalso
    have hm := mem_listed he
    simp [go_sem, *] at hm
  clear hmk hme
  have hE1 := Ext.new' hL hR (.cells (madeCells #[.slice none 0 0] xs.length) 28)
  have hL1 := Lies.new (hL.rely hR) (.cells (madeCells #[.slice none 0 0] xs.length) 28)
  have hF1 : (γ.new w₁.heap.size).F w₁.heap.size ∧ (γ.new w₁.heap.size).W w₁.heap.size := ⟨.inr rfl, .inr rfl⟩
  have hz1 : ∀ i, (w₁.alloc (.cells (madeCells #[.slice none 0 0] xs.length) 28)).frozen? ⟨w₁.heap.size, i, none⟩ = false := fun i => fz_alloc _ _ _ i
  have hc1 : ∀ (i : Nat) (x : List Bool), xs[i]? = some x → ∃ u, (w₁.alloc (.cells (madeCells #[.slice none 0 0] xs.length) 28)).cell? ⟨w₁.heap.size, i, none⟩ = some u ∧ (i < 0 → ∃ b, RowB (γ.new w₁.heap.size) (w₁.alloc (.cells (madeCells #[.slice none 0 0] xs.length) 28)) b u x ∧ w.heap.size ≤ b ∧ b ≠ w₁.heap.size ∧ ∀ i, (w₁.alloc (.cells (madeCells #[.slice none 0 0] xs.length) 28)).frozen? ⟨b, i, none⟩ = false) := fun i x hi =>
    ⟨.slice none 0 0, by rw [cells_alloc]; exact made_get _ _ _ (List.getElem?_eq_some_iff.1 hi).1, fun h => by omega⟩
  have hge : w.heap.size ≤ w₁.heap.size := hR.size
  clear hR
  generalize w₁.alloc (.cells (madeCells #[.slice none 0 0] xs.length) 28) = w1 at hE1 hL1 hz1 hc1 ⊢
  generalize γ.new w₁.heap.size = γ1 at hE1 hL1 hF1 hc1 ⊢
  generalize w₁.heap.size = rb at hF1 hz1 hc1 hge ⊢
  clear w₁
  try walk_nrm
  repeat (first | ((first | refine wpI_seq ?_ | refine wpI_block ?_ | refine wpI_skip ?_ | refine wpI_label ?_ | refine wpI_ret ?_ | refine wpI_exit ?_ | refine opI_nil ?_); try simp only [thenI, blkI, if_true, if_false, reduceIte, Nat.reduceEqDiff]) | (refine wpI_region ?_; simp only [List.size_toArray, List.length_cons, List.length_nil, Nat.reduceAdd, Nat.zero_add, List.range, List.range.loop]) | (refine opI_unwanted rfl (by rfl) ?_; try walk_nrm) | (refine opI_k rfl (by rfl) (fun w₁ hR K hK => ?_); skip; go_simp; refine hK _ (fun e he => ?_) ?_; (first | done | ((rw [listed_nil (by simp [go_sem, *])] at he; simp at he))); (try clear hc₁); (clear hK K hR; clear w₁); (try walk_nrm)))
  refine wpI_loop (fun m γ' a' w' => Ext γ w γ' w' ∧ Lies γ' w' ∧ (∀ i, w'.frozen? ⟨rb, i, none⟩ = false) ∧ (γ'.F rb ∧ γ'.W rb) ∧ ∃ (k : Nat) (kz : Int) (u1 u5 u6 u7 u8 u9 u10 u11 u12 u13 u14 u15 u16 u17 u18 u19 u20 u21 u22 : Value), a' = ⟨#[.slice p xs.length c, u1, .slice none 0 0, .slice (some ⟨rb, 0, none⟩) xs.length xs.length, .int .i64 kz, u5, u6, u7, u8, u9, u10, u11, u12, u13, u14, u15, u16, u17, u18, u19, u20, u21, u22], []⟩ ∧ k ≤ xs.length ∧ m = xs.length - k ∧ kz = k ∧
      (∀ (i : Nat) (x : List Bool), xs[i]? = some x → ∃ u, w'.cell? ⟨rb, i, none⟩ = some u ∧ (i < k → ∃ b, RowB γ' w' b u x ∧ w.heap.size ≤ b ∧ b ≠ rb ∧ ∀ i, w'.frozen? ⟨b, i, none⟩ = false))) xs.length
    ⟨hE1, hL1, hz1, hF1, 0, _, _, _, _, _, _, _, _, _, _, _, _, _, _, _, _, _, _, _, _, rfl, Nat.zero_le _, rfl, rfl, hc1⟩ ?_
  clear hE1 hL1 hz1 hF1 hc1
  clear w1 γ1
  rintro m γ' a' w' ⟨hE, hL', hz, hF1, k, kz, u1, u5, u6, u7, u8, u9, u10, u11, u12, u13, u14, u15, u16, u17, u18, u19, u20, u21, u22, rfl, hk, rfl, rfl, hc⟩
  repeat (first | ((first | refine wpI_seq ?_ | refine wpI_block ?_ | refine wpI_skip ?_ | refine wpI_label ?_ | refine wpI_ret ?_ | refine wpI_exit ?_ | refine opI_nil ?_); try simp only [thenI, blkI, if_true, if_false, reduceIte, Nat.reduceEqDiff]) | (refine wpI_region ?_; simp only [List.size_toArray, List.length_cons, List.length_nil, Nat.reduceAdd, Nat.zero_add, List.range, List.range.loop]) | (refine opI_unwanted rfl (by rfl) ?_; try walk_nrm) | (refine opI_k rfl (by rfl) (fun w₁ hR K hK => ?_); skip; go_simp; refine hK _ (fun e he => ?_) ?_; (first | done | ((rw [listed_nil (by simp [go_sem, *])] at he; simp at he))); (try clear hc₁); (clear hK K hR; clear w₁); (try walk_nrm)))
  by_cases hlt : k < xs.length
  · refine wpI_cond rfl ?_
    simp only [hlt, decide_true, if_true]
    obtain ⟨bs, hbs⟩ : ∃ bs, Hd (xs[k]? = some bs) := ⟨_, ⟨List.getElem?_eq_getElem hlt⟩⟩
    obtain ⟨b, o, u0, rfl, hb, hu0, hR0⟩ := hx k bs hbs.out
    have hb' := hE.F b hb
    have hu0' := (cell_of (a := ⟨b, o + k, none⟩) (hE.rl.blk b hb)).trans hu0
    have hR1 := hR0.ext hE
    have hk0 : (0 : Int) ≤ (k : Int) := by omega
    have hki : (k : Int) < (xs.length : Int) := by omega
    have hbm := Hd.mk (hm.out bs (List.mem_of_getElem? hbs.out))
    have e4 : Hd (IntKind.i64.wrap ((k : Int) + 1) = ((k + 1 : Nat) : Int)) := ⟨by have := hn.out; rw [IntKind.wrap_i64]; omega⟩
    repeat (first | ((first | refine wpI_seq ?_ | refine wpI_block ?_ | refine wpI_skip ?_ | refine wpI_label ?_ | refine wpI_ret ?_ | refine wpI_exit ?_ | refine opI_nil ?_); try simp only [thenI, blkI, if_true, if_false, reduceIte, Nat.reduceEqDiff]) | (refine wpI_region ?_; simp only [List.size_toArray, List.length_cons, List.length_nil, Nat.reduceAdd, Nat.zero_add, List.range, List.range.loop]) | (refine opI_unwanted rfl (by rfl) ?_; try walk_nrm) | (refine opI_k rfl (by rfl) (fun w₁ hR K hK => ?_); skip; go_simp; refine hK _ (fun e he => ?_) ?_; (first | done | ((rw [listed_nil (by simp [go_sem, *])] at he; simp at he))); (try clear hc₁); (clear hK K hR; clear w₁); (try walk_nrm)))
    (refine opI_k rfl (by rfl) (fun w₁ hR K hK => ?_); have hc₁ := hR.get hb' hu0'; go_simp; refine hK _ (fun e he => ?_) ?_; (first | done | ((have hm := mem_listed he; simp [go_sem, *] at hm; subst hm; exact Ev.read hb'))); (try clear hc₁); (clear hK K hR; clear w₁); (try walk_nrm))
    repeat (first | ((first | refine wpI_seq ?_ | refine wpI_block ?_ | refine wpI_skip ?_ | refine wpI_label ?_ | refine wpI_ret ?_ | refine wpI_exit ?_ | refine opI_nil ?_); try simp only [thenI, blkI, if_true, if_false, reduceIte, Nat.reduceEqDiff]) | (refine wpI_region ?_; simp only [List.size_toArray, List.length_cons, List.length_nil, Nat.reduceAdd, Nat.zero_add, List.range, List.range.loop]) | (refine opI_unwanted rfl (by rfl) ?_; try walk_nrm) | (refine opI_k rfl (by rfl) (fun w₁ hR K hK => ?_); skip; go_simp; refine hK _ (fun e he => ?_) ?_; (first | done | ((rw [listed_nil (by simp [go_sem, *])] at he; simp at he))); (try clear hc₁); (clear hK K hR; clear w₁); (try walk_nrm)))
    refine opI_call rfl (by rfl) rfl (by
      have h := toBoolS_c main X γ' w' u0 bs hR1 hbm.out hL'
      walk_nrm
      exact h) ?_
    rintro γ2 u2 w2 ⟨hE2, hL2, b2, hb2, hrow, hfz2⟩
    have hrbl : rb < w'.heap.size := hL'.F rb hF1.1
    have hF2 : γ2.F rb ∧ γ2.W rb := ⟨hE2.F rb hF1.1, hE2.W rb hF1.2⟩
    have hz2' : ∀ i, w2.frozen? ⟨rb, i, none⟩ = false := fun i => (World.frozen?_of_block (hE2.rl.blk rb hF1.1)).trans (hz i)
    have hcb : ∀ i, w2.cell? ⟨rb, i, none⟩ = w'.cell? ⟨rb, i, none⟩ := fun i => cell_of (a := ⟨rb, i, none⟩) (hE2.rl.blk rb hF1.1)
    obtain ⟨u, hu1, _⟩ := hc k bs hbs.out
    have hu := (hcb k).trans hu1
    have hset : Hd (∀ (i : Nat) (y : List Bool), xs[i]? = some y → ∃ u, (w2.setCell ⟨rb, k, none⟩ u2).cell? ⟨rb, i, none⟩ = some u ∧ (i < k + 1 → ∃ b, RowB γ2 (w2.setCell ⟨rb, k, none⟩ u2) b u y ∧ w.heap.size ≤ b ∧ b ≠ rb ∧ ∀ i, (w2.setCell ⟨rb, k, none⟩ u2).frozen? ⟨b, i, none⟩ = false)) := ⟨fun i y hi => by
      by_cases e : i = k
      · subst e
        obtain rfl : y = bs := by have := hbs.out; rw [hi] at this; exact Option.some.inj this
        obtain ⟨_, _, q1, q2, _⟩ := id hrow
        exact ⟨_, set_same hu _, fun _ => ⟨b2, hrow.ext q1 q2 (set_other (show b2 ≠ rb by omega) _), Nat.le_trans hE.rl.size hb2, by omega, fun i => by rw [fz_set]; exact hfz2 i⟩⟩
      · obtain ⟨u', hu', h'⟩ := hc i y hi
        refine ⟨u', by rw [set_ne' (by simp [e]), hcb]; exact hu', fun h => ?_⟩
        obtain ⟨b3, hr3, hge3, hne, hz3⟩ := h' (by omega)
        obtain ⟨_, _, q1, q2, _⟩ := id hr3
        exact ⟨b3, hr3.ext (hE2.F _ q1) (hE2.W _ q2) ((set_other (show b3 ≠ rb from hne) _).trans (hE2.rl.blk _ q1)), hge3, hne, fun i => by rw [fz_set]; exact (World.frozen?_of_block (hE2.rl.blk b3 q1)).trans (hz3 i)⟩⟩
    have hE3 := (hE.trans hE2).set hL (x := ⟨rb, k, none⟩) hge u2
    obtain ⟨cc, hu2, _⟩ := id hrow
    subst hu2
    clear hc hrow hcb hu1 hE2 hfz2
    try walk_nrm
    repeat (first | ((first | refine wpI_seq ?_ | refine wpI_block ?_ | refine wpI_skip ?_ | refine wpI_label ?_ | refine wpI_ret ?_ | refine wpI_exit ?_ | refine opI_nil ?_); try simp only [thenI, blkI, if_true, if_false, reduceIte, Nat.reduceEqDiff]) | (refine wpI_region ?_; simp only [List.size_toArray, List.length_cons, List.length_nil, Nat.reduceAdd, Nat.zero_add, List.range, List.range.loop]) | (refine opI_unwanted rfl (by rfl) ?_; try walk_nrm) | (refine opI_k rfl (by rfl) (fun w₁ hR K hK => ?_); skip; go_simp; refine hK _ (fun e he => ?_) ?_; (first | done | ((rw [listed_nil (by simp [go_sem, *])] at he; simp at he))); (try clear hc₁); (clear hK K hR; clear w₁); (try walk_nrm)))
    (refine opI_st (⟨rb, k, none⟩) (u) ((.slice (some ⟨b2, 0, none⟩) bs.length cc)) rfl (by rfl) hu (hz2' k) ⟨hF2.2, hF2.1⟩ (fun w₁ hc₁ hz₁ K hK => ?_); go_simp; refine hK _ (fun e he => ?_) ?_; (first | done | (have hm := mem_listed he; simp [go_sem, evS_bool, evS_slice, evS_int, evS_ptr, storedEv, *] at hm; exact hm)); (clear hK K hc₁ hz₁; clear w₁); (try walk_nrm))
    repeat (first | ((first | refine wpI_seq ?_ | refine wpI_block ?_ | refine wpI_skip ?_ | refine wpI_label ?_ | refine wpI_ret ?_ | refine wpI_exit ?_ | refine opI_nil ?_); try simp only [thenI, blkI, if_true, if_false, reduceIte, Nat.reduceEqDiff]) | (refine wpI_region ?_; simp only [List.size_toArray, List.length_cons, List.length_nil, Nat.reduceAdd, Nat.zero_add, List.range, List.range.loop]) | (refine opI_unwanted rfl (by rfl) ?_; try walk_nrm) | (refine opI_k rfl (by rfl) (fun w₁ hR K hK => ?_); skip; go_simp; refine hK _ (fun e he => ?_) ?_; (first | done | ((rw [listed_nil (by simp [go_sem, *])] at he; simp at he))); (try clear hc₁); (clear hK K hR; clear w₁); (try walk_nrm)))
    exact ⟨xs.length - (k + 1), by omega, hE3, hL2.set _ _, fun i => by rw [fz_set]; exact hz2' i, hF2, k + 1, _, _, _, _, _, _, _, _, _, _, _, _, _, _, _, _, _, _, _, _, rfl, by omega, rfl, e4.out, hset.out⟩
  · refine wpI_cond rfl ?_
    simp only [hlt, decide_false, if_false, Bool.false_eq_true]
    obtain rfl : k = xs.length := by omega
    have hrow : CopT γ' w w' (.slice (some ⟨rb, 0, none⟩) xs.length xs.length) xs := ⟨rb, _, rfl, hF1.1, hge, fun i x hi => by
      obtain ⟨u, hu, h'⟩ := hc i x hi
      obtain ⟨b, hr⟩ := h' (List.getElem?_eq_some_iff.1 hi).1
      exact ⟨u, b, hu, hr⟩⟩
    clear hc
    repeat (first | ((first | refine wpI_seq ?_ | refine wpI_block ?_ | refine wpI_skip ?_ | refine wpI_label ?_ | refine wpI_ret ?_ | refine wpI_exit ?_ | refine opI_nil ?_); try simp only [thenI, blkI, if_true, if_false, reduceIte, Nat.reduceEqDiff]) | (refine wpI_region ?_; simp only [List.size_toArray, List.length_cons, List.length_nil, Nat.reduceAdd, Nat.zero_add, List.range, List.range.loop]) | (refine opI_unwanted rfl (by rfl) ?_; try walk_nrm) | (refine opI_k rfl (by rfl) (fun w₁ hR K hK => ?_); skip; go_simp; refine hK _ (fun e he => ?_) ?_; (first | done | ((rw [listed_nil (by simp [go_sem, *])] at he; simp at he))); (try clear hc₁); (clear hK K hR; clear w₁); (try walk_nrm)))
    refine ⟨rfl, _, resultsC_tmp rfl _, ?_⟩
    exact ⟨hE, hL', hrow⟩
theorem toBoolSS_c (main : Bool) (X : Pha) (γ : Gh) (w : World) (v : Value) (xs : List (List Bool)) (hT : TabV γ w v xs) (hn0 : xs.length ≤ 1048576) (hm0 : ∀ bs ∈ xs, bs.length ≤ 1048576) (hL : Lies γ w) :
    CallsI Try.prog main X 20 #[v] γ w fun γ' r w' => Ext γ w γ' w' ∧ Lies γ' w' ∧ TabI γ' w' r xs :=
  (toBoolSSW_c main X γ w v xs hT hn0 hm0 hL).mono fun _ _ _ h => ⟨h.1, h.2.1, h.2.2.tab⟩
end Go.Proofs.Ytndfookgkkefnaa
