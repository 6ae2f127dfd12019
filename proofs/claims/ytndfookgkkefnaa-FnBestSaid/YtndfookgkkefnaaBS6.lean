/- Walks in company: the reference's AssignCount, AssignBest. -/
import Derived.Test.YtndfookgkkefnaaBL
import Derived.Test.YtndfookgkkefnaaBS5
import Derived.Test.YtndfookgkkefnaaBS2
namespace Go.Proofs.Ytndfookgkkefnaa
set_option linter.unusedSimpArgs false
set_option linter.unusedVariables false
set_option linter.unusedSectionVars false
open Go Go.Conc Go.RowKit
def cntV (xs : List (List Bool)) : Int := if validB xs then cntS xs xs.length [] else -1
theorem emptyZ {γ : Gh} {w w₁ : World} : RowZ (γ.new w₁.heap.size) (w₁.alloc (.cells #[] 3)) (.slice (some ⟨w₁.heap.size, 0, none⟩) 0 0) [] :=
  ⟨w₁.heap.size, 0, 0, rfl, .inr rfl, fun i u h => by simp at h⟩
set_option maxHeartbeats 4000000 in
set_option maxRecDepth 100000 in
theorem specCount_c (main : Bool) (X : Pha) (γ : Gh) (w : World) (v : Value) (xs : List (List Bool)) (hT : TabV γ w v xs) (hn : xs.length < 4611686018427387904) (hL : Lies γ w) :
    CallsI Try.prog main X 12 #[v] γ w fun γ' r w' => Ext γ w γ' w' ∧ Lies γ' w' ∧ r = .int .i64 (cntV xs) := by
  (refine callsI_of Try.func12 (by rfl) rfl ?_; simp only [Try.ntmps12, List.size_toArray, List.length_cons, List.length_nil, Nat.reduceAdd, Nat.reduceSub, Array.replicate_succ, Array.replicate_zero, List.push_toArray, List.append_toArray, List.nil_append, List.cons_append])
  repeat (first | ((first | refine wpI_seq ?_ | refine wpI_block ?_ | refine wpI_skip ?_ | refine wpI_label ?_ | refine wpI_ret ?_ | refine wpI_exit ?_ | refine opI_nil ?_); try simp only [thenI, blkI, if_true, if_false, reduceIte, Nat.reduceEqDiff]) | (refine wpI_region ?_; simp only [List.size_toArray, List.length_cons, List.length_nil, Nat.reduceAdd, Nat.zero_add, List.range, List.range.loop]) | (refine opI_unwanted rfl (by rfl) ?_; try walk_nrm) | (refine opI_k rfl (by rfl) (fun w₁ hR K hK => ?_); skip; go_simp; refine hK _ (fun e he => ?_) ?_; (first | done | ((rw [listed_nil (by simp [go_sem, *])] at he; simp at he))); (try clear hc₁); (clear hK K hR; clear w₁); (try walk_nrm)))
  (refine opI_call (Post := fun γ'' r w'' => γ'' = _ ∧ w'' = _ ∧ r = .bool (validB xs)) rfl (by rfl) rfl (by have h := (specValid_c main X γ w v xs hT hn); walk_nrm; exact h) ?_; intro γx ux wx hx; obtain ⟨hx1, hx2, rfl⟩ := hx; rw [hx1, hx2]; clear hx1 hx2; clear wx; clear γx; walk_nrm)
  cases hv : validB xs with
  | false =>
    have hc : Hd (cntV xs = -1) := ⟨by rw [cntV, hv]; rfl⟩
    repeat (first | ((first | refine wpI_seq ?_ | refine wpI_block ?_ | refine wpI_skip ?_ | refine wpI_label ?_ | refine wpI_ret ?_ | refine wpI_exit ?_ | refine opI_nil ?_); try simp only [thenI, blkI, if_true, if_false, reduceIte, Nat.reduceEqDiff]) | (refine wpI_region ?_; simp only [List.size_toArray, List.length_cons, List.length_nil, Nat.reduceAdd, Nat.zero_add, List.range, List.range.loop]) | (refine opI_unwanted rfl (by rfl) ?_; try walk_nrm) | (refine opI_k rfl (by rfl) (fun w₁ hR K hK => ?_); skip; go_simp; refine hK _ (fun e he => ?_) ?_; (first | done | ((rw [listed_nil (by simp [go_sem, *])] at he; simp at he))); (try clear hc₁); (clear hK K hR; clear w₁); (try walk_nrm)))
    (refine wpI_cond (t := true) rfl ?_; simp only [if_true, if_false, Bool.false_eq_true, reduceIte])
    repeat (first | ((first | refine wpI_seq ?_ | refine wpI_block ?_ | refine wpI_skip ?_ | refine wpI_label ?_ | refine wpI_ret ?_ | refine wpI_exit ?_ | refine opI_nil ?_); try simp only [thenI, blkI, if_true, if_false, reduceIte, Nat.reduceEqDiff]) | (refine wpI_region ?_; simp only [List.size_toArray, List.length_cons, List.length_nil, Nat.reduceAdd, Nat.zero_add, List.range, List.range.loop]) | (refine opI_unwanted rfl (by rfl) ?_; try walk_nrm) | (refine opI_k rfl (by rfl) (fun w₁ hR K hK => ?_); skip; go_simp; refine hK _ (fun e he => ?_) ?_; (first | done | ((rw [listed_nil (by simp [go_sem, *])] at he; simp at he))); (try clear hc₁); (clear hK K hR; clear w₁); (try walk_nrm)))
    exact ⟨rfl, _, resultsC_tmp rfl _, Ext.refl _ _, hL, by rw [hc.out]; rfl⟩
  | true =>
    obtain ⟨h0, h5, hr⟩ := validB_props hv
    have hc : Hd (cntV xs = cntS xs xs.length []) := ⟨by rw [cntV, hv]; rfl⟩
    repeat (first | ((first | refine wpI_seq ?_ | refine wpI_block ?_ | refine wpI_skip ?_ | refine wpI_label ?_ | refine wpI_ret ?_ | refine wpI_exit ?_ | refine opI_nil ?_); try simp only [thenI, blkI, if_true, if_false, reduceIte, Nat.reduceEqDiff]) | (refine wpI_region ?_; simp only [List.size_toArray, List.length_cons, List.length_nil, Nat.reduceAdd, Nat.zero_add, List.range, List.range.loop]) | (refine opI_unwanted rfl (by rfl) ?_; try walk_nrm) | (refine opI_k rfl (by rfl) (fun w₁ hR K hK => ?_); skip; go_simp; refine hK _ (fun e he => ?_) ?_; (first | done | ((rw [listed_nil (by simp [go_sem, *])] at he; simp at he))); (try clear hc₁); (clear hK K hR; clear w₁); (try walk_nrm)))
    (refine wpI_cond (t := false) rfl ?_; simp only [if_true, if_false, Bool.false_eq_true, reduceIte])
    repeat (first | ((first | refine wpI_seq ?_ | refine wpI_block ?_ | refine wpI_skip ?_ | refine wpI_label ?_ | refine wpI_ret ?_ | refine wpI_exit ?_ | refine opI_nil ?_); try simp only [thenI, blkI, if_true, if_false, reduceIte, Nat.reduceEqDiff]) | (refine wpI_region ?_; simp only [List.size_toArray, List.length_cons, List.length_nil, Nat.reduceAdd, Nat.zero_add, List.range, List.range.loop]) | (refine opI_unwanted rfl (by rfl) ?_; try walk_nrm) | (refine opI_k rfl (by rfl) (fun w₁ hR K hK => ?_); skip; go_simp; refine hK _ (fun e he => ?_) ?_; (first | done | ((rw [listed_nil (by simp [go_sem, *])] at he; simp at he))); (try clear hc₁); (clear hK K hR; clear w₁); (try walk_nrm)))
    (refine opI_new (v := fun n => .slice (some ⟨n, 0, none⟩) 0 0) (ob := .cells #[] 3) rfl (by rfl) (fun w₁ hR => ⟨run_eq_of (fun K hK => (by go_simp; exact hK)), fun e he => (by exfalso; have hm := mem_listed he; simp [go_sem, *] at hm)⟩) fun w₁ hR => ?_)
    have hE := Ext.new' (w₁ := w₁) hL hR (.cells #[] 3)
    have hL1 := Lies.new (hL.rely hR) (.cells #[] 3)
    have hZ := emptyZ (γ := γ) (w₁ := w₁) (w := w)
    clear hR
    generalize Value.slice (some ⟨w₁.heap.size, 0, none⟩) 0 0 = vo at hZ ⊢
    generalize γ.new w₁.heap.size = γ1 at hZ hE hL1 ⊢
    generalize w₁.alloc (.cells #[] 3) = w1 at hZ hE hL1 ⊢
    clear w₁
    try walk_nrm
    repeat (first | ((first | refine wpI_seq ?_ | refine wpI_block ?_ | refine wpI_skip ?_ | refine wpI_label ?_ | refine wpI_ret ?_ | refine wpI_exit ?_ | refine opI_nil ?_); try simp only [thenI, blkI, if_true, if_false, reduceIte, Nat.reduceEqDiff]) | (refine wpI_region ?_; simp only [List.size_toArray, List.length_cons, List.length_nil, Nat.reduceAdd, Nat.zero_add, List.range, List.range.loop]) | (refine opI_unwanted rfl (by rfl) ?_; try walk_nrm) | (refine opI_k rfl (by rfl) (fun w₁ hR K hK => ?_); skip; go_simp; refine hK _ (fun e he => ?_) ?_; (first | done | ((rw [listed_nil (by simp [go_sem, *])] at he; simp at he))); (try clear hc₁); (clear hK K hR; clear w₁); (try walk_nrm)))
    refine opI_call rfl (by rfl) rfl (by
      have h := l33Count_c main X xs h5 hr xs.length 0 [] γ1 w1 v vo ((hT.tab h0).ext hE) hZ rfl (by omega) hL1
      walk_nrm
      exact h) ?_
    rintro γ2 u2 w2 ⟨hE2, hL2, rfl⟩
    have hE3 := hE.trans hE2
    try walk_nrm
    repeat (first | ((first | refine wpI_seq ?_ | refine wpI_block ?_ | refine wpI_skip ?_ | refine wpI_label ?_ | refine wpI_ret ?_ | refine wpI_exit ?_ | refine opI_nil ?_); try simp only [thenI, blkI, if_true, if_false, reduceIte, Nat.reduceEqDiff]) | (refine wpI_region ?_; simp only [List.size_toArray, List.length_cons, List.length_nil, Nat.reduceAdd, Nat.zero_add, List.range, List.range.loop]) | (refine opI_unwanted rfl (by rfl) ?_; try walk_nrm) | (refine opI_k rfl (by rfl) (fun w₁ hR K hK => ?_); skip; go_simp; refine hK _ (fun e he => ?_) ?_; (first | done | ((rw [listed_nil (by simp [go_sem, *])] at he; simp at he))); (try clear hc₁); (clear hK K hR; clear w₁); (try walk_nrm)))
    exact ⟨rfl, _, resultsC_tmp rfl _, hE3, hL2, by rw [hc.out]; rfl⟩
def bestS (xs : List (List Bool)) (s : Int) : Int := if (decide (0 < cntV xs) && (decide (0 ≤ s) && decide (s ≤ (xs.length : Int) - 1))) then (amax (cntW xs s.toNat) xs.length : Int) else -1
theorem cntV_pos {xs : List (List Bool)} (h : 0 < cntV xs) : validB xs = true := by
  cases hv : validB xs with
  | true => rfl
  | false => simp [cntV, hv] at h
/-- the greatest so far, -1 before the first -/
def most (f : Nat → Int) : Nat → Int
  | 0 => -1
  | k + 1 => f (amax f (k + 1))
theorem most_step {f : Nat → Int} (h0 : ∀ r, 0 ≤ f r) (k : Nat) : (most f k < f k → amax f (k + 1) = k ∧ most f (k + 1) = f k) ∧ (¬ most f k < f k → amax f (k + 1) = amax f k ∧ most f (k + 1) = most f k) := by
  cases k with
  | zero =>
    refine ⟨fun _ => ?_, fun h => absurd (show (-1 : Int) < f 0 from by have := h0 0; omega) h⟩
    have : amax f (0 + 1) = 0 := by simp [amax]
    simp [most, this]
  | succ k =>
    constructor
    · intro h
      have h' : f (amax f (k + 1)) < f (k + 1) := h
      have e : amax f (k + 1 + 1) = k + 1 := by rw [amax, if_pos h']
      exact ⟨e, by rw [most, e]⟩
    · intro h
      have h' : ¬ f (amax f (k + 1)) < f (k + 1) := h
      have e : amax f (k + 1 + 1) = amax f (k + 1) := by rw [amax, if_neg h']
      exact ⟨e, by rw [most, e, most]⟩
/-- one count of the reference's -/
theorem withCount_c (main : Bool) (X : Pha) {γ : Gh} {w : World} {vo : Value} {xs : List (List Bool)} (s r : Nat) (h5 : xs.length ≤ 5) (hr : ∀ bs ∈ xs, bs.length = xs.length) {u : Value} (hT : TabI γ w u (onlyT s r xs)) (hZ : RowZ γ w vo []) (hL : Lies γ w) :
    CallsI Try.prog main X 35 #[u, .int .i64 0, vo] γ w fun γ' r' w' => Ext γ w γ' w' ∧ Lies γ' w' ∧ r' = .int .i64 (cntW xs s r) := by
  have h := l33Count_c main X (onlyT s r xs) (by rw [onlyT_length]; exact h5) (onlyT_rows s r hr) xs.length 0 [] γ w u vo hT hZ rfl (by rw [onlyT_length]; omega) hL
  exact h
set_option maxHeartbeats 4000000 in
set_option maxRecDepth 100000 in
theorem specBest_c (main : Bool) (X : Pha) (γ : Gh) (w : World) (v : Value) (xs : List (List Bool)) (pl : Int) (hT : TabV γ w v xs) (hn : xs.length < 4611686018427387904) (hL : Lies γ w) :
    CallsI Try.prog main X 18 #[v, .int .i64 pl] γ w fun γ' r w' => Ext γ w γ' w' ∧ Lies γ' w' ∧ r = .int .i64 (bestS xs pl) := by
  obtain ⟨p, c, rfl, _⟩ := hT.form
  (refine callsI_of Try.func18 (by rfl) rfl ?_; simp only [Try.ntmps18, List.size_toArray, List.length_cons, List.length_nil, Nat.reduceAdd, Nat.reduceSub, Array.replicate_succ, Array.replicate_zero, List.push_toArray, List.append_toArray, List.nil_append, List.cons_append])
  repeat (first | ((first | refine wpI_seq ?_ | refine wpI_block ?_ | refine wpI_skip ?_ | refine wpI_label ?_ | refine wpI_ret ?_ | refine wpI_exit ?_ | refine opI_nil ?_); try simp only [thenI, blkI, if_true, if_false, reduceIte, Nat.reduceEqDiff]) | (refine wpI_region ?_; simp only [List.size_toArray, List.length_cons, List.length_nil, Nat.reduceAdd, Nat.zero_add, List.range, List.range.loop]) | (refine opI_unwanted rfl (by rfl) ?_; try walk_nrm) | (refine opI_k rfl (by rfl) (fun w₁ hR K hK => ?_); skip; go_simp; refine hK _ (fun e he => ?_) ?_; (first | done | ((rw [listed_nil (by simp [go_sem, *])] at he; simp at he))); (try clear hc₁); (clear hK K hR; clear w₁); (try walk_nrm)))
  refine opI_call rfl (by rfl) rfl (by
    have h := specCount_c main X γ w _ xs hT hn hL
    walk_nrm
    exact h) ?_
  rintro γ1 u1 w1 ⟨hE1, hL1, rfl⟩
  try walk_nrm
  by_cases h : 0 < cntV xs
  · have e : Hd (bestS xs pl = if (decide (0 ≤ pl) && decide (pl ≤ (xs.length : Int) - 1)) = true then (amax (cntW xs pl.toNat) xs.length : Int) else -1) := ⟨by simp [bestS, h]⟩
    have ew : IntKind.i64.wrap ((xs.length : Int) - 1) = (xs.length : Int) - 1 := by rw [IntKind.wrap_i64]; omega
    have hle : decide (cntV xs ≤ 0) = false := by simp; omega
    have hv := cntV_pos h
    obtain ⟨h0, h5, hr⟩ := validB_props hv
    clear h hv
    repeat (first | ((first | refine wpI_seq ?_ | refine wpI_block ?_ | refine wpI_skip ?_ | refine wpI_label ?_ | refine wpI_ret ?_ | refine wpI_exit ?_ | refine opI_nil ?_); try simp only [thenI, blkI, if_true, if_false, reduceIte, Nat.reduceEqDiff]) | (refine wpI_region ?_; simp only [List.size_toArray, List.length_cons, List.length_nil, Nat.reduceAdd, Nat.zero_add, List.range, List.range.loop]) | (refine opI_unwanted rfl (by rfl) ?_; try walk_nrm) | (refine opI_k rfl (by rfl) (fun w₁ hR K hK => ?_); skip; go_simp; refine hK _ (fun e he => ?_) ?_; (first | done | ((rw [listed_nil (by simp [go_sem, *])] at he; simp at he))); (try clear hc₁); (clear hK K hR; clear w₁); (try walk_nrm)))
    (refine opI_call (Post := fun γ'' r w'' => γ'' = _ ∧ w'' = _ ∧ r = .bool (decide (0 ≤ pl) && decide (pl ≤ (xs.length : Int) - 1))) rfl (by rfl) rfl (by have h := (l6In_c main X γ1 w1 pl 0 ((xs.length : Int) - 1)); walk_nrm; exact h) ?_; intro γx ux wx hx; obtain ⟨hx1, hx2, rfl⟩ := hx; rw [hx1, hx2]; clear hx1 hx2; clear wx; clear γx; walk_nrm)
    cases hin : (decide (0 ≤ pl) && decide (pl ≤ (xs.length : Int) - 1)) with
    | false =>
      rw [hin] at e
      have hc : Hd (bestS xs pl = -1) := ⟨by rw [e.out]; rfl⟩
      clear e
      repeat (first | ((first | refine wpI_seq ?_ | refine wpI_block ?_ | refine wpI_skip ?_ | refine wpI_label ?_ | refine wpI_ret ?_ | refine wpI_exit ?_ | refine opI_nil ?_); try simp only [thenI, blkI, if_true, if_false, reduceIte, Nat.reduceEqDiff]) | (refine wpI_region ?_; simp only [List.size_toArray, List.length_cons, List.length_nil, Nat.reduceAdd, Nat.zero_add, List.range, List.range.loop]) | (refine opI_unwanted rfl (by rfl) ?_; try walk_nrm) | (refine opI_k rfl (by rfl) (fun w₁ hR K hK => ?_); skip; go_simp; refine hK _ (fun e he => ?_) ?_; (first | done | ((rw [listed_nil (by simp [go_sem, *])] at he; simp at he))); (try clear hc₁); (clear hK K hR; clear w₁); (try walk_nrm)))
      (refine wpI_cond (t := true) rfl ?_; simp only [if_true, if_false, Bool.false_eq_true, reduceIte])
      repeat (first | ((first | refine wpI_seq ?_ | refine wpI_block ?_ | refine wpI_skip ?_ | refine wpI_label ?_ | refine wpI_ret ?_ | refine wpI_exit ?_ | refine opI_nil ?_); try simp only [thenI, blkI, if_true, if_false, reduceIte, Nat.reduceEqDiff]) | (refine wpI_region ?_; simp only [List.size_toArray, List.length_cons, List.length_nil, Nat.reduceAdd, Nat.zero_add, List.range, List.range.loop]) | (refine opI_unwanted rfl (by rfl) ?_; try walk_nrm) | (refine opI_k rfl (by rfl) (fun w₁ hR K hK => ?_); skip; go_simp; refine hK _ (fun e he => ?_) ?_; (first | done | ((rw [listed_nil (by simp [go_sem, *])] at he; simp at he))); (try clear hc₁); (clear hK K hR; clear w₁); (try walk_nrm)))
      exact ⟨rfl, _, resultsC_tmp rfl _, hE1, hL1, by rw [hc.out]; rfl⟩
    | true =>
      rw [hin] at e
      have hc : Hd (bestS xs pl = (amax (cntW xs pl.toNat) xs.length : Int)) := ⟨by rw [e.out]; rfl⟩
      clear e
      simp only [Bool.and_eq_true, decide_eq_true_eq] at hin
      obtain ⟨s, rfl⟩ : ∃ s : Nat, pl = s := ⟨pl.toNat, by omega⟩
      have hs : s < xs.length := by omega
      rw [Int.toNat_natCast] at hc
      clear hin
      have hT1 := (hT.tab h0).ext hE1
      have h5' : Hd (xs.length ≤ 5) := ⟨h5⟩
      have hr' : Hd (∀ bs ∈ xs, bs.length = xs.length) := ⟨hr⟩
      obtain ⟨f, hf⟩ : ∃ f : Nat → Int, Hd (f = cntW xs s) := ⟨_, ⟨rfl⟩⟩
      have hf0 : ∀ r, 0 ≤ f r := fun r => by rw [hf.out]; exact (cntW_bd h5 s r).1
      rw [← hf.out] at hc
      clear hr h5
      repeat (first | ((first | refine wpI_seq ?_ | refine wpI_block ?_ | refine wpI_skip ?_ | refine wpI_label ?_ | refine wpI_ret ?_ | refine wpI_exit ?_ | refine opI_nil ?_); try simp only [thenI, blkI, if_true, if_false, reduceIte, Nat.reduceEqDiff]) | (refine wpI_region ?_; simp only [List.size_toArray, List.length_cons, List.length_nil, Nat.reduceAdd, Nat.zero_add, List.range, List.range.loop]) | (refine opI_unwanted rfl (by rfl) ?_; try walk_nrm) | (refine opI_k rfl (by rfl) (fun w₁ hR K hK => ?_); skip; go_simp; refine hK _ (fun e he => ?_) ?_; (first | done | ((rw [listed_nil (by simp [go_sem, *])] at he; simp at he))); (try clear hc₁); (clear hK K hR; clear w₁); (try walk_nrm)))
      (refine wpI_cond (t := false) rfl ?_; simp only [if_true, if_false, Bool.false_eq_true, reduceIte])
      repeat (first | ((first | refine wpI_seq ?_ | refine wpI_block ?_ | refine wpI_skip ?_ | refine wpI_label ?_ | refine wpI_ret ?_ | refine wpI_exit ?_ | refine opI_nil ?_); try simp only [thenI, blkI, if_true, if_false, reduceIte, Nat.reduceEqDiff]) | (refine wpI_region ?_; simp only [List.size_toArray, List.length_cons, List.length_nil, Nat.reduceAdd, Nat.zero_add, List.range, List.range.loop]) | (refine opI_unwanted rfl (by rfl) ?_; try walk_nrm) | (refine opI_k rfl (by rfl) (fun w₁ hR K hK => ?_); skip; go_simp; refine hK _ (fun e he => ?_) ?_; (first | done | ((rw [listed_nil (by simp [go_sem, *])] at he; simp at he))); (try clear hc₁); (clear hK K hR; clear w₁); (try walk_nrm)))
      refine wpI_loop (fun m γ' a' w' => Ext γ1 w1 γ' w' ∧ Lies γ' w' ∧ ∃ (k : Nat) (kz bz mz : Int) (u2 u3 u8 u9 u10 u11 u12 u13 u14 u15 u16 u17 u18 u19 u20 u21 u22 u23 u24 u25 u26 u27 u28 u29 u30 u31 u32 u33 u34 u35 u36 u37 : Value), a' = ⟨#[.slice p xs.length c, .int .i64 s, u2, u3, .int .i64 0, .int .i64 bz, .int .i64 mz, .int .i64 kz, u8, u9, u10, u11, u12, u13, u14, u15, u16, u17, u18, u19, u20, u21, u22, u23, u24, u25, u26, u27, u28, u29, u30, u31, u32, u33, u34, u35, u36, u37], []⟩ ∧ k ≤ xs.length ∧ m = xs.length - k ∧ kz = k ∧ bz = amax f k ∧ mz = most f k) xs.length
        ⟨Ext.refl _ _, hL1, 0, _, _, _, _, _, _, _, _, _, _, _, _, _, _, _, _, _, _, _, _, _, _, _, _, _, _, _, _, _, _, _, _, _, _, _, rfl, Nat.zero_le _, rfl, rfl, rfl, rfl⟩ ?_
      rintro m γ' a' w' ⟨hE, hL', k, kz, bz, mz, u2, u3, u8, u9, u10, u11, u12, u13, u14, u15, u16, u17, u18, u19, u20, u21, u22, u23, u24, u25, u26, u27, u28, u29, u30, u31, u32, u33, u34, u35, u36, u37, rfl, hk, rfl, rfl, rfl, rfl⟩
      repeat (first | ((first | refine wpI_seq ?_ | refine wpI_block ?_ | refine wpI_skip ?_ | refine wpI_label ?_ | refine wpI_ret ?_ | refine wpI_exit ?_ | refine opI_nil ?_); try simp only [thenI, blkI, if_true, if_false, reduceIte, Nat.reduceEqDiff]) | (refine wpI_region ?_; simp only [List.size_toArray, List.length_cons, List.length_nil, Nat.reduceAdd, Nat.zero_add, List.range, List.range.loop]) | (refine opI_unwanted rfl (by rfl) ?_; try walk_nrm) | (refine opI_k rfl (by rfl) (fun w₁ hR K hK => ?_); skip; go_simp; refine hK _ (fun e he => ?_) ?_; (first | done | ((rw [listed_nil (by simp [go_sem, *])] at he; simp at he))); (try clear hc₁); (clear hK K hR; clear w₁); (try walk_nrm)))
      by_cases hlt : k < xs.length
      · refine wpI_cond rfl ?_
        simp only [hlt, decide_true, if_true]
        have e7 : Hd (IntKind.i64.wrap ((k : Int) + 1) = ((k + 1 : Nat) : Int)) := ⟨by rw [IntKind.wrap_i64]; omega⟩
        have hT2 := hT1.ext hE
        repeat (first | ((first | refine wpI_seq ?_ | refine wpI_block ?_ | refine wpI_skip ?_ | refine wpI_label ?_ | refine wpI_ret ?_ | refine wpI_exit ?_ | refine opI_nil ?_); try simp only [thenI, blkI, if_true, if_false, reduceIte, Nat.reduceEqDiff]) | (refine wpI_region ?_; simp only [List.size_toArray, List.length_cons, List.length_nil, Nat.reduceAdd, Nat.zero_add, List.range, List.range.loop]) | (refine opI_unwanted rfl (by rfl) ?_; try walk_nrm) | (refine opI_k rfl (by rfl) (fun w₁ hR K hK => ?_); skip; go_simp; refine hK _ (fun e he => ?_) ?_; (first | done | ((rw [listed_nil (by simp [go_sem, *])] at he; simp at he))); (try clear hc₁); (clear hK K hR; clear w₁); (try walk_nrm)))
        refine opI_call rfl (by rfl) rfl (by
          have h := l33With_c main X γ' w' _ xs s k hT2 h0 h5'.out hr'.out hs hlt hL'
          walk_nrm
          exact h) ?_
        rintro γ2 u2 w2 ⟨hE2, hL2, hT3⟩
        try walk_nrm
        repeat (first | ((first | refine wpI_seq ?_ | refine wpI_block ?_ | refine wpI_skip ?_ | refine wpI_label ?_ | refine wpI_ret ?_ | refine wpI_exit ?_ | refine opI_nil ?_); try simp only [thenI, blkI, if_true, if_false, reduceIte, Nat.reduceEqDiff]) | (refine wpI_region ?_; simp only [List.size_toArray, List.length_cons, List.length_nil, Nat.reduceAdd, Nat.zero_add, List.range, List.range.loop]) | (refine opI_unwanted rfl (by rfl) ?_; try walk_nrm) | (refine opI_k rfl (by rfl) (fun w₁ hR K hK => ?_); skip; go_simp; refine hK _ (fun e he => ?_) ?_; (first | done | ((rw [listed_nil (by simp [go_sem, *])] at he; simp at he))); (try clear hc₁); (clear hK K hR; clear w₁); (try walk_nrm)))
        (refine opI_new (v := fun n => .slice (some ⟨n, 0, none⟩) 0 0) (ob := .cells #[] 3) rfl (by rfl) (fun w₁ hR => ⟨run_eq_of (fun K hK => (by go_simp; exact hK)), fun e he => (by exfalso; have hm := mem_listed he; simp [go_sem, *] at hm)⟩) fun w₁ hR => ?_)
        have hE3 := Ext.new' (w₁ := w₁) hL2 hR (.cells #[] 3)
        have hL3 := Lies.new (hL2.rely hR) (.cells #[] 3)
        have hZ := emptyZ (γ := γ2) (w₁ := w₁) (w := w)
        clear hR
        generalize Value.slice (some ⟨w₁.heap.size, 0, none⟩) 0 0 = vo at hZ ⊢
        generalize γ2.new w₁.heap.size = γ3 at hZ hE3 hL3 ⊢
        generalize w₁.alloc (.cells #[] 3) = w3 at hZ hE3 hL3 ⊢
        clear w₁
        try walk_nrm
        repeat (first | ((first | refine wpI_seq ?_ | refine wpI_block ?_ | refine wpI_skip ?_ | refine wpI_label ?_ | refine wpI_ret ?_ | refine wpI_exit ?_ | refine opI_nil ?_); try simp only [thenI, blkI, if_true, if_false, reduceIte, Nat.reduceEqDiff]) | (refine wpI_region ?_; simp only [List.size_toArray, List.length_cons, List.length_nil, Nat.reduceAdd, Nat.zero_add, List.range, List.range.loop]) | (refine opI_unwanted rfl (by rfl) ?_; try walk_nrm) | (refine opI_k rfl (by rfl) (fun w₁ hR K hK => ?_); skip; go_simp; refine hK _ (fun e he => ?_) ?_; (first | done | ((rw [listed_nil (by simp [go_sem, *])] at he; simp at he))); (try clear hc₁); (clear hK K hR; clear w₁); (try walk_nrm)))
        refine opI_call rfl (by rfl) rfl (by
          have h := withCount_c main X s k h5'.out hr'.out (hT3.ext hE3) hZ hL3
          walk_nrm
          exact h) ?_
        rintro γ4 u4 w4 ⟨hE4, hL4, rfl⟩
        have hE5 := ((hE.trans hE2).trans hE3).trans hE4
        rw [← hf.out]
        try walk_nrm
        repeat (first | ((first | refine wpI_seq ?_ | refine wpI_block ?_ | refine wpI_skip ?_ | refine wpI_label ?_ | refine wpI_ret ?_ | refine wpI_exit ?_ | refine opI_nil ?_); try simp only [thenI, blkI, if_true, if_false, reduceIte, Nat.reduceEqDiff]) | (refine wpI_region ?_; simp only [List.size_toArray, List.length_cons, List.length_nil, Nat.reduceAdd, Nat.zero_add, List.range, List.range.loop]) | (refine opI_unwanted rfl (by rfl) ?_; try walk_nrm) | (refine opI_k rfl (by rfl) (fun w₁ hR K hK => ?_); skip; go_simp; refine hK _ (fun e he => ?_) ?_; (first | done | ((rw [listed_nil (by simp [go_sem, *])] at he; simp at he))); (try clear hc₁); (clear hK K hR; clear w₁); (try walk_nrm)))
        by_cases hm : most f k < f k
        · have ea := Hd.mk ((most_step hf0 k).1 hm)
          refine wpI_cond (t := true) (by simp [Act.eval, hm]) ?_
          clear hm
          simp only [if_true]
          repeat (first | ((first | refine wpI_seq ?_ | refine wpI_block ?_ | refine wpI_skip ?_ | refine wpI_label ?_ | refine wpI_ret ?_ | refine wpI_exit ?_ | refine opI_nil ?_); try simp only [thenI, blkI, if_true, if_false, reduceIte, Nat.reduceEqDiff]) | (refine wpI_region ?_; simp only [List.size_toArray, List.length_cons, List.length_nil, Nat.reduceAdd, Nat.zero_add, List.range, List.range.loop]) | (refine opI_unwanted rfl (by rfl) ?_; try walk_nrm) | (refine opI_k rfl (by rfl) (fun w₁ hR K hK => ?_); skip; go_simp; refine hK _ (fun e he => ?_) ?_; (first | done | ((rw [listed_nil (by simp [go_sem, *])] at he; simp at he))); (try clear hc₁); (clear hK K hR; clear w₁); (try walk_nrm)))
          exact ⟨xs.length - (k + 1), by omega, hE5, hL4, k + 1, _, _, _, _, _, _, _, _, _, _, _, _, _, _, _, _, _, _, _, _, _, _, _, _, _, _, _, _, _, _, _, _, _, _, _, rfl, by omega, rfl, e7.out, by rw [ea.out.1], by rw [ea.out.2]⟩
        · have ea := Hd.mk ((most_step hf0 k).2 hm)
          refine wpI_cond (t := false) (by simp [Act.eval]; omega) ?_
          clear hm
          simp only [if_false, Bool.false_eq_true]
          repeat (first | ((first | refine wpI_seq ?_ | refine wpI_block ?_ | refine wpI_skip ?_ | refine wpI_label ?_ | refine wpI_ret ?_ | refine wpI_exit ?_ | refine opI_nil ?_); try simp only [thenI, blkI, if_true, if_false, reduceIte, Nat.reduceEqDiff]) | (refine wpI_region ?_; simp only [List.size_toArray, List.length_cons, List.length_nil, Nat.reduceAdd, Nat.zero_add, List.range, List.range.loop]) | (refine opI_unwanted rfl (by rfl) ?_; try walk_nrm) | (refine opI_k rfl (by rfl) (fun w₁ hR K hK => ?_); skip; go_simp; refine hK _ (fun e he => ?_) ?_; (first | done | ((rw [listed_nil (by simp [go_sem, *])] at he; simp at he))); (try clear hc₁); (clear hK K hR; clear w₁); (try walk_nrm)))
          exact ⟨xs.length - (k + 1), by omega, hE5, hL4, k + 1, _, _, _, _, _, _, _, _, _, _, _, _, _, _, _, _, _, _, _, _, _, _, _, _, _, _, _, _, _, _, _, _, _, _, _, rfl, by omega, rfl, e7.out, by rw [ea.out.1], by rw [ea.out.2]⟩
      · refine wpI_cond rfl ?_
        simp only [hlt, decide_false, if_false, Bool.false_eq_true]
        obtain rfl : k = xs.length := by omega
        have hEf := hE1.trans hE
        repeat (first | ((first | refine wpI_seq ?_ | refine wpI_block ?_ | refine wpI_skip ?_ | refine wpI_label ?_ | refine wpI_ret ?_ | refine wpI_exit ?_ | refine opI_nil ?_); try simp only [thenI, blkI, if_true, if_false, reduceIte, Nat.reduceEqDiff]) | (refine wpI_region ?_; simp only [List.size_toArray, List.length_cons, List.length_nil, Nat.reduceAdd, Nat.zero_add, List.range, List.range.loop]) | (refine opI_unwanted rfl (by rfl) ?_; try walk_nrm) | (refine opI_k rfl (by rfl) (fun w₁ hR K hK => ?_); skip; go_simp; refine hK _ (fun e he => ?_) ?_; (first | done | ((rw [listed_nil (by simp [go_sem, *])] at he; simp at he))); (try clear hc₁); (clear hK K hR; clear w₁); (try walk_nrm)))
        exact ⟨rfl, _, resultsC_tmp rfl _, hEf, hL', by rw [hc.out]; rfl⟩
  · have e : Hd (bestS xs pl = -1) := ⟨by simp [bestS, h]⟩
    have hle : decide (cntV xs ≤ 0) = true := by simp; omega
    clear h
    repeat (first | ((first | refine wpI_seq ?_ | refine wpI_block ?_ | refine wpI_skip ?_ | refine wpI_label ?_ | refine wpI_ret ?_ | refine wpI_exit ?_ | refine opI_nil ?_); try simp only [thenI, blkI, if_true, if_false, reduceIte, Nat.reduceEqDiff]) | (refine wpI_region ?_; simp only [List.size_toArray, List.length_cons, List.length_nil, Nat.reduceAdd, Nat.zero_add, List.range, List.range.loop]) | (refine opI_unwanted rfl (by rfl) ?_; try walk_nrm) | (refine opI_k rfl (by rfl) (fun w₁ hR K hK => ?_); skip; go_simp; refine hK _ (fun e he => ?_) ?_; (first | done | ((rw [listed_nil (by simp [go_sem, *])] at he; simp at he))); (try clear hc₁); (clear hK K hR; clear w₁); (try walk_nrm)))
    (refine wpI_cond (t := true) rfl ?_; simp only [if_true, if_false, Bool.false_eq_true, reduceIte])
    repeat (first | ((first | refine wpI_seq ?_ | refine wpI_block ?_ | refine wpI_skip ?_ | refine wpI_label ?_ | refine wpI_ret ?_ | refine wpI_exit ?_ | refine opI_nil ?_); try simp only [thenI, blkI, if_true, if_false, reduceIte, Nat.reduceEqDiff]) | (refine wpI_region ?_; simp only [List.size_toArray, List.length_cons, List.length_nil, Nat.reduceAdd, Nat.zero_add, List.range, List.range.loop]) | (refine opI_unwanted rfl (by rfl) ?_; try walk_nrm) | (refine opI_k rfl (by rfl) (fun w₁ hR K hK => ?_); skip; go_simp; refine hK _ (fun e he => ?_) ?_; (first | done | ((rw [listed_nil (by simp [go_sem, *])] at he; simp at he))); (try clear hc₁); (clear hK K hR; clear w₁); (try walk_nrm)))
    exact ⟨rfl, _, resultsC_tmp rfl _, hE1, hL1, by rw [e.out]; rfl⟩
/-- the two answers are one -/
theorem cntV_eq (xs : List (List Bool)) : cntP xs = cntV xs := by
  cases hv : validB xs with
  | false => simp [cntP, cntV, hv]
  | true =>
    obtain ⟨h0, h5, hr⟩ := validB_props hv
    simp only [cntP, cntV, hv, if_true, asg_eq h5 hr]
theorem perR_eq {xs : List (List Bool)} (h5 : xs.length ≤ 5) (hr : ∀ bs ∈ xs, bs.length = xs.length) (s : Nat) : perR xs s = cntW xs s := by
  funext r
  have := asg_eq (xs := onlyT s r xs) (by rw [onlyT_length]; exact h5) (onlyT_rows s r hr)
  rw [onlyT_length] at this
  exact this
theorem best_eq (xs : List (List Bool)) (pl : Int) : bestP xs pl = bestS xs pl := by
  unfold bestP bestS isP
  rw [cntV_eq]
  by_cases h : 0 < cntV xs
  · obtain ⟨h0, h5, hr⟩ := validB_props (cntV_pos h)
    rw [perR_eq h5 hr]
  · simp [h]
end Go.Proofs.Ytndfookgkkefnaa
