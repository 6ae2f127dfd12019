/- Walks in company: the draws of these laws. -/
import Derived.Test.YtndfookgkkefnaaBQ3
import Derived.Test.YtndfookgkkefnaaBH3
namespace Go.Proofs.Ytndfookgkkefnaa
set_option linter.unusedSimpArgs false
set_option linter.unusedVariables false
set_option linter.unusedSectionVars false
open Go Go.Conc Go.RowKit
def DrawT (γ : Gh) (w : World) (γ' : Gh) (u : Value) (w' : World) : Prop := Ext γ w γ' w' ∧ Lies γ' w' ∧ ∃ xs, TabV γ' w' u xs ∧ xs.length ≤ 1000
set_option maxHeartbeats 4000000 in
set_option maxRecDepth 100000 in
theorem drawCount_c (main : Bool) (X : Pha) (γ : Gh) (w : World) (v : Value) (n : Nat) (hY : RowY γ w v n) (hL : Lies γ w) :
    CallsI Try.prog main X 10 #[v] γ w (DrawT γ w) := by
  (refine callsI_of Try.func10 (by rfl) rfl ?_; simp only [Try.ntmps10, List.size_toArray, List.length_cons, List.length_nil, Nat.reduceAdd, Nat.reduceSub, Array.replicate_succ, Array.replicate_zero, List.push_toArray, List.append_toArray, List.nil_append, List.cons_append])
  repeat (first | ((first | refine wpI_seq ?_ | refine wpI_block ?_ | refine wpI_skip ?_ | refine wpI_label ?_ | refine wpI_ret ?_ | refine wpI_exit ?_ | refine opI_nil ?_); try simp only [thenI, blkI, if_true, if_false, reduceIte, Nat.reduceEqDiff]) | (refine wpI_region ?_; simp only [List.size_toArray, List.length_cons, List.length_nil, Nat.reduceAdd, Nat.zero_add, List.range, List.range.loop]) | (refine opI_unwanted rfl (by rfl) ?_; try walk_nrm) | (refine opI_k rfl (by rfl) (fun w₁ hR K hK => ?_); skip; go_simp; refine hK _ (fun e he => ?_) ?_; (first | done | ((rw [listed_nil (by simp [go_sem, *])] at he; simp at he))); (try clear hc₁); (clear hK K hR; clear w₁); (try walk_nrm)))
  refine opI_call rfl (by rfl) rfl (by
    have h := open_c main X γ w v n hY hL
    walk_nrm
    exact h) ?_
  rintro γ1 u1 w1 ⟨rd, cv, L, rfl, hG⟩
  try walk_nrm
  repeat (first | ((first | refine wpI_seq ?_ | refine wpI_block ?_ | refine wpI_skip ?_ | refine wpI_label ?_ | refine wpI_ret ?_ | refine wpI_exit ?_ | refine opI_nil ?_); try simp only [thenI, blkI, if_true, if_false, reduceIte, Nat.reduceEqDiff]) | (refine wpI_region ?_; simp only [List.size_toArray, List.length_cons, List.length_nil, Nat.reduceAdd, Nat.zero_add, List.range, List.range.loop]) | (refine opI_unwanted rfl (by rfl) ?_; try walk_nrm) | (refine opI_k rfl (by rfl) (fun w₁ hR K hK => ?_); skip; go_simp; refine hK _ (fun e he => ?_) ?_; (first | done | ((rw [listed_nil (by simp [go_sem, *])] at he; simp at he))); (try clear hc₁); (clear hK K hR; clear w₁); (try walk_nrm)))
  refine opI_call rfl (by rfl) rfl (by
    have h := allowed_c main X γ γ1 w w1 rd L cv hL hG
    walk_nrm
    exact h) ?_
  rintro γ2 u2 w2 ⟨p, hp, hG2, xs, hT, hl, hm⟩
  have hfin : DrawT γ w γ2 u2 w2 := ⟨hG2.ext.more, hG2.lies, xs, hT.more, hl⟩
  clear hG hG2 hT hm
  try walk_nrm
  repeat (first | ((first | refine wpI_seq ?_ | refine wpI_block ?_ | refine wpI_skip ?_ | refine wpI_label ?_ | refine wpI_ret ?_ | refine wpI_exit ?_ | refine opI_nil ?_); try simp only [thenI, blkI, if_true, if_false, reduceIte, Nat.reduceEqDiff]) | (refine wpI_region ?_; simp only [List.size_toArray, List.length_cons, List.length_nil, Nat.reduceAdd, Nat.zero_add, List.range, List.range.loop]) | (refine opI_unwanted rfl (by rfl) ?_; try walk_nrm) | (refine opI_k rfl (by rfl) (fun w₁ hR K hK => ?_); skip; go_simp; refine hK _ (fun e he => ?_) ?_; (first | done | ((rw [listed_nil (by simp [go_sem, *])] at he; simp at he))); (try clear hc₁); (clear hK K hR; clear w₁); (try walk_nrm)))
  refine ⟨rfl, _, resultsC_tmp rfl _, ?_⟩
  exact hfin
set_option maxHeartbeats 4000000 in
set_option maxRecDepth 100000 in
theorem drawCertain_c (main : Bool) (X : Pha) (γ : Gh) (w : World) (v : Value) (n : Nat) (hY : RowY γ w v n) (hL : Lies γ w) :
    CallsI Try.prog main X 23 #[v] γ w (DrawT γ w) := by
  (refine callsI_of Try.func23 (by rfl) rfl ?_; simp only [Try.ntmps23, List.size_toArray, List.length_cons, List.length_nil, Nat.reduceAdd, Nat.reduceSub, Array.replicate_succ, Array.replicate_zero, List.push_toArray, List.append_toArray, List.nil_append, List.cons_append])
  repeat (first | ((first | refine wpI_seq ?_ | refine wpI_block ?_ | refine wpI_skip ?_ | refine wpI_label ?_ | refine wpI_ret ?_ | refine wpI_exit ?_ | refine opI_nil ?_); try simp only [thenI, blkI, if_true, if_false, reduceIte, Nat.reduceEqDiff]) | (refine wpI_region ?_; simp only [List.size_toArray, List.length_cons, List.length_nil, Nat.reduceAdd, Nat.zero_add, List.range, List.range.loop]) | (refine opI_unwanted rfl (by rfl) ?_; try walk_nrm) | (refine opI_k rfl (by rfl) (fun w₁ hR K hK => ?_); skip; go_simp; refine hK _ (fun e he => ?_) ?_; (first | done | ((rw [listed_nil (by simp [go_sem, *])] at he; simp at he))); (try clear hc₁); (clear hK K hR; clear w₁); (try walk_nrm)))
  refine opI_call rfl (by rfl) rfl (by
    have h := open_c main X γ w v n hY hL
    walk_nrm
    exact h) ?_
  rintro γ1 u1 w1 ⟨rd, cv, L, rfl, hG⟩
  try walk_nrm
  repeat (first | ((first | refine wpI_seq ?_ | refine wpI_block ?_ | refine wpI_skip ?_ | refine wpI_label ?_ | refine wpI_ret ?_ | refine wpI_exit ?_ | refine opI_nil ?_); try simp only [thenI, blkI, if_true, if_false, reduceIte, Nat.reduceEqDiff]) | (refine wpI_region ?_; simp only [List.size_toArray, List.length_cons, List.length_nil, Nat.reduceAdd, Nat.zero_add, List.range, List.range.loop]) | (refine opI_unwanted rfl (by rfl) ?_; try walk_nrm) | (refine opI_k rfl (by rfl) (fun w₁ hR K hK => ?_); skip; go_simp; refine hK _ (fun e he => ?_) ?_; (first | done | ((rw [listed_nil (by simp [go_sem, *])] at he; simp at he))); (try clear hc₁); (clear hK K hR; clear w₁); (try walk_nrm)))
  refine opI_call rfl (by rfl) rfl (by
    have h := allowed_c main X γ γ1 w w1 rd L cv hL hG
    walk_nrm
    exact h) ?_
  rintro γ2 u2 w2 ⟨p, hp, hG2, xs, hT, hl, hm⟩
  have hfin : DrawT γ w γ2 u2 w2 := ⟨hG2.ext.more, hG2.lies, xs, hT.more, hl⟩
  clear hG hG2 hT hm
  try walk_nrm
  repeat (first | ((first | refine wpI_seq ?_ | refine wpI_block ?_ | refine wpI_skip ?_ | refine wpI_label ?_ | refine wpI_ret ?_ | refine wpI_exit ?_ | refine opI_nil ?_); try simp only [thenI, blkI, if_true, if_false, reduceIte, Nat.reduceEqDiff]) | (refine wpI_region ?_; simp only [List.size_toArray, List.length_cons, List.length_nil, Nat.reduceAdd, Nat.zero_add, List.range, List.range.loop]) | (refine opI_unwanted rfl (by rfl) ?_; try walk_nrm) | (refine opI_k rfl (by rfl) (fun w₁ hR K hK => ?_); skip; go_simp; refine hK _ (fun e he => ?_) ?_; (first | done | ((rw [listed_nil (by simp [go_sem, *])] at he; simp at he))); (try clear hc₁); (clear hK K hR; clear w₁); (try walk_nrm)))
  refine ⟨rfl, _, resultsC_tmp rfl _, ?_⟩
  exact hfin
theorem ev_max {P : Program} (w : World) (ts : Array TypeId) (t : TypeId) (x y : Int) : (Builtin.max_ ts t #[.int .i64 x, .int .i64 y]).events P w #[] = #[] := by
  simp [Builtin.max_, Builtin.max2]
def DrawP (γ : Gh) (w : World) (γ' : Gh) (u : Value) (w' : World) : Prop := Ext γ w γ' w' ∧ Lies γ' w' ∧ ∃ v s xs, u = .tuple #[v, .int .i64 s] ∧ TabV γ' w' v xs ∧ xs.length ≤ 1000
set_option maxHeartbeats 4000000 in
set_option maxRecDepth 100000 in
theorem drawBest_c (main : Bool) (X : Pha) (γ : Gh) (w : World) (v : Value) (n : Nat) (hY : RowY γ w v n) (hL : Lies γ w) :
    CallsI Try.prog main X 17 #[v] γ w (DrawP γ w) := by
  (refine callsI_of Try.func17 (by rfl) rfl ?_; simp only [Try.ntmps17, List.size_toArray, List.length_cons, List.length_nil, Nat.reduceAdd, Nat.reduceSub, Array.replicate_succ, Array.replicate_zero, List.push_toArray, List.append_toArray, List.nil_append, List.cons_append])
  repeat (first | ((first | refine wpI_seq ?_ | refine wpI_block ?_ | refine wpI_skip ?_ | refine wpI_label ?_ | refine wpI_ret ?_ | refine wpI_exit ?_ | refine opI_nil ?_); try simp only [thenI, blkI, if_true, if_false, reduceIte, Nat.reduceEqDiff]) | (refine wpI_region ?_; simp only [List.size_toArray, List.length_cons, List.length_nil, Nat.reduceAdd, Nat.zero_add, List.range, List.range.loop]) | (refine opI_unwanted rfl (by rfl) ?_; try walk_nrm) | (refine opI_k rfl (by rfl) (fun w₁ hR K hK => ?_); skip; go_simp; refine hK _ (fun e he => ?_) ?_; (first | done | ((rw [listed_nil (by simp [go_sem, *])] at he; simp at he))); (try clear hc₁); (clear hK K hR; clear w₁); (try walk_nrm)))
  refine opI_call rfl (by rfl) rfl (by
    have h := open_c main X γ w v n hY hL
    walk_nrm
    exact h) ?_
  rintro γ1 u1 w1 ⟨rd, cv, L, rfl, hG⟩
  try walk_nrm
  repeat (first | ((first | refine wpI_seq ?_ | refine wpI_block ?_ | refine wpI_skip ?_ | refine wpI_label ?_ | refine wpI_ret ?_ | refine wpI_exit ?_ | refine opI_nil ?_); try simp only [thenI, blkI, if_true, if_false, reduceIte, Nat.reduceEqDiff]) | (refine wpI_region ?_; simp only [List.size_toArray, List.length_cons, List.length_nil, Nat.reduceAdd, Nat.zero_add, List.range, List.range.loop]) | (refine opI_unwanted rfl (by rfl) ?_; try walk_nrm) | (refine opI_k rfl (by rfl) (fun w₁ hR K hK => ?_); skip; go_simp; refine hK _ (fun e he => ?_) ?_; (first | done | ((rw [listed_nil (by simp [go_sem, *])] at he; simp at he))); (try clear hc₁); (clear hK K hR; clear w₁); (try walk_nrm)))
  refine opI_call rfl (by rfl) rfl (by
    have h := allowed_c main X γ γ1 w w1 rd L cv hL hG
    walk_nrm
    exact h) ?_
  rintro γ2 u2 w2 ⟨p, hp, hG2, xs, hT, hl, hm⟩
  obtain ⟨q, c, rfl, -⟩ := hT.form
  clear hG hm
  have hmx := fun w => ev_max (P := Try.prog) w #[3, 3] 3 (xs.length : Int) 1
  obtain ⟨M, hM⟩ : ∃ M : Int, (if (xs.length : Int) < 1 then (1 : Int) else (xs.length : Int)) = M := ⟨_, rfl⟩
  try walk_nrm
  repeat (first | ((first | refine wpI_seq ?_ | refine wpI_block ?_ | refine wpI_skip ?_ | refine wpI_label ?_ | refine wpI_ret ?_ | refine wpI_exit ?_ | refine opI_nil ?_); try simp only [thenI, blkI, if_true, if_false, reduceIte, Nat.reduceEqDiff]) | (refine wpI_region ?_; simp only [List.size_toArray, List.length_cons, List.length_nil, Nat.reduceAdd, Nat.zero_add, List.range, List.range.loop]) | (refine opI_unwanted rfl (by rfl) ?_; try walk_nrm) | (refine opI_k rfl (by rfl) (fun w₁ hR K hK => ?_); skip; go_simp; refine hK _ (fun e he => ?_) ?_; (first | done | ((rw [listed_nil (by simp [go_sem, *])] at he; simp at he))); (try clear hc₁); (clear hK K hR; clear w₁); (try walk_nrm)))
  refine opI_call rfl (by rfl) rfl (by
    have h := pickI_c main X γ2 w2 rd cv L p M hG2.at_ (by omega)
    walk_nrm
    exact h) ?_
  rintro γx ux wx ⟨hγ, hw, z1, rfl, -, -, -⟩
  rw [hγ, hw]
  clear hγ hw
  clear γx wx
  have hpk := Ext.poke hG2.lies hG2.F (.int .i64 ((p : Int) + 1))
  replace hG2 := hG2.poke
  replace hT := hT.ext hpk
  clear hpk hmx hM
  obtain ⟨p', hp', hGq⟩ : ∃ p', p' ≤ 1001 ∧ Rdg γ w γ2 (w2.setCell ⟨rd, 1, none⟩ (.int .i64 ((p : Int) + 1))) rd cv L p' := ⟨_, by omega, hG2⟩
  clear hG2
  generalize w2.setCell _ _ = w3 at hGq hT ⊢
  clear w2
  try walk_nrm
  repeat (first | ((first | refine wpI_seq ?_ | refine wpI_block ?_ | refine wpI_skip ?_ | refine wpI_label ?_ | refine wpI_ret ?_ | refine wpI_exit ?_ | refine opI_nil ?_); try simp only [thenI, blkI, if_true, if_false, reduceIte, Nat.reduceEqDiff]) | (refine wpI_region ?_; simp only [List.size_toArray, List.length_cons, List.length_nil, Nat.reduceAdd, Nat.zero_add, List.range, List.range.loop]) | (refine opI_unwanted rfl (by rfl) ?_; try walk_nrm) | (refine opI_k rfl (by rfl) (fun w₁ hR K hK => ?_); skip; go_simp; refine hK _ (fun e he => ?_) ?_; (first | done | ((rw [listed_nil (by simp [go_sem, *])] at he; simp at he))); (try clear hc₁); (clear hK K hR; clear w₁); (try walk_nrm)))
  refine opI_call rfl (by rfl) rfl (by
    have h := pickI_c main X γ2 w3 rd cv L p' 20 hGq.at_ (by omega)
    walk_nrm
    exact h) ?_
  rintro γx ux wx ⟨hγ, hw, z2, rfl, -, -, -⟩
  rw [hγ, hw]
  clear hγ hw
  clear γx wx
  have hpk := Ext.poke hGq.lies hGq.F (.int .i64 ((p' : Int) + 1))
  replace hGq := hGq.poke
  replace hT := hT.ext hpk
  clear hpk
  generalize w3.setCell _ _ = w4 at hGq hT ⊢
  clear w3
  have hfin : ∀ s, DrawP γ w γ2 (.tuple #[.slice q xs.length c, .int .i64 s]) w4 := fun s => ⟨hGq.ext.more, hGq.lies, _, s, xs, rfl, hT.more, hl⟩
  clear hGq hT
  try walk_nrm
  repeat (first | ((first | refine wpI_seq ?_ | refine wpI_block ?_ | refine wpI_skip ?_ | refine wpI_label ?_ | refine wpI_ret ?_ | refine wpI_exit ?_ | refine opI_nil ?_); try simp only [thenI, blkI, if_true, if_false, reduceIte, Nat.reduceEqDiff]) | (refine wpI_region ?_; simp only [List.size_toArray, List.length_cons, List.length_nil, Nat.reduceAdd, Nat.zero_add, List.range, List.range.loop]) | (refine opI_unwanted rfl (by rfl) ?_; try walk_nrm) | (refine opI_k rfl (by rfl) (fun w₁ hR K hK => ?_); skip; go_simp; refine hK _ (fun e he => ?_) ?_; (first | done | ((rw [listed_nil (by simp [go_sem, *])] at he; simp at he))); (try clear hc₁); (clear hK K hR; clear w₁); (try walk_nrm)))
  refine ⟨rfl, _, resultsC_tmp2 rfl _, ?_⟩
  exact hfin _
end Go.Proofs.Ytndfookgkkefnaa
