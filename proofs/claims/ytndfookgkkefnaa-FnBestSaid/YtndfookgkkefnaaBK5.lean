/- The starter's Wait, among others. -/
import Derived.Test.YtndfookgkkefnaaBK4
namespace Go.Proofs.Ytndfookgkkefnaa
set_option linter.unusedSimpArgs false
set_option linter.unusedVariables false
set_option linter.unusedSectionVars false
open Go Go.Conc Go.RowKit Go.Conc.Lib Go.ConcR.Gen
open Go.ConcN (WgLive PayAt Has)
open Go.ConcR (KK WgAt stA smA rd wr mk Payload DC0)

section
variable [Payload] {P : Program} {L : WgLink} {γ γ1 : Gh} {w : World}
set_option maxRecDepth 100000 in
set_option maxHeartbeats 8000000 in
theorem uLoadW (H : WgLib P L) {Wg C n j bd : Nat} {K : Nat → Prop} {val : Nat → Value} (hp : γ.p = .at Wg C n K val j .w1 bd) :
    CallsI P true (XS P L.tWg) L.uLoad #[.pointer (some ⟨Wg, 0, none⟩)] γ w fun γ' u w' => Rl γ w w' ∧ ∃ v : Nat, v ≤ bd ∧ v < 2147483648 ∧ u = .int .u64 ((v : Int) * KK) ∧ ((v = 0 ∧ γ' = γ.to (.at Wg C n K val j .ke bd)) ∨ (v ≠ 0 ∧ γ' = γ.to (.at Wg C n K val j (.w2 v) bd))) := by
  lib_facts
  refine callsI_of H.f_uLoad (nm_uLoad L) rfl ?_
  simp only [uLoadFn, Option.getD_some]
  walk_nrm
  repeat (first | ((first | refine wpI_seq ?_ | refine wpI_block ?_ | refine wpI_skip ?_ | refine wpI_label ?_ | refine wpI_ret ?_ | refine wpI_exit ?_ | refine opI_nil ?_); try simp only [thenI, blkI, if_true, if_false, reduceIte, Nat.reduceEqDiff]) | (refine wpI_region ?_; simp only [List.size_toArray, List.length_cons, List.length_nil, Nat.reduceAdd, Nat.zero_add, List.range, List.range.loop]) | (refine opI_unwanted rfl (by rfl) ?_; try walk_nrm) | (refine opI_k rfl (by rfl) (fun w₁ hR K hK => ?_); skip; go_simp; refine hK _ (fun e he => ?_) ?_; (first | done | ((rw [listed_nil (by simp [go_sem, *])] at he; simp at he))); (try clear hc₁); (clear hK K hR; clear w₁); (try walk_nrm)))
  refine opI_X (ty := L.tWg) fun b k cs hk w₁ hR => ?_
  refine .load Wg C n K val j bd hp rfl fun v hb hv hw => ?_
  refine ⟨_, stepG_load_atomic rfl (by rfl) hk rfl H.f_loadU64 (x_loadU64_n L) (x_loadU64_b L) (x_loadU64_x L) .u64 (x_loadU64_f L) rfl hw.cellSt, fun h0 => ⟨_, rfl, ?_⟩, fun h0 => ⟨_, rfl, ?_⟩⟩
  all_goals
    generalize hS : (v : Int) * KK = S
    clear hw
    walk_nrm
    repeat (first | ((first | refine wpI_seq ?_ | refine wpI_block ?_ | refine wpI_skip ?_ | refine wpI_label ?_ | refine wpI_ret ?_ | refine wpI_exit ?_ | refine opI_nil ?_); try simp only [thenI, blkI, if_true, if_false, reduceIte, Nat.reduceEqDiff]) | (refine wpI_region ?_; simp only [List.size_toArray, List.length_cons, List.length_nil, Nat.reduceAdd, Nat.zero_add, List.range, List.range.loop]) | (refine opI_unwanted rfl (by rfl) ?_; try walk_nrm) | (refine opI_k rfl (by rfl) (fun w₁ hR K hK => ?_); skip; go_simp; refine hK _ (fun e he => ?_) ?_; (first | done | ((rw [listed_nil (by simp [go_sem, *])] at he; simp at he))); (try clear hc₁); (clear hK K hR; clear w₁); (try walk_nrm)))
  · exact ⟨rfl, _, resultsC_tmp rfl _, hR, v, hb, hv, by rw [hS]; rfl, .inl ⟨h0, rfl⟩⟩
  · exact ⟨rfl, _, resultsC_tmp rfl _, hR, v, hb, hv, by rw [hS]; rfl, .inr ⟨h0, rfl⟩⟩
set_option maxRecDepth 100000 in
set_option maxHeartbeats 8000000 in
theorem uLookW (H : WgLib P L) {Wg C n j bd : Nat} {K : Nat → Prop} {val : Nat → Value} (hp : γ.p = .at Wg C n K val j .w4 bd) :
    CallsI P true (XS P L.tWg) L.uLoad #[.pointer (some ⟨Wg, 0, none⟩)] γ w fun γ' u w' => Rl γ w w' ∧ u = .int .u64 0 ∧ γ' = γ.to (.at Wg C n K val j .ke bd) := by
  lib_facts
  refine callsI_of H.f_uLoad (nm_uLoad L) rfl ?_
  simp only [uLoadFn, Option.getD_some]
  walk_nrm
  repeat (first | ((first | refine wpI_seq ?_ | refine wpI_block ?_ | refine wpI_skip ?_ | refine wpI_label ?_ | refine wpI_ret ?_ | refine wpI_exit ?_ | refine opI_nil ?_); try simp only [thenI, blkI, if_true, if_false, reduceIte, Nat.reduceEqDiff]) | (refine wpI_region ?_; simp only [List.size_toArray, List.length_cons, List.length_nil, Nat.reduceAdd, Nat.zero_add, List.range, List.range.loop]) | (refine opI_unwanted rfl (by rfl) ?_; try walk_nrm) | (refine opI_k rfl (by rfl) (fun w₁ hR K hK => ?_); skip; go_simp; refine hK _ (fun e he => ?_) ?_; (first | done | ((rw [listed_nil (by simp [go_sem, *])] at he; simp at he))); (try clear hc₁); (clear hK K hR; clear w₁); (try walk_nrm)))
  refine opI_X (ty := L.tWg) fun b k cs hk w₁ hR => ?_
  refine .look Wg C n K val j bd hp rfl fun hw => ?_
  refine ⟨_, stepG_load_atomic rfl (by rfl) hk rfl H.f_loadU64 (x_loadU64_n L) (x_loadU64_b L) (x_loadU64_x L) .u64 (x_loadU64_f L) rfl hw.cellSt, _, rfl, ?_⟩
  clear hw
  walk_nrm
  repeat (first | ((first | refine wpI_seq ?_ | refine wpI_block ?_ | refine wpI_skip ?_ | refine wpI_label ?_ | refine wpI_ret ?_ | refine wpI_exit ?_ | refine opI_nil ?_); try simp only [thenI, blkI, if_true, if_false, reduceIte, Nat.reduceEqDiff]) | (refine wpI_region ?_; simp only [List.size_toArray, List.length_cons, List.length_nil, Nat.reduceAdd, Nat.zero_add, List.range, List.range.loop]) | (refine opI_unwanted rfl (by rfl) ?_; try walk_nrm) | (refine opI_k rfl (by rfl) (fun w₁ hR K hK => ?_); skip; go_simp; refine hK _ (fun e he => ?_) ?_; (first | done | ((rw [listed_nil (by simp [go_sem, *])] at he; simp at he))); (try clear hc₁); (clear hK K hR; clear w₁); (try walk_nrm)))
  exact ⟨rfl, _, resultsC_tmp rfl _, hR, rfl, rfl⟩
set_option maxRecDepth 100000 in
set_option maxHeartbeats 8000000 in
theorem uCasW (H : WgLib P L) {Wg C n j bd vs : Nat} {K : Nat → Prop} {val : Nat → Value} (hp : γ.p = .at Wg C n K val j (.w2 vs) bd) (hA : Aw γ Wg) :
    CallsI P true (XS P L.tWg) L.uCas #[.pointer (some ⟨Wg, 0, none⟩), .int .u64 ((vs : Int) * KK), .int .u64 ((vs : Int) * KK + 1)] γ w fun γ' u w' => Rl γ w w' ∧ ((u = .bool true ∧ γ' = γ.to (.at Wg C n K val j .w3 1)) ∨ ∃ v, v < vs ∧ u = .bool false ∧ γ' = γ.to (.at Wg C n K val j .w1 v)) := by
  lib_facts
  refine callsI_of H.f_uCas (nm_uCas L) rfl ?_
  simp only [uCasFn, Option.getD_some]
  generalize hS : (vs : Int) * KK = S
  walk_nrm
  repeat (first | ((first | refine wpI_seq ?_ | refine wpI_block ?_ | refine wpI_skip ?_ | refine wpI_label ?_ | refine wpI_ret ?_ | refine wpI_exit ?_ | refine opI_nil ?_); try simp only [thenI, blkI, if_true, if_false, reduceIte, Nat.reduceEqDiff]) | (refine wpI_region ?_; simp only [List.size_toArray, List.length_cons, List.length_nil, Nat.reduceAdd, Nat.zero_add, List.range, List.range.loop]) | (refine opI_unwanted rfl (by rfl) ?_; try walk_nrm) | (refine opI_k rfl (by rfl) (fun w₁ hR K hK => ?_); skip; go_simp; refine hK _ (fun e he => ?_) ?_; (first | done | ((rw [listed_nil (by simp [go_sem, *])] at he; simp at he))); (try clear hc₁); (clear hK K hR; clear w₁); (try walk_nrm)))
  refine opI_X (ty := L.tWg) fun b k cs hk w₁ hR => ?_
  refine .cas Wg C n K val j bd vs hp rfl fun v hb hv hw => ⟨fun e => ?_, fun e => ?_⟩
  · subst e
    rw [hS] at hw ⊢
    refine ⟨_, (stepG_cas_hit (v := S) (n := S + 1) rfl (by rfl) hk rfl H.f_casU64 (x_casU64_n L) (x_casU64_b L) (x_casU64_x L) .u64 (x_casU64_f L) rfl rfl rfl hw.cellSt (hw.thaw 0)).trans (by rfl), _, rfl, ?_⟩
    have hR2 : Rl γ w (w₁.setCell (stA Wg) (.int .u64 (S + 1))) := hR.trans (Rl.book hA _ _ rfl _)
    generalize w₁.setCell (stA Wg) (.int .u64 (S + 1)) = w2 at hR2 ⊢
    clear hw
    walk_nrm
    repeat (first | ((first | refine wpI_seq ?_ | refine wpI_block ?_ | refine wpI_skip ?_ | refine wpI_label ?_ | refine wpI_ret ?_ | refine wpI_exit ?_ | refine opI_nil ?_); try simp only [thenI, blkI, if_true, if_false, reduceIte, Nat.reduceEqDiff]) | (refine wpI_region ?_; simp only [List.size_toArray, List.length_cons, List.length_nil, Nat.reduceAdd, Nat.zero_add, List.range, List.range.loop]) | (refine opI_unwanted rfl (by rfl) ?_; try walk_nrm) | (refine opI_k rfl (by rfl) (fun w₁ hR K hK => ?_); skip; go_simp; refine hK _ (fun e he => ?_) ?_; (first | done | ((rw [listed_nil (by simp [go_sem, *])] at he; simp at he))); (try clear hc₁); (clear hK K hR; clear w₁); (try walk_nrm)))
    exact ⟨rfl, _, resultsC_tmp rfl _, hR2, .inl ⟨rfl, rfl⟩⟩
  · have hne : ¬ (v : Int) * KK = S := by rw [← hS]; simp only [KK]; omega
    refine ⟨_, stepG_cas_miss (v := (v : Int) * KK) (old := S) (n := S + 1) rfl (by rfl) hk rfl H.f_casU64 (x_casU64_n L) (x_casU64_b L) (x_casU64_x L) .u64 (x_casU64_f L) rfl rfl rfl hw.cellSt (hw.thaw 0) hne, _, rfl, ?_⟩
    clear hw
    walk_nrm
    repeat (first | ((first | refine wpI_seq ?_ | refine wpI_block ?_ | refine wpI_skip ?_ | refine wpI_label ?_ | refine wpI_ret ?_ | refine wpI_exit ?_ | refine opI_nil ?_); try simp only [thenI, blkI, if_true, if_false, reduceIte, Nat.reduceEqDiff]) | (refine wpI_region ?_; simp only [List.size_toArray, List.length_cons, List.length_nil, Nat.reduceAdd, Nat.zero_add, List.range, List.range.loop]) | (refine opI_unwanted rfl (by rfl) ?_; try walk_nrm) | (refine opI_k rfl (by rfl) (fun w₁ hR K hK => ?_); skip; go_simp; refine hK _ (fun e he => ?_) ?_; (first | done | ((rw [listed_nil (by simp [go_sem, *])] at he; simp at he))); (try clear hc₁); (clear hK K hR; clear w₁); (try walk_nrm)))
    exact ⟨rfl, _, resultsC_tmp rfl _, hR, .inr ⟨v, by omega, rfl, rfl⟩⟩
end
end Go.Proofs.Ytndfookgkkefnaa
