/- Walks in company: tables that are marked. -/
import Derived.Test.YtndfookgkkefnaaBT3
namespace Go.Proofs.Ytndfookgkkefnaa
set_option linter.unusedSimpArgs false
set_option linter.unusedVariables false
set_option linter.unusedSectionVars false
open Go Go.Conc Go.RowKit
theorem Ext.noCs₀ {γ₀ γ : Gh} {w₀ w : World} (h : Ext γ₀ w₀ γ w) : Ext γ₀.noCs w₀ γ w := ⟨h.F, h.W, fun _ x => x.elim, h.Q, h.G, h.p, ⟨h.rl.size, h.rl.blk, fun _ x => x.elim, fun _ x => x.elim, h.rl.q, h.rl.ex⟩⟩
theorem RowN.mk {γ₀ γ : Gh} {w₀ w w' : World} {R S : Nat → Prop} {v : Value} {zs : List Int} (h : RowN γ w v zs) (hW : RowW γ w S v zs.length) (k : Mk γ₀ w₀ γ R w w') (hSR : ∀ b, S b → ¬ R b) : RowN γ w' v zs := by
  obtain ⟨p, c, rfl, hx⟩ := h
  obtain ⟨p', c', hv, hy⟩ := hW
  refine ⟨p, c, rfl, fun i x hi => ?_⟩
  obtain ⟨b, o, rfl, hb, hc⟩ := hx i x hi
  obtain ⟨b', hb', hS, _⟩ := hy i (List.getElem?_eq_some_iff.1 hi).1
  have e : p' = some ⟨b, o, none⟩ := by injection hv with h1 h2 h3; exact h1.symm
  rw [e] at hb'
  obtain rfl : b = b' := by simp at hb'; exact hb'.1
  exact ⟨b, o, rfl, hb, (cell_of (a := ⟨b, o + i, none⟩) (k.blk b (hSR b hS))).trans hc⟩
set_option maxHeartbeats 4000000 in
set_option maxRecDepth 100000 in
theorem markBoolS_c (main : Bool) (X : Pha) (γ₀ γ : Gh) (w₀ w : World) (R : Nat → Prop) (hR : ∀ b, R b → w₀.heap.size ≤ b) (v : Value) (n k0 : Nat) (hE : Ext γ₀ w₀ γ w) (hL₀ : Lies γ₀ w₀) (hL : Lies γ w) (hW : RowW γ w R v n) (hn : n ≤ 1048576) (hk0 : k0 ≤ 2000000000000) :
    CallsI Try.prog main X 46 #[v, .int .i64 k0] γ w fun γ' r w' => γ' = γ ∧ r = .int .i64 ((k0 + n : Nat) : Int) ∧ Mk γ₀ w₀ γ R w w' := by
  have hK0 : Mk γ₀ w₀ γ R w w := Mk.refl hE hL
  obtain ⟨p, c, rfl, hx⟩ := hW
  have hn' := Hd.mk (And.intro hn hk0)
  (refine callsI_of Try.func46 (by rfl) rfl ?_; simp only [Try.ntmps46, List.size_toArray, List.length_cons, List.length_nil, Nat.reduceAdd, Nat.reduceSub, Array.replicate_succ, Array.replicate_zero, List.push_toArray, List.append_toArray, List.nil_append, List.cons_append])
  repeat (first | ((first | refine wpI_seq ?_ | refine wpI_block ?_ | refine wpI_skip ?_ | refine wpI_label ?_ | refine wpI_ret ?_ | refine wpI_exit ?_ | refine opI_nil ?_); try simp only [thenI, blkI, if_true, if_false, reduceIte, Nat.reduceEqDiff]) | (refine wpI_region ?_; simp only [List.size_toArray, List.length_cons, List.length_nil, Nat.reduceAdd, Nat.zero_add, List.range, List.range.loop]) | (refine opI_unwanted rfl (by rfl) ?_; try walk_nrm) | (refine opI_k rfl (by rfl) (fun w₁ hR K hK => ?_); skip; go_simp; refine hK _ (fun e he => ?_) ?_; (first | done | ((rw [listed_nil (by simp [go_sem, *])] at he; simp at he))); (try clear hc₁); (clear hK K hR; clear w₁); (try walk_nrm)))
  refine wpI_loop (fun m γ' a' w' => ∃ (k l : Nat) (kz lz : Int) (u2 u3 u6 u7 u8 u9 u10 u11 u12 u13 u14 u15 u16 u17 u18 u19 u20 : Value), a' = ⟨#[.slice p n c, .int .i64 lz, u2, u3, .int .i64 0, .int .i64 kz, u6, u7, u8, u9, u10, u11, u12, u13, u14, u15, u16, u17, u18, u19, u20], []⟩ ∧ k ≤ n ∧ m = n - k ∧ kz = k ∧ lz = l ∧ l = k0 + k ∧ γ' = γ ∧ Mk γ₀ w₀ γ R w w') n
    ⟨0, k0, _, _, _, _, _, _, _, _, _, _, _, _, _, _, _, _, _, _, _, rfl, Nat.zero_le _, rfl, rfl, rfl, rfl, rfl, hK0⟩ ?_
  clear hK0 hE hL
  rintro m γ' a' w' ⟨k, l, kz, lz, u2, u3, u6, u7, u8, u9, u10, u11, u12, u13, u14, u15, u16, u17, u18, u19, u20, rfl, hk, rfl, rfl, rfl, hl, rfl, hK⟩
  have hl' := Hd.mk hl
  clear hl
  repeat (first | ((first | refine wpI_seq ?_ | refine wpI_block ?_ | refine wpI_skip ?_ | refine wpI_label ?_ | refine wpI_ret ?_ | refine wpI_exit ?_ | refine opI_nil ?_); try simp only [thenI, blkI, if_true, if_false, reduceIte, Nat.reduceEqDiff]) | (refine wpI_region ?_; simp only [List.size_toArray, List.length_cons, List.length_nil, Nat.reduceAdd, Nat.zero_add, List.range, List.range.loop]) | (refine opI_unwanted rfl (by rfl) ?_; try walk_nrm) | (refine opI_k rfl (by rfl) (fun w₁ hR K hK => ?_); skip; go_simp; refine hK _ (fun e he => ?_) ?_; (first | done | ((rw [listed_nil (by simp [go_sem, *])] at he; simp at he))); (try clear hc₁); (clear hK K hR; clear w₁); (try walk_nrm)))
  by_cases hlt : k < n
  · refine wpI_cond rfl ?_
    simp only [hlt, decide_true, if_true]
    obtain ⟨b, rfl, hRb, hF, hWb, hz, u0, hu0⟩ := hx k hlt
    obtain ⟨u, hu⟩ := hK.ex _ u0 hu0
    have hzz := (hK.fz ⟨b, k, none⟩).trans hz
    have hk0 : (0 : Int) ≤ (k : Int) := by omega
    have hki : (k : Int) < (n : Int) := by omega
    have e5 : Hd (IntKind.i64.wrap ((k : Int) + 1) = ((k + 1 : Nat) : Int)) := ⟨by have := hn'.out; rw [IntKind.wrap_i64]; omega⟩
    have e1 : Hd (IntKind.i64.wrap ((l : Int) + 1) = ((l + 1 : Nat) : Int)) := ⟨by have := hn'.out; have := hl'.out; rw [IntKind.wrap_i64]; omega⟩
    have hl1 : Hd (l + 1 = k0 + (k + 1)) := ⟨by have := hl'.out; omega⟩
    clear hz hu0
    repeat (first | ((first | refine wpI_seq ?_ | refine wpI_block ?_ | refine wpI_skip ?_ | refine wpI_label ?_ | refine wpI_ret ?_ | refine wpI_exit ?_ | refine opI_nil ?_); try simp only [thenI, blkI, if_true, if_false, reduceIte, Nat.reduceEqDiff]) | (refine wpI_region ?_; simp only [List.size_toArray, List.length_cons, List.length_nil, Nat.reduceAdd, Nat.zero_add, List.range, List.range.loop]) | (refine opI_unwanted rfl (by rfl) ?_; try walk_nrm) | (refine opI_k rfl (by rfl) (fun w₁ hR K hK => ?_); skip; go_simp; refine hK _ (fun e he => ?_) ?_; (first | done | ((rw [listed_nil (by simp [go_sem, *])] at he; simp at he))); (try clear hc₁); (clear hK K hR; clear w₁); (try walk_nrm)))
    (refine opI_st (⟨b, k, none⟩) (u) ((.bool ((l : Int) % 3 == 0))) rfl (by rfl) hu hzz ⟨hWb, hF⟩ (fun w₁ hc₁ hz₁ K hK => ?_); go_simp; refine hK _ (fun e he => ?_) ?_; (first | done | (have hm := mem_listed he; simp [go_sem, evS_bool, evS_slice, evS_int, evS_ptr, storedEv, *] at hm; exact hm)); (clear hK K hc₁ hz₁; clear w₁); (try walk_nrm))
    repeat (first | ((first | refine wpI_seq ?_ | refine wpI_block ?_ | refine wpI_skip ?_ | refine wpI_label ?_ | refine wpI_ret ?_ | refine wpI_exit ?_ | refine opI_nil ?_); try simp only [thenI, blkI, if_true, if_false, reduceIte, Nat.reduceEqDiff]) | (refine wpI_region ?_; simp only [List.size_toArray, List.length_cons, List.length_nil, Nat.reduceAdd, Nat.zero_add, List.range, List.range.loop]) | (refine opI_unwanted rfl (by rfl) ?_; try walk_nrm) | (refine opI_k rfl (by rfl) (fun w₁ hR K hK => ?_); skip; go_simp; refine hK _ (fun e he => ?_) ?_; (first | done | ((rw [listed_nil (by simp [go_sem, *])] at he; simp at he))); (try clear hc₁); (clear hK K hR; clear w₁); (try walk_nrm)))
    exact ⟨n - (k + 1), by omega, k + 1, l + 1, _, _, _, _, _, _, _, _, _, _, _, _, _, _, _, _, _, _, _, rfl, by omega, rfl, e5.out, e1.out, hl1.out, by first | rfl | trivial, hK.set hL₀ hR hRb _⟩
  · refine wpI_cond rfl ?_
    simp only [hlt, decide_false, if_false, Bool.false_eq_true]
    obtain rfl : k = n := by omega
    repeat (first | ((first | refine wpI_seq ?_ | refine wpI_block ?_ | refine wpI_skip ?_ | refine wpI_label ?_ | refine wpI_ret ?_ | refine wpI_exit ?_ | refine opI_nil ?_); try simp only [thenI, blkI, if_true, if_false, reduceIte, Nat.reduceEqDiff]) | (refine wpI_region ?_; simp only [List.size_toArray, List.length_cons, List.length_nil, Nat.reduceAdd, Nat.zero_add, List.range, List.range.loop]) | (refine opI_unwanted rfl (by rfl) ?_; try walk_nrm) | (refine opI_k rfl (by rfl) (fun w₁ hR K hK => ?_); skip; go_simp; refine hK _ (fun e he => ?_) ?_; (first | done | ((rw [listed_nil (by simp [go_sem, *])] at he; simp at he))); (try clear hc₁); (clear hK K hR; clear w₁); (try walk_nrm)))
    refine ⟨rfl, _, resultsC_tmp rfl _, ?_⟩
    exact ⟨rfl, by rw [hl'.out]; rfl, hK⟩
set_option maxHeartbeats 4000000 in
set_option maxRecDepth 100000 in
theorem markBoolSS_c (main : Bool) (X : Pha) (γ₀ γ : Gh) (w₀ w : World) (R : Nat → Prop) (hR : ∀ b, R b → w₀.heap.size ≤ b) (rb c : Nat) (xs : List (List Bool)) (hE : Ext γ₀ w₀ γ w) (hL₀ : Lies γ₀ w₀) (hL : Lies γ w) (hF : γ.F rb) (hRb : ¬ R rb)
    (hx : ∀ (i : Nat) (bs : List Bool), xs[i]? = some bs → ∃ u, w.cell? ⟨rb, i, none⟩ = some u ∧ RowW γ w R u bs.length) (hn : xs.length ≤ 1048576) (hm0 : ∀ bs ∈ xs, bs.length ≤ 1048576) :
    CallsI Try.prog main X 27 #[.slice (some ⟨rb, 0, none⟩) xs.length c, .int .i64 1] γ w fun γ' r w' => γ' = γ ∧ ∃ z : Nat, r = .int .i64 z ∧ Mk γ₀ w₀ γ R w w' := by
  have hK0 : Mk γ₀ w₀ γ R w w := Mk.refl hE hL
  have hn' := Hd.mk hn
  have hm := Hd.mk hm0
  clear hn hm0
  (refine callsI_of Try.func27 (by rfl) rfl ?_; simp only [Try.ntmps27, List.size_toArray, List.length_cons, List.length_nil, Nat.reduceAdd, Nat.reduceSub, Array.replicate_succ, Array.replicate_zero, List.push_toArray, List.append_toArray, List.nil_append, List.cons_append])
  repeat (first | ((first | refine wpI_seq ?_ | refine wpI_block ?_ | refine wpI_skip ?_ | refine wpI_label ?_ | refine wpI_ret ?_ | refine wpI_exit ?_ | refine opI_nil ?_); try simp only [thenI, blkI, if_true, if_false, reduceIte, Nat.reduceEqDiff]) | (refine wpI_region ?_; simp only [List.size_toArray, List.length_cons, List.length_nil, Nat.reduceAdd, Nat.zero_add, List.range, List.range.loop]) | (refine opI_unwanted rfl (by rfl) ?_; try walk_nrm) | (refine opI_k rfl (by rfl) (fun w₁ hR K hK => ?_); skip; go_simp; refine hK _ (fun e he => ?_) ?_; (first | done | ((rw [listed_nil (by simp [go_sem, *])] at he; simp at he))); (try clear hc₁); (clear hK K hR; clear w₁); (try walk_nrm)))
  refine wpI_loop (fun m γ' a' w' => ∃ (k l : Nat) (kz lz : Int) (u2 u3 u6 u7 u8 u9 u10 u11 u12 u13 u14 u15 u16 u17 u18 : Value), a' = ⟨#[.slice (some ⟨rb, 0, none⟩) xs.length c, .int .i64 lz, u2, u3, .int .i64 0, .int .i64 kz, u6, u7, u8, u9, u10, u11, u12, u13, u14, u15, u16, u17, u18], []⟩ ∧ k ≤ xs.length ∧ m = xs.length - k ∧ kz = k ∧ lz = l ∧ l ≤ 1 + k * 1048576 ∧ γ' = γ ∧ Mk γ₀ w₀ γ R w w') xs.length
    ⟨0, 1, _, _, _, _, _, _, _, _, _, _, _, _, _, _, _, _, _, rfl, Nat.zero_le _, rfl, rfl, rfl, by omega, rfl, hK0⟩ ?_
  clear hK0 hE hL
  rintro m γ' a' w' ⟨k, l, kz, lz, u2, u3, u6, u7, u8, u9, u10, u11, u12, u13, u14, u15, u16, u17, u18, rfl, hk, rfl, rfl, rfl, hl, rfl, hK⟩
  have hl' := Hd.mk hl
  clear hl
  repeat (first | ((first | refine wpI_seq ?_ | refine wpI_block ?_ | refine wpI_skip ?_ | refine wpI_label ?_ | refine wpI_ret ?_ | refine wpI_exit ?_ | refine opI_nil ?_); try simp only [thenI, blkI, if_true, if_false, reduceIte, Nat.reduceEqDiff]) | (refine wpI_region ?_; simp only [List.size_toArray, List.length_cons, List.length_nil, Nat.reduceAdd, Nat.zero_add, List.range, List.range.loop]) | (refine opI_unwanted rfl (by rfl) ?_; try walk_nrm) | (refine opI_k rfl (by rfl) (fun w₁ hR K hK => ?_); skip; go_simp; refine hK _ (fun e he => ?_) ?_; (first | done | ((rw [listed_nil (by simp [go_sem, *])] at he; simp at he))); (try clear hc₁); (clear hK K hR; clear w₁); (try walk_nrm)))
  by_cases hlt : k < xs.length
  · refine wpI_cond rfl ?_
    simp only [hlt, decide_true, if_true]
    obtain ⟨bs, hbs⟩ : ∃ bs, Hd (xs[k]? = some bs) := ⟨_, ⟨List.getElem?_eq_getElem hlt⟩⟩
    obtain ⟨u, hu0, hrow⟩ := hx k bs hbs.out
    have hu := (cell_of (a := ⟨rb, k, none⟩) (hK.blk rb hRb)).trans hu0
    have hrow' := hrow.mk hK
    obtain ⟨q, qc, rfl, _⟩ := id hrow'
    have hbl := Hd.mk (hm.out bs (List.mem_of_getElem? hbs.out))
    have hk0 : (0 : Int) ≤ (k : Int) := by omega
    have hki : (k : Int) < (xs.length : Int) := by omega
    have e5 : Hd (IntKind.i64.wrap ((k : Int) + 1) = ((k + 1 : Nat) : Int)) := ⟨by have := hn'.out; rw [IntKind.wrap_i64]; omega⟩
    have hl1 : Hd (l + bs.length ≤ 1 + (k + 1) * 1048576) := ⟨by have := hl'.out; have := hbl.out; omega⟩
    clear hu0 hrow
    repeat (first | ((first | refine wpI_seq ?_ | refine wpI_block ?_ | refine wpI_skip ?_ | refine wpI_label ?_ | refine wpI_ret ?_ | refine wpI_exit ?_ | refine opI_nil ?_); try simp only [thenI, blkI, if_true, if_false, reduceIte, Nat.reduceEqDiff]) | (refine wpI_region ?_; simp only [List.size_toArray, List.length_cons, List.length_nil, Nat.reduceAdd, Nat.zero_add, List.range, List.range.loop]) | (refine opI_unwanted rfl (by rfl) ?_; try walk_nrm) | (refine opI_k rfl (by rfl) (fun w₁ hR K hK => ?_); skip; go_simp; refine hK _ (fun e he => ?_) ?_; (first | done | ((rw [listed_nil (by simp [go_sem, *])] at he; simp at he))); (try clear hc₁); (clear hK K hR; clear w₁); (try walk_nrm)))
    (refine opI_k rfl (by rfl) (fun w₁ hR K hK => ?_); have hc₁ := hR.get hF hu; go_simp; refine hK _ (fun e he => ?_) ?_; (first | done | ((have hm := mem_listed he; simp [go_sem, *] at hm; subst hm; exact Ev.read hF))); (try clear hc₁); (clear hK K hR; clear w₁); (try walk_nrm))
    repeat (first | ((first | refine wpI_seq ?_ | refine wpI_block ?_ | refine wpI_skip ?_ | refine wpI_label ?_ | refine wpI_ret ?_ | refine wpI_exit ?_ | refine opI_nil ?_); try simp only [thenI, blkI, if_true, if_false, reduceIte, Nat.reduceEqDiff]) | (refine wpI_region ?_; simp only [List.size_toArray, List.length_cons, List.length_nil, Nat.reduceAdd, Nat.zero_add, List.range, List.range.loop]) | (refine opI_unwanted rfl (by rfl) ?_; try walk_nrm) | (refine opI_k rfl (by rfl) (fun w₁ hR K hK => ?_); skip; go_simp; refine hK _ (fun e he => ?_) ?_; (first | done | ((rw [listed_nil (by simp [go_sem, *])] at he; simp at he))); (try clear hc₁); (clear hK K hR; clear w₁); (try walk_nrm)))
    refine opI_call rfl (by rfl) rfl (by
      have h := markBoolS_c main X γ₀ γ' w₀ w' R hR _ bs.length l hK.ext hL₀ hK.lies hrow' hbl.out (by have := hl'.out; have := hn'.out; omega)
      walk_nrm
      exact h) ?_
    rintro γ2 u2 w2 ⟨hγ, rfl, hK2⟩
    rw [hγ]
    clear hγ
    clear γ2
    obtain ⟨L, hL2⟩ : ∃ L : Nat, Hd (L = l + bs.length) := ⟨_, ⟨rfl⟩⟩
    rw [← hL2.out] at hl1 ⊢
    have hK3 := hK.trans hK2
    clear hK hK2 hu hrow'
    try walk_nrm
    repeat (first | ((first | refine wpI_seq ?_ | refine wpI_block ?_ | refine wpI_skip ?_ | refine wpI_label ?_ | refine wpI_ret ?_ | refine wpI_exit ?_ | refine opI_nil ?_); try simp only [thenI, blkI, if_true, if_false, reduceIte, Nat.reduceEqDiff]) | (refine wpI_region ?_; simp only [List.size_toArray, List.length_cons, List.length_nil, Nat.reduceAdd, Nat.zero_add, List.range, List.range.loop]) | (refine opI_unwanted rfl (by rfl) ?_; try walk_nrm) | (refine opI_k rfl (by rfl) (fun w₁ hR K hK => ?_); skip; go_simp; refine hK _ (fun e he => ?_) ?_; (first | done | ((rw [listed_nil (by simp [go_sem, *])] at he; simp at he))); (try clear hc₁); (clear hK K hR; clear w₁); (try walk_nrm)))
    exact ⟨xs.length - (k + 1), by omega, k + 1, L, _, _, _, _, _, _, _, _, _, _, _, _, _, _, _, _, _, rfl, by omega, rfl, e5.out, by first | rfl | trivial, hl1.out, by first | rfl | trivial, hK3⟩
  · refine wpI_cond rfl ?_
    simp only [hlt, decide_false, if_false, Bool.false_eq_true]
    obtain rfl : k = xs.length := by omega
    repeat (first | ((first | refine wpI_seq ?_ | refine wpI_block ?_ | refine wpI_skip ?_ | refine wpI_label ?_ | refine wpI_ret ?_ | refine wpI_exit ?_ | refine opI_nil ?_); try simp only [thenI, blkI, if_true, if_false, reduceIte, Nat.reduceEqDiff]) | (refine wpI_region ?_; simp only [List.size_toArray, List.length_cons, List.length_nil, Nat.reduceAdd, Nat.zero_add, List.range, List.range.loop]) | (refine opI_unwanted rfl (by rfl) ?_; try walk_nrm) | (refine opI_k rfl (by rfl) (fun w₁ hR K hK => ?_); skip; go_simp; refine hK _ (fun e he => ?_) ?_; (first | done | ((rw [listed_nil (by simp [go_sem, *])] at he; simp at he))); (try clear hc₁); (clear hK K hR; clear w₁); (try walk_nrm)))
    refine ⟨rfl, _, resultsC_tmp rfl _, ?_⟩
    exact ⟨rfl, l, rfl, hK⟩
end Go.Proofs.Ytndfookgkkefnaa
