/- Walks in company: the reference's count of assignments. -/
import Derived.Test.YtndfookgkkefnaaBS3
namespace Go.Proofs.Ytndfookgkkefnaa
set_option linter.unusedSimpArgs false
set_option linter.unusedVariables false
set_option linter.unusedSectionVars false
open Go Go.Conc Go.RowKit
theorem infoInt' : (Try.prog.info? 3).map (fun i => (i.zero, i.size, i.bytes)) = some (some (.int .i64 0), 1, 8) := by kernel_rfl
def cntS (xs : List (List Bool)) : Nat → List Nat → Int
  | 0, _ => 1
  | d + 1, us => sumI (fun r => if ((xs.getD (xs.length - (d + 1)) []).getD r false && !us.contains r) = true then cntS xs d (us ++ [r]) else 0) xs.length
set_option maxHeartbeats 8000000 in
set_option maxRecDepth 100000 in
theorem l33Count_c (main : Bool) (X : Pha) (xs : List (List Bool)) (hn : xs.length ≤ 5) (hr : ∀ bs ∈ xs, bs.length = xs.length) :
    ∀ (d s : Nat) (us : List Nat) (γ : Gh) (w : World) (v uv : Value), TabI γ w v xs → RowZ γ w uv us → us.length = s → s + d = xs.length → Lies γ w →
      CallsI Try.prog main X 35 #[v, .int .i64 s, uv] γ w fun γ' r w' => Ext γ w γ' w' ∧ Lies γ' w' ∧ r = .int .i64 (cntS xs d us) := by
  obtain ⟨i0, hi, hz0, hz1, hz2⟩ := info_parts infoInt'
  intro d
  induction d with
  | zero =>
    intro s us γ w v uv hT hU hus hs hL
    obtain ⟨b, o, c, rfl, hb, hx⟩ := hT
    obtain rfl : s = xs.length := by omega
    (refine callsI_of Try.func35 (by rfl) rfl ?_; simp only [Try.ntmps35, List.size_toArray, List.length_cons, List.length_nil, Nat.reduceAdd, Nat.reduceSub, Array.replicate_succ, Array.replicate_zero, List.push_toArray, List.append_toArray, List.nil_append, List.cons_append])
    repeat (first | ((first | refine wpI_seq ?_ | refine wpI_block ?_ | refine wpI_skip ?_ | refine wpI_label ?_ | refine wpI_ret ?_ | refine wpI_exit ?_ | refine opI_nil ?_); try simp only [thenI, blkI, if_true, if_false, reduceIte, Nat.reduceEqDiff]) | (refine wpI_region ?_; simp only [List.size_toArray, List.length_cons, List.length_nil, Nat.reduceAdd, Nat.zero_add, List.range, List.range.loop]) | (refine opI_unwanted rfl (by rfl) ?_; try walk_nrm) | (refine opI_k rfl (by rfl) (fun w₁ hR K hK => ?_); skip; go_simp; refine hK _ (fun e he => ?_) ?_; (first | done | ((rw [listed_nil (by simp [go_sem, *])] at he; simp at he))); (try clear hc₁); (clear hK K hR; clear w₁); (try walk_nrm)))
    refine wpI_cond rfl ?_
    simp only [decide_true, if_true, beq_self_eq_true]
    repeat (first | ((first | refine wpI_seq ?_ | refine wpI_block ?_ | refine wpI_skip ?_ | refine wpI_label ?_ | refine wpI_ret ?_ | refine wpI_exit ?_ | refine opI_nil ?_); try simp only [thenI, blkI, if_true, if_false, reduceIte, Nat.reduceEqDiff]) | (refine wpI_region ?_; simp only [List.size_toArray, List.length_cons, List.length_nil, Nat.reduceAdd, Nat.zero_add, List.range, List.range.loop]) | (refine opI_unwanted rfl (by rfl) ?_; try walk_nrm) | (refine opI_k rfl (by rfl) (fun w₁ hR K hK => ?_); skip; go_simp; refine hK _ (fun e he => ?_) ?_; (first | done | ((rw [listed_nil (by simp [go_sem, *])] at he; simp at he))); (try clear hc₁); (clear hK K hR; clear w₁); (try walk_nrm)))
    exact ⟨rfl, _, resultsC_tmp rfl _, Ext.refl _ _, hL, rfl⟩
  | succ d ih =>
    intro s us γ w v uv hT hU hus0 hs hL
    have hus : Hd (us.length = s) := ⟨hus0⟩
    clear hus0
    have hT0 := hT
    obtain ⟨b, o, c, rfl, hb, hx⟩ := hT
    have hs1 : s < xs.length := by omega
    have hne : ((s : Int) == (xs.length : Int)) = false := by simp; omega
    have hsi : (s : Int) < (xs.length : Int) := by omega
    have hs0 : (0 : Int) ≤ (s : Int) := by omega
    obtain ⟨bs, hbs⟩ : ∃ bs, Hd (xs[s]? = some bs) := ⟨_, ⟨List.getElem?_eq_getElem hs1⟩⟩
    have hlb : Hd (bs.length = xs.length) := ⟨hr bs (List.mem_of_getElem? hbs.out)⟩
    obtain ⟨u, hu, hR0⟩ := hx s bs hbs.out
    (refine callsI_of Try.func35 (by rfl) rfl ?_; simp only [Try.ntmps35, List.size_toArray, List.length_cons, List.length_nil, Nat.reduceAdd, Nat.reduceSub, Array.replicate_succ, Array.replicate_zero, List.push_toArray, List.append_toArray, List.nil_append, List.cons_append])
    repeat (first | ((first | refine wpI_seq ?_ | refine wpI_block ?_ | refine wpI_skip ?_ | refine wpI_label ?_ | refine wpI_ret ?_ | refine wpI_exit ?_ | refine opI_nil ?_); try simp only [thenI, blkI, if_true, if_false, reduceIte, Nat.reduceEqDiff]) | (refine wpI_region ?_; simp only [List.size_toArray, List.length_cons, List.length_nil, Nat.reduceAdd, Nat.zero_add, List.range, List.range.loop]) | (refine opI_unwanted rfl (by rfl) ?_; try walk_nrm) | (refine opI_k rfl (by rfl) (fun w₁ hR K hK => ?_); skip; go_simp; refine hK _ (fun e he => ?_) ?_; (first | done | ((rw [listed_nil (by simp [go_sem, *])] at he; simp at he))); (try clear hc₁); (clear hK K hR; clear w₁); (try walk_nrm)))
    refine wpI_cond rfl ?_
    simp only [hne, if_false, Bool.false_eq_true]
    repeat (first | ((first | refine wpI_seq ?_ | refine wpI_block ?_ | refine wpI_skip ?_ | refine wpI_label ?_ | refine wpI_ret ?_ | refine wpI_exit ?_ | refine opI_nil ?_); try simp only [thenI, blkI, if_true, if_false, reduceIte, Nat.reduceEqDiff]) | (refine wpI_region ?_; simp only [List.size_toArray, List.length_cons, List.length_nil, Nat.reduceAdd, Nat.zero_add, List.range, List.range.loop]) | (refine opI_unwanted rfl (by rfl) ?_; try walk_nrm) | (refine opI_k rfl (by rfl) (fun w₁ hR K hK => ?_); skip; go_simp; refine hK _ (fun e he => ?_) ?_; (first | done | ((rw [listed_nil (by simp [go_sem, *])] at he; simp at he))); (try clear hc₁); (clear hK K hR; clear w₁); (try walk_nrm)))
    obtain ⟨fb, hfb⟩ : ∃ f : Nat → Int, Hd (f = fun r => if (bs.getD r false && !us.contains r) = true then cntS xs d (us ++ [r]) else 0) := ⟨_, ⟨rfl⟩⟩
    have hend : Hd (cntS xs (d + 1) us = sumI fb xs.length) := ⟨by
      have e1 : xs.length - (d + 1) = s := by omega
      have e2 : xs.getD s [] = bs := by simp [List.getD, hbs.out]
      simp only [cntS, e1, e2, hfb.out]⟩
    refine wpI_loop (fun m γ' a' w' => Ext γ w γ' w' ∧ Lies γ' w' ∧ ∃ (k : Nat) (acc kz : Int) (u3 u4 u5 u9 u10 u11 u12 u13 u14 u15 u16 u17 u18 u19 u20 u21 u22 u23 u24 u25 u26 u27 u28 u29 u30 u31 u32 u33 u34 u35 u36 u37 u38 u39 u40 u41 u42 u43 u44 : Value), a' = ⟨#[.slice (some ⟨b, o, none⟩) xs.length c, .int .i64 s, uv, u3, u4, u5, .int .i64 0, .int .i64 acc, .int .i64 kz, u9, u10, u11, u12, u13, u14, u15, u16, u17, u18, u19, u20, u21, u22, u23, u24, u25, u26, u27, u28, u29, u30, u31, u32, u33, u34, u35, u36, u37, u38, u39, u40, u41, u42, u43, u44], []⟩ ∧ k ≤ xs.length ∧ m = xs.length - k ∧ acc = sumI fb k ∧ kz = k) xs.length
      ⟨Ext.refl _ _, hL, 0, _, _, _, _, _, _, _, _, _, _, _, _, _, _, _, _, _, _, _, _, _, _, _, _, _, _, _, _, _, _, _, _, _, _, _, _, _, _, _, _, _, rfl, Nat.zero_le _, rfl, rfl, rfl⟩ ?_
    rintro m γ' a' w' ⟨hE, hL', k, acc, kz, u3, u4, u5, u9, u10, u11, u12, u13, u14, u15, u16, u17, u18, u19, u20, u21, u22, u23, u24, u25, u26, u27, u28, u29, u30, u31, u32, u33, u34, u35, u36, u37, u38, u39, u40, u41, u42, u43, u44, rfl, hk, rfl, rfl, rfl⟩
    repeat (first | ((first | refine wpI_seq ?_ | refine wpI_block ?_ | refine wpI_skip ?_ | refine wpI_label ?_ | refine wpI_ret ?_ | refine wpI_exit ?_ | refine opI_nil ?_); try simp only [thenI, blkI, if_true, if_false, reduceIte, Nat.reduceEqDiff]) | (refine wpI_region ?_; simp only [List.size_toArray, List.length_cons, List.length_nil, Nat.reduceAdd, Nat.zero_add, List.range, List.range.loop]) | (refine opI_unwanted rfl (by rfl) ?_; try walk_nrm) | (refine opI_k rfl (by rfl) (fun w₁ hR K hK => ?_); skip; go_simp; refine hK _ (fun e he => ?_) ?_; (first | done | ((rw [listed_nil (by simp [go_sem, *])] at he; simp at he))); (try clear hc₁); (clear hK K hR; clear w₁); (try walk_nrm)))
    by_cases hlt : k < xs.length
    · refine wpI_cond rfl ?_
      simp only [hlt, decide_true, if_true]
      have hb' := hE.F b hb
      have hu' := (cell_of (a := ⟨b, o + s, none⟩) (hE.rl.blk b hb)).trans hu
      obtain ⟨x, hxk⟩ : ∃ x, Hd (bs[k]? = some x) := ⟨_, ⟨List.getElem?_eq_getElem (by have := hlb.out; omega)⟩⟩
      have hR1 := hR0.ext hE
      obtain ⟨p, c', rfl, hrow⟩ := hR1.form
      obtain ⟨b2, o2, rfl, hb2, hc2⟩ := hrow k x hxk.out
      have hk0 : (0 : Int) ≤ (k : Int) := by omega
      have hkl : (k : Int) < (bs.length : Int) := by have := hlb.out; omega
      have e8 : Hd (IntKind.i64.wrap ((k : Int) + 1) = ((k + 1 : Nat) : Int)) := ⟨by rw [IntKind.wrap_i64]; omega⟩
      have e7n : Hd (¬ (bs.getD k false && !us.contains k) = true → sumI fb (k + 1) = sumI fb k) := ⟨fun h => by rw [sumI_succ, show fb k = 0 from by rw [hfb.out]; exact if_neg h, Int.add_zero, sumI_wrap]⟩
      have e7y : Hd ((bs.getD k false && !us.contains k) = true → sumI fb (k + 1) = IntKind.i64.wrap (sumI fb k + cntS xs d (us ++ [k]))) := ⟨fun h => by rw [sumI_succ, show fb k = cntS xs d (us ++ [k]) from by rw [hfb.out]; exact if_pos h]⟩
      have hgd : Hd (bs.getD k false = x) := ⟨by simp [List.getD, hxk.out]⟩
      repeat (first | ((first | refine wpI_seq ?_ | refine wpI_block ?_ | refine wpI_skip ?_ | refine wpI_label ?_ | refine wpI_ret ?_ | refine wpI_exit ?_ | refine opI_nil ?_); try simp only [thenI, blkI, if_true, if_false, reduceIte, Nat.reduceEqDiff]) | (refine wpI_region ?_; simp only [List.size_toArray, List.length_cons, List.length_nil, Nat.reduceAdd, Nat.zero_add, List.range, List.range.loop]) | (refine opI_unwanted rfl (by rfl) ?_; try walk_nrm) | (refine opI_k rfl (by rfl) (fun w₁ hR K hK => ?_); skip; go_simp; refine hK _ (fun e he => ?_) ?_; (first | done | ((rw [listed_nil (by simp [go_sem, *])] at he; simp at he))); (try clear hc₁); (clear hK K hR; clear w₁); (try walk_nrm)))
      (refine opI_k rfl (by rfl) (fun w₁ hR K hK => ?_); have hc₁ := hR.get hb' hu'; go_simp; refine hK _ (fun e he => ?_) ?_; (first | done | ((have hm := mem_listed he; simp [go_sem, *] at hm; subst hm; exact Ev.read hb'))); (try clear hc₁); (clear hK K hR; clear w₁); (try walk_nrm))
      repeat (first | ((first | refine wpI_seq ?_ | refine wpI_block ?_ | refine wpI_skip ?_ | refine wpI_label ?_ | refine wpI_ret ?_ | refine wpI_exit ?_ | refine opI_nil ?_); try simp only [thenI, blkI, if_true, if_false, reduceIte, Nat.reduceEqDiff]) | (refine wpI_region ?_; simp only [List.size_toArray, List.length_cons, List.length_nil, Nat.reduceAdd, Nat.zero_add, List.range, List.range.loop]) | (refine opI_unwanted rfl (by rfl) ?_; try walk_nrm) | (refine opI_k rfl (by rfl) (fun w₁ hR K hK => ?_); skip; go_simp; refine hK _ (fun e he => ?_) ?_; (first | done | ((rw [listed_nil (by simp [go_sem, *])] at he; simp at he))); (try clear hc₁); (clear hK K hR; clear w₁); (try walk_nrm)))
      (refine opI_k rfl (by rfl) (fun w₁ hR K hK => ?_); have hc₁ := hR.get hb2 hc2; go_simp; refine hK _ (fun e he => ?_) ?_; (first | done | ((have hm := mem_listed he; simp [go_sem, *] at hm; subst hm; exact Ev.read hb2))); (try clear hc₁); (clear hK K hR; clear w₁); (try walk_nrm))
      repeat (first | ((first | refine wpI_seq ?_ | refine wpI_block ?_ | refine wpI_skip ?_ | refine wpI_label ?_ | refine wpI_ret ?_ | refine wpI_exit ?_ | refine opI_nil ?_); try simp only [thenI, blkI, if_true, if_false, reduceIte, Nat.reduceEqDiff]) | (refine wpI_region ?_; simp only [List.size_toArray, List.length_cons, List.length_nil, Nat.reduceAdd, Nat.zero_add, List.range, List.range.loop]) | (refine opI_unwanted rfl (by rfl) ?_; try walk_nrm) | (refine opI_k rfl (by rfl) (fun w₁ hR K hK => ?_); skip; go_simp; refine hK _ (fun e he => ?_) ?_; (first | done | ((rw [listed_nil (by simp [go_sem, *])] at he; simp at he))); (try clear hc₁); (clear hK K hR; clear w₁); (try walk_nrm)))
      cases x with
      | false =>
        have e7 : Hd (sumI fb (k + 1) = sumI fb k) := ⟨e7n.out (by rw [hgd.out]; simp)⟩
        clear e7n e7y hgd
        repeat (first | ((first | refine wpI_seq ?_ | refine wpI_block ?_ | refine wpI_skip ?_ | refine wpI_label ?_ | refine wpI_ret ?_ | refine wpI_exit ?_ | refine opI_nil ?_); try simp only [thenI, blkI, if_true, if_false, reduceIte, Nat.reduceEqDiff]) | (refine wpI_region ?_; simp only [List.size_toArray, List.length_cons, List.length_nil, Nat.reduceAdd, Nat.zero_add, List.range, List.range.loop]) | (refine opI_unwanted rfl (by rfl) ?_; try walk_nrm) | (refine opI_k rfl (by rfl) (fun w₁ hR K hK => ?_); skip; go_simp; refine hK _ (fun e he => ?_) ?_; (first | done | ((rw [listed_nil (by simp [go_sem, *])] at he; simp at he))); (try clear hc₁); (clear hK K hR; clear w₁); (try walk_nrm)))
        (refine wpI_cond (t := false) rfl ?_; simp only [if_true, if_false, Bool.false_eq_true, reduceIte])
        repeat (first | ((first | refine wpI_seq ?_ | refine wpI_block ?_ | refine wpI_skip ?_ | refine wpI_label ?_ | refine wpI_ret ?_ | refine wpI_exit ?_ | refine opI_nil ?_); try simp only [thenI, blkI, if_true, if_false, reduceIte, Nat.reduceEqDiff]) | (refine wpI_region ?_; simp only [List.size_toArray, List.length_cons, List.length_nil, Nat.reduceAdd, Nat.zero_add, List.range, List.range.loop]) | (refine opI_unwanted rfl (by rfl) ?_; try walk_nrm) | (refine opI_k rfl (by rfl) (fun w₁ hR K hK => ?_); skip; go_simp; refine hK _ (fun e he => ?_) ?_; (first | done | ((rw [listed_nil (by simp [go_sem, *])] at he; simp at he))); (try clear hc₁); (clear hK K hR; clear w₁); (try walk_nrm)))
        exact ⟨xs.length - (k + 1), by omega, hE, hL', k + 1, _, _, _, _, _, _, _, _, _, _, _, _, _, _, _, _, _, _, _, _, _, _, _, _, _, _, _, _, _, _, _, _, _, _, _, _, _, _, _, _, _, rfl, by omega, rfl, e7.out.symm, e8.out⟩
      | true =>
        repeat (first | ((first | refine wpI_seq ?_ | refine wpI_block ?_ | refine wpI_skip ?_ | refine wpI_label ?_ | refine wpI_ret ?_ | refine wpI_exit ?_ | refine opI_nil ?_); try simp only [thenI, blkI, if_true, if_false, reduceIte, Nat.reduceEqDiff]) | (refine wpI_region ?_; simp only [List.size_toArray, List.length_cons, List.length_nil, Nat.reduceAdd, Nat.zero_add, List.range, List.range.loop]) | (refine opI_unwanted rfl (by rfl) ?_; try walk_nrm) | (refine opI_k rfl (by rfl) (fun w₁ hR K hK => ?_); skip; go_simp; refine hK _ (fun e he => ?_) ?_; (first | done | ((rw [listed_nil (by simp [go_sem, *])] at he; simp at he))); (try clear hc₁); (clear hK K hR; clear w₁); (try walk_nrm)))
        have hU' := hU.ext hE
        (refine opI_call (Post := fun γ'' r w'' => γ'' = _ ∧ w'' = _ ∧ r = .bool (us.contains k)) rfl (by rfl) rfl (by have h := (l1Has_c main X γ' w' uv us k hU' (by have := hus.out; omega)); walk_nrm; exact h) ?_; intro γx ux wx hx; obtain ⟨hx1, hx2, rfl⟩ := hx; rw [hx1, hx2]; clear hx1 hx2; clear wx; clear γx; walk_nrm)
        cases hck : us.contains k with
        | true =>
          have hck' : Hd (us.contains k = true) := ⟨hck⟩
          clear hck
          have e7 : Hd (sumI fb (k + 1) = sumI fb k) := ⟨e7n.out (by rw [hgd.out, hck'.out]; simp)⟩
          clear e7n e7y hgd
          repeat (first | ((first | refine wpI_seq ?_ | refine wpI_block ?_ | refine wpI_skip ?_ | refine wpI_label ?_ | refine wpI_ret ?_ | refine wpI_exit ?_ | refine opI_nil ?_); try simp only [thenI, blkI, if_true, if_false, reduceIte, Nat.reduceEqDiff]) | (refine wpI_region ?_; simp only [List.size_toArray, List.length_cons, List.length_nil, Nat.reduceAdd, Nat.zero_add, List.range, List.range.loop]) | (refine opI_unwanted rfl (by rfl) ?_; try walk_nrm) | (refine opI_k rfl (by rfl) (fun w₁ hR K hK => ?_); skip; go_simp; refine hK _ (fun e he => ?_) ?_; (first | done | ((rw [listed_nil (by simp [go_sem, *])] at he; simp at he))); (try clear hc₁); (clear hK K hR; clear w₁); (try walk_nrm)))
          (refine wpI_cond (t := false) rfl ?_; simp only [if_true, if_false, Bool.false_eq_true, reduceIte])
          repeat (first | ((first | refine wpI_seq ?_ | refine wpI_block ?_ | refine wpI_skip ?_ | refine wpI_label ?_ | refine wpI_ret ?_ | refine wpI_exit ?_ | refine opI_nil ?_); try simp only [thenI, blkI, if_true, if_false, reduceIte, Nat.reduceEqDiff]) | (refine wpI_region ?_; simp only [List.size_toArray, List.length_cons, List.length_nil, Nat.reduceAdd, Nat.zero_add, List.range, List.range.loop]) | (refine opI_unwanted rfl (by rfl) ?_; try walk_nrm) | (refine opI_k rfl (by rfl) (fun w₁ hR K hK => ?_); skip; go_simp; refine hK _ (fun e he => ?_) ?_; (first | done | ((rw [listed_nil (by simp [go_sem, *])] at he; simp at he))); (try clear hc₁); (clear hK K hR; clear w₁); (try walk_nrm)))
          exact ⟨xs.length - (k + 1), by omega, hE, hL', k + 1, _, _, _, _, _, _, _, _, _, _, _, _, _, _, _, _, _, _, _, _, _, _, _, _, _, _, _, _, _, _, _, _, _, _, _, _, _, _, _, _, _, rfl, by omega, rfl, e7.out.symm, e8.out⟩
        | false =>
          have e7 : Hd (sumI fb (k + 1) = IntKind.i64.wrap (sumI fb k + cntS xs d (us ++ [k]))) := ⟨e7y.out (by rw [hgd.out, hck]; rfl)⟩
          clear e7n e7y hgd hck hrow hc2
          repeat (first | ((first | refine wpI_seq ?_ | refine wpI_block ?_ | refine wpI_skip ?_ | refine wpI_label ?_ | refine wpI_ret ?_ | refine wpI_exit ?_ | refine opI_nil ?_); try simp only [thenI, blkI, if_true, if_false, reduceIte, Nat.reduceEqDiff]) | (refine wpI_region ?_; simp only [List.size_toArray, List.length_cons, List.length_nil, Nat.reduceAdd, Nat.zero_add, List.range, List.range.loop]) | (refine opI_unwanted rfl (by rfl) ?_; try walk_nrm) | (refine opI_k rfl (by rfl) (fun w₁ hR K hK => ?_); skip; go_simp; refine hK _ (fun e he => ?_) ?_; (first | done | ((rw [listed_nil (by simp [go_sem, *])] at he; simp at he))); (try clear hc₁); (clear hK K hR; clear w₁); (try walk_nrm)))
          (refine wpI_cond (t := true) rfl ?_; simp only [if_true, if_false, Bool.false_eq_true, reduceIte])
          repeat (first | ((first | refine wpI_seq ?_ | refine wpI_block ?_ | refine wpI_skip ?_ | refine wpI_label ?_ | refine wpI_ret ?_ | refine wpI_exit ?_ | refine opI_nil ?_); try simp only [thenI, blkI, if_true, if_false, reduceIte, Nat.reduceEqDiff]) | (refine wpI_region ?_; simp only [List.size_toArray, List.length_cons, List.length_nil, Nat.reduceAdd, Nat.zero_add, List.range, List.range.loop]) | (refine opI_unwanted rfl (by rfl) ?_; try walk_nrm) | (refine opI_k rfl (by rfl) (fun w₁ hR K hK => ?_); skip; go_simp; refine hK _ (fun e he => ?_) ?_; (first | done | ((rw [listed_nil (by simp [go_sem, *])] at he; simp at he))); (try clear hc₁); (clear hK K hR; clear w₁); (try walk_nrm)))
          (refine opI_new (v := fun n => .slice (some ⟨n, 0, none⟩) 0 0) (ob := .cells #[] 3) rfl (by rfl) (fun w₁ hR => ⟨run_eq_of (fun K hK => (by go_simp; exact hK)), fun e he => (by exfalso; have hm := mem_listed he; simp [go_sem, *] at hm)⟩) fun w₁ hR => ?_)
          have hA := AccV.start hL' hR 3
          clear hR
          generalize Value.slice (some ⟨w₁.heap.size, 0, none⟩) 0 0 = vo at hA ⊢
          generalize γ'.new w₁.heap.size = γ2 at hA ⊢
          generalize w₁.alloc (.cells #[] 3) = w2 at hA ⊢
          clear w₁
          obtain ⟨ub, uo, uc, rfl, hub, huc⟩ := hU'.ext hA.ext
          have hws : IntKind.i64.wrap ((s : Int) + 1) = (s : Int) + 1 := by rw [IntKind.wrap_i64]; omega
          try walk_nrm
          repeat (first | ((first | refine wpI_seq ?_ | refine wpI_block ?_ | refine wpI_skip ?_ | refine wpI_label ?_ | refine wpI_ret ?_ | refine wpI_exit ?_ | refine opI_nil ?_); try simp only [thenI, blkI, if_true, if_false, reduceIte, Nat.reduceEqDiff]) | (refine wpI_region ?_; simp only [List.size_toArray, List.length_cons, List.length_nil, Nat.reduceAdd, Nat.zero_add, List.range, List.range.loop]) | (refine opI_unwanted rfl (by rfl) ?_; try walk_nrm) | (refine opI_k rfl (by rfl) (fun w₁ hR K hK => ?_); skip; go_simp; refine hK _ (fun e he => ?_) ?_; (first | done | ((rw [listed_nil (by simp [go_sem, *])] at he; simp at he))); (try clear hc₁); (clear hK K hR; clear w₁); (try walk_nrm)))
          refine opI_accV hA hL' rfl (by rfl) (.tmp 36) (.tmp 37) 30 rfl (by kernel_rfl) i0 (.int .i64 0) 8 hi hz0 hz1 hz2 rfl rfl ⟨ub, uo, none⟩ us.length uc rfl hub (us.map fun u : Nat => Value.int .i64 (u : Int)) (by simp) (fun j u hj => ?_) (fun u hu => ?_) (by have := hus.out; simp; omega) (by decide) ?_
          · rw [List.getElem?_map] at hj
            obtain ⟨y, hy, rfl⟩ := Option.map_eq_some_iff.1 hj
            rw [Addr.add_lit]
            exact huc j y hy
          · obtain ⟨y, _, rfl⟩ := List.mem_map.1 hu
            rfl
          intro γ3 vo3 w3 hA3 hx3
          clear hx3 hub huc hA
          clear w2
          clear γ2
          rw [List.nil_append] at hA3
          try walk_nrm
          repeat (first | ((first | refine wpI_seq ?_ | refine wpI_block ?_ | refine wpI_skip ?_ | refine wpI_label ?_ | refine wpI_ret ?_ | refine wpI_exit ?_ | refine opI_nil ?_); try simp only [thenI, blkI, if_true, if_false, reduceIte, Nat.reduceEqDiff]) | (refine wpI_region ?_; simp only [List.size_toArray, List.length_cons, List.length_nil, Nat.reduceAdd, Nat.zero_add, List.range, List.range.loop]) | (refine opI_unwanted rfl (by rfl) ?_; try walk_nrm) | (refine opI_k rfl (by rfl) (fun w₁ hR K hK => ?_); skip; go_simp; refine hK _ (fun e he => ?_) ?_; (first | done | ((rw [listed_nil (by simp [go_sem, *])] at he; simp at he))); (try clear hc₁); (clear hK K hR; clear w₁); (try walk_nrm)))
          (refine opI_new (v := fun n => .slice (some ⟨n, 0, none⟩) 1 1) (ob := .cells #[.int .i64 k] 3) rfl (by rfl) (fun w₁ hR => ⟨run_eq_of (fun K hK => (by go_simp; exact hK)), fun e he => (by exfalso; have hm := mem_listed he; simp [go_sem, *] at hm)⟩) fun w₁ hR => ?_)
          have hE4 := Ext.new' (w₁ := w₁) hA3.lies hR (.cells #[.int .i64 k] 3)
          have hA4 := hA3.mono hE4 (Lies.new (hA3.lies.rely hR) _)
          have hc4 : (w₁.alloc (.cells #[.int .i64 k] 3)).cell? ⟨w₁.heap.size, 0, none⟩ = some (.int .i64 k) := by
            unfold World.cell?
            rw [alloc_new]
            rfl
          have hF4 : (γ3.new w₁.heap.size).F w₁.heap.size := .inr rfl
          clear hE4 hR hA3
          generalize w₁.alloc (.cells #[.int .i64 k] 3) = w4 at hA4 hc4 ⊢
          generalize γ3.new w₁.heap.size = γ4 at hA4 hF4 ⊢
          generalize w₁.heap.size = N4 at hc4 hF4 ⊢
          clear w₁
          try walk_nrm
          repeat (first | ((first | refine wpI_seq ?_ | refine wpI_block ?_ | refine wpI_skip ?_ | refine wpI_label ?_ | refine wpI_ret ?_ | refine wpI_exit ?_ | refine opI_nil ?_); try simp only [thenI, blkI, if_true, if_false, reduceIte, Nat.reduceEqDiff]) | (refine wpI_region ?_; simp only [List.size_toArray, List.length_cons, List.length_nil, Nat.reduceAdd, Nat.zero_add, List.range, List.range.loop]) | (refine opI_unwanted rfl (by rfl) ?_; try walk_nrm) | (refine opI_k rfl (by rfl) (fun w₁ hR K hK => ?_); skip; go_simp; refine hK _ (fun e he => ?_) ?_; (first | done | ((rw [listed_nil (by simp [go_sem, *])] at he; simp at he))); (try clear hc₁); (clear hK K hR; clear w₁); (try walk_nrm)))
          refine opI_accV hA4 hL' rfl (by rfl) (.tmp 38) (.tmp 40) 30 rfl (by kernel_rfl) i0 (.int .i64 0) 8 hi hz0 hz1 hz2 rfl rfl ⟨N4, 0, none⟩ 1 1 rfl hF4 [.int .i64 k] rfl (fun j u hj => ?_) (fun u hu => ?_) (by have := hus.out; simp; omega) (by decide) ?_
          · cases j with
            | zero => obtain rfl : Value.int .i64 k = u := by simpa using hj
                      rw [Addr.add_lit]; exact hc4
            | succ j => simp at hj
          · obtain rfl : u = Value.int .i64 k := by simpa using hu
            rfl
          intro γ5 vo5 w5 hA5 hx5
          clear hx5 hA4 hc4 hF4
          have hU5 : RowZ γ5 w5 vo5 (us ++ [k]) := by
            obtain ⟨b5, c5, h1, h2, _, _, _, h3⟩ := hA5.cell (.inl (by simp))
            refine ⟨b5, 0, c5, by rw [h1]; simp, h2, fun i u hi => ?_⟩
            rw [Nat.zero_add]
            exact h3 i _ (by rw [show (us.map fun u : Nat => Value.int .i64 (u : Int)) ++ [.int .i64 k] = (us ++ [k]).map fun u : Nat => Value.int .i64 (u : Int) from by simp, List.getElem?_map, hi]; rfl)
          have hE5 := hE.trans hA5.ext
          have hL5 := hA5.lies
          clear hA5
          try walk_nrm
          repeat (first | ((first | refine wpI_seq ?_ | refine wpI_block ?_ | refine wpI_skip ?_ | refine wpI_label ?_ | refine wpI_ret ?_ | refine wpI_exit ?_ | refine opI_nil ?_); try simp only [thenI, blkI, if_true, if_false, reduceIte, Nat.reduceEqDiff]) | (refine wpI_region ?_; simp only [List.size_toArray, List.length_cons, List.length_nil, Nat.reduceAdd, Nat.zero_add, List.range, List.range.loop]) | (refine opI_unwanted rfl (by rfl) ?_; try walk_nrm) | (refine opI_k rfl (by rfl) (fun w₁ hR K hK => ?_); skip; go_simp; refine hK _ (fun e he => ?_) ?_; (first | done | ((rw [listed_nil (by simp [go_sem, *])] at he; simp at he))); (try clear hc₁); (clear hK K hR; clear w₁); (try walk_nrm)))
          refine opI_call rfl (by rfl) rfl (by
            have h := ih (s + 1) (us ++ [k]) γ5 w5 _ vo5 (hT0.ext hE5) hU5 (by have := hus.out; simp; omega) (by omega) hL5
            rw [show ((s + 1 : Nat) : Int) = (s : Int) + 1 from by omega] at h
            walk_nrm
            exact h) ?_
          rintro γ6 u6 w6 ⟨hE6, hL6, rfl⟩
          replace hE6 := hE5.trans hE6
          try walk_nrm
          repeat (first | ((first | refine wpI_seq ?_ | refine wpI_block ?_ | refine wpI_skip ?_ | refine wpI_label ?_ | refine wpI_ret ?_ | refine wpI_exit ?_ | refine opI_nil ?_); try simp only [thenI, blkI, if_true, if_false, reduceIte, Nat.reduceEqDiff]) | (refine wpI_region ?_; simp only [List.size_toArray, List.length_cons, List.length_nil, Nat.reduceAdd, Nat.zero_add, List.range, List.range.loop]) | (refine opI_unwanted rfl (by rfl) ?_; try walk_nrm) | (refine opI_k rfl (by rfl) (fun w₁ hR K hK => ?_); skip; go_simp; refine hK _ (fun e he => ?_) ?_; (first | done | ((rw [listed_nil (by simp [go_sem, *])] at he; simp at he))); (try clear hc₁); (clear hK K hR; clear w₁); (try walk_nrm)))
          exact ⟨xs.length - (k + 1), by omega, hE6, hL6, k + 1, _, _, _, _, _, _, _, _, _, _, _, _, _, _, _, _, _, _, _, _, _, _, _, _, _, _, _, _, _, _, _, _, _, _, _, _, _, _, _, _, _, rfl, by omega, rfl, e7.out.symm, e8.out⟩
    · refine wpI_cond rfl ?_
      simp only [hlt, decide_false, if_false, Bool.false_eq_true]
      obtain rfl : k = xs.length := by omega
      repeat (first | ((first | refine wpI_seq ?_ | refine wpI_block ?_ | refine wpI_skip ?_ | refine wpI_label ?_ | refine wpI_ret ?_ | refine wpI_exit ?_ | refine opI_nil ?_); try simp only [thenI, blkI, if_true, if_false, reduceIte, Nat.reduceEqDiff]) | (refine wpI_region ?_; simp only [List.size_toArray, List.length_cons, List.length_nil, Nat.reduceAdd, Nat.zero_add, List.range, List.range.loop]) | (refine opI_unwanted rfl (by rfl) ?_; try walk_nrm) | (refine opI_k rfl (by rfl) (fun w₁ hR K hK => ?_); skip; go_simp; refine hK _ (fun e he => ?_) ?_; (first | done | ((rw [listed_nil (by simp [go_sem, *])] at he; simp at he))); (try clear hc₁); (clear hK K hR; clear w₁); (try walk_nrm)))
      exact ⟨rfl, _, resultsC_tmp rfl _, hE, hL', by rw [hend.out]; rfl⟩
end Go.Proofs.Ytndfookgkkefnaa
