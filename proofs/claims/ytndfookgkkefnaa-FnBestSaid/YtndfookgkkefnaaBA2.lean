/- Walks in company: AssignChance, both. -/
import Derived.Test.YtndfookgkkefnaaBA1
namespace Go.Proofs.Ytndfookgkkefnaa
set_option linter.unusedSimpArgs false
set_option linter.unusedVariables false
set_option linter.unusedSectionVars false
open Go Go.Conc Go.RowKit
section
variable {P : Program} {main : Bool} {X : Pha} {γ₀ γ₁ : Gh} {w₀ w₁ : World} {fn : FuncId} {ops : Array Oper} {Q : PoI} {md : Region.Mode}
theorem AnyI.base (hE : Ext γ₀ w₀ γ₁ w₁) : ∀ (n : Nat) (l : Array Bool) (γ : Gh) (a : Act) (w : World), AnyI P main X fn md ops Q γ₁ w₁ n l γ a w → AnyI P main X fn md ops Q γ₀ w₀ n l γ a w
  | 0, _, _, _, _, h => h
  | n + 1, l, γ, a, w, h => ⟨h.1, fun i hi => oneI_mono (fun γ' a' w' x => ⟨hE.trans x.1, AnyI.base hE n _ _ _ _ x.2⟩) (h.2 i hi)⟩
end
theorem div_in (n g : Nat) (h : n ≤ 3125) : IntKind.i64.wrap ((n : Int) / (g : Int)) = (n : Int) / (g : Int) := by
  have h1 := Nat.div_le_self n g
  rw [show ((n : Int) / (g : Int)) = ((n / g : Nat) : Int) from rfl]
  generalize n / g = q at h1
  rw [IntKind.wrap_i64]
  omega
def gN (xs : List (List Bool)) (s r : Nat) : Nat := Nat.gcd (cntW xs s r).toNat (cntV xs).toNat
def chance (xs : List (List Bool)) (s r : Int) : Int × Int :=
  if (isP xs s && isP xs r) = true then ((((cntW xs s.toNat r.toNat).toNat / gN xs s.toNat r.toNat : Nat) : Int), (((cntV xs).toNat / gN xs s.toNat r.toNat : Nat) : Int)) else (0, 0)
def chV (z : Int × Int) : Value := .tuple #[.int .i64 z.1, .int .i64 z.2]
set_option maxHeartbeats 8000000 in
set_option maxRecDepth 100000 in
theorem implChance_c (γ : Gh) (w : World) (v : Value) (xs : List (List Bool)) (s q : Int) (hT : TabV γ w v xs) (hn : xs.length < 4611686018427387904) (hL : Lies γ w) (hp : γ.p = .no) (hCs : ∀ a, ¬ γ.Cs a) :
    CallsI Try.prog true XB 13 #[v, .int .i64 s, .int .i64 q] γ w fun γ' u w' => Ext γ w γ' w' ∧ Lies γ' w' ∧ u = chV (chance xs s q) := by
  (refine callsI_of Try.func13 (by rfl) rfl ?_; simp only [Try.ntmps13, List.size_toArray, List.length_cons, List.length_nil, Nat.reduceAdd, Nat.reduceSub, Array.replicate_succ, Array.replicate_zero, List.push_toArray, List.append_toArray, List.nil_append, List.cons_append])
  repeat (first | ((first | refine wpI_seq ?_ | refine wpI_block ?_ | refine wpI_skip ?_ | refine wpI_label ?_ | refine wpI_ret ?_ | refine wpI_exit ?_ | refine opI_nil ?_); try simp only [thenI, blkI, if_true, if_false, reduceIte, Nat.reduceEqDiff]) | (refine wpI_region ?_; simp only [List.size_toArray, List.length_cons, List.length_nil, Nat.reduceAdd, Nat.zero_add, List.range, List.range.loop]) | (refine opI_unwanted rfl (by rfl) ?_; try walk_nrm) | (refine opI_k rfl (by rfl) (fun w₁ hR K hK => ?_); skip; go_simp; refine hK _ (fun e he => ?_) ?_; (first | done | ((rw [listed_nil (by simp [go_sem, *])] at he; simp at he))); (try clear hc₁); (clear hK K hR; clear w₁); (try walk_nrm)))
  (refine opI_call (Post := fun γ'' r w'' => γ'' = _ ∧ w'' = _ ∧ r = .bool (isP xs s)) rfl (by rfl) rfl (by have h := (isPlayer_c true XB γ w v xs s hT hn); walk_nrm; exact h) ?_; intro γx ux wx hx; obtain ⟨hx1, hx2, rfl⟩ := hx; rw [hx1, hx2]; clear hx1 hx2; clear wx; clear γx; walk_nrm)
  cases hv : isP xs s with
  | false =>
    have hc : Hd (chance xs s q = (0, 0)) := ⟨by rw [chance, hv]; rfl⟩
    repeat (first | ((first | refine wpI_seq ?_ | refine wpI_block ?_ | refine wpI_skip ?_ | refine wpI_label ?_ | refine wpI_ret ?_ | refine wpI_exit ?_ | refine opI_nil ?_); try simp only [thenI, blkI, if_true, if_false, reduceIte, Nat.reduceEqDiff]) | (refine wpI_region ?_; simp only [List.size_toArray, List.length_cons, List.length_nil, Nat.reduceAdd, Nat.zero_add, List.range, List.range.loop]) | (refine opI_unwanted rfl (by rfl) ?_; try walk_nrm) | (refine opI_k rfl (by rfl) (fun w₁ hR K hK => ?_); skip; go_simp; refine hK _ (fun e he => ?_) ?_; (first | done | ((rw [listed_nil (by simp [go_sem, *])] at he; simp at he))); (try clear hc₁); (clear hK K hR; clear w₁); (try walk_nrm)))
    (refine wpI_cond (t := true) rfl ?_; simp only [if_true, if_false, Bool.false_eq_true, reduceIte])
    repeat (first | ((first | refine wpI_seq ?_ | refine wpI_block ?_ | refine wpI_skip ?_ | refine wpI_label ?_ | refine wpI_ret ?_ | refine wpI_exit ?_ | refine opI_nil ?_); try simp only [thenI, blkI, if_true, if_false, reduceIte, Nat.reduceEqDiff]) | (refine wpI_region ?_; simp only [List.size_toArray, List.length_cons, List.length_nil, Nat.reduceAdd, Nat.zero_add, List.range, List.range.loop]) | (refine opI_unwanted rfl (by rfl) ?_; try walk_nrm) | (refine opI_k rfl (by rfl) (fun w₁ hR K hK => ?_); skip; go_simp; refine hK _ (fun e he => ?_) ?_; (first | done | ((rw [listed_nil (by simp [go_sem, *])] at he; simp at he))); (try clear hc₁); (clear hK K hR; clear w₁); (try walk_nrm)))
    refine ⟨rfl, _, resultsC_tmp2 rfl _, ?_⟩
    exact ⟨Ext.refl _ _, hL, by rw [hc.out]; rfl⟩
  | true =>
    repeat (first | ((first | refine wpI_seq ?_ | refine wpI_block ?_ | refine wpI_skip ?_ | refine wpI_label ?_ | refine wpI_ret ?_ | refine wpI_exit ?_ | refine opI_nil ?_); try simp only [thenI, blkI, if_true, if_false, reduceIte, Nat.reduceEqDiff]) | (refine wpI_region ?_; simp only [List.size_toArray, List.length_cons, List.length_nil, Nat.reduceAdd, Nat.zero_add, List.range, List.range.loop]) | (refine opI_unwanted rfl (by rfl) ?_; try walk_nrm) | (refine opI_k rfl (by rfl) (fun w₁ hR K hK => ?_); skip; go_simp; refine hK _ (fun e he => ?_) ?_; (first | done | ((rw [listed_nil (by simp [go_sem, *])] at he; simp at he))); (try clear hc₁); (clear hK K hR; clear w₁); (try walk_nrm)))
    (refine opI_call (Post := fun γ'' r w'' => γ'' = _ ∧ w'' = _ ∧ r = .bool (isP xs q)) rfl (by rfl) rfl (by have h := (isPlayer_c true XB γ w v xs q hT hn); walk_nrm; exact h) ?_; intro γx ux wx hx; obtain ⟨hx1, hx2, rfl⟩ := hx; rw [hx1, hx2]; clear hx1 hx2; clear wx; clear γx; walk_nrm)
    cases hv' : isP xs q with
    | false =>
      have hc : Hd (chance xs s q = (0, 0)) := ⟨by rw [chance, hv, hv']; rfl⟩
      repeat (first | ((first | refine wpI_seq ?_ | refine wpI_block ?_ | refine wpI_skip ?_ | refine wpI_label ?_ | refine wpI_ret ?_ | refine wpI_exit ?_ | refine opI_nil ?_); try simp only [thenI, blkI, if_true, if_false, reduceIte, Nat.reduceEqDiff]) | (refine wpI_region ?_; simp only [List.size_toArray, List.length_cons, List.length_nil, Nat.reduceAdd, Nat.zero_add, List.range, List.range.loop]) | (refine opI_unwanted rfl (by rfl) ?_; try walk_nrm) | (refine opI_k rfl (by rfl) (fun w₁ hR K hK => ?_); skip; go_simp; refine hK _ (fun e he => ?_) ?_; (first | done | ((rw [listed_nil (by simp [go_sem, *])] at he; simp at he))); (try clear hc₁); (clear hK K hR; clear w₁); (try walk_nrm)))
      (refine wpI_cond (t := true) rfl ?_; simp only [if_true, if_false, Bool.false_eq_true, reduceIte])
      repeat (first | ((first | refine wpI_seq ?_ | refine wpI_block ?_ | refine wpI_skip ?_ | refine wpI_label ?_ | refine wpI_ret ?_ | refine wpI_exit ?_ | refine opI_nil ?_); try simp only [thenI, blkI, if_true, if_false, reduceIte, Nat.reduceEqDiff]) | (refine wpI_region ?_; simp only [List.size_toArray, List.length_cons, List.length_nil, Nat.reduceAdd, Nat.zero_add, List.range, List.range.loop]) | (refine opI_unwanted rfl (by rfl) ?_; try walk_nrm) | (refine opI_k rfl (by rfl) (fun w₁ hR K hK => ?_); skip; go_simp; refine hK _ (fun e he => ?_) ?_; (first | done | ((rw [listed_nil (by simp [go_sem, *])] at he; simp at he))); (try clear hc₁); (clear hK K hR; clear w₁); (try walk_nrm)))
      refine ⟨rfl, _, resultsC_tmp2 rfl _, ?_⟩
      exact ⟨Ext.refl _ _, hL, by rw [hc.out]; rfl⟩
    | true =>
      obtain ⟨hv1, hp0, hpl, hpe⟩ := isP_props hv
      obtain ⟨_, hq0, hql, hqe⟩ := isP_props hv'
      obtain ⟨h0, h5, hr⟩ := validB_props hv1
      obtain ⟨s', rfl⟩ : ∃ s' : Nat, s = s' := ⟨s.toNat, hpe.symm⟩
      obtain ⟨r', rfl⟩ : ∃ r' : Nat, q = r' := ⟨q.toNat, hqe.symm⟩
      rw [Int.toNat_natCast] at hpl hql
      have hc0 : chance xs s' r' = ((((cntW xs s' r').toNat / gN xs s' r' : Nat) : Int), (((cntV xs).toNat / gN xs s' r' : Nat) : Int)) := by rw [chance, hv, hv']; rfl
      have hcp : 0 < cntP xs := by
        simp only [isP, Bool.and_eq_true, decide_eq_true_eq] at hv
        exact hv.1
      have hW := cntW_bd h5 s' r'
      have hV : cntV xs ≤ 3125 := by
        rw [cntV, hv1]
        exact (cntS_bd' h5 []).2
      obtain ⟨n, hn1⟩ : ∃ n : Nat, Hd ((n : Int) = perR xs s' r') := ⟨(cntW xs s' r').toNat, ⟨by rw [perR_eq h5 hr]; omega⟩⟩
      obtain ⟨A, hA1⟩ : ∃ A : Nat, Hd ((A : Int) = cntP xs) := ⟨(cntP xs).toNat, ⟨by omega⟩⟩
      have hn2 : n ≤ 3125 := by have := hn1.out; rw [perR_eq h5 hr] at this; omega
      have hA2 : A ≤ 3125 := by have := hA1.out; rw [cntV_eq] at this; omega
      have hA3 : 0 < A := by have := hA1.out; omega
      obtain ⟨g, hg⟩ : ∃ g : Nat, Hd (g = Nat.gcd n A) := ⟨_, ⟨rfl⟩⟩
      have hg1 : 1 ≤ g := by rw [hg.out]; exact Nat.gcd_pos_of_pos_right _ hA3
      have hc : Hd (chance xs s' r' = (((n / g : Nat) : Int), ((A / g : Nat) : Int))) := ⟨by
        have e1 : (cntW xs s' r').toNat = n := by have := hn1.out; rw [perR_eq h5 hr] at this; omega
        have e2 : (cntV xs).toNat = A := by have := hA1.out; rw [cntV_eq] at this; omega
        rw [hc0, gN, e1, e2, hg.out]⟩
      have hT' := hT.tab h0
      have hql' : (r' : Int) < (xs.length : Int) := by omega
      have hr0 : (0 : Int) ≤ (r' : Int) := by omega
      clear hc0 hW hV hcp hv hv' hv1 hpe hqe
      have hr' := Hd.mk hr
      have h5' := Hd.mk h5
      clear hr h5
      repeat (first | ((first | refine wpI_seq ?_ | refine wpI_block ?_ | refine wpI_skip ?_ | refine wpI_label ?_ | refine wpI_ret ?_ | refine wpI_exit ?_ | refine opI_nil ?_); try simp only [thenI, blkI, if_true, if_false, reduceIte, Nat.reduceEqDiff]) | (refine wpI_region ?_; simp only [List.size_toArray, List.length_cons, List.length_nil, Nat.reduceAdd, Nat.zero_add, List.range, List.range.loop]) | (refine opI_unwanted rfl (by rfl) ?_; try walk_nrm) | (refine opI_k rfl (by rfl) (fun w₁ hR K hK => ?_); skip; go_simp; refine hK _ (fun e he => ?_) ?_; (first | done | ((rw [listed_nil (by simp [go_sem, *])] at he; simp at he))); (try clear hc₁); (clear hK K hR; clear w₁); (try walk_nrm)))
      (refine wpI_cond (t := false) rfl ?_; simp only [if_true, if_false, Bool.false_eq_true, reduceIte])
      repeat (first | ((first | refine wpI_seq ?_ | refine wpI_block ?_ | refine wpI_skip ?_ | refine wpI_label ?_ | refine wpI_ret ?_ | refine wpI_exit ?_ | refine opI_nil ?_); try simp only [thenI, blkI, if_true, if_false, reduceIte, Nat.reduceEqDiff]) | (refine wpI_region ?_; simp only [List.size_toArray, List.length_cons, List.length_nil, Nat.reduceAdd, Nat.zero_add, List.range, List.range.loop]) | (refine opI_unwanted rfl (by rfl) ?_; try walk_nrm) | (refine opI_k rfl (by rfl) (fun w₁ hR K hK => ?_); skip; go_simp; refine hK _ (fun e he => ?_) ?_; (first | done | ((rw [listed_nil (by simp [go_sem, *])] at he; simp at he))); (try clear hc₁); (clear hK K hR; clear w₁); (try walk_nrm)))
      refine wpI_draw (γ₀ := γ) (w₀ := w) (by kernel_rfl) relyI_then ?_
      (refine anyI_take (by first | exact relyI_then | exact fun γ a w w₁ ⟨m, hm, hE, rest⟩ r => ⟨m, hm, hE.rely r, rest⟩) (i := 0) (v := v) rfl (by kernel_rfl) (by kernel_rfl) (by kernel_rfl) (.inl ⟨by rfl, fun γ' w' hE => ?_⟩) (Ext.refl _ _) ?_; (skip; refine ⟨run_eq_of fun K hK => (by go_simp; exact hK), fun e he => ?_⟩; (rw [listed_nil (by simp [go_sem, ev_neq_bool, *])] at he; simp at he)); try walk_nrm)
      (refine anyI_take (by first | exact relyI_then | exact fun γ a w w₁ ⟨m, hm, hE, rest⟩ r => ⟨m, hm, hE.rely r, rest⟩) (i := 1) (v := .int .i64 s') rfl (by kernel_rfl) (by kernel_rfl) (by kernel_rfl) (.inl ⟨by rfl, fun γ' w' hE => ?_⟩) (Ext.refl _ _) ?_; (skip; refine ⟨run_eq_of fun K hK => (by go_simp; exact hK), fun e he => ?_⟩; (rw [listed_nil (by simp [go_sem, ev_neq_bool, *])] at he; simp at he)); try walk_nrm)
      (refine anyI_take (by first | exact relyI_then | exact fun γ a w w₁ ⟨m, hm, hE, rest⟩ r => ⟨m, hm, hE.rely r, rest⟩) (i := 3) (v := .int .i64 r') rfl (by kernel_rfl) (by kernel_rfl) (by kernel_rfl) (.inl ⟨by rfl, fun γ' w' hE => ?_⟩) (Ext.refl _ _) ?_; (skip; refine ⟨run_eq_of fun K hK => (by go_simp; exact hK), fun e he => ?_⟩; (rw [listed_nil (by simp [go_sem, ev_neq_bool, *])] at he; simp at he)); try walk_nrm)
      (refine anyI_take (by first | exact relyI_then | exact fun γ a w w₁ ⟨m, hm, hE, rest⟩ r => ⟨m, hm, hE.rely r, rest⟩) (i := 6) (v := v) rfl (by kernel_rfl) (by kernel_rfl) (by kernel_rfl) (.inl ⟨by rfl, fun γ' w' hE => ?_⟩) (Ext.refl _ _) ?_; (skip; refine ⟨run_eq_of fun K hK => (by go_simp; exact hK), fun e he => ?_⟩; (rw [listed_nil (by simp [go_sem, ev_neq_bool, *])] at he; simp at he)); try walk_nrm)
      refine anyI_all (rs := [2]) (by kernel_rfl) (by simp) fun i hi => ?_
      obtain rfl : i = 2 := by simpa using hi
      refine oneI_call rfl (by rfl) rfl Try.func37 (by kernel_rfl) rfl fun w₂ hR₂ => ?_
      try walk_nrm
      refine (perReceiver_c γ w₂ v xs s' (hT'.ext (Ext.of_rl hR₂)) h0 h5'.out hr'.out hpl (hL.rely hR₂) hp hCs).mono ?_
      rintro γ3 u3 w3 ⟨hE3, hL3, hCs3, b, c, rfl, hF3, hge3, hcell⟩
      replace hE3 := (Ext.of_rl hR₂).trans hE3
      have hcr := hcell r' hql
      rw [← hn1.out] at hcr
      clear hcell hR₂ hge3
      clear w₂
      refine ⟨hE3, AnyI.base hE3 _ _ _ _ _ ?_⟩
      have hT3 := hT.ext hE3
      try walk_nrm
      (refine anyI_take (by first | exact relyI_then | exact fun γ a w w₁ ⟨m, hm, hE, rest⟩ r => ⟨m, hm, hE.rely r, rest⟩) (i := 4) (v := .pointer (some ⟨b, r', none⟩)) rfl (by kernel_rfl) (by kernel_rfl) (by kernel_rfl) (.inl ⟨by rfl, fun γ' w' hE => ?_⟩) (Ext.refl _ _) ?_; (skip; refine ⟨run_eq_of fun K hK => (by go_simp; exact hK), fun e he => ?_⟩; (rw [listed_nil (by simp [go_sem, ev_neq_bool, *])] at he; simp at he)); try walk_nrm)
      (refine anyI_take (by first | exact relyI_then | exact fun γ a w w₁ ⟨m, hm, hE, rest⟩ r => ⟨m, hm, hE.rely r, rest⟩) (i := 5) (v := .int .i64 n) rfl (by kernel_rfl) (by kernel_rfl) (by kernel_rfl) (.inl ⟨by rfl, fun γ' w' hE => ?_⟩) (Ext.refl _ _) ?_; (have hcc := (cell_of (hE.rl.blk _ hF3)).trans hcr; refine ⟨run_eq_of fun K hK => (by go_simp; exact hK), fun e he => ?_⟩; (have hm := mem_listed he; simp [go_sem, *] at hm; subst hm; exact Ev.read (hE.F _ hF3))); try walk_nrm)
      refine anyI_all (rs := [7]) (by kernel_rfl) (by simp) fun i hi => ?_
      obtain rfl : i = 7 := by simpa using hi
      refine oneI_call rfl (by rfl) rfl Try.func11 (by kernel_rfl) rfl fun w₄ hR₄ => ?_
      try walk_nrm
      refine (implCount_c true XB γ3 w₄ v xs (hT3.ext (Ext.of_rl hR₄)) hn).mono ?_
      rintro γ5 u5 w5 ⟨hγ5, hw5, rfl⟩
      rw [hγ5, hw5]
      clear hγ5 hw5
      clear γ5 w5
      rw [← hA1.out]
      have hE4 := Ext.of_rl hR₄
      refine ⟨hE4, AnyI.base hE4 _ _ _ _ _ ?_⟩
      replace hE4 := hE3.trans hE4
      replace hL3 := hL3.rely hR₄
      clear hcr hR₄
      try walk_nrm
      (refine anyI_take (by first | exact relyI_then | exact fun γ a w w₁ ⟨m, hm, hE, rest⟩ r => ⟨m, hm, hE.rely r, rest⟩) (i := 8) (v := .int .i64 n) rfl (by kernel_rfl) (by kernel_rfl) (by kernel_rfl) (.inl ⟨by rfl, fun γ' w' hE => ?_⟩) (Ext.refl _ _) ?_; (skip; refine ⟨run_eq_of fun K hK => (by go_simp; exact hK), fun e he => ?_⟩; (rw [listed_nil (by simp [go_sem, ev_neq_bool, *])] at he; simp at he)); try walk_nrm)
      (refine anyI_take (by first | exact relyI_then | exact fun γ a w w₁ ⟨m, hm, hE, rest⟩ r => ⟨m, hm, hE.rely r, rest⟩) (i := 9) (v := .int .i64 A) rfl (by kernel_rfl) (by kernel_rfl) (by kernel_rfl) (.inl ⟨by rfl, fun γ' w' hE => ?_⟩) (Ext.refl _ _) ?_; (skip; refine ⟨run_eq_of fun K hK => (by go_simp; exact hK), fun e he => ?_⟩; (rw [listed_nil (by simp [go_sem, ev_neq_bool, *])] at he; simp at he)); try walk_nrm)
      refine anyI_done (by kernel_rfl) ?_ _
      simp only [thenI]
      repeat (first | ((first | refine wpI_seq ?_ | refine wpI_block ?_ | refine wpI_skip ?_ | refine wpI_label ?_ | refine wpI_ret ?_ | refine wpI_exit ?_ | refine opI_nil ?_); try simp only [thenI, blkI, if_true, if_false, reduceIte, Nat.reduceEqDiff]) | (refine wpI_region ?_; simp only [List.size_toArray, List.length_cons, List.length_nil, Nat.reduceAdd, Nat.zero_add, List.range, List.range.loop]) | (refine opI_unwanted rfl (by rfl) ?_; try walk_nrm) | (refine opI_k rfl (by rfl) (fun w₁ hR K hK => ?_); skip; go_simp; refine hK _ (fun e he => ?_) ?_; (first | done | ((rw [listed_nil (by simp [go_sem, *])] at he; simp at he))); (try clear hc₁); (clear hK K hR; clear w₁); (try walk_nrm)))
      refine opI_call rfl (by rfl) rfl (by
        have h := implGcd_c true XB γ3 w₄ n A
        walk_nrm
        exact h) ?_
      rintro γ6 u6 w6 ⟨hγ, hR6, rfl⟩
      rw [hγ]
      clear hγ
      clear γ6
      rw [← hg.out]
      have hL6 := hL3.rely hR6
      have hE6 := hE4.trans (Ext.of_rl hR6)
      have hg0 : ¬ g = 0 := by omega
      have hwn := div_in n g hn2
      have hwA := div_in A g hA2
      try walk_nrm
      repeat (first | ((first | refine wpI_seq ?_ | refine wpI_block ?_ | refine wpI_skip ?_ | refine wpI_label ?_ | refine wpI_ret ?_ | refine wpI_exit ?_ | refine opI_nil ?_); try simp only [thenI, blkI, if_true, if_false, reduceIte, Nat.reduceEqDiff]) | (refine wpI_region ?_; simp only [List.size_toArray, List.length_cons, List.length_nil, Nat.reduceAdd, Nat.zero_add, List.range, List.range.loop]) | (refine opI_unwanted rfl (by rfl) ?_; try walk_nrm) | (refine opI_k rfl (by rfl) (fun w₁ hR K hK => ?_); skip; go_simp; refine hK _ (fun e he => ?_) ?_; (first | done | ((rw [listed_nil (by simp [go_sem, *])] at he; simp at he))); (try clear hc₁); (clear hK K hR; clear w₁); (try walk_nrm)))
      refine wpI_draw (γ₀ := γ3) (w₀ := w6) (by kernel_rfl) relyI_then ?_
      (refine anyI_take (by first | exact relyI_then | exact fun γ a w w₁ ⟨m, hm, hE, rest⟩ r => ⟨m, hm, hE.rely r, rest⟩) (i := 0) (v := .int .i64 n) rfl (by kernel_rfl) (by kernel_rfl) (by kernel_rfl) (.inl ⟨by rfl, fun γ' w' hE => ?_⟩) (Ext.refl _ _) ?_; (skip; refine ⟨run_eq_of fun K hK => (by go_simp; exact hK), fun e he => ?_⟩; (rw [listed_nil (by simp [go_sem, ev_neq_bool, *])] at he; simp at he)); try walk_nrm)
      (refine anyI_take (by first | exact relyI_then | exact fun γ a w w₁ ⟨m, hm, hE, rest⟩ r => ⟨m, hm, hE.rely r, rest⟩) (i := 1) (v := .int .i64 g) rfl (by kernel_rfl) (by kernel_rfl) (by kernel_rfl) (.inl ⟨by rfl, fun γ' w' hE => ?_⟩) (Ext.refl _ _) ?_; (skip; refine ⟨run_eq_of fun K hK => (by go_simp; exact hK), fun e he => ?_⟩; (rw [listed_nil (by simp [go_sem, ev_neq_bool, *])] at he; simp at he)); try walk_nrm)
      (refine anyI_take (by first | exact relyI_then | exact fun γ a w w₁ ⟨m, hm, hE, rest⟩ r => ⟨m, hm, hE.rely r, rest⟩) (i := 2) (v := .int .i64 ((n : Int) / (g : Int))) rfl (by kernel_rfl) (by kernel_rfl) (by kernel_rfl) (.inl ⟨by rfl, fun γ' w' hE => ?_⟩) (Ext.refl _ _) ?_; (skip; refine ⟨run_eq_of fun K hK => (by go_simp; exact hK), fun e he => ?_⟩; (rw [listed_nil (by simp [go_sem, ev_neq_bool, *])] at he; simp at he)); try walk_nrm)
      (refine anyI_take (by first | exact relyI_then | exact fun γ a w w₁ ⟨m, hm, hE, rest⟩ r => ⟨m, hm, hE.rely r, rest⟩) (i := 3) (v := .int .i64 A) rfl (by kernel_rfl) (by kernel_rfl) (by kernel_rfl) (.inl ⟨by rfl, fun γ' w' hE => ?_⟩) (Ext.refl _ _) ?_; (skip; refine ⟨run_eq_of fun K hK => (by go_simp; exact hK), fun e he => ?_⟩; (rw [listed_nil (by simp [go_sem, ev_neq_bool, *])] at he; simp at he)); try walk_nrm)
      (refine anyI_take (by first | exact relyI_then | exact fun γ a w w₁ ⟨m, hm, hE, rest⟩ r => ⟨m, hm, hE.rely r, rest⟩) (i := 4) (v := .int .i64 g) rfl (by kernel_rfl) (by kernel_rfl) (by kernel_rfl) (.inl ⟨by rfl, fun γ' w' hE => ?_⟩) (Ext.refl _ _) ?_; (skip; refine ⟨run_eq_of fun K hK => (by go_simp; exact hK), fun e he => ?_⟩; (rw [listed_nil (by simp [go_sem, ev_neq_bool, *])] at he; simp at he)); try walk_nrm)
      (refine anyI_take (by first | exact relyI_then | exact fun γ a w w₁ ⟨m, hm, hE, rest⟩ r => ⟨m, hm, hE.rely r, rest⟩) (i := 5) (v := .int .i64 ((A : Int) / (g : Int))) rfl (by kernel_rfl) (by kernel_rfl) (by kernel_rfl) (.inl ⟨by rfl, fun γ' w' hE => ?_⟩) (Ext.refl _ _) ?_; (skip; refine ⟨run_eq_of fun K hK => (by go_simp; exact hK), fun e he => ?_⟩; (rw [listed_nil (by simp [go_sem, ev_neq_bool, *])] at he; simp at he)); try walk_nrm)
      (refine anyI_take (by first | exact relyI_then | exact fun γ a w w₁ ⟨m, hm, hE, rest⟩ r => ⟨m, hm, hE.rely r, rest⟩) (i := 6) (v := .int .i64 ((n : Int) / (g : Int))) rfl (by kernel_rfl) (by kernel_rfl) (by kernel_rfl) (.inl ⟨by rfl, fun γ' w' hE => ?_⟩) (Ext.refl _ _) ?_; (skip; refine ⟨run_eq_of fun K hK => (by go_simp; exact hK), fun e he => ?_⟩; (rw [listed_nil (by simp [go_sem, ev_neq_bool, *])] at he; simp at he)); try walk_nrm)
      (refine anyI_take (by first | exact relyI_then | exact fun γ a w w₁ ⟨m, hm, hE, rest⟩ r => ⟨m, hm, hE.rely r, rest⟩) (i := 7) (v := .int .i64 ((A : Int) / (g : Int))) rfl (by kernel_rfl) (by kernel_rfl) (by kernel_rfl) (.inl ⟨by rfl, fun γ' w' hE => ?_⟩) (Ext.refl _ _) ?_; (skip; refine ⟨run_eq_of fun K hK => (by go_simp; exact hK), fun e he => ?_⟩; (rw [listed_nil (by simp [go_sem, ev_neq_bool, *])] at he; simp at he)); try walk_nrm)
      refine anyI_done (by kernel_rfl) ?_ _
      simp only [thenI]
      repeat (first | ((first | refine wpI_seq ?_ | refine wpI_block ?_ | refine wpI_skip ?_ | refine wpI_label ?_ | refine wpI_ret ?_ | refine wpI_exit ?_ | refine opI_nil ?_); try simp only [thenI, blkI, if_true, if_false, reduceIte, Nat.reduceEqDiff]) | (refine wpI_region ?_; simp only [List.size_toArray, List.length_cons, List.length_nil, Nat.reduceAdd, Nat.zero_add, List.range, List.range.loop]) | (refine opI_unwanted rfl (by rfl) ?_; try walk_nrm) | (refine opI_k rfl (by rfl) (fun w₁ hR K hK => ?_); skip; go_simp; refine hK _ (fun e he => ?_) ?_; (first | done | ((rw [listed_nil (by simp [go_sem, *])] at he; simp at he))); (try clear hc₁); (clear hK K hR; clear w₁); (try walk_nrm)))
      refine ⟨rfl, _, resultsC_tmp2 rfl _, ?_⟩
      exact ⟨hE6, hL6, by rw [hc.out]; rfl⟩
end Go.Proofs.Ytndfookgkkefnaa
