/- Walks in company: the reference's table that leaves a sender one receiver. -/
import Derived.Test.YtndfookgkkefnaaBS4
namespace Go.Proofs.Ytndfookgkkefnaa
set_option linter.unusedSimpArgs false
set_option linter.unusedVariables false
set_option linter.unusedSectionVars false
open Go Go.Conc Go.RowKit
set_option maxHeartbeats 8000000 in
set_option maxRecDepth 100000 in
theorem l33With_c (main : Bool) (X : Pha) (γ : Gh) (w : World) (v : Value) (xs : List (List Bool)) (s r : Nat) (hT : TabI γ w v xs) (h0 : xs ≠ []) (hn : xs.length ≤ 5) (hr : ∀ bs ∈ xs, bs.length = xs.length) (hs : s < xs.length) (hrr : r < xs.length) (hL : Lies γ w) :
    CallsI Try.prog main X 41 #[v, .int .i64 s, .int .i64 r] γ w fun γ' u w' => Ext γ w γ' w' ∧ Lies γ' w' ∧ TabI γ' w' u (onlyT s r xs) := by
  obtain ⟨i1, hi1, hb0, hb1, hb2⟩ := info_parts infoBool
  obtain ⟨b, o, c, rfl, hb, hx⟩ := id hT
  have hlen0 := List.length_pos_iff.2 h0
  (refine callsI_of Try.func41 (by rfl) rfl ?_; simp only [Try.ntmps41, List.size_toArray, List.length_cons, List.length_nil, Nat.reduceAdd, Nat.reduceSub, Array.replicate_succ, Array.replicate_zero, List.push_toArray, List.append_toArray, List.nil_append, List.cons_append])
  repeat (first | ((first | refine wpI_seq ?_ | refine wpI_block ?_ | refine wpI_skip ?_ | refine wpI_label ?_ | refine wpI_ret ?_ | refine wpI_exit ?_ | refine opI_nil ?_); try simp only [thenI, blkI, if_true, if_false, reduceIte, Nat.reduceEqDiff]) | (refine wpI_region ?_; simp only [List.size_toArray, List.length_cons, List.length_nil, Nat.reduceAdd, Nat.zero_add, List.range, List.range.loop]) | (refine opI_unwanted rfl (by rfl) ?_; try walk_nrm) | (refine opI_k rfl (by rfl) (fun w₁ hR K hK => ?_); skip; go_simp; refine hK _ (fun e he => ?_) ?_; (first | done | ((rw [listed_nil (by simp [go_sem, *])] at he; simp at he))); (try clear hc₁); (clear hK K hR; clear w₁); (try walk_nrm)))
  (refine opI_new (v := fun n => .slice (some ⟨n, 0, none⟩) 0 0) (ob := .cells #[] 28) rfl (by rfl) (fun w₁ hR => ⟨run_eq_of (fun K hK => (by go_simp; exact hK)), fun e he => (by exfalso; have hm := mem_listed he; simp [go_sem, *] at hm)⟩) fun w₁ hR => ?_)
  have hA : AccT γ w (γ.new w₁.heap.size) (w₁.alloc (.cells #[] 28)) (.slice (some ⟨w₁.heap.size, 0, none⟩) 0 0) ((onlyT s r xs).take 0) := by
    refine ⟨Ext.new' hL hR _, Lies.new (hL.rely hR) _, fun b hb => ?_, [], ⟨rfl, .inr ⟨w₁.heap.size, 0, #[], rfl, hR.size, alloc_new _ _, Nat.le_refl _, by simp [maxLen], by simp, rfl⟩⟩, fun i bs hi => by simp at hi⟩
    obtain rfl : w₁.heap.size = b := by simpa [Value.ownBlock] using hb
    exact ⟨.inr rfl, .inr rfl⟩
  generalize Value.slice (some ⟨w₁.heap.size, 0, none⟩) 0 0 = vo at hA ⊢
  generalize γ.new w₁.heap.size = γ1 at hA ⊢
  generalize w₁.alloc (.cells #[] 28) = w1 at hA ⊢
  clear hR w₁
  try walk_nrm
  repeat (first | ((first | refine wpI_seq ?_ | refine wpI_block ?_ | refine wpI_skip ?_ | refine wpI_label ?_ | refine wpI_ret ?_ | refine wpI_exit ?_ | refine opI_nil ?_); try simp only [thenI, blkI, if_true, if_false, reduceIte, Nat.reduceEqDiff]) | (refine wpI_region ?_; simp only [List.size_toArray, List.length_cons, List.length_nil, Nat.reduceAdd, Nat.zero_add, List.range, List.range.loop]) | (refine opI_unwanted rfl (by rfl) ?_; try walk_nrm) | (refine opI_k rfl (by rfl) (fun w₁ hR K hK => ?_); skip; go_simp; refine hK _ (fun e he => ?_) ?_; (first | done | ((rw [listed_nil (by simp [go_sem, *])] at he; simp at he))); (try clear hc₁); (clear hK K hR; clear w₁); (try walk_nrm)))
  refine wpI_loop (fun m γ' a' w' => ∃ (k : Nat) (kz : Int) (vo : Value) (u3 u4 u5 u9 u10 u11 u12 u13 u14 u15 u16 u17 u18 u19 u20 u21 u22 u23 u24 u25 u26 u27 u28 u29 u30 u31 u32 u33 u34 u35 u36 u37 u38 u39 u40 u41 u42 u43 u44 u45 : Value), a' = ⟨#[.slice (some ⟨b, o, none⟩) xs.length c, .int .i64 s, .int .i64 r, u3, u4, u5, .slice none 0 0, vo, .int .i64 kz, u9, u10, u11, u12, u13, u14, u15, u16, u17, u18, u19, u20, u21, u22, u23, u24, u25, u26, u27, u28, u29, u30, u31, u32, u33, u34, u35, u36, u37, u38, u39, u40, u41, u42, u43, u44, u45], []⟩ ∧ k ≤ xs.length ∧ m = xs.length - k ∧ kz = k ∧ AccT γ w γ' w' vo ((onlyT s r xs).take k)) xs.length
    ⟨0, _, _, _, _, _, _, _, _, _, _, _, _, _, _, _, _, _, _, _, _, _, _, _, _, _, _, _, _, _, _, _, _, _, _, _, _, _, _, _, _, _, _, rfl, Nat.zero_le _, rfl, rfl, hA⟩ ?_
  clear hA
  clear vo γ1 w1
  rintro m γ' a' w' ⟨k, kz, vo, u3, u4, u5, u9, u10, u11, u12, u13, u14, u15, u16, u17, u18, u19, u20, u21, u22, u23, u24, u25, u26, u27, u28, u29, u30, u31, u32, u33, u34, u35, u36, u37, u38, u39, u40, u41, u42, u43, u44, u45, rfl, hk, rfl, rfl, hA⟩
  repeat (first | ((first | refine wpI_seq ?_ | refine wpI_block ?_ | refine wpI_skip ?_ | refine wpI_label ?_ | refine wpI_ret ?_ | refine wpI_exit ?_ | refine opI_nil ?_); try simp only [thenI, blkI, if_true, if_false, reduceIte, Nat.reduceEqDiff]) | (refine wpI_region ?_; simp only [List.size_toArray, List.length_cons, List.length_nil, Nat.reduceAdd, Nat.zero_add, List.range, List.range.loop]) | (refine opI_unwanted rfl (by rfl) ?_; try walk_nrm) | (refine opI_k rfl (by rfl) (fun w₁ hR K hK => ?_); skip; go_simp; refine hK _ (fun e he => ?_) ?_; (first | done | ((rw [listed_nil (by simp [go_sem, *])] at he; simp at he))); (try clear hc₁); (clear hK K hR; clear w₁); (try walk_nrm)))
  by_cases hlt : k < xs.length
  · refine wpI_cond rfl ?_
    simp only [hlt, decide_true, if_true]
    obtain ⟨bs, hbs⟩ : ∃ bs, Hd (xs[k]? = some bs) := ⟨_, ⟨List.getElem?_eq_getElem hlt⟩⟩
    obtain ⟨u, hu0, hR0⟩ := hx k bs hbs.out
    have hlb : Hd (bs.length = xs.length) := ⟨hr bs (List.mem_of_getElem? hbs.out)⟩
    have hk0 : (0 : Int) ≤ (k : Int) := by omega
    have hki : (k : Int) < (xs.length : Int) := by omega
    have e8 : Hd (IntKind.i64.wrap ((k : Int) + 1) = ((k + 1 : Nat) : Int)) := ⟨by rw [IntKind.wrap_i64]; omega⟩
    repeat (first | ((first | refine wpI_seq ?_ | refine wpI_block ?_ | refine wpI_skip ?_ | refine wpI_label ?_ | refine wpI_ret ?_ | refine wpI_exit ?_ | refine opI_nil ?_); try simp only [thenI, blkI, if_true, if_false, reduceIte, Nat.reduceEqDiff]) | (refine wpI_region ?_; simp only [List.size_toArray, List.length_cons, List.length_nil, Nat.reduceAdd, Nat.zero_add, List.range, List.range.loop]) | (refine opI_unwanted rfl (by rfl) ?_; try walk_nrm) | (refine opI_k rfl (by rfl) (fun w₁ hR K hK => ?_); skip; go_simp; refine hK _ (fun e he => ?_) ?_; (first | done | ((rw [listed_nil (by simp [go_sem, *])] at he; simp at he))); (try clear hc₁); (clear hK K hR; clear w₁); (try walk_nrm)))
    (refine opI_new (v := fun n => .slice (some ⟨n, 0, none⟩) 0 0) (ob := .cells #[] 4) rfl (by rfl) (fun w₁ hR => ⟨run_eq_of (fun K hK => (by go_simp; exact hK)), fun e he => (by exfalso; have hm := mem_listed he; simp [go_sem, *] at hm)⟩) fun w₁ hR => ?_)
    have hV := AccV.start hA.lies hR 4
    have hbn : w'.heap.size ≤ w₁.heap.size := hR.size
    clear hR
    generalize Value.slice (some ⟨w₁.heap.size, 0, none⟩) 0 0 = vr at hV ⊢
    generalize γ'.new w₁.heap.size = γ2 at hV ⊢
    generalize w₁.alloc (.cells #[] 4) = w2 at hV ⊢
    clear hbn w₁
    have hE2 := hA.ext.trans hV.ext
    have hb' := hE2.F b hb
    have hu := (cell_of (a := ⟨b, o + k, none⟩) (hE2.rl.blk b hb)).trans hu0
    have hR2 := hR0.ext hE2
    rcases hR2 with ⟨_, hnil⟩ | ⟨rb0, ro, rc0, rfl, hrF0, hrx⟩
    · exfalso
      have := hlb.out
      rw [hnil] at this
      simp at this
      omega
    try walk_nrm
    repeat (first | ((first | refine wpI_seq ?_ | refine wpI_block ?_ | refine wpI_skip ?_ | refine wpI_label ?_ | refine wpI_ret ?_ | refine wpI_exit ?_ | refine opI_nil ?_); try simp only [thenI, blkI, if_true, if_false, reduceIte, Nat.reduceEqDiff]) | (refine wpI_region ?_; simp only [List.size_toArray, List.length_cons, List.length_nil, Nat.reduceAdd, Nat.zero_add, List.range, List.range.loop]) | (refine opI_unwanted rfl (by rfl) ?_; try walk_nrm) | (refine opI_k rfl (by rfl) (fun w₁ hR K hK => ?_); skip; go_simp; refine hK _ (fun e he => ?_) ?_; (first | done | ((rw [listed_nil (by simp [go_sem, *])] at he; simp at he))); (try clear hc₁); (clear hK K hR; clear w₁); (try walk_nrm)))
    (refine opI_k rfl (by rfl) (fun w₁ hR K hK => ?_); have hc₁ := hR.get hb' hu; go_simp; refine hK _ (fun e he => ?_) ?_; (first | done | ((have hm := mem_listed he; simp [go_sem, *] at hm; subst hm; exact Ev.read hb'))); (try clear hc₁); (clear hK K hR; clear w₁); (try walk_nrm))
    repeat (first | ((first | refine wpI_seq ?_ | refine wpI_block ?_ | refine wpI_skip ?_ | refine wpI_label ?_ | refine wpI_ret ?_ | refine wpI_exit ?_ | refine opI_nil ?_); try simp only [thenI, blkI, if_true, if_false, reduceIte, Nat.reduceEqDiff]) | (refine wpI_region ?_; simp only [List.size_toArray, List.length_cons, List.length_nil, Nat.reduceAdd, Nat.zero_add, List.range, List.range.loop]) | (refine opI_unwanted rfl (by rfl) ?_; try walk_nrm) | (refine opI_k rfl (by rfl) (fun w₁ hR K hK => ?_); skip; go_simp; refine hK _ (fun e he => ?_) ?_; (first | done | ((rw [listed_nil (by simp [go_sem, *])] at he; simp at he))); (try clear hc₁); (clear hK K hR; clear w₁); (try walk_nrm)))
    refine opI_accV hV hA.lies rfl (by rfl) (.tmp 18) (.tmp 22) 28 rfl (by kernel_rfl) i1 (.bool false) 1 hi1 hb0 hb1 hb2 rfl rfl ⟨rb0, ro, none⟩ bs.length rc0 rfl hrF0 (bs.map .bool) (by simp) (fun j u hj => ?_) (fun u hu => ?_) (by have := hlb.out; simp; omega) (by decide) ?_
    · rw [List.getElem?_map] at hj
      obtain ⟨y, hy, rfl⟩ := Option.map_eq_some_iff.1 hj
      rw [Addr.add_lit]
      exact hrx j y hy
    · obtain ⟨y, _, rfl⟩ := List.mem_map.1 hu
      rfl
    intro γ3 vr3 w3 hV3 hx3
    clear hx3 hV hrF0 hrx hu hb' hE2 hR0 hu0
    clear w2
    clear γ2
    rw [List.nil_append] at hV3
    obtain ⟨rb, rc, hvr, hrF, hrW, hrge, hrz, hrc⟩ := hV3.cell (.inl (by intro e; have h1 := congrArg List.length e; have := hlb.out; simp at h1; rw [h1] at this; simp at this; omega))
    rw [List.length_map] at hvr
    subst hvr
    have hcells : ∀ (i : Nat) (x : Bool), bs[i]? = some x → w3.cell? ⟨rb, i, none⟩ = some (.bool (if i < 0 then onlyV s r k i x else x)) := fun i x hi => by
      rw [if_neg (Nat.not_lt_zero i)]
      exact hrc i (.bool x) (by rw [List.getElem?_map, hi]; rfl)
    have hE := hV3.ext
    have hL3 := hV3.lies
    clear hrc hV3
    try walk_nrm
    repeat (first | ((first | refine wpI_seq ?_ | refine wpI_block ?_ | refine wpI_skip ?_ | refine wpI_label ?_ | refine wpI_ret ?_ | refine wpI_exit ?_ | refine opI_nil ?_); try simp only [thenI, blkI, if_true, if_false, reduceIte, Nat.reduceEqDiff]) | (refine wpI_region ?_; simp only [List.size_toArray, List.length_cons, List.length_nil, Nat.reduceAdd, Nat.zero_add, List.range, List.range.loop]) | (refine opI_unwanted rfl (by rfl) ?_; try walk_nrm) | (refine opI_k rfl (by rfl) (fun w₁ hR K hK => ?_); skip; go_simp; refine hK _ (fun e he => ?_) ?_; (first | done | ((rw [listed_nil (by simp [go_sem, *])] at he; simp at he))); (try clear hc₁); (clear hK K hR; clear w₁); (try walk_nrm)))
    refine wpI_loop (fun m γ4 a4 w4 => γ4 = γ3 ∧ ∃ (κ : Nat) (kz : Int) (u3 u4 u5 u11 u12 u13 u14 u15 u16 u17 u18 u19 u20 u21 u22 u23 u24 u25 u26 u27 u28 u29 u30 u31 u32 u33 u34 u35 u36 u37 u38 u39 u40 u41 u42 u43 u44 u45 : Value), a4 = ⟨#[.slice (some ⟨b, o, none⟩) xs.length c, .int .i64 s, .int .i64 r, u3, u4, u5, .slice none 0 0, vo, .int .i64 k, .slice (some ⟨rb, 0, none⟩) bs.length rc, .int .i64 kz, u11, u12, u13, u14, u15, u16, u17, u18, u19, u20, u21, u22, u23, u24, u25, u26, u27, u28, u29, u30, u31, u32, u33, u34, u35, u36, u37, u38, u39, u40, u41, u42, u43, u44, u45], []⟩ ∧ κ ≤ bs.length ∧ m = bs.length - κ ∧ kz = κ ∧
        Ext γ' w' γ3 w4 ∧ Lies γ3 w4 ∧ (∀ i, w4.frozen? ⟨rb, i, none⟩ = false) ∧ ∀ (i : Nat) (x : Bool), bs[i]? = some x → w4.cell? ⟨rb, i, none⟩ = some (.bool (if i < κ then onlyV s r k i x else x))) bs.length
      ⟨rfl, 0, _, _, _, _, _, _, _, _, _, _, _, _, _, _, _, _, _, _, _, _, _, _, _, _, _, _, _, _, _, _, _, _, _, _, _, _, _, _, _, rfl, Nat.zero_le _, rfl, rfl, hE, hL3, hrz, hcells⟩ ?_
    clear hcells hrz hE hL3
    clear w3
    rintro m γ4 a4 w3 ⟨rfl, κ, kz, u3, u4, u5, u11, u12, u13, u14, u15, u16, u17, u18, u19, u20, u21, u22, u23, u24, u25, u26, u27, u28, u29, u30, u31, u32, u33, u34, u35, u36, u37, u38, u39, u40, u41, u42, u43, u44, u45, rfl, hκ, rfl, rfl, hE, hL3, hz3, hcells⟩
    repeat (first | ((first | refine wpI_seq ?_ | refine wpI_block ?_ | refine wpI_skip ?_ | refine wpI_label ?_ | refine wpI_ret ?_ | refine wpI_exit ?_ | refine opI_nil ?_); try simp only [thenI, blkI, if_true, if_false, reduceIte, Nat.reduceEqDiff]) | (refine wpI_region ?_; simp only [List.size_toArray, List.length_cons, List.length_nil, Nat.reduceAdd, Nat.zero_add, List.range, List.range.loop]) | (refine opI_unwanted rfl (by rfl) ?_; try walk_nrm) | (refine opI_k rfl (by rfl) (fun w₁ hR K hK => ?_); skip; go_simp; refine hK _ (fun e he => ?_) ?_; (first | done | ((rw [listed_nil (by simp [go_sem, *])] at he; simp at he))); (try clear hc₁); (clear hK K hR; clear w₁); (try walk_nrm)))
    by_cases hlt' : κ < bs.length
    · refine wpI_cond rfl ?_
      simp only [hlt', decide_true, if_true]
      have hκ0 : (0 : Int) ≤ (κ : Int) := by omega
      have hκi : (κ : Int) < (bs.length : Int) := by omega
      obtain ⟨x, hxk⟩ : ∃ x, Hd (bs[κ]? = some x) := ⟨_, ⟨List.getElem?_eq_getElem hlt'⟩⟩
      have hcx : w3.cell? ⟨rb, κ, none⟩ = some (.bool x) := by
        have := hcells κ x hxk.out
        rwa [if_neg (Nat.lt_irrefl _)] at this
      have e10 : Hd (IntKind.i64.wrap ((κ : Int) + 1) = ((κ + 1 : Nat) : Int)) := ⟨by have := hlb.out; rw [IntKind.wrap_i64]; omega⟩
      have keep : Hd (onlyV s r k κ x = x → ∀ (i : Nat) (y : Bool), bs[i]? = some y → w3.cell? ⟨rb, i, none⟩ = some (.bool (if i < κ + 1 then onlyV s r k i y else y))) := ⟨fun hv i y hi => by
        rw [hcells i y hi]
        by_cases e : i = κ
        · subst e
          obtain rfl : y = x := by have := hxk.out; rw [hi] at this; exact Option.some.inj this
          rw [if_neg (Nat.lt_irrefl _), if_pos (by omega), hv]
        · by_cases h1 : i < κ
          · rw [if_pos h1, if_pos (by omega)]
          · rw [if_neg h1, if_neg (by omega)]⟩
      by_cases hks : k = s
      · by_cases hkr : κ = r
        · have hv : Hd (onlyV s r k κ x = x) := ⟨by simp [onlyV, hkr]⟩
          have h1 : ((k : Int) == (s : Int)) = true := by simp [hks]
          have h2 : ((κ : Int) != (r : Int)) = false := by simp [hkr]
          clear hks hkr
          repeat (first | ((first | refine wpI_seq ?_ | refine wpI_block ?_ | refine wpI_skip ?_ | refine wpI_label ?_ | refine wpI_ret ?_ | refine wpI_exit ?_ | refine opI_nil ?_); try simp only [thenI, blkI, if_true, if_false, reduceIte, Nat.reduceEqDiff]) | (refine wpI_region ?_; simp only [List.size_toArray, List.length_cons, List.length_nil, Nat.reduceAdd, Nat.zero_add, List.range, List.range.loop]) | (refine opI_unwanted rfl (by rfl) ?_; try walk_nrm) | (refine opI_k rfl (by rfl) (fun w₁ hR K hK => ?_); skip; go_simp; refine hK _ (fun e he => ?_) ?_; (first | done | ((rw [listed_nil (by simp [go_sem, *])] at he; simp at he))); (try clear hc₁); (clear hK K hR; clear w₁); (try walk_nrm)))
          (refine wpI_cond (t := false) rfl ?_; simp only [if_true, if_false, Bool.false_eq_true, reduceIte])
          repeat (first | ((first | refine wpI_seq ?_ | refine wpI_block ?_ | refine wpI_skip ?_ | refine wpI_label ?_ | refine wpI_ret ?_ | refine wpI_exit ?_ | refine opI_nil ?_); try simp only [thenI, blkI, if_true, if_false, reduceIte, Nat.reduceEqDiff]) | (refine wpI_region ?_; simp only [List.size_toArray, List.length_cons, List.length_nil, Nat.reduceAdd, Nat.zero_add, List.range, List.range.loop]) | (refine opI_unwanted rfl (by rfl) ?_; try walk_nrm) | (refine opI_k rfl (by rfl) (fun w₁ hR K hK => ?_); skip; go_simp; refine hK _ (fun e he => ?_) ?_; (first | done | ((rw [listed_nil (by simp [go_sem, *])] at he; simp at he))); (try clear hc₁); (clear hK K hR; clear w₁); (try walk_nrm)))
          exact ⟨bs.length - (κ + 1), by omega, trivial, κ + 1, _, _, _, _, _, _, _, _, _, _, _, _, _, _, _, _, _, _, _, _, _, _, _, _, _, _, _, _, _, _, _, _, _, _, _, _, _, _, _, rfl, by omega, rfl, e10.out, hE, hL3, hz3, keep.out hv.out⟩
        · have hv : Hd (onlyV s r k κ x = false) := ⟨by simp [onlyV, hks, hkr]⟩
          have h1 : ((k : Int) == (s : Int)) = true := by simp [hks]
          have h2 : ((κ : Int) != (r : Int)) = true := by simp; omega
          have hset : Hd (∀ (i : Nat) (y : Bool), bs[i]? = some y → (w3.setCell ⟨rb, κ, none⟩ (.bool false)).cell? ⟨rb, i, none⟩ = some (.bool (if i < κ + 1 then onlyV s r k i y else y))) := ⟨fun i y hi => by
            by_cases e : i = κ
            · subst e
              obtain rfl : y = x := by have := hxk.out; rw [hi] at this; exact Option.some.inj this
              rw [set_same hcx, if_pos (by omega), hv.out]
            · rw [set_ne' (by simp [e]), hcells i y hi]
              by_cases h1 : i < κ
              · rw [if_pos h1, if_pos (by omega)]
              · rw [if_neg h1, if_neg (by omega)]⟩
          clear hks hkr
          repeat (first | ((first | refine wpI_seq ?_ | refine wpI_block ?_ | refine wpI_skip ?_ | refine wpI_label ?_ | refine wpI_ret ?_ | refine wpI_exit ?_ | refine opI_nil ?_); try simp only [thenI, blkI, if_true, if_false, reduceIte, Nat.reduceEqDiff]) | (refine wpI_region ?_; simp only [List.size_toArray, List.length_cons, List.length_nil, Nat.reduceAdd, Nat.zero_add, List.range, List.range.loop]) | (refine opI_unwanted rfl (by rfl) ?_; try walk_nrm) | (refine opI_k rfl (by rfl) (fun w₁ hR K hK => ?_); skip; go_simp; refine hK _ (fun e he => ?_) ?_; (first | done | ((rw [listed_nil (by simp [go_sem, *])] at he; simp at he))); (try clear hc₁); (clear hK K hR; clear w₁); (try walk_nrm)))
          (refine wpI_cond (t := true) rfl ?_; simp only [if_true, if_false, Bool.false_eq_true, reduceIte])
          repeat (first | ((first | refine wpI_seq ?_ | refine wpI_block ?_ | refine wpI_skip ?_ | refine wpI_label ?_ | refine wpI_ret ?_ | refine wpI_exit ?_ | refine opI_nil ?_); try simp only [thenI, blkI, if_true, if_false, reduceIte, Nat.reduceEqDiff]) | (refine wpI_region ?_; simp only [List.size_toArray, List.length_cons, List.length_nil, Nat.reduceAdd, Nat.zero_add, List.range, List.range.loop]) | (refine opI_unwanted rfl (by rfl) ?_; try walk_nrm) | (refine opI_k rfl (by rfl) (fun w₁ hR K hK => ?_); skip; go_simp; refine hK _ (fun e he => ?_) ?_; (first | done | ((rw [listed_nil (by simp [go_sem, *])] at he; simp at he))); (try clear hc₁); (clear hK K hR; clear w₁); (try walk_nrm)))
          (refine opI_st (⟨rb, κ, none⟩) (.bool x) (.bool false) rfl (by rfl) hcx (hz3 κ) ⟨hrW, hrF⟩ (fun w₁ hc₁ hz₁ K hK => ?_); go_simp; refine hK _ (fun e he => ?_) ?_; (first | done | (have hm := mem_listed he; simp [go_sem, evS_bool, evS_slice, evS_int, evS_ptr, storedEv, *] at hm; exact hm)); (clear hK K hc₁ hz₁; clear w₁); (try walk_nrm))
          repeat (first | ((first | refine wpI_seq ?_ | refine wpI_block ?_ | refine wpI_skip ?_ | refine wpI_label ?_ | refine wpI_ret ?_ | refine wpI_exit ?_ | refine opI_nil ?_); try simp only [thenI, blkI, if_true, if_false, reduceIte, Nat.reduceEqDiff]) | (refine wpI_region ?_; simp only [List.size_toArray, List.length_cons, List.length_nil, Nat.reduceAdd, Nat.zero_add, List.range, List.range.loop]) | (refine opI_unwanted rfl (by rfl) ?_; try walk_nrm) | (refine opI_k rfl (by rfl) (fun w₁ hR K hK => ?_); skip; go_simp; refine hK _ (fun e he => ?_) ?_; (first | done | ((rw [listed_nil (by simp [go_sem, *])] at he; simp at he))); (try clear hc₁); (clear hK K hR; clear w₁); (try walk_nrm)))
          exact ⟨bs.length - (κ + 1), by omega, trivial, κ + 1, _, _, _, _, _, _, _, _, _, _, _, _, _, _, _, _, _, _, _, _, _, _, _, _, _, _, _, _, _, _, _, _, _, _, _, _, _, _, _, rfl, by omega, rfl, e10.out, hE.set hA.lies hrge _, hL3.set _ _, fun i => by rw [fz_set]; exact hz3 i, hset.out⟩
      · have hv : Hd (onlyV s r k κ x = x) := ⟨by simp [onlyV, hks]⟩
        have h1 : ((k : Int) == (s : Int)) = false := by simp; omega
        clear hks
        repeat (first | ((first | refine wpI_seq ?_ | refine wpI_block ?_ | refine wpI_skip ?_ | refine wpI_label ?_ | refine wpI_ret ?_ | refine wpI_exit ?_ | refine opI_nil ?_); try simp only [thenI, blkI, if_true, if_false, reduceIte, Nat.reduceEqDiff]) | (refine wpI_region ?_; simp only [List.size_toArray, List.length_cons, List.length_nil, Nat.reduceAdd, Nat.zero_add, List.range, List.range.loop]) | (refine opI_unwanted rfl (by rfl) ?_; try walk_nrm) | (refine opI_k rfl (by rfl) (fun w₁ hR K hK => ?_); skip; go_simp; refine hK _ (fun e he => ?_) ?_; (first | done | ((rw [listed_nil (by simp [go_sem, *])] at he; simp at he))); (try clear hc₁); (clear hK K hR; clear w₁); (try walk_nrm)))
        (refine wpI_cond (t := false) rfl ?_; simp only [if_true, if_false, Bool.false_eq_true, reduceIte])
        repeat (first | ((first | refine wpI_seq ?_ | refine wpI_block ?_ | refine wpI_skip ?_ | refine wpI_label ?_ | refine wpI_ret ?_ | refine wpI_exit ?_ | refine opI_nil ?_); try simp only [thenI, blkI, if_true, if_false, reduceIte, Nat.reduceEqDiff]) | (refine wpI_region ?_; simp only [List.size_toArray, List.length_cons, List.length_nil, Nat.reduceAdd, Nat.zero_add, List.range, List.range.loop]) | (refine opI_unwanted rfl (by rfl) ?_; try walk_nrm) | (refine opI_k rfl (by rfl) (fun w₁ hR K hK => ?_); skip; go_simp; refine hK _ (fun e he => ?_) ?_; (first | done | ((rw [listed_nil (by simp [go_sem, *])] at he; simp at he))); (try clear hc₁); (clear hK K hR; clear w₁); (try walk_nrm)))
        exact ⟨bs.length - (κ + 1), by omega, trivial, κ + 1, _, _, _, _, _, _, _, _, _, _, _, _, _, _, _, _, _, _, _, _, _, _, _, _, _, _, _, _, _, _, _, _, _, _, _, _, _, _, _, rfl, by omega, rfl, e10.out, hE, hL3, hz3, keep.out hv.out⟩
    · refine wpI_cond rfl ?_
      simp only [hlt', decide_false, if_false, Bool.false_eq_true]
      obtain rfl : κ = bs.length := by omega
      have hrow3 : RowB γ4 w3 rb (.slice (some ⟨rb, 0, none⟩) bs.length rc) (onlyR s r k bs) := by
        refine ⟨rc, by rw [onlyR_length], hrF, hrW, fun i y hi => ?_⟩
        have hib : i < bs.length := by rw [← onlyR_length s r k bs]; exact (List.getElem?_eq_some_iff.1 hi).1
        have := hcells i bs[i] (List.getElem?_eq_getElem hib)
        rw [if_pos hib] at this
        rw [this]
        simp only [onlyR, List.getElem?_mapIdx, List.getElem?_eq_getElem hib, Option.map_some, Option.some.injEq] at hi
        rw [hi]
      have hA3 := hA.mono hE hL3
      clear hcells hz3
      have hne3 : vo.ownBlock ≠ some rb := fun e => by have := hA.lies.F rb (hA.blk rb e).2; omega
      repeat (first | ((first | refine wpI_seq ?_ | refine wpI_block ?_ | refine wpI_skip ?_ | refine wpI_label ?_ | refine wpI_ret ?_ | refine wpI_exit ?_ | refine opI_nil ?_); try simp only [thenI, blkI, if_true, if_false, reduceIte, Nat.reduceEqDiff]) | (refine wpI_region ?_; simp only [List.size_toArray, List.length_cons, List.length_nil, Nat.reduceAdd, Nat.zero_add, List.range, List.range.loop]) | (refine opI_unwanted rfl (by rfl) ?_; try walk_nrm) | (refine opI_k rfl (by rfl) (fun w₁ hR K hK => ?_); skip; go_simp; refine hK _ (fun e he => ?_) ?_; (first | done | ((rw [listed_nil (by simp [go_sem, *])] at he; simp at he))); (try clear hc₁); (clear hK K hR; clear w₁); (try walk_nrm)))
      (refine opI_new (v := fun n => .slice (some ⟨n, 0, none⟩) 1 1) (ob := .cells #[.slice (some ⟨rb, 0, none⟩) bs.length rc] 28) rfl (by rfl) (fun w₁ hR => ⟨run_eq_of (fun K hK => (by go_simp; exact hK)), fun e he => (by exfalso; have hm := mem_listed he; simp [go_sem, *] at hm)⟩) fun w₁ hR => ?_)
      have hE4 := Ext.new' (w₁ := w₁) hL3 hR (.cells #[.slice (some ⟨rb, 0, none⟩) bs.length rc] 28)
      have hL4 := Lies.new (hL3.rely hR) (.cells #[.slice (some ⟨rb, 0, none⟩) bs.length rc] 28)
      have hA4 := hA3.mono hE4 hL4
      have hrow4 := hrow3.ext (hE4.F rb hrF) (hE4.W rb hrW) (hE4.rl.blk rb hrF)
      try walk_nrm
      repeat (first | ((first | refine wpI_seq ?_ | refine wpI_block ?_ | refine wpI_skip ?_ | refine wpI_label ?_ | refine wpI_ret ?_ | refine wpI_exit ?_ | refine opI_nil ?_); try simp only [thenI, blkI, if_true, if_false, reduceIte, Nat.reduceEqDiff]) | (refine wpI_region ?_; simp only [List.size_toArray, List.length_cons, List.length_nil, Nat.reduceAdd, Nat.zero_add, List.range, List.range.loop]) | (refine opI_unwanted rfl (by rfl) ?_; try walk_nrm) | (refine opI_k rfl (by rfl) (fun w₁ hR K hK => ?_); skip; go_simp; refine hK _ (fun e he => ?_) ?_; (first | done | ((rw [listed_nil (by simp [go_sem, *])] at he; simp at he))); (try clear hc₁); (clear hK K hR; clear w₁); (try walk_nrm)))
      refine opI_accT hA4 hL rfl (by rfl) (.tmp 41) (.tmp 43) rfl (by kernel_rfl) rfl w₁.heap.size 1 rfl (.inr rfl) _ ?_ (onlyR s r k bs) rb hrow4 hne3 (by simp; omega) ?_
      · have := alloc_new w₁ (.cells #[.slice (some ⟨rb, 0, none⟩) bs.length rc] 28)
        unfold World.cell?
        rw [this]
        rfl
      intro γ5 v5 w5 hA5
      have htk : (onlyT s r xs).take (k + 1) = (onlyT s r xs).take k ++ [onlyR s r k bs] := by
        have hk1 : (onlyT s r xs)[k]? = some (onlyR s r k bs) := by simp [onlyT, hbs.out]
        rw [List.take_add_one, hk1]
        rfl
      rw [← htk] at hA5
      try walk_nrm
      repeat (first | ((first | refine wpI_seq ?_ | refine wpI_block ?_ | refine wpI_skip ?_ | refine wpI_label ?_ | refine wpI_ret ?_ | refine wpI_exit ?_ | refine opI_nil ?_); try simp only [thenI, blkI, if_true, if_false, reduceIte, Nat.reduceEqDiff]) | (refine wpI_region ?_; simp only [List.size_toArray, List.length_cons, List.length_nil, Nat.reduceAdd, Nat.zero_add, List.range, List.range.loop]) | (refine opI_unwanted rfl (by rfl) ?_; try walk_nrm) | (refine opI_k rfl (by rfl) (fun w₁ hR K hK => ?_); skip; go_simp; refine hK _ (fun e he => ?_) ?_; (first | done | ((rw [listed_nil (by simp [go_sem, *])] at he; simp at he))); (try clear hc₁); (clear hK K hR; clear w₁); (try walk_nrm)))
      exact ⟨xs.length - (k + 1), by omega, k + 1, _, _, _, _, _, _, _, _, _, _, _, _, _, _, _, _, _, _, _, _, _, _, _, _, _, _, _, _, _, _, _, _, _, _, _, _, _, _, _, _, _, _, rfl, by omega, rfl, e8.out, hA5⟩
  · refine wpI_cond rfl ?_
    simp only [hlt, decide_false, if_false, Bool.false_eq_true]
    obtain rfl : k = xs.length := by omega
    repeat (first | ((first | refine wpI_seq ?_ | refine wpI_block ?_ | refine wpI_skip ?_ | refine wpI_label ?_ | refine wpI_ret ?_ | refine wpI_exit ?_ | refine opI_nil ?_); try simp only [thenI, blkI, if_true, if_false, reduceIte, Nat.reduceEqDiff]) | (refine wpI_region ?_; simp only [List.size_toArray, List.length_cons, List.length_nil, Nat.reduceAdd, Nat.zero_add, List.range, List.range.loop]) | (refine opI_unwanted rfl (by rfl) ?_; try walk_nrm) | (refine opI_k rfl (by rfl) (fun w₁ hR K hK => ?_); skip; go_simp; refine hK _ (fun e he => ?_) ?_; (first | done | ((rw [listed_nil (by simp [go_sem, *])] at he; simp at he))); (try clear hc₁); (clear hK K hR; clear w₁); (try walk_nrm)))
    refine ⟨rfl, _, resultsC_tmp rfl _, hA.ext, hA.lies, ?_⟩
    have := hA.tab (by rw [← onlyT_length s r xs, List.take_length]; intro e; have := onlyT_length s r xs; rw [e] at this; simp at this; omega)
    rw [← onlyT_length s r xs, List.take_length] at this
    exact this
end Go.Proofs.Ytndfookgkkefnaa
