/- Walks in company: the table that leaves a sender one receiver. -/
import Derived.Test.YtndfookgkkefnaaBX
namespace Go.Proofs.Ytndfookgkkefnaa
set_option linter.unusedSimpArgs false
set_option linter.unusedVariables false
set_option linter.unusedSectionVars false
open Go Go.Conc Go.RowKit
def onlyV (s r i k : Nat) (x : Bool) : Bool := x && (i != s || k == r)
def onlyR (s r i : Nat) (bs : List Bool) : List Bool := bs.mapIdx fun k x => onlyV s r i k x
def onlyT (s r : Nat) (xs : List (List Bool)) : List (List Bool) := xs.mapIdx fun i bs => onlyR s r i bs
theorem onlyT_length (s r : Nat) (xs : List (List Bool)) : (onlyT s r xs).length = xs.length := by simp [onlyT]
theorem onlyR_length (s r i : Nat) (bs : List Bool) : (onlyR s r i bs).length = bs.length := by simp [onlyR]
theorem RowI.ext {γ γ' : Gh} {w w' : World} {v : Value} {bs : List Bool} (h : RowI γ w v bs) (e : Ext γ w γ' w') : RowI γ' w' v bs := by
  rcases h with h | ⟨b, o, c, rfl, hb, hx⟩
  · exact .inl h
  · exact .inr ⟨b, o, c, rfl, e.F b hb, fun i x hi => (cell_of (a := ⟨b, o + i, none⟩) (e.rl.blk b hb)).trans (hx i x hi)⟩
theorem TabI.ext {γ γ' : Gh} {w w' : World} {v : Value} {xs : List (List Bool)} (h : TabI γ w v xs) (e : Ext γ w γ' w') : TabI γ' w' v xs := by
  obtain ⟨b, o, c, rfl, hb, hx⟩ := h
  exact ⟨b, o, c, rfl, e.F b hb, fun i bs hi => let ⟨u, hu, hr⟩ := hx i bs hi; ⟨u, (cell_of (a := ⟨b, o + i, none⟩) (e.rl.blk b hb)).trans hu, hr.ext e⟩⟩
set_option maxHeartbeats 8000000 in
set_option maxRecDepth 100000 in
theorem only_c (main : Bool) (X : Pha) (γ : Gh) (w : World) (v : Value) (xs : List (List Bool)) (s r : Nat) (hT : TabI γ w v xs) (h0 : xs ≠ []) (hn : xs.length ≤ 5) (hr : ∀ bs ∈ xs, bs.length = xs.length) (hs : s < xs.length) (hrr : r < xs.length) (hL : Lies γ w) :
    CallsI Try.prog main X 52 #[v, .int .i64 s, .int .i64 r] γ w fun γ' u w' => Ext γ w γ' w' ∧ Lies γ' w' ∧ TabI γ' w' u (onlyT s r xs) := by
  obtain ⟨i0, hi, hz0, hz1, hz2⟩ := info_parts infoRow
  obtain ⟨b, o, c, rfl, hb, hx⟩ := id hT
  have hlen0 := List.length_pos_iff.2 h0
  (refine callsI_of Try.func52 (by rfl) rfl ?_; simp only [Try.ntmps52, List.size_toArray, List.length_cons, List.length_nil, Nat.reduceAdd, Nat.reduceSub, Array.replicate_succ, Array.replicate_zero, List.push_toArray, List.append_toArray, List.nil_append, List.cons_append])
  repeat (first | ((first | refine wpI_seq ?_ | refine wpI_block ?_ | refine wpI_skip ?_ | refine wpI_label ?_ | refine wpI_ret ?_ | refine wpI_exit ?_ | refine opI_nil ?_); try simp only [thenI, blkI, if_true, if_false, reduceIte, Nat.reduceEqDiff]) | (refine wpI_region ?_; simp only [List.size_toArray, List.length_cons, List.length_nil, Nat.reduceAdd, Nat.zero_add, List.range, List.range.loop]) | (refine opI_unwanted rfl (by rfl) ?_; try walk_nrm) | (refine opI_k rfl (by rfl) (fun w₁ hR K hK => ?_); skip; go_simp; refine hK _ (fun e he => ?_) ?_; (first | done | ((rw [listed_nil (by simp [go_sem, *])] at he; simp at he))); (try clear hc₁); (clear hK K hR; clear w₁); (try walk_nrm)))
  refine opI_new (v := fun n => .slice (some ⟨n, 0, none⟩) 0 0) (ob := .cells #[] 28) rfl (by rfl) (fun w₁ hR => ⟨?_, fun e he => ?_⟩) fun w₁ hR => ?_
  · refine run_eq_of (fun K hK => ?_)
    go_simp
    exact hK
  · rw [listed_nil (by simp [go_sem, *])] at he; simp at he
  have hA : AccT γ w (γ.new w₁.heap.size) (w₁.alloc (.cells #[] 28)) (.slice (some ⟨w₁.heap.size, 0, none⟩) 0 0) ((onlyT s r xs).take 0) := by
    refine ⟨Ext.new' hL hR _, Lies.new (hL.rely hR) _, fun b hb => ?_, [], ⟨rfl, .inr ⟨w₁.heap.size, 0, #[], rfl, hR.size, alloc_new _ _, Nat.le_refl _, by simp [maxLen], by simp, rfl⟩⟩, fun i bs hi => by simp at hi⟩
    obtain rfl : w₁.heap.size = b := by simpa [Value.ownBlock] using hb
    exact ⟨.inr rfl, .inr rfl⟩
  generalize Value.slice (some ⟨w₁.heap.size, 0, none⟩) 0 0 = vo at hA ⊢
  generalize γ.new w₁.heap.size = γ1 at hA ⊢
  generalize w₁.alloc (.cells #[] 28) = w1 at hA ⊢
  clear hR w₁
  have hvo0 : Hd (vo = vo) := ⟨rfl⟩
  walk_nrm
  repeat (first | ((first | refine wpI_seq ?_ | refine wpI_block ?_ | refine wpI_skip ?_ | refine wpI_label ?_ | refine wpI_ret ?_ | refine wpI_exit ?_ | refine opI_nil ?_); try simp only [thenI, blkI, if_true, if_false, reduceIte, Nat.reduceEqDiff]) | (refine wpI_region ?_; simp only [List.size_toArray, List.length_cons, List.length_nil, Nat.reduceAdd, Nat.zero_add, List.range, List.range.loop]) | (refine opI_unwanted rfl (by rfl) ?_; try walk_nrm) | (refine opI_k rfl (by rfl) (fun w₁ hR K hK => ?_); skip; go_simp; refine hK _ (fun e he => ?_) ?_; (first | done | ((rw [listed_nil (by simp [go_sem, *])] at he; simp at he))); (try clear hc₁); (clear hK K hR; clear w₁); (try walk_nrm)))
  refine wpI_loop (fun m γ' a' w' => ∃ (k : Nat) (kz : Int) (vo : Value) (u3 u4 u5 u8 u9 u10 u11 u12 u16 u17 u18 u19 u20 u21 u22 u23 u24 u25 u26 u27 u28 u29 u30 u31 u32 u33 u34 u35 u36 u37 u38 u39 u40 u41 u42 u43 u44 u45 u46 u47 u48 u49 u50 : Value), a' = ⟨#[.slice (some ⟨b, o, none⟩) xs.length c, .int .i64 s, .int .i64 r, u3, u4, u5, .slice none 0 0, vo, u8, u9, u10, u11, u12, .slice (some ⟨b, o, none⟩) xs.length c, .int .i64 xs.length, .int .i64 kz, u16, u17, u18, u19, u20, u21, u22, u23, u24, u25, u26, u27, u28, u29, u30, u31, u32, u33, u34, u35, u36, u37, u38, u39, u40, u41, u42, u43, u44, u45, u46, u47, u48, u49, u50], []⟩ ∧ k ≤ xs.length ∧ m = xs.length - k ∧ kz = k ∧ AccT γ w γ' w' vo ((onlyT s r xs).take k)) xs.length
    ⟨0, _, _, _, _, _, _, _, _, _, _, _, _, _, _, _, _, _, _, _, _, _, _, _, _, _, _, _, _, _, _, _, _, _, _, _, _, _, _, _, _, _, _, _, _, _, rfl, Nat.zero_le _, rfl, rfl, hA⟩ ?_
  clear hA hvo0
  clear vo γ1 w1
  rintro m γ' a' w' ⟨k, kz, vo, u3, u4, u5, u8, u9, u10, u11, u12, u16, u17, u18, u19, u20, u21, u22, u23, u24, u25, u26, u27, u28, u29, u30, u31, u32, u33, u34, u35, u36, u37, u38, u39, u40, u41, u42, u43, u44, u45, u46, u47, u48, u49, u50, rfl, hk, rfl, rfl, hA⟩
  repeat (first | ((first | refine wpI_seq ?_ | refine wpI_block ?_ | refine wpI_skip ?_ | refine wpI_label ?_ | refine wpI_ret ?_ | refine wpI_exit ?_ | refine opI_nil ?_); try simp only [thenI, blkI, if_true, if_false, reduceIte, Nat.reduceEqDiff]) | (refine wpI_region ?_; simp only [List.size_toArray, List.length_cons, List.length_nil, Nat.reduceAdd, Nat.zero_add, List.range, List.range.loop]) | (refine opI_unwanted rfl (by rfl) ?_; try walk_nrm) | (refine opI_k rfl (by rfl) (fun w₁ hR K hK => ?_); skip; go_simp; refine hK _ (fun e he => ?_) ?_; (first | done | ((rw [listed_nil (by simp [go_sem, *])] at he; simp at he))); (try clear hc₁); (clear hK K hR; clear w₁); (try walk_nrm)))
  by_cases hlt : k < xs.length
  · refine wpI_cond rfl ?_
    simp only [hlt, decide_true, if_true]
    obtain ⟨bs, hbs⟩ : ∃ bs, Hd (xs[k]? = some bs) := ⟨_, ⟨List.getElem?_eq_getElem hlt⟩⟩
    obtain ⟨u, hu0, hR0⟩ := hx k bs hbs.out
    have hlb : Hd (bs.length = xs.length) := ⟨hr bs (List.mem_of_getElem? hbs.out)⟩
    have hu : w'.cell? ⟨b, o + k, none⟩ = some u := (cell_of (a := ⟨b, o + k, none⟩) (hA.ext.rl.blk b hb)).trans hu0
    have hb' := hA.ext.F b hb
    have hR1 := hR0.ext hA.ext
    have hk0 : (0 : Int) ≤ (k : Int) := by omega
    have hki : (k : Int) < (xs.length : Int) := by omega
    repeat (first | ((first | refine wpI_seq ?_ | refine wpI_block ?_ | refine wpI_skip ?_ | refine wpI_label ?_ | refine wpI_ret ?_ | refine wpI_exit ?_ | refine opI_nil ?_); try simp only [thenI, blkI, if_true, if_false, reduceIte, Nat.reduceEqDiff]) | (refine wpI_region ?_; simp only [List.size_toArray, List.length_cons, List.length_nil, Nat.reduceAdd, Nat.zero_add, List.range, List.range.loop]) | (refine opI_unwanted rfl (by rfl) ?_; try walk_nrm) | (refine opI_k rfl (by rfl) (fun w₁ hR K hK => ?_); skip; go_simp; refine hK _ (fun e he => ?_) ?_; (first | done | ((rw [listed_nil (by simp [go_sem, *])] at he; simp at he))); (try clear hc₁); (clear hK K hR; clear w₁); (try walk_nrm)))
    (refine opI_k rfl (by rfl) (fun w₁ hR K hK => ?_); have hc₁ := hR.get hb' hu; go_simp; refine hK _ (fun e he => ?_) ?_; (first | done | ((have hm := mem_listed he; simp [go_sem, *] at hm; subst hm; exact Ev.read hb'))); (try clear hc₁); (clear hK K hR; clear w₁); (try walk_nrm))
    repeat (first | ((first | refine wpI_seq ?_ | refine wpI_block ?_ | refine wpI_skip ?_ | refine wpI_label ?_ | refine wpI_ret ?_ | refine wpI_exit ?_ | refine opI_nil ?_); try simp only [thenI, blkI, if_true, if_false, reduceIte, Nat.reduceEqDiff]) | (refine wpI_region ?_; simp only [List.size_toArray, List.length_cons, List.length_nil, Nat.reduceAdd, Nat.zero_add, List.range, List.range.loop]) | (refine opI_unwanted rfl (by rfl) ?_; try walk_nrm) | (refine opI_k rfl (by rfl) (fun w₁ hR K hK => ?_); skip; go_simp; refine hK _ (fun e he => ?_) ?_; (first | done | ((rw [listed_nil (by simp [go_sem, *])] at he; simp at he))); (try clear hc₁); (clear hK K hR; clear w₁); (try walk_nrm)))
    refine opI_call (Post := fun γ'' r w'' => NewRow γ' γ'' w' w'' r bs) rfl (by rfl) rfl ?_ ?_
    · have h := clone_c main X γ' w' u bs hR1 (by intro e; have := hlb.out; rw [e] at this; simp at this; omega) (by have := hlb.out; omega) hA.lies
      walk_nrm
      exact h
    rintro γ2 rv w2 ⟨hE, hL2, rb, rc, rfl, hrW, hrF, hrge, hrow⟩
    have hcells : ∀ (i : Nat) (x : Bool), bs[i]? = some x → w2.cell? ⟨rb, i, none⟩ = some (.bool (if i < 0 then onlyV s r k i x else x)) := fun i x hi => by
      have := hrow.cells (g := rb) rfl i (.bool x) (by rw [List.getElem?_map, hi]; rfl)
      rw [Addr.add_lit, Nat.zero_add] at this
      simpa using this
    have hz2 := fz_own hrow
    clear hrow
    walk_nrm
    repeat (first | ((first | refine wpI_seq ?_ | refine wpI_block ?_ | refine wpI_skip ?_ | refine wpI_label ?_ | refine wpI_ret ?_ | refine wpI_exit ?_ | refine opI_nil ?_); try simp only [thenI, blkI, if_true, if_false, reduceIte, Nat.reduceEqDiff]) | (refine wpI_region ?_; simp only [List.size_toArray, List.length_cons, List.length_nil, Nat.reduceAdd, Nat.zero_add, List.range, List.range.loop]) | (refine opI_unwanted rfl (by rfl) ?_; try walk_nrm) | (refine opI_k rfl (by rfl) (fun w₁ hR K hK => ?_); skip; go_simp; refine hK _ (fun e he => ?_) ?_; (first | done | ((rw [listed_nil (by simp [go_sem, *])] at he; simp at he))); (try clear hc₁); (clear hK K hR; clear w₁); (try walk_nrm)))
    refine wpI_loop (fun m γ3 a3 w3 => γ3 = γ2 ∧ ∃ (κ : Nat) (kz : Int) (u3 u4 u5 u11 u12 u16 u17 u18 u19 u20 u21 u25 u26 u27 u28 u29 u30 u31 u32 u33 u34 u35 u36 u37 u38 u39 u40 u41 u42 u43 u44 u45 u46 u47 u48 u49 u50 : Value), a3 = ⟨#[.slice (some ⟨b, o, none⟩) xs.length c, .int .i64 s, .int .i64 r, u3, u4, u5, .slice none 0 0, vo, .int .i64 k, u, .slice (some ⟨rb, 0, none⟩) bs.length rc, u11, u12, .slice (some ⟨b, o, none⟩) xs.length c, .int .i64 xs.length, .int .i64 k, u16, u17, u18, u19, u20, u21, .slice (some ⟨rb, 0, none⟩) bs.length rc, .int .i64 bs.length, .int .i64 kz, u25, u26, u27, u28, u29, u30, u31, u32, u33, u34, u35, u36, u37, u38, u39, u40, u41, u42, u43, u44, u45, u46, u47, u48, u49, u50], []⟩ ∧ κ ≤ bs.length ∧ m = bs.length - κ ∧ kz = κ ∧
        Ext γ' w' γ2 w3 ∧ Lies γ2 w3 ∧ (∀ i, w3.frozen? ⟨rb, i, none⟩ = false) ∧ ∀ (i : Nat) (x : Bool), bs[i]? = some x → w3.cell? ⟨rb, i, none⟩ = some (.bool (if i < κ then onlyV s r k i x else x))) bs.length
      ⟨rfl, 0, _, _, _, _, _, _, _, _, _, _, _, _, _, _, _, _, _, _, _, _, _, _, _, _, _, _, _, _, _, _, _, _, _, _, _, _, _, _, rfl, Nat.zero_le _, rfl, rfl, hE, hL2, hz2, hcells⟩ ?_
    clear hcells hz2 hE hL2 w2
    rintro m γ3 a3 w3 ⟨rfl, κ, kz, u3, u4, u5, u11, u12, u16, u17, u18, u19, u20, u21, u25, u26, u27, u28, u29, u30, u31, u32, u33, u34, u35, u36, u37, u38, u39, u40, u41, u42, u43, u44, u45, u46, u47, u48, u49, u50, rfl, hκ, rfl, rfl, hE, hL3, hz3, hcells⟩
    repeat (first | ((first | refine wpI_seq ?_ | refine wpI_block ?_ | refine wpI_skip ?_ | refine wpI_label ?_ | refine wpI_ret ?_ | refine wpI_exit ?_ | refine opI_nil ?_); try simp only [thenI, blkI, if_true, if_false, reduceIte, Nat.reduceEqDiff]) | (refine wpI_region ?_; simp only [List.size_toArray, List.length_cons, List.length_nil, Nat.reduceAdd, Nat.zero_add, List.range, List.range.loop]) | (refine opI_unwanted rfl (by rfl) ?_; try walk_nrm) | (refine opI_k rfl (by rfl) (fun w₁ hR K hK => ?_); skip; go_simp; refine hK _ (fun e he => ?_) ?_; (first | done | ((rw [listed_nil (by simp [go_sem, *])] at he; simp at he))); (try clear hc₁); (clear hK K hR; clear w₁); (try walk_nrm)))
    by_cases hlt' : κ < bs.length
    · refine wpI_cond rfl ?_
      simp only [hlt', decide_true, if_true]
      have hκ0 : (0 : Int) ≤ (κ : Int) := by omega
      have hκi : (κ : Int) < (bs.length : Int) := by omega
      obtain ⟨x, hxk⟩ : ∃ x, Hd (bs[κ]? = some x) := ⟨_, ⟨List.getElem?_eq_getElem hlt'⟩⟩
      have hcx : w3.cell? ⟨rb, κ, none⟩ = some (.bool x) := by
        have := hcells κ x hxk.out
        rwa [if_neg (Nat.lt_irrefl _)] at this
      have hb5 : (κ : Int) < 5 := by have := hlb.out; omega
      have e24 : Hd (IntKind.i64.wrap ((κ : Int) + 1) = ((κ + 1 : Nat) : Int)) := ⟨by rw [IntKind.wrap_i64]; omega⟩
      repeat (first | ((first | refine wpI_seq ?_ | refine wpI_block ?_ | refine wpI_skip ?_ | refine wpI_label ?_ | refine wpI_ret ?_ | refine wpI_exit ?_ | refine opI_nil ?_); try simp only [thenI, blkI, if_true, if_false, reduceIte, Nat.reduceEqDiff]) | (refine wpI_region ?_; simp only [List.size_toArray, List.length_cons, List.length_nil, Nat.reduceAdd, Nat.zero_add, List.range, List.range.loop]) | (refine opI_unwanted rfl (by rfl) ?_; try walk_nrm) | (refine opI_k rfl (by rfl) (fun w₁ hR K hK => ?_); skip; go_simp; refine hK _ (fun e he => ?_) ?_; (first | done | ((rw [listed_nil (by simp [go_sem, *])] at he; simp at he))); (try clear hc₁); (clear hK K hR; clear w₁); (try walk_nrm)))
      have close : ∀ (v : Bool), v = onlyV s r k κ x → Ext γ' w' γ3 (w3.setCell ⟨rb, κ, none⟩ (.bool v)) ∧ Lies γ3 (w3.setCell ⟨rb, κ, none⟩ (.bool v)) ∧ ∀ (i : Nat) (y : Bool), bs[i]? = some y → (w3.setCell ⟨rb, κ, none⟩ (.bool v)).cell? ⟨rb, i, none⟩ = some (.bool (if i < κ + 1 then onlyV s r k i y else y)) := fun v hv => by
        refine ⟨hE.set hA.lies hrge _, hL3.set _ _, fun i y hi => ?_⟩
        by_cases e : i = κ
        · subst e
          obtain rfl : y = x := by have := hxk.out; rw [hi] at this; exact Option.some.inj this
          rw [set_same hcx, if_pos (by omega), hv]
        · rw [set_ne' (by simp [e]), hcells i y hi]
          by_cases h1 : i < κ
          · rw [if_pos h1, if_pos (by omega)]
          · rw [if_neg h1, if_neg (by omega)]
      cases x with
      | false =>
        (refine opI_k rfl (by rfl) (fun w₁ hR K hK => ?_); have hc₁ := hR.get hrF hcx; go_simp; refine hK _ (fun e he => ?_) ?_; (first | done | ((have hm := mem_listed he; simp [go_sem, *] at hm; subst hm; exact Ev.read hrF))); (try clear hc₁); (clear hK K hR; clear w₁); (try walk_nrm))
        repeat (first | ((first | refine wpI_seq ?_ | refine wpI_block ?_ | refine wpI_skip ?_ | refine wpI_label ?_ | refine wpI_ret ?_ | refine wpI_exit ?_ | refine opI_nil ?_); try simp only [thenI, blkI, if_true, if_false, reduceIte, Nat.reduceEqDiff]) | (refine wpI_region ?_; simp only [List.size_toArray, List.length_cons, List.length_nil, Nat.reduceAdd, Nat.zero_add, List.range, List.range.loop]) | (refine opI_unwanted rfl (by rfl) ?_; try walk_nrm) | (refine opI_k rfl (by rfl) (fun w₁ hR K hK => ?_); skip; go_simp; refine hK _ (fun e he => ?_) ?_; (first | done | ((rw [listed_nil (by simp [go_sem, *])] at he; simp at he))); (try clear hc₁); (clear hK K hR; clear w₁); (try walk_nrm)))
        (refine opI_st (⟨rb, κ, none⟩) (.bool false) (.bool false) rfl (by rfl) hcx (hz3 κ) ⟨hrW, hrF⟩ (fun w₁ hc₁ hz₁ K hK => ?_); go_simp; refine hK _ (fun e he => ?_) ?_; (first | done | (have hm := mem_listed he; simp [go_sem, evS_bool, evS_slice, evS_int, evS_ptr, storedEv, *] at hm; exact hm)); (clear hK K hc₁ hz₁; clear w₁); (try walk_nrm))
        repeat (first | ((first | refine wpI_seq ?_ | refine wpI_block ?_ | refine wpI_skip ?_ | refine wpI_label ?_ | refine wpI_ret ?_ | refine wpI_exit ?_ | refine opI_nil ?_); try simp only [thenI, blkI, if_true, if_false, reduceIte, Nat.reduceEqDiff]) | (refine wpI_region ?_; simp only [List.size_toArray, List.length_cons, List.length_nil, Nat.reduceAdd, Nat.zero_add, List.range, List.range.loop]) | (refine opI_unwanted rfl (by rfl) ?_; try walk_nrm) | (refine opI_k rfl (by rfl) (fun w₁ hR K hK => ?_); skip; go_simp; refine hK _ (fun e he => ?_) ?_; (first | done | ((rw [listed_nil (by simp [go_sem, *])] at he; simp at he))); (try clear hc₁); (clear hK K hR; clear w₁); (try walk_nrm)))
        obtain ⟨h1, h2, h3⟩ := close false (by simp [onlyV])
        exact ⟨bs.length - (κ + 1), by omega, trivial, κ + 1, _, _, _, _, _, _, _, _, _, _, _, _, _, _, _, _, _, _, _, _, _, _, _, _, _, _, _, _, _, _, _, _, _, _, _, _, _, _, rfl, by omega, rfl, e24.out, h1, h2, fun i => by rw [fz_set]; exact hz3 i, h3⟩
      | true =>
        by_cases hks : k = s
        · subst hks
          by_cases hkr : κ = r
          · subst hkr
            (refine opI_k rfl (by rfl) (fun w₁ hR K hK => ?_); have hc₁ := hR.get hrF hcx; go_simp; refine hK _ (fun e he => ?_) ?_; (first | done | ((have hm := mem_listed he; simp [go_sem, *] at hm; subst hm; exact Ev.read hrF))); (try clear hc₁); (clear hK K hR; clear w₁); (try walk_nrm))
            repeat (first | ((first | refine wpI_seq ?_ | refine wpI_block ?_ | refine wpI_skip ?_ | refine wpI_label ?_ | refine wpI_ret ?_ | refine wpI_exit ?_ | refine opI_nil ?_); try simp only [thenI, blkI, if_true, if_false, reduceIte, Nat.reduceEqDiff]) | (refine wpI_region ?_; simp only [List.size_toArray, List.length_cons, List.length_nil, Nat.reduceAdd, Nat.zero_add, List.range, List.range.loop]) | (refine opI_unwanted rfl (by rfl) ?_; try walk_nrm) | (refine opI_k rfl (by rfl) (fun w₁ hR K hK => ?_); skip; go_simp; refine hK _ (fun e he => ?_) ?_; (first | done | ((rw [listed_nil (by simp [go_sem, *])] at he; simp at he))); (try clear hc₁); (clear hK K hR; clear w₁); (try walk_nrm)))
            (refine opI_st (⟨rb, κ, none⟩) (.bool true) (.bool true) rfl (by rfl) hcx (hz3 κ) ⟨hrW, hrF⟩ (fun w₁ hc₁ hz₁ K hK => ?_); go_simp; refine hK _ (fun e he => ?_) ?_; (first | done | (have hm := mem_listed he; simp [go_sem, evS_bool, evS_slice, evS_int, evS_ptr, storedEv, *] at hm; exact hm)); (clear hK K hc₁ hz₁; clear w₁); (try walk_nrm))
            repeat (first | ((first | refine wpI_seq ?_ | refine wpI_block ?_ | refine wpI_skip ?_ | refine wpI_label ?_ | refine wpI_ret ?_ | refine wpI_exit ?_ | refine opI_nil ?_); try simp only [thenI, blkI, if_true, if_false, reduceIte, Nat.reduceEqDiff]) | (refine wpI_region ?_; simp only [List.size_toArray, List.length_cons, List.length_nil, Nat.reduceAdd, Nat.zero_add, List.range, List.range.loop]) | (refine opI_unwanted rfl (by rfl) ?_; try walk_nrm) | (refine opI_k rfl (by rfl) (fun w₁ hR K hK => ?_); skip; go_simp; refine hK _ (fun e he => ?_) ?_; (first | done | ((rw [listed_nil (by simp [go_sem, *])] at he; simp at he))); (try clear hc₁); (clear hK K hR; clear w₁); (try walk_nrm)))
            obtain ⟨h1, h2, h3⟩ := close true (by simp [onlyV])
            exact ⟨bs.length - (κ + 1), by omega, trivial, κ + 1, _, _, _, _, _, _, _, _, _, _, _, _, _, _, _, _, _, _, _, _, _, _, _, _, _, _, _, _, _, _, _, _, _, _, _, _, _, _, rfl, by omega, rfl, e24.out, h1, h2, fun i => by rw [fz_set]; exact hz3 i, h3⟩
          · have hkrz : ((κ : Int) == (r : Int)) = false := by simp; omega
            (refine opI_k rfl (by rfl) (fun w₁ hR K hK => ?_); have hc₁ := hR.get hrF hcx; go_simp; refine hK _ (fun e he => ?_) ?_; (first | done | ((have hm := mem_listed he; simp [go_sem, *] at hm; subst hm; exact Ev.read hrF))); (try clear hc₁); (clear hK K hR; clear w₁); (try walk_nrm))
            repeat (first | ((first | refine wpI_seq ?_ | refine wpI_block ?_ | refine wpI_skip ?_ | refine wpI_label ?_ | refine wpI_ret ?_ | refine wpI_exit ?_ | refine opI_nil ?_); try simp only [thenI, blkI, if_true, if_false, reduceIte, Nat.reduceEqDiff]) | (refine wpI_region ?_; simp only [List.size_toArray, List.length_cons, List.length_nil, Nat.reduceAdd, Nat.zero_add, List.range, List.range.loop]) | (refine opI_unwanted rfl (by rfl) ?_; try walk_nrm) | (refine opI_k rfl (by rfl) (fun w₁ hR K hK => ?_); skip; go_simp; refine hK _ (fun e he => ?_) ?_; (first | done | ((rw [listed_nil (by simp [go_sem, *])] at he; simp at he))); (try clear hc₁); (clear hK K hR; clear w₁); (try walk_nrm)))
            (refine opI_st (⟨rb, κ, none⟩) (.bool true) (.bool false) rfl (by rfl) hcx (hz3 κ) ⟨hrW, hrF⟩ (fun w₁ hc₁ hz₁ K hK => ?_); go_simp; refine hK _ (fun e he => ?_) ?_; (first | done | (have hm := mem_listed he; simp [go_sem, evS_bool, evS_slice, evS_int, evS_ptr, storedEv, *] at hm; exact hm)); (clear hK K hc₁ hz₁; clear w₁); (try walk_nrm))
            repeat (first | ((first | refine wpI_seq ?_ | refine wpI_block ?_ | refine wpI_skip ?_ | refine wpI_label ?_ | refine wpI_ret ?_ | refine wpI_exit ?_ | refine opI_nil ?_); try simp only [thenI, blkI, if_true, if_false, reduceIte, Nat.reduceEqDiff]) | (refine wpI_region ?_; simp only [List.size_toArray, List.length_cons, List.length_nil, Nat.reduceAdd, Nat.zero_add, List.range, List.range.loop]) | (refine opI_unwanted rfl (by rfl) ?_; try walk_nrm) | (refine opI_k rfl (by rfl) (fun w₁ hR K hK => ?_); skip; go_simp; refine hK _ (fun e he => ?_) ?_; (first | done | ((rw [listed_nil (by simp [go_sem, *])] at he; simp at he))); (try clear hc₁); (clear hK K hR; clear w₁); (try walk_nrm)))
            obtain ⟨h1, h2, h3⟩ := close false (by simp [onlyV, hkr])
            exact ⟨bs.length - (κ + 1), by omega, trivial, κ + 1, _, _, _, _, _, _, _, _, _, _, _, _, _, _, _, _, _, _, _, _, _, _, _, _, _, _, _, _, _, _, _, _, _, _, _, _, _, _, rfl, by omega, rfl, e24.out, h1, h2, fun i => by rw [fz_set]; exact hz3 i, h3⟩
        · have hksz : ((k : Int) != (s : Int)) = true := by simp; omega
          (refine opI_k rfl (by rfl) (fun w₁ hR K hK => ?_); have hc₁ := hR.get hrF hcx; go_simp; refine hK _ (fun e he => ?_) ?_; (first | done | ((have hm := mem_listed he; simp [go_sem, *] at hm; subst hm; exact Ev.read hrF))); (try clear hc₁); (clear hK K hR; clear w₁); (try walk_nrm))
          repeat (first | ((first | refine wpI_seq ?_ | refine wpI_block ?_ | refine wpI_skip ?_ | refine wpI_label ?_ | refine wpI_ret ?_ | refine wpI_exit ?_ | refine opI_nil ?_); try simp only [thenI, blkI, if_true, if_false, reduceIte, Nat.reduceEqDiff]) | (refine wpI_region ?_; simp only [List.size_toArray, List.length_cons, List.length_nil, Nat.reduceAdd, Nat.zero_add, List.range, List.range.loop]) | (refine opI_unwanted rfl (by rfl) ?_; try walk_nrm) | (refine opI_k rfl (by rfl) (fun w₁ hR K hK => ?_); skip; go_simp; refine hK _ (fun e he => ?_) ?_; (first | done | ((rw [listed_nil (by simp [go_sem, *])] at he; simp at he))); (try clear hc₁); (clear hK K hR; clear w₁); (try walk_nrm)))
          (refine opI_st (⟨rb, κ, none⟩) (.bool true) (.bool true) rfl (by rfl) hcx (hz3 κ) ⟨hrW, hrF⟩ (fun w₁ hc₁ hz₁ K hK => ?_); go_simp; refine hK _ (fun e he => ?_) ?_; (first | done | (have hm := mem_listed he; simp [go_sem, evS_bool, evS_slice, evS_int, evS_ptr, storedEv, *] at hm; exact hm)); (clear hK K hc₁ hz₁; clear w₁); (try walk_nrm))
          repeat (first | ((first | refine wpI_seq ?_ | refine wpI_block ?_ | refine wpI_skip ?_ | refine wpI_label ?_ | refine wpI_ret ?_ | refine wpI_exit ?_ | refine opI_nil ?_); try simp only [thenI, blkI, if_true, if_false, reduceIte, Nat.reduceEqDiff]) | (refine wpI_region ?_; simp only [List.size_toArray, List.length_cons, List.length_nil, Nat.reduceAdd, Nat.zero_add, List.range, List.range.loop]) | (refine opI_unwanted rfl (by rfl) ?_; try walk_nrm) | (refine opI_k rfl (by rfl) (fun w₁ hR K hK => ?_); skip; go_simp; refine hK _ (fun e he => ?_) ?_; (first | done | ((rw [listed_nil (by simp [go_sem, *])] at he; simp at he))); (try clear hc₁); (clear hK K hR; clear w₁); (try walk_nrm)))
          obtain ⟨h1, h2, h3⟩ := close true (by simp [onlyV, hks])
          exact ⟨bs.length - (κ + 1), by omega, trivial, κ + 1, _, _, _, _, _, _, _, _, _, _, _, _, _, _, _, _, _, _, _, _, _, _, _, _, _, _, _, _, _, _, _, _, _, _, _, _, _, _, rfl, by omega, rfl, e24.out, h1, h2, fun i => by rw [fz_set]; exact hz3 i, h3⟩
    · refine wpI_cond rfl ?_
      simp only [hlt', decide_false, if_false, Bool.false_eq_true]
      obtain rfl : κ = bs.length := by omega
      have hrow3 : RowB γ3 w3 rb (.slice (some ⟨rb, 0, none⟩) bs.length rc) (onlyR s r k bs) := by
        refine ⟨rc, by rw [onlyR_length], hrF, hrW, fun i y hi => ?_⟩
        have hib : i < bs.length := by rw [← onlyR_length s r k bs]; exact (List.getElem?_eq_some_iff.1 hi).1
        have := hcells i bs[i] (List.getElem?_eq_getElem hib)
        rw [if_pos hib] at this
        rw [this]
        simp only [onlyR, List.getElem?_mapIdx, List.getElem?_eq_getElem hib, Option.map_some, Option.some.injEq] at hi
        rw [hi]
      have hA3 := hA.mono hE hL3
      clear hcells hz3
      have hne3 : vo.ownBlock ≠ some rb := fun e => by have := hA.lies.F rb (hA.blk rb e).2; omega
      repeat (first | ((first | refine wpI_seq ?_ | refine wpI_block ?_ | refine wpI_skip ?_ | refine wpI_label ?_ | refine wpI_ret ?_ | refine wpI_exit ?_ | refine opI_nil ?_); try simp only [thenI, blkI, if_true, if_false, reduceIte, Nat.reduceEqDiff]) | (refine wpI_region ?_; simp only [List.size_toArray, List.length_cons, List.length_nil, Nat.reduceAdd, Nat.zero_add, List.range, List.range.loop]) | (refine opI_unwanted rfl (by rfl) ?_; try walk_nrm) | (refine opI_k rfl (by rfl) (fun w₁ hR K hK => ?_); skip; go_simp; refine hK _ (fun e he => ?_) ?_; (first | done | ((rw [listed_nil (by simp [go_sem, *])] at he; simp at he))); (try clear hc₁); (clear hK K hR; clear w₁); (try walk_nrm)))
      refine opI_new (v := fun n => .slice (some ⟨n, 0, none⟩) 1 1) (ob := .cells #[.slice (some ⟨rb, 0, none⟩) bs.length rc] 28) rfl (by rfl) (fun w₁ hR => ⟨?_, fun e he => ?_⟩) fun w₁ hR => ?_
      · refine run_eq_of (fun K hK => ?_)
        go_simp
        exact hK
      · rw [listed_nil (by simp [go_sem, *])] at he; simp at he
      have hE4 := Ext.new' (w₁ := w₁) hL3 hR (.cells #[.slice (some ⟨rb, 0, none⟩) bs.length rc] 28)
      have hL4 := Lies.new (hL3.rely hR) (.cells #[.slice (some ⟨rb, 0, none⟩) bs.length rc] 28)
      have hA4 := hA3.mono hE4 hL4
      have hrow4 := hrow3.ext (hE4.F rb hrF) (hE4.W rb hrW) (hE4.rl.blk rb hrF)
      walk_nrm
      refine opI_accT hA4 hL rfl (by rfl) (.tmp 45) (.tmp 47) rfl (by kernel_rfl) rfl w₁.heap.size 1 rfl (.inr rfl) _ ?_ (onlyR s r k bs) rb hrow4 hne3 (by simp; omega) ?_
      · have := alloc_new w₁ (.cells #[.slice (some ⟨rb, 0, none⟩) bs.length rc] 28)
        unfold World.cell?
        rw [this]
        rfl
      intro γ5 v5 w5 hA5
      have e15 : Hd (IntKind.i64.wrap ((k : Int) + 1) = ((k + 1 : Nat) : Int)) := ⟨by rw [IntKind.wrap_i64]; omega⟩
      have htk : (onlyT s r xs).take (k + 1) = (onlyT s r xs).take k ++ [onlyR s r k bs] := by
        have hk1 : (onlyT s r xs)[k]? = some (onlyR s r k bs) := by simp [onlyT, hbs.out]
        rw [List.take_add_one, hk1]
        rfl
      rw [← htk] at hA5
      walk_nrm
      repeat (first | ((first | refine wpI_seq ?_ | refine wpI_block ?_ | refine wpI_skip ?_ | refine wpI_label ?_ | refine wpI_ret ?_ | refine wpI_exit ?_ | refine opI_nil ?_); try simp only [thenI, blkI, if_true, if_false, reduceIte, Nat.reduceEqDiff]) | (refine wpI_region ?_; simp only [List.size_toArray, List.length_cons, List.length_nil, Nat.reduceAdd, Nat.zero_add, List.range, List.range.loop]) | (refine opI_unwanted rfl (by rfl) ?_; try walk_nrm) | (refine opI_k rfl (by rfl) (fun w₁ hR K hK => ?_); skip; go_simp; refine hK _ (fun e he => ?_) ?_; (first | done | ((rw [listed_nil (by simp [go_sem, *])] at he; simp at he))); (try clear hc₁); (clear hK K hR; clear w₁); (try walk_nrm)))
      exact ⟨xs.length - (k + 1), by omega, k + 1, _, _, _, _, _, _, _, _, _, _, _, _, _, _, _, _, _, _, _, _, _, _, _, _, _, _, _, _, _, _, _, _, _, _, _, _, _, _, _, _, _, _, _, _, _, rfl, by omega, rfl, e15.out, hA5⟩
  · refine wpI_cond rfl ?_
    simp only [hlt, decide_false, if_false, Bool.false_eq_true]
    obtain rfl : k = xs.length := by omega
    repeat (first | ((first | refine wpI_seq ?_ | refine wpI_block ?_ | refine wpI_skip ?_ | refine wpI_label ?_ | refine wpI_ret ?_ | refine wpI_exit ?_ | refine opI_nil ?_); try simp only [thenI, blkI, if_true, if_false, reduceIte, Nat.reduceEqDiff]) | (refine wpI_region ?_; simp only [List.size_toArray, List.length_cons, List.length_nil, Nat.reduceAdd, Nat.zero_add, List.range, List.range.loop]) | (refine opI_unwanted rfl (by rfl) ?_; try walk_nrm) | (refine opI_k rfl (by rfl) (fun w₁ hR K hK => ?_); skip; go_simp; refine hK _ (fun e he => ?_) ?_; (first | done | ((rw [listed_nil (by simp [go_sem, *])] at he; simp at he))); (try clear hc₁); (clear hK K hR; clear w₁); (try walk_nrm)))
    refine ⟨rfl, _, resultsC_tmp rfl _, hA.ext, hA.lies, ?_⟩
    have := hA.tab (by rw [← onlyT_length s r xs, List.take_length]; intro e; have := onlyT_length s r xs; rw [e] at this; simp at this; omega)
    rw [← onlyT_length s r xs, List.take_length] at this
    exact this
end Go.Proofs.Ytndfookgkkefnaa
