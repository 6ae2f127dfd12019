/- Walks in company: the program's AssignCertain. -/
import Derived.Test.YtndfookgkkefnaaBT1
import Derived.Test.YtndfookgkkefnaaBL2
namespace Go.Proofs.Ytndfookgkkefnaa
set_option linter.unusedSimpArgs false
set_option linter.unusedVariables false
set_option linter.unusedSectionVars false
open Go Go.Conc Go.RowKit
def certR (f : Nat → Int) (A : Int) (i : Nat) : Nat → List Int
  | 0 => []
  | k + 1 => certR f A i k ++ (if f k = A then [(i : Int)] else [])
def certL (g : Nat → Nat → Int) (A : Int) (n : Nat) : Nat → List Int
  | 0 => []
  | k + 1 => certL g A n k ++ certR (g k) A k n
theorem certR_length (f : Nat → Int) (A : Int) (i : Nat) : ∀ k, (certR f A i k).length ≤ k
  | 0 => Nat.le_refl _
  | k + 1 => by
    have := certR_length f A i k
    rw [certR, List.length_append]
    split <;> simp <;> omega
theorem certL_length (g : Nat → Nat → Int) (A : Int) (n : Nat) : ∀ k, (certL g A n k).length ≤ k * n
  | 0 => Nat.zero_le _
  | k + 1 => by
    have h1 := certL_length g A n k
    have h2 := certR_length (g k) A k n
    rw [certL, List.length_append, Nat.succ_mul]
    omega
theorem certR_mem {f : Nat → Int} {A : Int} {i : Nat} {x : Int} : ∀ {k : Nat}, x ∈ certR f A i k ↔ x = i ∧ ∃ r, r < k ∧ f r = A
  | 0 => by simp [certR]
  | k + 1 => by
    rw [certR, List.mem_append, certR_mem (k := k)]
    constructor
    · rintro (⟨rfl, r, hr, h⟩ | h)
      · exact ⟨rfl, r, by omega, h⟩
      · split at h
        · rename_i hA
          exact ⟨by simpa using h, k, by omega, hA⟩
        · simp at h
    · rintro ⟨rfl, r, hr, h⟩
      by_cases e : r = k
      · subst e
        exact .inr (by rw [if_pos h]; simp)
      · exact .inl ⟨rfl, r, by omega, h⟩
theorem certL_mem {g : Nat → Nat → Int} {A : Int} {n s : Nat} : ∀ {k : Nat}, (s : Int) ∈ certL g A n k ↔ s < k ∧ ∃ r, r < n ∧ g s r = A
  | 0 => by simp [certL]
  | k + 1 => by
    rw [certL, List.mem_append, certL_mem (k := k), certR_mem]
    constructor
    · rintro (⟨h1, h2⟩ | ⟨h1, h2⟩)
      · exact ⟨by omega, h2⟩
      · obtain rfl : s = k := by omega
        exact ⟨by omega, h2⟩
    · rintro ⟨h1, h2⟩
      by_cases e : s = k
      · subst e; exact .inr ⟨rfl, h2⟩
      · exact .inl ⟨by omega, h2⟩
def certV (xs : List (List Bool)) : List Int := if 0 < cntV xs then certL (cntW xs) (cntV xs) xs.length xs.length else []
theorem certV_length (xs : List (List Bool)) : (certV xs).length ≤ 25 := by
  unfold certV
  split
  · rename_i h
    obtain ⟨_, h5, _⟩ := validB_props (cntV_pos h)
    have := certL_length (cntW xs) (cntV xs) xs.length xs.length
    have h2 : xs.length * xs.length ≤ 5 * 5 := Nat.mul_le_mul h5 h5
    omega
  · simp
theorem AccV.noCs {γ₀ γ : Gh} {w₀ w : World} {e : TypeId} {vo : Value} {vals : List Value} (h : AccV γ₀ w₀ γ w e vo vals) (hCs : ∀ a, ¬ γ₀.Cs a) : AccV γ₀ w₀ γ.noCs w e vo vals := ⟨h.ext.noCs hCs, h.lies.noCs, h.blk, h.own⟩
/-- some elements more; what else stands -/
theorem opI_accN {P : Program} {main : Bool} {X : Pha} {fn : FuncId} {ops : Array Oper} {Q : PoI} {γ₀ γ : Gh} {w₀ w : World} {e : TypeId} {vo : Value} {vals : List Value} (h : AccV γ₀ w₀ γ w e vo vals) (hL₀ : Lies γ₀ w₀) {i : Nat} {rest : List Nat} {o : Oper} {a : Act}
    (ho : ops[i]? = some o) (hw : Region.wanted o (yielded ops a.tmps) = true) (s x : Operand) (t : TypeId) (hop : o.op = .call { callee := .builtin .append, args := #[s, x], argTypes := #[t, t] }) (ht : P.underlying t = some (.slice e)) (inf : TypeInfo) (z : Value) (bytes : Nat) (hi : P.info? e = some inf) (hz0 : inf.zero = some z) (hz1 : inf.size = 1) (hz2 : inf.bytes = bytes) (hzc : z.cells.size = 1)
    (hs : a.eval s = vo) (ad : Addr) (m c : Nat) (hx : a.eval x = .slice (some ad) m c) (hF : γ.F ad.block) (news : List Value) (hm : news.length = m) (hnews : ∀ j u, news[j]? = some u → w.cell? (ad.add j) = some u) (h1 : ∀ u ∈ news, u.oneCell' = true) (hlen : vals.length + m ≤ 4194304) (hby : bytes ≤ 1024)
    (hn : ∀ γ' v' w', AccV γ₀ w₀ γ' w' e v' (vals ++ news) → γ'.Cs = γ.Cs → (∀ b, γ.F b → vo.ownBlock ≠ some b → γ'.F b ∧ (γ.W b → γ'.W b) ∧ w'.heap[b]? = w.heap[b]? ∧ v'.ownBlock ≠ some b) → opI P main X fn ops rest Q γ' (a.put o.dst v') w') : opI P main X fn ops (i :: rest) Q γ a w := by
  have hL := h.lies
  have hown := h.own
  refine opI_app ho hw s x t hop w₀.heap.size e inf z 1 bytes ht hi hz0 hz1 hz2 hzc (by decide) vo vals.length vals hs hown h.blk ad m c hx hF news (by omega) hnews h1 (by simp only [maxLen]; omega) (by
      have : (vals.length + m) * bytes ≤ 4194304 * 1024 := Nat.mul_le_mul hlen hby
      omega) h.ext.rl.size
    (fun y hy => ⟨(hL.Cs y hy).1, fun b hb e => (hL.Cs y hy).2 (e ▸ (h.blk b hb).2)⟩) hL.F hL.Q ?_
  intro γ' v' w' hWF hfr hQ' hG' hp' hqb hex hF' hW' hC' hv' ho' hs' hblk hlt' hcell'
  have ge := h.ge
  have nlt : ∀ b, b < w₀.heap.size → vo.ownBlock ≠ some b := fun b hb e => by have := ge b e; omega
  refine hn γ' v' w' ⟨⟨fun b hb => hF' b (h.ext.F b hb), fun b hb => hW' b (h.ext.W b hb), fun y hy => by rw [hC']; exact h.ext.Cs y hy, fun b hb => by rw [hQ']; exact h.ext.Q b hb, fun b hb => by rw [hG']; exact h.ext.G b hb, hp'.trans h.ext.p,
    ⟨Nat.le_trans h.ext.rl.size hs', fun b hb => (hblk b (h.ext.F b hb) (nlt b (hL₀.F b hb))).trans (h.ext.rl.blk b hb), fun y hy => (hcell' y (h.ext.Cs y hy)).1.trans (h.ext.rl.cell y hy), fun y hy => (hcell' y (h.ext.Cs y hy)).2.trans (h.ext.rl.fz y hy),
      fun b hb => (hqb b (h.ext.Q b hb)).trans (h.ext.rl.q b hb), fun y u hg hu => let ⟨u', hu'⟩ := h.ext.rl.ex y u hg hu; hex y u' (h.ext.G _ hg) hu'⟩⟩,
    ⟨fun b hb => (hlt' b hb).1, fun y hy => ?_, fun b hb => ?_, hWF hL.W⟩, hv', ?_⟩ hC' fun b hb hne => ⟨hF' b hb, hW' b, hblk b hb hne, fun e => ?_⟩
  · rw [hC'] at hy
    have h1 := hL.Cs y hy
    refine ⟨by omega, fun hf => ?_⟩
    rcases (hlt' _ hf).2 with h2 | h2
    · exact h1.2 h2
    · omega
  · rw [hQ', hG'] at hb
    have h1 := hL.Q b hb
    refine ⟨by omega, fun hf => ?_⟩
    rcases (hlt' _ hf).2 with h2 | h2
    · exact h1.2 h2
    · omega
  · rw [List.length_append, hm]; exact ho'
  · rcases hfr b e with h2 | h2
    · exact hne h2
    · have := hL.F b hb; omega
/-- an accumulated row of numbers, read and written -/
theorem AccV.rowN {γ₀ γ : Gh} {w₀ w : World} {e : TypeId} {vo : Value} {zs : List Int} (h : AccV γ₀ w₀ γ w e vo (zs.map fun z => .int .i64 z)) (hf : ∃ b l c, vo = .slice (some ⟨b, 0, none⟩) l c) : RowN γ w vo zs ∧ RowW γ w (fun b => w₀.heap.size ≤ b) vo zs.length := by
  obtain ⟨b, c, rfl, hF, hW, hge, hz, hc⟩ := h.cell (.inr hf)
  rw [List.length_map]
  refine ⟨⟨_, c, rfl, fun i x hi => ⟨b, 0, rfl, hF, ?_⟩⟩, ⟨_, c, rfl, fun i hi => ⟨b, rfl, hge, hF, hW, hz i, ?_⟩⟩⟩
  · rw [Nat.zero_add]; exact hc i _ (by rw [List.getElem?_map, hi]; rfl)
  · exact ⟨_, hc i (.int .i64 zs[i]) (by rw [List.getElem?_map, List.getElem?_eq_getElem hi]; rfl)⟩
/-- what AssignCertain hands over -/
def CertP (γ : Gh) (w : World) (xs : List (List Bool)) (γ' : Gh) (u : Value) (w' : World) : Prop :=
  Ext γ w γ' w' ∧ Lies γ' w' ∧ (∀ a, ¬ γ'.Cs a) ∧ RowN γ' w' u (certV xs) ∧ RowW γ' w' (fun b => w.heap.size ≤ b) u (certV xs).length
set_option maxHeartbeats 8000000 in
set_option maxRecDepth 100000 in
theorem implCertain_c (γ : Gh) (w : World) (v : Value) (xs : List (List Bool)) (hT : TabV γ w v xs) (hn : xs.length < 4611686018427387904) (hL : Lies γ w) (hp : γ.p = .no) (hCs : ∀ a, ¬ γ.Cs a) :
    CallsI Try.prog true XB 15 #[v] γ w (CertP γ w xs) := by
  obtain ⟨i0, hi, hz0, hz1, hz2⟩ := info_parts infoInt'
  (refine callsI_of Try.func15 (by rfl) rfl ?_; simp only [Try.ntmps15, List.size_toArray, List.length_cons, List.length_nil, Nat.reduceAdd, Nat.reduceSub, Array.replicate_succ, Array.replicate_zero, List.push_toArray, List.append_toArray, List.nil_append, List.cons_append])
  repeat (first | ((first | refine wpI_seq ?_ | refine wpI_block ?_ | refine wpI_skip ?_ | refine wpI_label ?_ | refine wpI_ret ?_ | refine wpI_exit ?_ | refine opI_nil ?_); try simp only [thenI, blkI, if_true, if_false, reduceIte, Nat.reduceEqDiff]) | (refine wpI_region ?_; simp only [List.size_toArray, List.length_cons, List.length_nil, Nat.reduceAdd, Nat.zero_add, List.range, List.range.loop]) | (refine opI_unwanted rfl (by rfl) ?_; try walk_nrm) | (refine opI_k rfl (by rfl) (fun w₁ hR K hK => ?_); skip; go_simp; refine hK _ (fun e he => ?_) ?_; (first | done | ((rw [listed_nil (by simp [go_sem, *])] at he; simp at he))); (try clear hc₁); (clear hK K hR; clear w₁); (try walk_nrm)))
  (refine opI_call (Post := fun γ'' r w'' => γ'' = _ ∧ w'' = _ ∧ r = .int .i64 (cntV xs)) rfl (by rfl) rfl (by have h := (cntV_eq xs ▸ implCount_c true XB γ w v xs hT hn); walk_nrm; exact h) ?_; intro γx ux wx hx; obtain ⟨hx1, hx2, rfl⟩ := hx; rw [hx1, hx2]; clear hx1 hx2; clear wx; clear γx; walk_nrm)
  by_cases h : 0 < cntV xs
  · have hle : decide (cntV xs ≤ 0) = false := by simp; omega
    obtain ⟨h0, h5, hr⟩ := validB_props (cntV_pos h)
    have hc : Hd (certV xs = certL (cntW xs) (cntV xs) xs.length xs.length) := ⟨by rw [certV, if_pos h]⟩
    have hT' := hT.tab h0
    have hpr := fun s => perR_eq h5 hr s
    obtain ⟨A, hA⟩ : ∃ A, Hd (A = cntV xs) := ⟨_, ⟨rfl⟩⟩
    rw [← hA.out] at hle hc ⊢
    clear h hn hA
    obtain ⟨p, c, rfl, _⟩ := hT.form
    have hr' := Hd.mk hr
    have h5' := Hd.mk h5
    have hpr' := Hd.mk hpr
    clear hr h5 hpr
    repeat (first | ((first | refine wpI_seq ?_ | refine wpI_block ?_ | refine wpI_skip ?_ | refine wpI_label ?_ | refine wpI_ret ?_ | refine wpI_exit ?_ | refine opI_nil ?_); try simp only [thenI, blkI, if_true, if_false, reduceIte, Nat.reduceEqDiff]) | (refine wpI_region ?_; simp only [List.size_toArray, List.length_cons, List.length_nil, Nat.reduceAdd, Nat.zero_add, List.range, List.range.loop]) | (refine opI_unwanted rfl (by rfl) ?_; try walk_nrm) | (refine opI_k rfl (by rfl) (fun w₁ hR K hK => ?_); skip; go_simp; refine hK _ (fun e he => ?_) ?_; (first | done | ((rw [listed_nil (by simp [go_sem, *])] at he; simp at he))); (try clear hc₁); (clear hK K hR; clear w₁); (try walk_nrm)))
    (refine wpI_cond (t := false) rfl ?_; simp only [if_true, if_false, Bool.false_eq_true, reduceIte])
    repeat (first | ((first | refine wpI_seq ?_ | refine wpI_block ?_ | refine wpI_skip ?_ | refine wpI_label ?_ | refine wpI_ret ?_ | refine wpI_exit ?_ | refine opI_nil ?_); try simp only [thenI, blkI, if_true, if_false, reduceIte, Nat.reduceEqDiff]) | (refine wpI_region ?_; simp only [List.size_toArray, List.length_cons, List.length_nil, Nat.reduceAdd, Nat.zero_add, List.range, List.range.loop]) | (refine opI_unwanted rfl (by rfl) ?_; try walk_nrm) | (refine opI_k rfl (by rfl) (fun w₁ hR K hK => ?_); skip; go_simp; refine hK _ (fun e he => ?_) ?_; (first | done | ((rw [listed_nil (by simp [go_sem, *])] at he; simp at he))); (try clear hc₁); (clear hK K hR; clear w₁); (try walk_nrm)))
    (refine opI_new (v := fun n => .slice (some ⟨n, 0, none⟩) 0 0) (ob := .cells #[] 3) rfl (by rfl) (fun w₁ hR => ⟨run_eq_of (fun K hK => (by go_simp; exact hK)), fun e he => (by exfalso; have hm := mem_listed he; simp [go_sem, *] at hm)⟩) fun w₁ hR => ?_)
    have hV := AccV.start hL hR 3
    have hvf : ∃ b l c, Value.slice (some ⟨w₁.heap.size, 0, none⟩) 0 0 = .slice (some ⟨b, 0, none⟩) l c := ⟨_, _, _, rfl⟩
    have hp1 : (γ.new w₁.heap.size).p = .no := hp
    have hCs1 : ∀ a, ¬ (γ.new w₁.heap.size).Cs a := hCs
    clear hR
    generalize Value.slice (some ⟨w₁.heap.size, 0, none⟩) 0 0 = vo at hV hvf ⊢
    generalize γ.new w₁.heap.size = γ1 at hV hp1 hCs1 ⊢
    generalize w₁.alloc (.cells #[] 3) = w1 at hV ⊢
    clear w₁
    try walk_nrm
    repeat (first | ((first | refine wpI_seq ?_ | refine wpI_block ?_ | refine wpI_skip ?_ | refine wpI_label ?_ | refine wpI_ret ?_ | refine wpI_exit ?_ | refine opI_nil ?_); try simp only [thenI, blkI, if_true, if_false, reduceIte, Nat.reduceEqDiff]) | (refine wpI_region ?_; simp only [List.size_toArray, List.length_cons, List.length_nil, Nat.reduceAdd, Nat.zero_add, List.range, List.range.loop]) | (refine opI_unwanted rfl (by rfl) ?_; try walk_nrm) | (refine opI_k rfl (by rfl) (fun w₁ hR K hK => ?_); skip; go_simp; refine hK _ (fun e he => ?_) ?_; (first | done | ((rw [listed_nil (by simp [go_sem, *])] at he; simp at he))); (try clear hc₁); (clear hK K hR; clear w₁); (try walk_nrm)))
    refine wpI_loop (fun m γ' a' w' => ∃ (k : Nat) (kz : Int) (vo : Value) (u1 u5 u6 u7 u8 u9 u10 u11 u12 u16 u17 u18 u19 u20 u21 u22 u23 u24 u25 u26 u27 u28 u29 u30 u31 u32 u33 u34 u35 : Value), a' = ⟨#[.slice p xs.length c, u1, .slice none 0 0, .int .i64 A, vo, u5, u6, u7, u8, u9, u10, u11, u12, .slice p xs.length c, .int .i64 xs.length, .int .i64 kz, u16, u17, u18, u19, u20, u21, u22, u23, u24, u25, u26, u27, u28, u29, u30, u31, u32, u33, u34, u35], []⟩ ∧ k ≤ xs.length ∧ m = xs.length - k ∧ kz = k ∧ (∃ b l c, vo = .slice (some ⟨b, 0, none⟩) l c) ∧ (∀ a, ¬ γ'.Cs a) ∧ AccV γ w γ' w' 3 vo ((certL (cntW xs) A xs.length k).map fun z => .int .i64 z)) xs.length
      ⟨0, _, _, _, _, _, _, _, _, _, _, _, _, _, _, _, _, _, _, _, _, _, _, _, _, _, _, _, _, _, _, _, rfl, Nat.zero_le _, rfl, rfl, hvf, hCs1, hV⟩ ?_
    clear hV hvf hp1 hCs1
    clear vo γ1 w1
    rintro m γ' a' w' ⟨k, kz, vo, u1, u5, u6, u7, u8, u9, u10, u11, u12, u16, u17, u18, u19, u20, u21, u22, u23, u24, u25, u26, u27, u28, u29, u30, u31, u32, u33, u34, u35, rfl, hk, rfl, rfl, hvf, hCs', hV⟩
    repeat (first | ((first | refine wpI_seq ?_ | refine wpI_block ?_ | refine wpI_skip ?_ | refine wpI_label ?_ | refine wpI_ret ?_ | refine wpI_exit ?_ | refine opI_nil ?_); try simp only [thenI, blkI, if_true, if_false, reduceIte, Nat.reduceEqDiff]) | (refine wpI_region ?_; simp only [List.size_toArray, List.length_cons, List.length_nil, Nat.reduceAdd, Nat.zero_add, List.range, List.range.loop]) | (refine opI_unwanted rfl (by rfl) ?_; try walk_nrm) | (refine opI_k rfl (by rfl) (fun w₁ hR K hK => ?_); skip; go_simp; refine hK _ (fun e he => ?_) ?_; (first | done | ((rw [listed_nil (by simp [go_sem, *])] at he; simp at he))); (try clear hc₁); (clear hK K hR; clear w₁); (try walk_nrm)))
    by_cases hlt : k < xs.length
    · refine wpI_cond rfl ?_
      simp only [hlt, decide_true, if_true]
      have hk0 : (0 : Int) ≤ (k : Int) := by omega
      have hki : (k : Int) < (xs.length : Int) := by omega
      have e15 : Hd (IntKind.i64.wrap ((k : Int) + 1) = ((k + 1 : Nat) : Int)) := ⟨by have := h5'.out; rw [IntKind.wrap_i64]; omega⟩
      have hT1 := hT'.ext hV.ext
      repeat (first | ((first | refine wpI_seq ?_ | refine wpI_block ?_ | refine wpI_skip ?_ | refine wpI_label ?_ | refine wpI_ret ?_ | refine wpI_exit ?_ | refine opI_nil ?_); try simp only [thenI, blkI, if_true, if_false, reduceIte, Nat.reduceEqDiff]) | (refine wpI_region ?_; simp only [List.size_toArray, List.length_cons, List.length_nil, Nat.reduceAdd, Nat.zero_add, List.range, List.range.loop]) | (refine opI_unwanted rfl (by rfl) ?_; try walk_nrm) | (refine opI_k rfl (by rfl) (fun w₁ hR K hK => ?_); skip; go_simp; refine hK _ (fun e he => ?_) ?_; (first | done | ((rw [listed_nil (by simp [go_sem, *])] at he; simp at he))); (try clear hc₁); (clear hK K hR; clear w₁); (try walk_nrm)))
      refine opI_call rfl (by rfl) rfl (by
        have h := perReceiver_c γ' w' _ xs k hT1 h0 h5'.out hr'.out hlt hV.lies (hV.ext.p.trans hp) hCs'
        walk_nrm
        exact h) ?_
      rintro γ2 u2 w2 ⟨hE, hL2, hCs2, b, cc, rfl, hF, hge, hcell⟩
      rw [hpr'.out k] at hcell
      obtain ⟨f, hf⟩ : ∃ f : Nat → Int, Hd (f = cntW xs k) := ⟨_, ⟨rfl⟩⟩
      rw [← hf.out] at hcell
      have hV2 := hV.mono hE hL2
      have hne : vo.ownBlock ≠ some b := fun e => by have := hV.lies.F b (hV.blk b e).2; omega
      have hV2' : AccV γ w γ2 w2 3 vo ((certL (cntW xs) A xs.length k ++ certR f A k 0).map fun z => .int .i64 z) := by rw [certR, List.append_nil]; exact hV2
      clear hE hL2 hT1 hge hV2 hV hCs'
      clear γ' w'
      try walk_nrm
      repeat (first | ((first | refine wpI_seq ?_ | refine wpI_block ?_ | refine wpI_skip ?_ | refine wpI_label ?_ | refine wpI_ret ?_ | refine wpI_exit ?_ | refine opI_nil ?_); try simp only [thenI, blkI, if_true, if_false, reduceIte, Nat.reduceEqDiff]) | (refine wpI_region ?_; simp only [List.size_toArray, List.length_cons, List.length_nil, Nat.reduceAdd, Nat.zero_add, List.range, List.range.loop]) | (refine opI_unwanted rfl (by rfl) ?_; try walk_nrm) | (refine opI_k rfl (by rfl) (fun w₁ hR K hK => ?_); skip; go_simp; refine hK _ (fun e he => ?_) ?_; (first | done | ((rw [listed_nil (by simp [go_sem, *])] at he; simp at he))); (try clear hc₁); (clear hK K hR; clear w₁); (try walk_nrm)))
      refine wpI_loop (fun m γ' a' w' => ∃ (κ : Nat) (kz : Int) (vo : Value) (u1 u6 u7 u8 u9 u10 u11 u12 u16 u17 u18 u19 u23 u24 u25 u26 u27 u28 u29 u30 u31 u32 u33 u34 u35 : Value), a' = ⟨#[.slice p xs.length c, u1, .slice none 0 0, .int .i64 A, vo, .int .i64 k, u6, u7, u8, u9, u10, u11, u12, .slice p xs.length c, .int .i64 xs.length, .int .i64 k, u16, u17, u18, u19, .slice (some ⟨b, 0, none⟩) xs.length cc, .int .i64 xs.length, .int .i64 kz, u23, u24, u25, u26, u27, u28, u29, u30, u31, u32, u33, u34, u35], []⟩ ∧ κ ≤ xs.length ∧ m = xs.length - κ ∧ kz = κ ∧ (∃ b l c, vo = .slice (some ⟨b, 0, none⟩) l c) ∧ (∀ a, ¬ γ'.Cs a) ∧ γ'.F b ∧ vo.ownBlock ≠ some b ∧ (∀ r, r < xs.length → w'.cell? ⟨b, r, none⟩ = some (.int .i64 (f r))) ∧ AccV γ w γ' w' 3 vo ((certL (cntW xs) A xs.length k ++ certR f A k κ).map fun z => .int .i64 z)) xs.length
        ⟨0, _, _, _, _, _, _, _, _, _, _, _, _, _, _, _, _, _, _, _, _, _, _, _, _, _, _, _, rfl, Nat.zero_le _, rfl, rfl, hvf, hCs2, hF, hne, hcell, hV2'⟩ ?_
      clear hV2' hvf hCs2 hF hne hcell
      clear vo γ2 w2
      rintro m γ' a' w' ⟨κ, kz, vo, u1, u6, u7, u8, u9, u10, u11, u12, u16, u17, u18, u19, u23, u24, u25, u26, u27, u28, u29, u30, u31, u32, u33, u34, u35, rfl, hκ, rfl, rfl, hvf, hCs', hF, hne, hcell, hV⟩
      repeat (first | ((first | refine wpI_seq ?_ | refine wpI_block ?_ | refine wpI_skip ?_ | refine wpI_label ?_ | refine wpI_ret ?_ | refine wpI_exit ?_ | refine opI_nil ?_); try simp only [thenI, blkI, if_true, if_false, reduceIte, Nat.reduceEqDiff]) | (refine wpI_region ?_; simp only [List.size_toArray, List.length_cons, List.length_nil, Nat.reduceAdd, Nat.zero_add, List.range, List.range.loop]) | (refine opI_unwanted rfl (by rfl) ?_; try walk_nrm) | (refine opI_k rfl (by rfl) (fun w₁ hR K hK => ?_); skip; go_simp; refine hK _ (fun e he => ?_) ?_; (first | done | ((rw [listed_nil (by simp [go_sem, *])] at he; simp at he))); (try clear hc₁); (clear hK K hR; clear w₁); (try walk_nrm)))
      by_cases hlt' : κ < xs.length
      · refine wpI_cond rfl ?_
        simp only [hlt', decide_true, if_true]
        have hκ0 : (0 : Int) ≤ (κ : Int) := by omega
        have hκi : (κ : Int) < (xs.length : Int) := by omega
        have hck := hcell κ hlt'
        have e22 : Hd (IntKind.i64.wrap ((κ : Int) + 1) = ((κ + 1 : Nat) : Int)) := ⟨by have := h5'.out; rw [IntKind.wrap_i64]; omega⟩
        have hln : Hd ((certL (cntW xs) A xs.length k ++ certR f A k κ).length ≤ 1000) := ⟨by
          have h1 := certL_length (cntW xs) A xs.length k
          have h2 := certR_length f A k κ
          have h3 : k * xs.length ≤ 5 * 5 := Nat.mul_le_mul (by have := h5'.out; omega) h5'.out
          have := h5'.out
          rw [List.length_append]
          omega⟩
        repeat (first | ((first | refine wpI_seq ?_ | refine wpI_block ?_ | refine wpI_skip ?_ | refine wpI_label ?_ | refine wpI_ret ?_ | refine wpI_exit ?_ | refine opI_nil ?_); try simp only [thenI, blkI, if_true, if_false, reduceIte, Nat.reduceEqDiff]) | (refine wpI_region ?_; simp only [List.size_toArray, List.length_cons, List.length_nil, Nat.reduceAdd, Nat.zero_add, List.range, List.range.loop]) | (refine opI_unwanted rfl (by rfl) ?_; try walk_nrm) | (refine opI_k rfl (by rfl) (fun w₁ hR K hK => ?_); skip; go_simp; refine hK _ (fun e he => ?_) ?_; (first | done | ((rw [listed_nil (by simp [go_sem, *])] at he; simp at he))); (try clear hc₁); (clear hK K hR; clear w₁); (try walk_nrm)))
        (refine opI_k rfl (by rfl) (fun w₁ hR K hK => ?_); have hc₁ := hR.get hF hck; go_simp; refine hK _ (fun e he => ?_) ?_; (first | done | ((have hm := mem_listed he; simp [go_sem, *] at hm; subst hm; exact Ev.read hF))); (try clear hc₁); (clear hK K hR; clear w₁); (try walk_nrm))
        repeat (first | ((first | refine wpI_seq ?_ | refine wpI_block ?_ | refine wpI_skip ?_ | refine wpI_label ?_ | refine wpI_ret ?_ | refine wpI_exit ?_ | refine opI_nil ?_); try simp only [thenI, blkI, if_true, if_false, reduceIte, Nat.reduceEqDiff]) | (refine wpI_region ?_; simp only [List.size_toArray, List.length_cons, List.length_nil, Nat.reduceAdd, Nat.zero_add, List.range, List.range.loop]) | (refine opI_unwanted rfl (by rfl) ?_; try walk_nrm) | (refine opI_k rfl (by rfl) (fun w₁ hR K hK => ?_); skip; go_simp; refine hK _ (fun e he => ?_) ?_; (first | done | ((rw [listed_nil (by simp [go_sem, *])] at he; simp at he))); (try clear hc₁); (clear hK K hR; clear w₁); (try walk_nrm)))
        by_cases hm : f κ = A
        · have ea : Hd (certR f A k (κ + 1) = certR f A k κ ++ [(k : Int)]) := ⟨by rw [certR, if_pos hm]⟩
          refine wpI_cond (t := true) (by simp [Act.eval, hm]) ?_
          clear hm
          simp only [if_true]
          repeat (first | ((first | refine wpI_seq ?_ | refine wpI_block ?_ | refine wpI_skip ?_ | refine wpI_label ?_ | refine wpI_ret ?_ | refine wpI_exit ?_ | refine opI_nil ?_); try simp only [thenI, blkI, if_true, if_false, reduceIte, Nat.reduceEqDiff]) | (refine wpI_region ?_; simp only [List.size_toArray, List.length_cons, List.length_nil, Nat.reduceAdd, Nat.zero_add, List.range, List.range.loop]) | (refine opI_unwanted rfl (by rfl) ?_; try walk_nrm) | (refine opI_k rfl (by rfl) (fun w₁ hR K hK => ?_); skip; go_simp; refine hK _ (fun e he => ?_) ?_; (first | done | ((rw [listed_nil (by simp [go_sem, *])] at he; simp at he))); (try clear hc₁); (clear hK K hR; clear w₁); (try walk_nrm)))
          (refine opI_new (v := fun n => .slice (some ⟨n, 0, none⟩) 1 1) (ob := .cells #[.int .i64 k] 3) rfl (by rfl) (fun w₁ hR => ⟨run_eq_of (fun K hK => (by go_simp; exact hK)), fun e he => (by exfalso; have hm := mem_listed he; simp [go_sem, *] at hm)⟩) fun w₁ hR => ?_)
          have hE4 := Ext.new' (w₁ := w₁) hV.lies hR (.cells #[.int .i64 k] 3)
          have hL4 := Lies.new (hV.lies.rely hR) (.cells #[.int .i64 k] 3)
          have hA4 := hV.mono hE4 hL4
          have hcell4 : ∀ r, r < xs.length → (w₁.alloc (.cells #[.int .i64 k] 3)).cell? ⟨b, r, none⟩ = some (.int .i64 (f r)) := fun r h => (cell_of (a := ⟨b, r, none⟩) (hE4.rl.blk b hF)).trans (hcell r h)
          have hCs4 : ∀ a, ¬ (γ'.new w₁.heap.size).Cs a := hCs'
          have hF4 : (γ'.new w₁.heap.size).F b := .inl hF
          have hFn : (γ'.new w₁.heap.size).F w₁.heap.size := .inr rfl
          have hcn : (w₁.alloc (.cells #[.int .i64 k] 3)).cell? ⟨w₁.heap.size, 0, none⟩ = some (.int .i64 k) := by unfold World.cell?; rw [alloc_new]; rfl
          clear hcell hck hV hR hE4 hL4 hCs' hF
          generalize w₁.heap.size = nb at hFn hcn hA4 hCs4 hF4 ⊢
          generalize γ'.new nb = γ4 at hA4 hCs4 hF4 hFn ⊢
          generalize w₁.alloc (.cells #[.int .i64 k] 3) = w4 at hA4 hcell4 hcn ⊢
          clear w₁
          try walk_nrm
          repeat (first | ((first | refine wpI_seq ?_ | refine wpI_block ?_ | refine wpI_skip ?_ | refine wpI_label ?_ | refine wpI_ret ?_ | refine wpI_exit ?_ | refine opI_nil ?_); try simp only [thenI, blkI, if_true, if_false, reduceIte, Nat.reduceEqDiff]) | (refine wpI_region ?_; simp only [List.size_toArray, List.length_cons, List.length_nil, Nat.reduceAdd, Nat.zero_add, List.range, List.range.loop]) | (refine opI_unwanted rfl (by rfl) ?_; try walk_nrm) | (refine opI_k rfl (by rfl) (fun w₁ hR K hK => ?_); skip; go_simp; refine hK _ (fun e he => ?_) ?_; (first | done | ((rw [listed_nil (by simp [go_sem, *])] at he; simp at he))); (try clear hc₁); (clear hK K hR; clear w₁); (try walk_nrm)))
          refine opI_accN hA4 hL rfl (by rfl) (.tmp 29) (.tmp 31) 30 rfl (by kernel_rfl) i0 (.int .i64 0) 8 hi hz0 hz1 hz2 rfl rfl ⟨nb, 0, none⟩ 1 1 rfl hFn [.int .i64 k] rfl (fun j u hj => ?_) (fun u hu => ?_) (by have := hln.out; rw [List.length_map]; omega) (by decide) ?_
          · cases j with
            | zero => obtain rfl : Value.int .i64 k = u := by simpa using hj
                      rw [Addr.add_lit]; exact hcn
            | succ j => simp at hj
          · obtain rfl : u = Value.int .i64 k := by simpa using hu
            rfl
          intro γ5 vo5 w5 hA5 hCs5 hx5
          obtain ⟨q1, _, q2, q3⟩ := hx5 b hF4 hne
          have hA6 : AccV γ w γ5 w5 3 vo5 ((certL (cntW xs) A xs.length k ++ certR f A k (κ + 1)).map fun z => .int .i64 z) := by
            rw [ea.out, ← List.append_assoc, List.map_append]; exact hA5
          have hvf5 : ∃ b l c, vo5 = .slice (some ⟨b, 0, none⟩) l c := by
            obtain ⟨b, c, h, _⟩ := hA5.cell (.inl (by simp))
            exact ⟨b, _, c, h⟩
          have hCs6 : ∀ a, ¬ γ5.Cs a := by rw [hCs5]; exact hCs4
          have hcell5 : ∀ r, r < xs.length → w5.cell? ⟨b, r, none⟩ = some (.int .i64 (f r)) := fun r h => (cell_of (a := ⟨b, r, none⟩) q2).trans (hcell4 r h)
          clear hA5 hCs5 hx5 hA4 hcell4 hcn hCs4 hF4 hFn
          try walk_nrm
          repeat (first | ((first | refine wpI_seq ?_ | refine wpI_block ?_ | refine wpI_skip ?_ | refine wpI_label ?_ | refine wpI_ret ?_ | refine wpI_exit ?_ | refine opI_nil ?_); try simp only [thenI, blkI, if_true, if_false, reduceIte, Nat.reduceEqDiff]) | (refine wpI_region ?_; simp only [List.size_toArray, List.length_cons, List.length_nil, Nat.reduceAdd, Nat.zero_add, List.range, List.range.loop]) | (refine opI_unwanted rfl (by rfl) ?_; try walk_nrm) | (refine opI_k rfl (by rfl) (fun w₁ hR K hK => ?_); skip; go_simp; refine hK _ (fun e he => ?_) ?_; (first | done | ((rw [listed_nil (by simp [go_sem, *])] at he; simp at he))); (try clear hc₁); (clear hK K hR; clear w₁); (try walk_nrm)))
          exact ⟨xs.length - (κ + 1), by omega, κ + 1, _, _, _, _, _, _, _, _, _, _, _, _, _, _, _, _, _, _, _, _, _, _, _, _, _, _, _, rfl, by omega, rfl, e22.out, hvf5, hCs6, q1, q3, hcell5, hA6⟩
        · have ea : Hd (certR f A k (κ + 1) = certR f A k κ) := ⟨by rw [certR, if_neg hm, List.append_nil]⟩
          refine wpI_cond (t := false) (by simp [Act.eval, hm]) ?_
          clear hm
          simp only [if_false, Bool.false_eq_true]
          repeat (first | ((first | refine wpI_seq ?_ | refine wpI_block ?_ | refine wpI_skip ?_ | refine wpI_label ?_ | refine wpI_ret ?_ | refine wpI_exit ?_ | refine opI_nil ?_); try simp only [thenI, blkI, if_true, if_false, reduceIte, Nat.reduceEqDiff]) | (refine wpI_region ?_; simp only [List.size_toArray, List.length_cons, List.length_nil, Nat.reduceAdd, Nat.zero_add, List.range, List.range.loop]) | (refine opI_unwanted rfl (by rfl) ?_; try walk_nrm) | (refine opI_k rfl (by rfl) (fun w₁ hR K hK => ?_); skip; go_simp; refine hK _ (fun e he => ?_) ?_; (first | done | ((rw [listed_nil (by simp [go_sem, *])] at he; simp at he))); (try clear hc₁); (clear hK K hR; clear w₁); (try walk_nrm)))
          exact ⟨xs.length - (κ + 1), by omega, κ + 1, _, _, _, _, _, _, _, _, _, _, _, _, _, _, _, _, _, _, _, _, _, _, _, _, _, _, _, rfl, by omega, rfl, e22.out, hvf, hCs', hF, hne, hcell, by rw [ea.out]; exact hV⟩
      · refine wpI_cond rfl ?_
        simp only [hlt', decide_false, if_false, Bool.false_eq_true]
        obtain rfl : κ = xs.length := by omega
        have hV3 : AccV γ w γ' w' 3 vo ((certL (cntW xs) A xs.length (k + 1)).map fun z => .int .i64 z) := by rw [certL, ← hf.out]; exact hV
        clear hV hcell hF hne
        repeat (first | ((first | refine wpI_seq ?_ | refine wpI_block ?_ | refine wpI_skip ?_ | refine wpI_label ?_ | refine wpI_ret ?_ | refine wpI_exit ?_ | refine opI_nil ?_); try simp only [thenI, blkI, if_true, if_false, reduceIte, Nat.reduceEqDiff]) | (refine wpI_region ?_; simp only [List.size_toArray, List.length_cons, List.length_nil, Nat.reduceAdd, Nat.zero_add, List.range, List.range.loop]) | (refine opI_unwanted rfl (by rfl) ?_; try walk_nrm) | (refine opI_k rfl (by rfl) (fun w₁ hR K hK => ?_); skip; go_simp; refine hK _ (fun e he => ?_) ?_; (first | done | ((rw [listed_nil (by simp [go_sem, *])] at he; simp at he))); (try clear hc₁); (clear hK K hR; clear w₁); (try walk_nrm)))
        exact ⟨xs.length - (k + 1), by omega, k + 1, _, _, _, _, _, _, _, _, _, _, _, _, _, _, _, _, _, _, _, _, _, _, _, _, _, _, _, _, _, _, _, rfl, by omega, rfl, e15.out, hvf, hCs', hV3⟩
    · refine wpI_cond rfl ?_
      simp only [hlt, decide_false, if_false, Bool.false_eq_true]
      obtain rfl : k = xs.length := by omega
      have hfin : CertP γ w xs γ' vo w' := by
        have := hV.rowN hvf
        rw [CertP, hc.out]
        exact ⟨hV.ext, hV.lies, hCs', this⟩
      clear hV
      repeat (first | ((first | refine wpI_seq ?_ | refine wpI_block ?_ | refine wpI_skip ?_ | refine wpI_label ?_ | refine wpI_ret ?_ | refine wpI_exit ?_ | refine opI_nil ?_); try simp only [thenI, blkI, if_true, if_false, reduceIte, Nat.reduceEqDiff]) | (refine wpI_region ?_; simp only [List.size_toArray, List.length_cons, List.length_nil, Nat.reduceAdd, Nat.zero_add, List.range, List.range.loop]) | (refine opI_unwanted rfl (by rfl) ?_; try walk_nrm) | (refine opI_k rfl (by rfl) (fun w₁ hR K hK => ?_); skip; go_simp; refine hK _ (fun e he => ?_) ?_; (first | done | ((rw [listed_nil (by simp [go_sem, *])] at he; simp at he))); (try clear hc₁); (clear hK K hR; clear w₁); (try walk_nrm)))
      refine ⟨rfl, _, resultsC_tmp rfl _, ?_⟩
      exact hfin
  · have hle : decide (cntV xs ≤ 0) = true := by simp; omega
    have hfin : CertP γ w xs γ (.slice none 0 0) w := by
      have e : certV xs = [] := by rw [certV, if_neg h]
      rw [CertP, e]
      exact ⟨Ext.refl _ _, hL, hCs, ⟨none, 0, rfl, fun i x hi => by simp at hi⟩, ⟨none, 0, rfl, fun i hi => absurd hi (Nat.not_lt_zero i)⟩⟩
    clear h
    repeat (first | ((first | refine wpI_seq ?_ | refine wpI_block ?_ | refine wpI_skip ?_ | refine wpI_label ?_ | refine wpI_ret ?_ | refine wpI_exit ?_ | refine opI_nil ?_); try simp only [thenI, blkI, if_true, if_false, reduceIte, Nat.reduceEqDiff]) | (refine wpI_region ?_; simp only [List.size_toArray, List.length_cons, List.length_nil, Nat.reduceAdd, Nat.zero_add, List.range, List.range.loop]) | (refine opI_unwanted rfl (by rfl) ?_; try walk_nrm) | (refine opI_k rfl (by rfl) (fun w₁ hR K hK => ?_); skip; go_simp; refine hK _ (fun e he => ?_) ?_; (first | done | ((rw [listed_nil (by simp [go_sem, *])] at he; simp at he))); (try clear hc₁); (clear hK K hR; clear w₁); (try walk_nrm)))
    (refine wpI_cond (t := true) rfl ?_; simp only [if_true, if_false, Bool.false_eq_true, reduceIte])
    repeat (first | ((first | refine wpI_seq ?_ | refine wpI_block ?_ | refine wpI_skip ?_ | refine wpI_label ?_ | refine wpI_ret ?_ | refine wpI_exit ?_ | refine opI_nil ?_); try simp only [thenI, blkI, if_true, if_false, reduceIte, Nat.reduceEqDiff]) | (refine wpI_region ?_; simp only [List.size_toArray, List.length_cons, List.length_nil, Nat.reduceAdd, Nat.zero_add, List.range, List.range.loop]) | (refine opI_unwanted rfl (by rfl) ?_; try walk_nrm) | (refine opI_k rfl (by rfl) (fun w₁ hR K hK => ?_); skip; go_simp; refine hK _ (fun e he => ?_) ?_; (first | done | ((rw [listed_nil (by simp [go_sem, *])] at he; simp at he))); (try clear hc₁); (clear hK K hR; clear w₁); (try walk_nrm)))
    refine ⟨rfl, _, resultsC_tmp rfl _, ?_⟩
    exact hfin
end Go.Proofs.Ytndfookgkkefnaa
