/- Walks in company: tables that are drawn. -/
import Derived.Test.YtndfookgkkefnaaBQ2
namespace Go.Proofs.Ytndfookgkkefnaa
set_option linter.unusedSimpArgs false
set_option linter.unusedVariables false
set_option linter.unusedSectionVars false
open Go Go.Conc Go.RowKit
theorem RowI.more {γ : Gh} {w : World} {rd : Nat} {v : Value} {bs : List Bool} (h : RowI (γ.less rd) w v bs) : RowI γ w v bs := by
  rcases h with h | ⟨b, o, c, rfl, hb, hx⟩
  · exact .inl h
  · exact .inr ⟨b, o, c, rfl, hb.1, hx⟩
theorem TabV.more {γ : Gh} {w : World} {rd : Nat} {v : Value} {xs : List (List Bool)} (h : TabV (γ.less rd) w v xs) : TabV γ w v xs := by
  rcases h with h | ⟨b, o, c, rfl, hb, hx⟩
  · exact .inl h
  · exact .inr ⟨b, o, c, rfl, hb.1, fun i bs hi => let ⟨u, hu, hr⟩ := hx i bs hi; ⟨u, hu, hr.more⟩⟩
section
variable {γ₀ γ γ' : Gh} {w₀ w w' w₁ : World} {rd L p : Nat} {cv vo : Value} {rows : List (List Bool)}
theorem AccT.parts (h : AccT γ₀ w₀ γ w vo rows) (h0 : rows ≠ []) : ∃ g c, vo = .slice (some ⟨g, 0, none⟩) rows.length c ∧ rows.length ≤ c ∧ γ.F g ∧ γ.W g ∧ w₀.heap.size ≤ g ∧ (∀ i, w.frozen? ⟨g, i, none⟩ = false) ∧
    ∀ (i : Nat) (bs : List Bool), rows[i]? = some bs → ∃ u b, w.cell? ⟨g, i, none⟩ = some u ∧ RowB γ w b u bs ∧ b ≠ g := by
  obtain ⟨vals, ho, hr⟩ := h.own
  have hpos := List.length_pos_iff.2 h0
  rcases id ho.2 with ⟨_, e⟩ | ⟨g, cap, cur, rfl, hg, _, hcap, _⟩
  · omega
  · refine ⟨g, cap, rfl, hcap, (h.blk g rfl).2, (h.blk g rfl).1, hg, fz_own ho, fun i bs hi => ?_⟩
    obtain ⟨u, b, hu, hb, hne⟩ := hr i bs hi
    refine ⟨u, b, ?_, hb, fun e => hne (by rw [e]; rfl)⟩
    have := ho.cells (g := g) rfl i u hu
    rwa [Addr.add_lit, Nat.zero_add] at this
theorem AccT.at_ {g n c : Nat} (h : AccT γ₀ w₀ γ w (.slice (some ⟨g, 0, none⟩) n c) rows) (h0 : rows ≠ []) : n = rows.length ∧ rows.length ≤ c ∧ γ.F g ∧ γ.W g ∧ w₀.heap.size ≤ g ∧ (∀ i, w.frozen? ⟨g, i, none⟩ = false) ∧
    ∀ (i : Nat) (bs : List Bool), rows[i]? = some bs → ∃ u b, w.cell? ⟨g, i, none⟩ = some u ∧ RowB γ w b u bs ∧ b ≠ g := by
  obtain ⟨g', c', e, h1, h2⟩ := h.parts h0
  simp only [Value.slice.injEq, Option.some.injEq, Addr.mk.injEq] at e
  obtain ⟨⟨rfl, _⟩, rfl, rfl⟩ := e
  exact ⟨rfl, h1, h2⟩
/-- an empty table, while a reader is used -/
theorem AccT.start_l (hG : Rdg γ₀ w₀ γ w rd cv L p) (hL₀ : Lies γ₀ w₀) (hR : Rl γ w w₁) : AccT γ₀ w₀ ((γ.new w₁.heap.size).less rd) (w₁.alloc (.cells #[] 28)) (.slice (some ⟨w₁.heap.size, 0, none⟩) 0 0) [] := by
  have hE := Ext.new' hG.lies hR (.cells #[] 28)
  have hsz : w₀.heap.size ≤ w₁.heap.size := Nat.le_trans hG.ext.rl.size hR.size
  refine ⟨hG.ext.trans hE.less_less, (Lies.new (hG.lies.rely hR) _).less, fun b hb => ?_, [], ⟨rfl, .inr ⟨w₁.heap.size, 0, #[], rfl, hsz, alloc_new _ _, Nat.le_refl _, by simp [maxLen], by simp, rfl⟩⟩, fun i bs hi => by simp at hi⟩
  obtain rfl : w₁.heap.size = b := by simpa [Value.ownBlock] using hb
  have hne : w₁.heap.size ≠ rd := by have := hG.lies.F rd hG.F; have := hR.size; omega
  exact ⟨⟨.inr rfl, hne⟩, ⟨.inr rfl, hne⟩⟩
/-- cut short -/
theorem tab_take {g c m : Nat} (hF : γ.F g) (hx : ∀ (i : Nat) (bs : List Bool), rows[i]? = some bs → ∃ u b, w.cell? ⟨g, i, none⟩ = some u ∧ RowB γ w b u bs ∧ b ≠ g) (hm : m ≤ rows.length) :
    TabV γ w (.slice (some ⟨g, 0, none⟩) m c) (rows.take m) := by
  refine .inr ⟨g, 0, c, by rw [List.length_take, Nat.min_eq_left hm], hF, fun i bs hi => ?_⟩
  have hi' : rows[i]? = some bs := by
    rw [List.getElem?_take] at hi
    split at hi
    · exact hi
    · cases hi
  obtain ⟨u, b, hu, hr, _⟩ := hx i bs hi'
  exact ⟨u, by rw [Nat.zero_add]; exact hu, hr.row⟩
/-- a row put in another's place -/
theorem tab_set {g c j nb : Nat} {bs' : List Bool} {u0 : Value} (hF : γ.F g) (hx : ∀ (i : Nat) (bs : List Bool), rows[i]? = some bs → ∃ u b, w.cell? ⟨g, i, none⟩ = some u ∧ RowB γ w b u bs ∧ b ≠ g)
    (hnb : RowB γ w nb u0 bs') (hne : nb ≠ g) :
    TabV γ (w.setCell ⟨g, j, none⟩ u0) (.slice (some ⟨g, 0, none⟩) rows.length c) (rows.set j bs') := by
  refine .inr ⟨g, 0, c, by rw [List.length_set], hF, fun i bs hi => ?_⟩
  rw [Nat.zero_add]
  have hil : i < rows.length := by have := (List.getElem?_eq_some_iff.1 hi).1; rwa [List.length_set] at this
  obtain ⟨u, b, hu, hr, hb⟩ := hx i rows[i] (List.getElem?_eq_getElem hil)
  by_cases e : j = i
  · subst e
    obtain rfl : bs' = bs := by rw [List.getElem?_set_self hil] at hi; exact Option.some.inj hi
    refine ⟨u0, set_same hu u0, ?_⟩
    obtain ⟨_, _, q1, q2, _⟩ := id hnb
    exact (hnb.ext q1 q2 (set_other (show nb ≠ g from hne) u0)).row
  · rw [List.getElem?_set_ne e, List.getElem?_eq_getElem hil] at hi
    obtain rfl := Option.some.inj hi
    refine ⟨u, by rw [set_ne' (by simp [Ne.symm e])]; exact hu, ?_⟩
    obtain ⟨_, _, q1, q2, _⟩ := id hr
    exact (hr.ext q1 q2 (set_other (show b ≠ g from hb) u0)).row
end
/-- a drawn table -/
def Drawn (γ₀ : Gh) (w₀ : World) (rd : Nat) (cv : Value) (L : Nat) (γ' : Gh) (u : Value) (w' : World) : Prop :=
  ∃ p, p ≤ 1000 ∧ Rdg γ₀ w₀ γ' w' rd cv L p ∧ ∃ xs, TabV (γ'.less rd) w' u xs ∧ xs.length ≤ 1000 ∧ ∀ bs ∈ xs, bs.length ≤ 1000
set_option maxHeartbeats 8000000 in
set_option maxRecDepth 100000 in
theorem allowed_c (main : Bool) (X : Pha) (γ₀ γ : Gh) (w₀ w : World) (rd L : Nat) (cv : Value) (hL₀ : Lies γ₀ w₀) (hG : Rdg γ₀ w₀ γ w rd cv L 0) :
    CallsI Try.prog main X 30 #[.pointer (some ⟨rd, 0, none⟩)] γ w (Drawn γ₀ w₀ rd cv L) := by
  obtain ⟨i1, hi1, hb0, hb1, hb2⟩ := info_parts infoBool
  (refine callsI_of Try.func30 (by rfl) rfl ?_; simp only [Try.ntmps30, List.size_toArray, List.length_cons, List.length_nil, Nat.reduceAdd, Nat.reduceSub, Array.replicate_succ, Array.replicate_zero, List.push_toArray, List.append_toArray, List.nil_append, List.cons_append])
  repeat (first | ((first | refine wpI_seq ?_ | refine wpI_block ?_ | refine wpI_skip ?_ | refine wpI_label ?_ | refine wpI_ret ?_ | refine wpI_exit ?_ | refine opI_nil ?_); try simp only [thenI, blkI, if_true, if_false, reduceIte, Nat.reduceEqDiff]) | (refine wpI_region ?_; simp only [List.size_toArray, List.length_cons, List.length_nil, Nat.reduceAdd, Nat.zero_add, List.range, List.range.loop]) | (refine opI_unwanted rfl (by rfl) ?_; try walk_nrm) | (refine opI_k rfl (by rfl) (fun w₁ hR K hK => ?_); skip; go_simp; refine hK _ (fun e he => ?_) ?_; (first | done | ((rw [listed_nil (by simp [go_sem, *])] at he; simp at he))); (try clear hc₁); (clear hK K hR; clear w₁); (try walk_nrm)))
  refine opI_call rfl (by rfl) rfl (by
    have h := pickI_c main X γ w rd cv L 0 5 hG.at_ (by omega)
    walk_nrm
    exact h) ?_
  rintro γx ux wx ⟨hγ, hw, z, rfl, hz0, hz1, hz2⟩
  rw [hγ, hw]
  clear hγ hw hz2
  clear γx wx
  replace hG := hG.poke
  generalize w.setCell _ _ = w1 at hG ⊢
  clear w
  obtain ⟨N, hN, hN1, hN5⟩ : ∃ N : Nat, Hd ((N : Int) = 1 + z) ∧ 1 ≤ N ∧ N ≤ 5 := ⟨(1 + z).toNat, ⟨by omega⟩, by omega, by have := hz1 (by omega); omega⟩
  have hNw : IntKind.i64.wrap (1 + z) = (N : Int) := by rw [wrap_in (by have := hN.out; omega) (by have := hN.out; omega)]; exact hN.out.symm
  clear hz0 hz1
  try walk_nrm
  repeat (first | ((first | refine wpI_seq ?_ | refine wpI_block ?_ | refine wpI_skip ?_ | refine wpI_label ?_ | refine wpI_ret ?_ | refine wpI_exit ?_ | refine opI_nil ?_); try simp only [thenI, blkI, if_true, if_false, reduceIte, Nat.reduceEqDiff]) | (refine wpI_region ?_; simp only [List.size_toArray, List.length_cons, List.length_nil, Nat.reduceAdd, Nat.zero_add, List.range, List.range.loop]) | (refine opI_unwanted rfl (by rfl) ?_; try walk_nrm) | (refine opI_k rfl (by rfl) (fun w₁ hR K hK => ?_); skip; go_simp; refine hK _ (fun e he => ?_) ?_; (first | done | ((rw [listed_nil (by simp [go_sem, *])] at he; simp at he))); (try clear hc₁); (clear hK K hR; clear w₁); (try walk_nrm)))
  clear hNw hN
  (refine opI_new (v := fun n => .slice (some ⟨n, 0, none⟩) 0 0) (ob := .cells #[] 28) rfl (by rfl) (fun w₁ hR => ⟨run_eq_of (fun K hK => (by go_simp; exact hK)), fun e he => (by exfalso; have hm := mem_listed he; simp [go_sem, *] at hm)⟩) fun w₁ hR => ?_)
  have hA := AccT.start_l hG hL₀ hR
  replace hG := hG.go (Ext.new' hG.lies hR (.cells #[] 28)) (Lies.new (hG.lies.rely hR) _)
  clear hR
  generalize Value.slice (some ⟨w₁.heap.size, 0, none⟩) 0 0 = vo at hA ⊢
  generalize γ.new w₁.heap.size = γ1 at hG hA ⊢
  generalize w₁.alloc (.cells #[] 28) = w2 at hG hA ⊢
  clear w₁ w1
  try walk_nrm
  repeat (first | ((first | refine wpI_seq ?_ | refine wpI_block ?_ | refine wpI_skip ?_ | refine wpI_label ?_ | refine wpI_ret ?_ | refine wpI_exit ?_ | refine opI_nil ?_); try simp only [thenI, blkI, if_true, if_false, reduceIte, Nat.reduceEqDiff]) | (refine wpI_region ?_; simp only [List.size_toArray, List.length_cons, List.length_nil, Nat.reduceAdd, Nat.zero_add, List.range, List.range.loop]) | (refine opI_unwanted rfl (by rfl) ?_; try walk_nrm) | (refine opI_k rfl (by rfl) (fun w₁ hR K hK => ?_); skip; go_simp; refine hK _ (fun e he => ?_) ?_; (first | done | ((rw [listed_nil (by simp [go_sem, *])] at he; simp at he))); (try clear hc₁); (clear hK K hR; clear w₁); (try walk_nrm)))
  refine wpI_loop (fun m γ' a' w' => ∃ (k p : Nat) (kz : Int) (vo : Value) (rows : List (List Bool)) (u1 u6 u7 u8 u9 u10 u11 u12 u13 u14 u15 u16 u17 u18 u19 u20 u21 u22 u23 u24 u25 u26 u27 u28 u29 u30 u31 u32 u33 u34 u35 u36 u37 u38 u39 u40 u41 u42 u43 u44 u45 u46 u47 u48 u49 u50 u51 u52 u53 u54 u55 u56 u57 u58 u59 u60 : Value), a' = ⟨#[.pointer (some ⟨rd, 0, none⟩), u1, .slice none 0 0, .int .i64 N, vo, .int .i64 kz, u6, u7, u8, u9, u10, u11, u12, u13, u14, u15, u16, u17, u18, u19, u20, u21, u22, u23, u24, u25, u26, u27, u28, u29, u30, u31, u32, u33, u34, u35, u36, u37, u38, u39, u40, u41, u42, u43, u44, u45, u46, u47, u48, u49, u50, u51, u52, u53, u54, u55, u56, u57, u58, u59, u60], []⟩ ∧ k ≤ N ∧ m = N - k ∧ kz = k ∧ rows.length = k ∧ (∀ bs ∈ rows, bs.length ≤ 5) ∧ p ≤ 1 + 10 * k ∧ Rdg γ₀ w₀ γ' w' rd cv L p ∧ AccT γ₀ w₀ (γ'.less rd) w' vo rows) N
    ⟨0, 1, _, _, [], _, _, _, _, _, _, _, _, _, _, _, _, _, _, _, _, _, _, _, _, _, _, _, _, _, _, _, _, _, _, _, _, _, _, _, _, _, _, _, _, _, _, _, _, _, _, _, _, _, _, _, _, _, _, _, _, rfl, Nat.zero_le _, rfl, rfl, rfl, by simp, by omega, hG, hA⟩ ?_
  clear hG hA
  clear vo γ1 w2
  rintro m γo a' wo ⟨k, p, kz, vo, rows, u1, u6, u7, u8, u9, u10, u11, u12, u13, u14, u15, u16, u17, u18, u19, u20, u21, u22, u23, u24, u25, u26, u27, u28, u29, u30, u31, u32, u33, u34, u35, u36, u37, u38, u39, u40, u41, u42, u43, u44, u45, u46, u47, u48, u49, u50, u51, u52, u53, u54, u55, u56, u57, u58, u59, u60, rfl, hk, rfl, rfl, hrl0, hrows0, hp, hG, hA⟩
  have hrl := Hd.mk hrl0
  have hrows := Hd.mk hrows0
  clear hrl0 hrows0
  repeat (first | ((first | refine wpI_seq ?_ | refine wpI_block ?_ | refine wpI_skip ?_ | refine wpI_label ?_ | refine wpI_ret ?_ | refine wpI_exit ?_ | refine opI_nil ?_); try simp only [thenI, blkI, if_true, if_false, reduceIte, Nat.reduceEqDiff]) | (refine wpI_region ?_; simp only [List.size_toArray, List.length_cons, List.length_nil, Nat.reduceAdd, Nat.zero_add, List.range, List.range.loop]) | (refine opI_unwanted rfl (by rfl) ?_; try walk_nrm) | (refine opI_k rfl (by rfl) (fun w₁ hR K hK => ?_); skip; go_simp; refine hK _ (fun e he => ?_) ?_; (first | done | ((rw [listed_nil (by simp [go_sem, *])] at he; simp at he))); (try clear hc₁); (clear hK K hR; clear w₁); (try walk_nrm)))
  by_cases hlt : k < N
  · refine wpI_cond (t := true) (by simp [Act.eval, hlt]) ?_
    simp only [if_true]
    have e5 : Hd (IntKind.i64.wrap ((k : Int) + 1) = ((k + 1 : Nat) : Int)) := ⟨by rw [IntKind.wrap_i64]; omega⟩
    have hX := hG.ext
    have hLo := hG.lies.less (rd := rd)
    repeat (first | ((first | refine wpI_seq ?_ | refine wpI_block ?_ | refine wpI_skip ?_ | refine wpI_label ?_ | refine wpI_ret ?_ | refine wpI_exit ?_ | refine opI_nil ?_); try simp only [thenI, blkI, if_true, if_false, reduceIte, Nat.reduceEqDiff]) | (refine wpI_region ?_; simp only [List.size_toArray, List.length_cons, List.length_nil, Nat.reduceAdd, Nat.zero_add, List.range, List.range.loop]) | (refine opI_unwanted rfl (by rfl) ?_; try walk_nrm) | (refine opI_k rfl (by rfl) (fun w₁ hR K hK => ?_); skip; go_simp; refine hK _ (fun e he => ?_) ?_; (first | done | ((rw [listed_nil (by simp [go_sem, *])] at he; simp at he))); (try clear hc₁); (clear hK K hR; clear w₁); (try walk_nrm)))
    (refine opI_new (v := fun n => .slice (some ⟨n, 0, none⟩) 0 0) (ob := .cells #[] 4) rfl (by rfl) (fun w₁ hR => ⟨run_eq_of (fun K hK => (by go_simp; exact hK)), fun e he => (by exfalso; have hm := mem_listed he; simp [go_sem, *] at hm)⟩) fun w₁ hR => ?_)
    have hV0 := AccV.start_l hG.lies (hG.lies.F rd hG.F) hR 4
    have hV : AccV (γo.less rd) wo ((γo.new w₁.heap.size).less rd) (w₁.alloc (.cells #[] 4)) 4 (.slice (some ⟨w₁.heap.size, 0, none⟩) 0 0) (([] : List Bool).map .bool) := hV0
    have hG1 := hG.go (Ext.new' hG.lies hR (.cells #[] 4)) (Lies.new (hG.lies.rely hR) _)
    clear hR hV0
    generalize Value.slice (some ⟨w₁.heap.size, 0, none⟩) 0 0 = vr at hV ⊢
    generalize γo.new w₁.heap.size = γ1 at hG1 hV ⊢
    generalize w₁.alloc (.cells #[] 4) = w2 at hG1 hV ⊢
    clear w₁
    try walk_nrm
    repeat (first | ((first | refine wpI_seq ?_ | refine wpI_block ?_ | refine wpI_skip ?_ | refine wpI_label ?_ | refine wpI_ret ?_ | refine wpI_exit ?_ | refine opI_nil ?_); try simp only [thenI, blkI, if_true, if_false, reduceIte, Nat.reduceEqDiff]) | (refine wpI_region ?_; simp only [List.size_toArray, List.length_cons, List.length_nil, Nat.reduceAdd, Nat.zero_add, List.range, List.range.loop]) | (refine opI_unwanted rfl (by rfl) ?_; try walk_nrm) | (refine opI_k rfl (by rfl) (fun w₁ hR K hK => ?_); skip; go_simp; refine hK _ (fun e he => ?_) ?_; (first | done | ((rw [listed_nil (by simp [go_sem, *])] at he; simp at he))); (try clear hc₁); (clear hK K hR; clear w₁); (try walk_nrm)))
    refine wpI_loop (fun m γ' a' w' => ∃ (κ p' : Nat) (kz : Int) (vr : Value) (bs : List Bool) (u1 u8 u9 u10 u11 u12 u13 u14 u15 u16 u17 u18 u19 u20 u21 u22 u23 u24 u25 u26 u27 u28 u29 u30 u31 u32 u33 u34 u35 u36 u37 u38 u39 u40 u41 u42 u43 u44 u45 u46 u47 u48 u49 u50 u51 u52 u53 u54 u55 u56 u57 u58 u59 u60 : Value), a' = ⟨#[.pointer (some ⟨rd, 0, none⟩), u1, .slice none 0 0, .int .i64 N, vo, .int .i64 k, vr, .int .i64 kz, u8, u9, u10, u11, u12, u13, u14, u15, u16, u17, u18, u19, u20, u21, u22, u23, u24, u25, u26, u27, u28, u29, u30, u31, u32, u33, u34, u35, u36, u37, u38, u39, u40, u41, u42, u43, u44, u45, u46, u47, u48, u49, u50, u51, u52, u53, u54, u55, u56, u57, u58, u59, u60], []⟩ ∧ κ ≤ N ∧ m = N - κ ∧ kz = κ ∧ bs.length = κ ∧ p' ≤ 1 + 10 * k + 2 * κ ∧ Rdg γ₀ w₀ γ' w' rd cv L p' ∧ AccV (γo.less rd) wo (γ'.less rd) w' 4 vr (bs.map .bool)) N
      ⟨0, p, _, _, [], _, _, _, _, _, _, _, _, _, _, _, _, _, _, _, _, _, _, _, _, _, _, _, _, _, _, _, _, _, _, _, _, _, _, _, _, _, _, _, _, _, _, _, _, _, _, _, _, _, _, _, _, _, _, rfl, Nat.zero_le _, rfl, rfl, rfl, by omega, hG1, hV⟩ ?_
    clear hG1 hV hG
    clear vr γ1 w2
    rintro m γi a' wi ⟨κ, p', kz, vr, bs, u1, u8, u9, u10, u11, u12, u13, u14, u15, u16, u17, u18, u19, u20, u21, u22, u23, u24, u25, u26, u27, u28, u29, u30, u31, u32, u33, u34, u35, u36, u37, u38, u39, u40, u41, u42, u43, u44, u45, u46, u47, u48, u49, u50, u51, u52, u53, u54, u55, u56, u57, u58, u59, u60, rfl, hκ, rfl, rfl, hbl0, hp', hG, hV⟩
    have hbl := Hd.mk hbl0
    have hb5 : bs.length ≤ 5 := by omega
    clear hbl0
    repeat (first | ((first | refine wpI_seq ?_ | refine wpI_block ?_ | refine wpI_skip ?_ | refine wpI_label ?_ | refine wpI_ret ?_ | refine wpI_exit ?_ | refine opI_nil ?_); try simp only [thenI, blkI, if_true, if_false, reduceIte, Nat.reduceEqDiff]) | (refine wpI_region ?_; simp only [List.size_toArray, List.length_cons, List.length_nil, Nat.reduceAdd, Nat.zero_add, List.range, List.range.loop]) | (refine opI_unwanted rfl (by rfl) ?_; try walk_nrm) | (refine opI_k rfl (by rfl) (fun w₁ hR K hK => ?_); skip; go_simp; refine hK _ (fun e he => ?_) ?_; (first | done | ((rw [listed_nil (by simp [go_sem, *])] at he; simp at he))); (try clear hc₁); (clear hK K hR; clear w₁); (try walk_nrm)))
    by_cases hlt' : κ < N
    · refine wpI_cond (t := true) (by simp [Act.eval, hlt']) ?_
      simp only [if_true]
      have e7 : Hd (IntKind.i64.wrap ((κ : Int) + 1) = ((κ + 1 : Nat) : Int)) := ⟨by rw [IntKind.wrap_i64]; omega⟩
      repeat (first | ((first | refine wpI_seq ?_ | refine wpI_block ?_ | refine wpI_skip ?_ | refine wpI_label ?_ | refine wpI_ret ?_ | refine wpI_exit ?_ | refine opI_nil ?_); try simp only [thenI, blkI, if_true, if_false, reduceIte, Nat.reduceEqDiff]) | (refine wpI_region ?_; simp only [List.size_toArray, List.length_cons, List.length_nil, Nat.reduceAdd, Nat.zero_add, List.range, List.range.loop]) | (refine opI_unwanted rfl (by rfl) ?_; try walk_nrm) | (refine opI_k rfl (by rfl) (fun w₁ hR K hK => ?_); skip; go_simp; refine hK _ (fun e he => ?_) ?_; (first | done | ((rw [listed_nil (by simp [go_sem, *])] at he; simp at he))); (try clear hc₁); (clear hK K hR; clear w₁); (try walk_nrm)))
      refine opI_call rfl (by rfl) rfl (by
        have h := pickI_c main X γi wi rd cv L p' 3 hG.at_ (by omega)
        walk_nrm
        exact h) ?_
      rintro γx ux wx ⟨hγ, hw, z1, rfl, hz0, h1, hz2⟩
      rw [hγ, hw]
      clear hγ hw hz2
      clear γx wx
      have hpk := Ext.poke hG.lies hG.F (.int .i64 ((p' : Int) + 1))
      replace hG := hG.poke
      replace hV := hV.mono hpk hG.lies.less
      clear hpk
      generalize wi.setCell _ _ = w3 at hG hV ⊢
      clear wi
      try walk_nrm
      by_cases hz1 : 0 < z1
      · clear h1 hz0
        repeat (first | ((first | refine wpI_seq ?_ | refine wpI_block ?_ | refine wpI_skip ?_ | refine wpI_label ?_ | refine wpI_ret ?_ | refine wpI_exit ?_ | refine opI_nil ?_); try simp only [thenI, blkI, if_true, if_false, reduceIte, Nat.reduceEqDiff]) | (refine wpI_region ?_; simp only [List.size_toArray, List.length_cons, List.length_nil, Nat.reduceAdd, Nat.zero_add, List.range, List.range.loop]) | (refine opI_unwanted rfl (by rfl) ?_; try walk_nrm) | (refine opI_k rfl (by rfl) (fun w₁ hR K hK => ?_); skip; go_simp; refine hK _ (fun e he => ?_) ?_; (first | done | ((rw [listed_nil (by simp [go_sem, *])] at he; simp at he))); (try clear hc₁); (clear hK K hR; clear w₁); (try walk_nrm)))
        (refine opI_new (v := fun n => .slice (some ⟨n, 0, none⟩) 1 1) (ob := .cells #[.bool true] 4) rfl (by rfl) (fun w₁ hR => ⟨run_eq_of (fun K hK => (by go_simp; exact hK)), fun e he => (by exfalso; have hm := mem_listed he; simp [go_sem, *] at hm)⟩) fun w₁ hR => ?_)
        have hE := Ext.new' (w₁ := w₁) hG.lies hR (.cells #[.bool true] 4)
        have hLn := Lies.new (hG.lies.rely hR) (.cells #[.bool true] 4)
        replace hG := hG.go hE hLn
        replace hV := hV.mono hE.less_less hLn.less
        have hFn : (γi.new w₁.heap.size).F w₁.heap.size := .inr rfl
        have hcn : (w₁.alloc (.cells #[.bool true] 4)).cell? ⟨w₁.heap.size, 0, none⟩ = some (.bool true) := by unfold World.cell?; rw [alloc_new]; rfl
        clear hR hE hLn
        generalize w₁.heap.size = nb at hFn hcn hG hV ⊢
        generalize γi.new nb = γ5 at hG hV hFn ⊢
        generalize w₁.alloc (.cells #[.bool true] 4) = w5 at hG hV hcn ⊢
        clear w₁
        try walk_nrm
        repeat (first | ((first | refine wpI_seq ?_ | refine wpI_block ?_ | refine wpI_skip ?_ | refine wpI_label ?_ | refine wpI_ret ?_ | refine wpI_exit ?_ | refine opI_nil ?_); try simp only [thenI, blkI, if_true, if_false, reduceIte, Nat.reduceEqDiff]) | (refine wpI_region ?_; simp only [List.size_toArray, List.length_cons, List.length_nil, Nat.reduceAdd, Nat.zero_add, List.range, List.range.loop]) | (refine opI_unwanted rfl (by rfl) ?_; try walk_nrm) | (refine opI_k rfl (by rfl) (fun w₁ hR K hK => ?_); skip; go_simp; refine hK _ (fun e he => ?_) ?_; (first | done | ((rw [listed_nil (by simp [go_sem, *])] at he; simp at he))); (try clear hc₁); (clear hK K hR; clear w₁); (try walk_nrm)))
        refine opI_accV_l hV hLo hG.lies hG.F rfl (by rfl) (.tmp 23) (.tmp 37) 28 rfl (by kernel_rfl) i1 (.bool false) 1 hi1 hb0 hb1 hb2 rfl rfl ⟨nb, 0, none⟩ 1 1 rfl hFn [.bool true] rfl (fun j u hj => ?_) (fun u hu => ?_) (by rw [List.length_map]; omega) (by decide) ?_
        · cases j with
          | zero => obtain rfl : Value.bool true = u := by simpa using hj
                    rw [Addr.add_lit]; exact hcn
          | succ j => simp at hj
        · obtain rfl : u = Value.bool true := by simpa using hu
          rfl
        intro γ6 vr6 w6 hV6 hL6 hF6 hW6 hx6
        have hG6 := hG.app (hF6 rd hG.F) (hW6 rd hG.W) (hx6 rd hG.F (fun e => (hV.blk rd e).2.2 rfl)).1 hL6 (hX.trans hV6.ext)
        have hV7 : AccV (γo.less rd) wo (γ6.less rd) w6 4 vr6 ((bs ++ [true]).map .bool) := by rw [List.map_append]; exact hV6
        clear hV6 hx6 hF6 hW6 hV hG hcn hFn hL6
        try walk_nrm
        repeat (first | ((first | refine wpI_seq ?_ | refine wpI_block ?_ | refine wpI_skip ?_ | refine wpI_label ?_ | refine wpI_ret ?_ | refine wpI_exit ?_ | refine opI_nil ?_); try simp only [thenI, blkI, if_true, if_false, reduceIte, Nat.reduceEqDiff]) | (refine wpI_region ?_; simp only [List.size_toArray, List.length_cons, List.length_nil, Nat.reduceAdd, Nat.zero_add, List.range, List.range.loop]) | (refine opI_unwanted rfl (by rfl) ?_; try walk_nrm) | (refine opI_k rfl (by rfl) (fun w₁ hR K hK => ?_); skip; go_simp; refine hK _ (fun e he => ?_) ?_; (first | done | ((rw [listed_nil (by simp [go_sem, *])] at he; simp at he))); (try clear hc₁); (clear hK K hR; clear w₁); (try walk_nrm)))
        exact ⟨N - (κ + 1), by omega, κ + 1, _, _, _, _, _, _, _, _, _, _, _, _, _, _, _, _, _, _, _, _, _, _, _, _, _, _, _, _, _, _, _, _, _, _, _, _, _, _, _, _, _, _, _, _, _, _, _, _, _, _, _, _, _, _, _, _, _, _, rfl, by omega, rfl, e7.out, by rw [List.length_append, hbl.out]; rfl, by omega, hG6, hV7⟩
      · clear h1 hz0
        by_cases he : k = κ
        · have he' : ((k : Int) == (κ : Int)) = true := by simp [he]
          clear he
          repeat (first | ((first | refine wpI_seq ?_ | refine wpI_block ?_ | refine wpI_skip ?_ | refine wpI_label ?_ | refine wpI_ret ?_ | refine wpI_exit ?_ | refine opI_nil ?_); try simp only [thenI, blkI, if_true, if_false, reduceIte, Nat.reduceEqDiff]) | (refine wpI_region ?_; simp only [List.size_toArray, List.length_cons, List.length_nil, Nat.reduceAdd, Nat.zero_add, List.range, List.range.loop]) | (refine opI_unwanted rfl (by rfl) ?_; try walk_nrm) | (refine opI_k rfl (by rfl) (fun w₁ hR K hK => ?_); skip; go_simp; refine hK _ (fun e he => ?_) ?_; (first | done | ((rw [listed_nil (by simp [go_sem, *])] at he; simp at he))); (try clear hc₁); (clear hK K hR; clear w₁); (try walk_nrm)))
          obtain ⟨q, hq, hGq⟩ : ∃ q, q ≤ p' + 1 ∧ Rdg γ₀ w₀ γi w3 rd cv L q := ⟨_, Nat.le_refl _, hG⟩
          replace hG := hGq
          clear hGq
          refine opI_call rfl (by rfl) rfl (by
            have h := pickI_c main X γi w3 rd cv L q 4 hG.at_ (by omega)
            walk_nrm
            exact h) ?_
          rintro γx ux wx ⟨hγ, hw, z2, rfl, hz0, h2, hz2⟩
          rw [hγ, hw]
          clear hγ hw hz2
          clear γx wx
          have hpk := Ext.poke hG.lies hG.F (.int .i64 ((q : Int) + 1))
          replace hG := hG.poke
          replace hV := hV.mono hpk hG.lies.less
          clear hpk h2 hz0
          generalize w3.setCell _ _ = w4 at hG hV ⊢
          clear w3
          try walk_nrm
          repeat (first | ((first | refine wpI_seq ?_ | refine wpI_block ?_ | refine wpI_skip ?_ | refine wpI_label ?_ | refine wpI_ret ?_ | refine wpI_exit ?_ | refine opI_nil ?_); try simp only [thenI, blkI, if_true, if_false, reduceIte, Nat.reduceEqDiff]) | (refine wpI_region ?_; simp only [List.size_toArray, List.length_cons, List.length_nil, Nat.reduceAdd, Nat.zero_add, List.range, List.range.loop]) | (refine opI_unwanted rfl (by rfl) ?_; try walk_nrm) | (refine opI_k rfl (by rfl) (fun w₁ hR K hK => ?_); skip; go_simp; refine hK _ (fun e he => ?_) ?_; (first | done | ((rw [listed_nil (by simp [go_sem, *])] at he; simp at he))); (try clear hc₁); (clear hK K hR; clear w₁); (try walk_nrm)))
          obtain ⟨x, hx⟩ : ∃ x : Bool, Hd (x = decide (0 < z2)) := ⟨_, ⟨rfl⟩⟩
          rw [← hx.out]
          (refine opI_new (v := fun n => .slice (some ⟨n, 0, none⟩) 1 1) (ob := .cells #[.bool x] 4) rfl (by rfl) (fun w₁ hR => ⟨run_eq_of (fun K hK => (by go_simp; exact hK)), fun e he => (by exfalso; have hm := mem_listed he; simp [go_sem, *] at hm)⟩) fun w₁ hR => ?_)
          have hE := Ext.new' (w₁ := w₁) hG.lies hR (.cells #[.bool x] 4)
          have hLn := Lies.new (hG.lies.rely hR) (.cells #[.bool x] 4)
          replace hG := hG.go hE hLn
          replace hV := hV.mono hE.less_less hLn.less
          have hFn : (γi.new w₁.heap.size).F w₁.heap.size := .inr rfl
          have hcn : (w₁.alloc (.cells #[.bool x] 4)).cell? ⟨w₁.heap.size, 0, none⟩ = some (.bool x) := by unfold World.cell?; rw [alloc_new]; rfl
          clear hR hE hLn
          generalize w₁.heap.size = nb at hFn hcn hG hV ⊢
          generalize γi.new nb = γ5 at hG hV hFn ⊢
          generalize w₁.alloc (.cells #[.bool x] 4) = w5 at hG hV hcn ⊢
          clear w₁
          try walk_nrm
          repeat (first | ((first | refine wpI_seq ?_ | refine wpI_block ?_ | refine wpI_skip ?_ | refine wpI_label ?_ | refine wpI_ret ?_ | refine wpI_exit ?_ | refine opI_nil ?_); try simp only [thenI, blkI, if_true, if_false, reduceIte, Nat.reduceEqDiff]) | (refine wpI_region ?_; simp only [List.size_toArray, List.length_cons, List.length_nil, Nat.reduceAdd, Nat.zero_add, List.range, List.range.loop]) | (refine opI_unwanted rfl (by rfl) ?_; try walk_nrm) | (refine opI_k rfl (by rfl) (fun w₁ hR K hK => ?_); skip; go_simp; refine hK _ (fun e he => ?_) ?_; (first | done | ((rw [listed_nil (by simp [go_sem, *])] at he; simp at he))); (try clear hc₁); (clear hK K hR; clear w₁); (try walk_nrm)))
          refine opI_accV_l hV hLo hG.lies hG.F rfl (by rfl) (.tmp 23) (.tmp 37) 28 rfl (by kernel_rfl) i1 (.bool false) 1 hi1 hb0 hb1 hb2 rfl rfl ⟨nb, 0, none⟩ 1 1 rfl hFn [.bool x] rfl (fun j u hj => ?_) (fun u hu => ?_) (by rw [List.length_map]; omega) (by decide) ?_
          · cases j with
            | zero => obtain rfl : Value.bool x = u := by simpa using hj
                      rw [Addr.add_lit]; exact hcn
            | succ j => simp at hj
          · obtain rfl : u = Value.bool x := by simpa using hu
            rfl
          intro γ6 vr6 w6 hV6 hL6 hF6 hW6 hx6
          have hG6 := hG.app (hF6 rd hG.F) (hW6 rd hG.W) (hx6 rd hG.F (fun e => (hV.blk rd e).2.2 rfl)).1 hL6 (hX.trans hV6.ext)
          have hV7 : AccV (γo.less rd) wo (γ6.less rd) w6 4 vr6 ((bs ++ [x]).map .bool) := by rw [List.map_append]; exact hV6
          clear hV6 hx6 hF6 hW6 hV hG hcn hFn hL6
          try walk_nrm
          repeat (first | ((first | refine wpI_seq ?_ | refine wpI_block ?_ | refine wpI_skip ?_ | refine wpI_label ?_ | refine wpI_ret ?_ | refine wpI_exit ?_ | refine opI_nil ?_); try simp only [thenI, blkI, if_true, if_false, reduceIte, Nat.reduceEqDiff]) | (refine wpI_region ?_; simp only [List.size_toArray, List.length_cons, List.length_nil, Nat.reduceAdd, Nat.zero_add, List.range, List.range.loop]) | (refine opI_unwanted rfl (by rfl) ?_; try walk_nrm) | (refine opI_k rfl (by rfl) (fun w₁ hR K hK => ?_); skip; go_simp; refine hK _ (fun e he => ?_) ?_; (first | done | ((rw [listed_nil (by simp [go_sem, *])] at he; simp at he))); (try clear hc₁); (clear hK K hR; clear w₁); (try walk_nrm)))
          exact ⟨N - (κ + 1), by omega, κ + 1, _, _, _, _, _, _, _, _, _, _, _, _, _, _, _, _, _, _, _, _, _, _, _, _, _, _, _, _, _, _, _, _, _, _, _, _, _, _, _, _, _, _, _, _, _, _, _, _, _, _, _, _, _, _, _, _, _, _, rfl, by omega, rfl, e7.out, by rw [List.length_append, hbl.out]; rfl, by omega, hG6, hV7⟩
        · have he' : ((k : Int) == (κ : Int)) = false := by simp; omega
          clear he
          repeat (first | ((first | refine wpI_seq ?_ | refine wpI_block ?_ | refine wpI_skip ?_ | refine wpI_label ?_ | refine wpI_ret ?_ | refine wpI_exit ?_ | refine opI_nil ?_); try simp only [thenI, blkI, if_true, if_false, reduceIte, Nat.reduceEqDiff]) | (refine wpI_region ?_; simp only [List.size_toArray, List.length_cons, List.length_nil, Nat.reduceAdd, Nat.zero_add, List.range, List.range.loop]) | (refine opI_unwanted rfl (by rfl) ?_; try walk_nrm) | (refine opI_k rfl (by rfl) (fun w₁ hR K hK => ?_); skip; go_simp; refine hK _ (fun e he => ?_) ?_; (first | done | ((rw [listed_nil (by simp [go_sem, *])] at he; simp at he))); (try clear hc₁); (clear hK K hR; clear w₁); (try walk_nrm)))
          (refine opI_new (v := fun n => .slice (some ⟨n, 0, none⟩) 1 1) (ob := .cells #[.bool false] 4) rfl (by rfl) (fun w₁ hR => ⟨run_eq_of (fun K hK => (by go_simp; exact hK)), fun e he => (by exfalso; have hm := mem_listed he; simp [go_sem, *] at hm)⟩) fun w₁ hR => ?_)
          have hE := Ext.new' (w₁ := w₁) hG.lies hR (.cells #[.bool false] 4)
          have hLn := Lies.new (hG.lies.rely hR) (.cells #[.bool false] 4)
          replace hG := hG.go hE hLn
          replace hV := hV.mono hE.less_less hLn.less
          have hFn : (γi.new w₁.heap.size).F w₁.heap.size := .inr rfl
          have hcn : (w₁.alloc (.cells #[.bool false] 4)).cell? ⟨w₁.heap.size, 0, none⟩ = some (.bool false) := by unfold World.cell?; rw [alloc_new]; rfl
          clear hR hE hLn
          generalize w₁.heap.size = nb at hFn hcn hG hV ⊢
          generalize γi.new nb = γ5 at hG hV hFn ⊢
          generalize w₁.alloc (.cells #[.bool false] 4) = w5 at hG hV hcn ⊢
          clear w₁
          try walk_nrm
          repeat (first | ((first | refine wpI_seq ?_ | refine wpI_block ?_ | refine wpI_skip ?_ | refine wpI_label ?_ | refine wpI_ret ?_ | refine wpI_exit ?_ | refine opI_nil ?_); try simp only [thenI, blkI, if_true, if_false, reduceIte, Nat.reduceEqDiff]) | (refine wpI_region ?_; simp only [List.size_toArray, List.length_cons, List.length_nil, Nat.reduceAdd, Nat.zero_add, List.range, List.range.loop]) | (refine opI_unwanted rfl (by rfl) ?_; try walk_nrm) | (refine opI_k rfl (by rfl) (fun w₁ hR K hK => ?_); skip; go_simp; refine hK _ (fun e he => ?_) ?_; (first | done | ((rw [listed_nil (by simp [go_sem, *])] at he; simp at he))); (try clear hc₁); (clear hK K hR; clear w₁); (try walk_nrm)))
          refine opI_accV_l hV hLo hG.lies hG.F rfl (by rfl) (.tmp 23) (.tmp 37) 28 rfl (by kernel_rfl) i1 (.bool false) 1 hi1 hb0 hb1 hb2 rfl rfl ⟨nb, 0, none⟩ 1 1 rfl hFn [.bool false] rfl (fun j u hj => ?_) (fun u hu => ?_) (by rw [List.length_map]; omega) (by decide) ?_
          · cases j with
            | zero => obtain rfl : Value.bool false = u := by simpa using hj
                      rw [Addr.add_lit]; exact hcn
            | succ j => simp at hj
          · obtain rfl : u = Value.bool false := by simpa using hu
            rfl
          intro γ6 vr6 w6 hV6 hL6 hF6 hW6 hx6
          have hG6 := hG.app (hF6 rd hG.F) (hW6 rd hG.W) (hx6 rd hG.F (fun e => (hV.blk rd e).2.2 rfl)).1 hL6 (hX.trans hV6.ext)
          have hV7 : AccV (γo.less rd) wo (γ6.less rd) w6 4 vr6 ((bs ++ [false]).map .bool) := by rw [List.map_append]; exact hV6
          clear hV6 hx6 hF6 hW6 hV hG hcn hFn hL6
          try walk_nrm
          repeat (first | ((first | refine wpI_seq ?_ | refine wpI_block ?_ | refine wpI_skip ?_ | refine wpI_label ?_ | refine wpI_ret ?_ | refine wpI_exit ?_ | refine opI_nil ?_); try simp only [thenI, blkI, if_true, if_false, reduceIte, Nat.reduceEqDiff]) | (refine wpI_region ?_; simp only [List.size_toArray, List.length_cons, List.length_nil, Nat.reduceAdd, Nat.zero_add, List.range, List.range.loop]) | (refine opI_unwanted rfl (by rfl) ?_; try walk_nrm) | (refine opI_k rfl (by rfl) (fun w₁ hR K hK => ?_); skip; go_simp; refine hK _ (fun e he => ?_) ?_; (first | done | ((rw [listed_nil (by simp [go_sem, *])] at he; simp at he))); (try clear hc₁); (clear hK K hR; clear w₁); (try walk_nrm)))
          exact ⟨N - (κ + 1), by omega, κ + 1, _, _, _, _, _, _, _, _, _, _, _, _, _, _, _, _, _, _, _, _, _, _, _, _, _, _, _, _, _, _, _, _, _, _, _, _, _, _, _, _, _, _, _, _, _, _, _, _, _, _, _, _, _, _, _, _, _, _, rfl, by omega, rfl, e7.out, by rw [List.length_append, hbl.out]; rfl, by omega, hG6, hV7⟩
    · refine wpI_cond (t := false) (by simp [Act.eval]; omega) ?_
      simp only [if_false, Bool.false_eq_true]
      obtain rfl : N = κ := by omega
      have hne0 : bs.map Value.bool ≠ [] := fun e => by have h1 := congrArg List.length e; have := hbl.out; rw [List.length_map] at h1; simp at h1; rw [h1] at this; simp at this; omega
      obtain ⟨rb, rc, hvr, hrF, hrW, hrge, hrz, hrc⟩ := hV.cell (.inl hne0)
      rw [List.length_map] at hvr
      subst hvr
      have hrow : RowB (γi.less rd) wi rb (.slice (some ⟨rb, 0, none⟩) bs.length rc) bs := ⟨rc, rfl, hrF, hrW, fun i x hi => hrc i (.bool x) (by rw [List.getElem?_map, hi]; rfl)⟩
      have hA2 := hA.mono hV.ext hV.lies
      have hne : vo.ownBlock ≠ some rb := fun e => by have := hA.lies.F rb (hA.blk rb e).2; omega
      clear hA hV hrc hrz hne0 hlt' hLo hX
      repeat (first | ((first | refine wpI_seq ?_ | refine wpI_block ?_ | refine wpI_skip ?_ | refine wpI_label ?_ | refine wpI_ret ?_ | refine wpI_exit ?_ | refine opI_nil ?_); try simp only [thenI, blkI, if_true, if_false, reduceIte, Nat.reduceEqDiff]) | (refine wpI_region ?_; simp only [List.size_toArray, List.length_cons, List.length_nil, Nat.reduceAdd, Nat.zero_add, List.range, List.range.loop]) | (refine opI_unwanted rfl (by rfl) ?_; try walk_nrm) | (refine opI_k rfl (by rfl) (fun w₁ hR K hK => ?_); skip; go_simp; refine hK _ (fun e he => ?_) ?_; (first | done | ((rw [listed_nil (by simp [go_sem, *])] at he; simp at he))); (try clear hc₁); (clear hK K hR; clear w₁); (try walk_nrm)))
      (refine opI_new (v := fun n => .slice (some ⟨n, 0, none⟩) 1 1) (ob := .cells #[.slice (some ⟨rb, 0, none⟩) bs.length rc] 28) rfl (by rfl) (fun w₁ hR => ⟨run_eq_of (fun K hK => (by go_simp; exact hK)), fun e he => (by exfalso; have hm := mem_listed he; simp [go_sem, *] at hm)⟩) fun w₁ hR => ?_)
      have hE := Ext.new' (w₁ := w₁) hG.lies hR (.cells #[.slice (some ⟨rb, 0, none⟩) bs.length rc] 28)
      have hLn := Lies.new (hG.lies.rely hR) (.cells #[.slice (some ⟨rb, 0, none⟩) bs.length rc] 28)
      replace hG := hG.go hE hLn
      replace hA2 := hA2.mono hE.less_less hLn.less
      have hrow2 := hrow.ext (hE.less_less.F rb hrF) (hE.less_less.W rb hrW) (hE.rl.blk rb hrF.1)
      have hFn : (γi.new w₁.heap.size).F w₁.heap.size := .inr rfl
      have hcn : (w₁.alloc (.cells #[.slice (some ⟨rb, 0, none⟩) bs.length rc] 28)).cell? ⟨w₁.heap.size, 0, none⟩ = some (.slice (some ⟨rb, 0, none⟩) bs.length rc) := by unfold World.cell?; rw [alloc_new]; rfl
      clear hR hE hLn hrow hrF hrW
      generalize w₁.heap.size = nb at hFn hcn hG hA2 hrow2 ⊢
      generalize γi.new nb = γ5 at hG hA2 hFn hrow2 ⊢
      generalize w₁.alloc (.cells #[.slice (some ⟨rb, 0, none⟩) bs.length rc] 28) = w5 at hG hA2 hcn hrow2 ⊢
      clear w₁
      try walk_nrm
      repeat (first | ((first | refine wpI_seq ?_ | refine wpI_block ?_ | refine wpI_skip ?_ | refine wpI_label ?_ | refine wpI_ret ?_ | refine wpI_exit ?_ | refine opI_nil ?_); try simp only [thenI, blkI, if_true, if_false, reduceIte, Nat.reduceEqDiff]) | (refine wpI_region ?_; simp only [List.size_toArray, List.length_cons, List.length_nil, Nat.reduceAdd, Nat.zero_add, List.range, List.range.loop]) | (refine opI_unwanted rfl (by rfl) ?_; try walk_nrm) | (refine opI_k rfl (by rfl) (fun w₁ hR K hK => ?_); skip; go_simp; refine hK _ (fun e he => ?_) ?_; (first | done | ((rw [listed_nil (by simp [go_sem, *])] at he; simp at he))); (try clear hc₁); (clear hK K hR; clear w₁); (try walk_nrm)))
      refine opI_accT_l hA2 hL₀ hG.lies hG.F rfl (by rfl) (.tmp 39) (.tmp 41) rfl (by kernel_rfl) rfl nb 1 rfl hFn _ hcn bs rb hrow2 hne (by have := hrl.out; omega) ?_
      intro γ6 v6 w6 hA6 hL6 hF6 hW6 hx6
      have hG6 := hG.app (hF6 rd hG.F) (hW6 rd hG.W) (hx6 rd hG.F (fun e => (hA2.blk rd e).2.2 rfl)).1 hL6 hA6.ext
      have hrows6 : ∀ b' ∈ rows ++ [bs], b'.length ≤ 5 := fun b' h => by
        rcases List.mem_append.1 h with h | h
        · exact hrows.out b' h
        · simp at h; subst h; exact hb5
      clear hx6 hF6 hW6 hA2 hG hcn hFn hrow2 hL6
      try walk_nrm
      repeat (first | ((first | refine wpI_seq ?_ | refine wpI_block ?_ | refine wpI_skip ?_ | refine wpI_label ?_ | refine wpI_ret ?_ | refine wpI_exit ?_ | refine opI_nil ?_); try simp only [thenI, blkI, if_true, if_false, reduceIte, Nat.reduceEqDiff]) | (refine wpI_region ?_; simp only [List.size_toArray, List.length_cons, List.length_nil, Nat.reduceAdd, Nat.zero_add, List.range, List.range.loop]) | (refine opI_unwanted rfl (by rfl) ?_; try walk_nrm) | (refine opI_k rfl (by rfl) (fun w₁ hR K hK => ?_); skip; go_simp; refine hK _ (fun e he => ?_) ?_; (first | done | ((rw [listed_nil (by simp [go_sem, *])] at he; simp at he))); (try clear hc₁); (clear hK K hR; clear w₁); (try walk_nrm)))
      exact ⟨N - (k + 1), by omega, k + 1, p', _, _, rows ++ [bs], _, _, _, _, _, _, _, _, _, _, _, _, _, _, _, _, _, _, _, _, _, _, _, _, _, _, _, _, _, _, _, _, _, _, _, _, _, _, _, _, _, _, _, _, _, _, _, _, _, _, _, _, _, _, _, _, rfl, by omega, rfl, e5.out, by rw [List.length_append, hrl.out]; rfl, hrows6, by omega, hG6, hA6⟩
  · refine wpI_cond (t := false) (by simp [Act.eval]; omega) ?_
    simp only [if_false, Bool.false_eq_true]
    obtain rfl : N = k := by omega
    have hne0 : rows ≠ [] := fun e => by have := hrl.out; rw [e] at this; simp at this; omega
    obtain ⟨g, gc, hvo, hpt⟩ := hA.parts hne0
    rw [hrl.out] at hvo
    clear hpt
    subst hvo
    have hp51 : p ≤ 51 := by omega
    clear hp hlt hk
    repeat (first | ((first | refine wpI_seq ?_ | refine wpI_block ?_ | refine wpI_skip ?_ | refine wpI_label ?_ | refine wpI_ret ?_ | refine wpI_exit ?_ | refine opI_nil ?_); try simp only [thenI, blkI, if_true, if_false, reduceIte, Nat.reduceEqDiff]) | (refine wpI_region ?_; simp only [List.size_toArray, List.length_cons, List.length_nil, Nat.reduceAdd, Nat.zero_add, List.range, List.range.loop]) | (refine opI_unwanted rfl (by rfl) ?_; try walk_nrm) | (refine opI_k rfl (by rfl) (fun w₁ hR K hK => ?_); skip; go_simp; refine hK _ (fun e he => ?_) ?_; (first | done | ((rw [listed_nil (by simp [go_sem, *])] at he; simp at he))); (try clear hc₁); (clear hK K hR; clear w₁); (try walk_nrm)))
    refine opI_call rfl (by rfl) rfl (by
      have h := pickI_c main X γo wo rd cv L p 20 hG.at_ (by omega)
      walk_nrm
      exact h) ?_
    rintro γx ux wx ⟨hγ, hw, z, rfl, hz0, h1, hz2⟩
    rw [hγ, hw]
    clear hγ hw hz2
    clear γx wx
    have hpk := Ext.poke hG.lies hG.F (.int .i64 ((p : Int) + 1))
    replace hG := hG.poke
    replace hA := hA.mono hpk hG.lies.less
    clear hpk h1
    obtain ⟨q, hq, hGq⟩ : ∃ q, q ≤ p + 1 ∧ Rdg γ₀ w₀ γo (wo.setCell ⟨rd, 1, none⟩ (.int .i64 ((p : Int) + 1))) rd cv L q := ⟨_, Nat.le_refl _, hG⟩
    replace hG := hGq
    clear hGq
    generalize wo.setCell _ _ = w3 at hG hA ⊢
    clear wo
    try walk_nrm
    by_cases hz0' : z = 0
    · subst hz0'
      clear hz0
      obtain ⟨i0, hi0, _⟩ := info_parts infoRow
      repeat (first | ((first | refine wpI_seq ?_ | refine wpI_block ?_ | refine wpI_skip ?_ | refine wpI_label ?_ | refine wpI_ret ?_ | refine wpI_exit ?_ | refine opI_nil ?_); try simp only [thenI, blkI, if_true, if_false, reduceIte, Nat.reduceEqDiff]) | (refine wpI_region ?_; simp only [List.size_toArray, List.length_cons, List.length_nil, Nat.reduceAdd, Nat.zero_add, List.range, List.range.loop]) | (refine opI_unwanted rfl (by rfl) ?_; try walk_nrm) | (refine opI_k rfl (by rfl) (fun w₁ hR K hK => ?_); skip; go_simp; refine hK _ (fun e he => ?_) ?_; (first | done | ((rw [listed_nil (by simp [go_sem, *])] at he; simp at he))); (try clear hc₁); (clear hK K hR; clear w₁); (try walk_nrm)))
      (refine wpI_cond (t := true) rfl ?_; simp only [if_true, if_false, Bool.false_eq_true, reduceIte])
      repeat (first | ((first | refine wpI_seq ?_ | refine wpI_block ?_ | refine wpI_skip ?_ | refine wpI_label ?_ | refine wpI_ret ?_ | refine wpI_exit ?_ | refine opI_nil ?_); try simp only [thenI, blkI, if_true, if_false, reduceIte, Nat.reduceEqDiff]) | (refine wpI_region ?_; simp only [List.size_toArray, List.length_cons, List.length_nil, Nat.reduceAdd, Nat.zero_add, List.range, List.range.loop]) | (refine opI_unwanted rfl (by rfl) ?_; try walk_nrm) | (refine opI_k rfl (by rfl) (fun w₁ hR K hK => ?_); skip; go_simp; refine hK _ (fun e he => ?_) ?_; (first | done | ((rw [listed_nil (by simp [go_sem, *])] at he; simp at he))); (try clear hc₁); (clear hK K hR; clear w₁); (try walk_nrm)))
      refine opI_call rfl (by rfl) rfl (by
        have h := pickI_c main X γo w3 rd cv L q (N : Int) hG.at_ (by omega)
        walk_nrm
        exact h) ?_
      rintro γx ux wx ⟨hγ, hw, z2, rfl, hz0, h2, hz2⟩
      rw [hγ, hw]
      clear hγ hw hz2
      clear γx wx
      have hpk := Ext.poke hG.lies hG.F (.int .i64 ((q : Int) + 1))
      replace hG := hG.poke
      replace hA := hA.mono hpk hG.lies.less
      have hz2N := h2 (by omega)
      clear hpk h2
      generalize w3.setCell _ _ = w4 at hG hA ⊢
      clear w3
      obtain ⟨m, rfl⟩ : ∃ m : Nat, z2 = m := ⟨z2.toNat, by omega⟩
      obtain ⟨-, hgc, hgF, -, -, -, hgx⟩ := hA.at_ hne0
      have hfin : Drawn γ₀ w₀ rd cv L γo (.slice (some ⟨g, 0, none⟩) m gc) w4 := ⟨_, by omega, hG, _, tab_take hgF hgx (by have := hrl.out; omega), by rw [List.length_take]; have := hrl.out; omega, fun bs h => by have := hrows.out bs (List.mem_of_mem_take h); omega⟩
      have hc1 : (m : Int) ≤ (gc : Int) := by have := hrl.out; omega
      have hc2 : m ≤ gc := by omega
      have hc3 : ¬ gc = 0 := by have := hrl.out; omega
      have hev := fun w => ev_slice (P := Try.prog) w 23 Try.underlying23 i0 hi0 (some ⟨g, 0, none⟩) N gc m (by omega) hc1
      clear hgx hgF hgc hA hG hz0 hz2N hi0
      try walk_nrm
      repeat (first | ((first | refine wpI_seq ?_ | refine wpI_block ?_ | refine wpI_skip ?_ | refine wpI_label ?_ | refine wpI_ret ?_ | refine wpI_exit ?_ | refine opI_nil ?_); try simp only [thenI, blkI, if_true, if_false, reduceIte, Nat.reduceEqDiff]) | (refine wpI_region ?_; simp only [List.size_toArray, List.length_cons, List.length_nil, Nat.reduceAdd, Nat.zero_add, List.range, List.range.loop]) | (refine opI_unwanted rfl (by rfl) ?_; try walk_nrm) | (refine opI_k rfl (by rfl) (fun w₁ hR K hK => ?_); skip; go_simp; refine hK _ (fun e he => ?_) ?_; (first | done | ((rw [listed_nil (by simp [go_sem, *])] at he; simp at he))); (try clear hc₁); (clear hK K hR; clear w₁); (try walk_nrm)))
      refine ⟨rfl, _, resultsC_tmp rfl _, ?_⟩
      exact hfin
    · have ez : (z == 0) = false := by simpa using hz0'
      by_cases hz1' : z = 1
      · subst hz1'
        clear hz0 hz0' ez
        repeat (first | ((first | refine wpI_seq ?_ | refine wpI_block ?_ | refine wpI_skip ?_ | refine wpI_label ?_ | refine wpI_ret ?_ | refine wpI_exit ?_ | refine opI_nil ?_); try simp only [thenI, blkI, if_true, if_false, reduceIte, Nat.reduceEqDiff]) | (refine wpI_region ?_; simp only [List.size_toArray, List.length_cons, List.length_nil, Nat.reduceAdd, Nat.zero_add, List.range, List.range.loop]) | (refine opI_unwanted rfl (by rfl) ?_; try walk_nrm) | (refine opI_k rfl (by rfl) (fun w₁ hR K hK => ?_); skip; go_simp; refine hK _ (fun e he => ?_) ?_; (first | done | ((rw [listed_nil (by simp [go_sem, *])] at he; simp at he))); (try clear hc₁); (clear hK K hR; clear w₁); (try walk_nrm)))
        (refine wpI_cond (t := false) rfl ?_; simp only [if_true, if_false, Bool.false_eq_true, reduceIte])
        repeat (first | ((first | refine wpI_seq ?_ | refine wpI_block ?_ | refine wpI_skip ?_ | refine wpI_label ?_ | refine wpI_ret ?_ | refine wpI_exit ?_ | refine opI_nil ?_); try simp only [thenI, blkI, if_true, if_false, reduceIte, Nat.reduceEqDiff]) | (refine wpI_region ?_; simp only [List.size_toArray, List.length_cons, List.length_nil, Nat.reduceAdd, Nat.zero_add, List.range, List.range.loop]) | (refine opI_unwanted rfl (by rfl) ?_; try walk_nrm) | (refine opI_k rfl (by rfl) (fun w₁ hR K hK => ?_); skip; go_simp; refine hK _ (fun e he => ?_) ?_; (first | done | ((rw [listed_nil (by simp [go_sem, *])] at he; simp at he))); (try clear hc₁); (clear hK K hR; clear w₁); (try walk_nrm)))
        (refine wpI_cond (t := true) rfl ?_; simp only [if_true, if_false, Bool.false_eq_true, reduceIte])
        repeat (first | ((first | refine wpI_seq ?_ | refine wpI_block ?_ | refine wpI_skip ?_ | refine wpI_label ?_ | refine wpI_ret ?_ | refine wpI_exit ?_ | refine opI_nil ?_); try simp only [thenI, blkI, if_true, if_false, reduceIte, Nat.reduceEqDiff]) | (refine wpI_region ?_; simp only [List.size_toArray, List.length_cons, List.length_nil, Nat.reduceAdd, Nat.zero_add, List.range, List.range.loop]) | (refine opI_unwanted rfl (by rfl) ?_; try walk_nrm) | (refine opI_k rfl (by rfl) (fun w₁ hR K hK => ?_); skip; go_simp; refine hK _ (fun e he => ?_) ?_; (first | done | ((rw [listed_nil (by simp [go_sem, *])] at he; simp at he))); (try clear hc₁); (clear hK K hR; clear w₁); (try walk_nrm)))
        refine opI_call rfl (by rfl) rfl (by
          have h := pickI_c main X γo w3 rd cv L q (N : Int) hG.at_ (by omega)
          walk_nrm
          exact h) ?_
        rintro γx ux wx ⟨hγ, hw, z2, rfl, hz0, h2, hz2⟩
        rw [hγ, hw]
        clear hγ hw hz2
        clear γx wx
        have hpk := Ext.poke hG.lies hG.F (.int .i64 ((q : Int) + 1))
        replace hG := hG.poke
        replace hA := hA.mono hpk hG.lies.less
        have hz2N := h2 (by omega)
        clear hpk h2
        generalize w3.setCell _ _ = w4 at hG hA ⊢
        clear w3
        obtain ⟨m, rfl⟩ : ∃ m : Nat, z2 = m := ⟨z2.toNat, by omega⟩
        try walk_nrm
        repeat (first | ((first | refine wpI_seq ?_ | refine wpI_block ?_ | refine wpI_skip ?_ | refine wpI_label ?_ | refine wpI_ret ?_ | refine wpI_exit ?_ | refine opI_nil ?_); try simp only [thenI, blkI, if_true, if_false, reduceIte, Nat.reduceEqDiff]) | (refine wpI_region ?_; simp only [List.size_toArray, List.length_cons, List.length_nil, Nat.reduceAdd, Nat.zero_add, List.range, List.range.loop]) | (refine opI_unwanted rfl (by rfl) ?_; try walk_nrm) | (refine opI_k rfl (by rfl) (fun w₁ hR K hK => ?_); skip; go_simp; refine hK _ (fun e he => ?_) ?_; (first | done | ((rw [listed_nil (by simp [go_sem, *])] at he; simp at he))); (try clear hc₁); (clear hK K hR; clear w₁); (try walk_nrm)))
        (refine opI_new (v := fun n => .slice (some ⟨n, 0, none⟩) 2 2) (ob := .cells #[.bool true, .bool true] 4) rfl (by rfl) (fun w₁ hR => ⟨run_eq_of (fun K hK => (by go_simp; exact hK)), fun e he => (by exfalso; have hm := mem_listed he; simp [go_sem, *] at hm)⟩) fun w₁ hR => ?_)
        have hE := Ext.new' (w₁ := w₁) hG.lies hR (.cells #[.bool true, .bool true] 4)
        have hLn := Lies.new (hG.lies.rely hR) (.cells #[.bool true, .bool true] 4)
        have hnr : w₁.heap.size ≠ rd := by have := hG.lies.F rd hG.F; have := hR.size; omega
        have hng : w₁.heap.size ≠ g := by have := hA.lies.F g (hA.at_ hne0).2.2.1; have := hR.size; omega
        replace hG := hG.go hE hLn
        replace hA := hA.mono hE.less_less hLn.less
        have hrow : RowB ((γo.new w₁.heap.size).less rd) (w₁.alloc (.cells #[.bool true, .bool true] 4)) w₁.heap.size (.slice (some ⟨w₁.heap.size, 0, none⟩) 2 2) [true, true] := ⟨2, rfl, ⟨.inr rfl, hnr⟩, ⟨.inr rfl, hnr⟩, fun i x hi => by
          rw [cells_alloc]
          match i, hi with
          | 0, hi => obtain rfl : true = x := by simpa using hi
                     rfl
          | 1, hi => obtain rfl : true = x := by simpa using hi
                     rfl
          | n + 2, hi => simp at hi⟩
        clear hR hE hLn hnr
        generalize w₁.heap.size = nb at hG hA hrow hng ⊢
        generalize γo.new nb = γ5 at hG hA hrow ⊢
        generalize w₁.alloc (.cells #[.bool true, .bool true] 4) = w5 at hG hA hrow ⊢
        clear w₁
        obtain ⟨-, hgc, hgF, hgW, hgge, hgz, hgx⟩ := hA.at_ hne0
        have hmN : m < rows.length := by have := hrl.out; omega
        obtain ⟨u, _, hu, -⟩ := hgx m rows[m] (List.getElem?_eq_getElem hmN)
        have hfin : Drawn γ₀ w₀ rd cv L γ5 (.slice (some ⟨g, 0, none⟩) N gc) (w5.setCell ⟨g, m, none⟩ (.slice (some ⟨nb, 0, none⟩) 2 2)) := by
          refine ⟨_, by omega, hG.set hL₀ (x := ⟨g, m, none⟩) hgge hgF.2 _, rows.set m [true, true], ?_, by rw [List.length_set]; have := hrl.out; omega, fun bs h => ?_⟩
          · have := tab_set (c := gc) (j := m) hgF hgx hrow hng
            rw [hrl.out] at this
            exact this
          · rcases List.mem_or_eq_of_mem_set h with h | h
            · have := hrows.out bs h; omega
            · subst h; simp
        have hmi : (m : Int) < (N : Int) := by omega
        have hm0 : (0 : Int) ≤ (m : Int) := by omega
        have hgz' := hgz m
        have hgW' := hgW.1
        have hgF' := hgF.1
        clear hgx hgF hgc hA hG hz0 hz2N hrow hgW hgge hgz hmN
        try walk_nrm
        repeat (first | ((first | refine wpI_seq ?_ | refine wpI_block ?_ | refine wpI_skip ?_ | refine wpI_label ?_ | refine wpI_ret ?_ | refine wpI_exit ?_ | refine opI_nil ?_); try simp only [thenI, blkI, if_true, if_false, reduceIte, Nat.reduceEqDiff]) | (refine wpI_region ?_; simp only [List.size_toArray, List.length_cons, List.length_nil, Nat.reduceAdd, Nat.zero_add, List.range, List.range.loop]) | (refine opI_unwanted rfl (by rfl) ?_; try walk_nrm) | (refine opI_k rfl (by rfl) (fun w₁ hR K hK => ?_); skip; go_simp; refine hK _ (fun e he => ?_) ?_; (first | done | ((rw [listed_nil (by simp [go_sem, *])] at he; simp at he))); (try clear hc₁); (clear hK K hR; clear w₁); (try walk_nrm)))
        (refine opI_st (⟨g, m, none⟩) (u) ((.slice (some ⟨nb, 0, none⟩) 2 2)) rfl (by rfl) hu hgz' ⟨hgW', hgF'⟩ (fun w₁ hc₁ hz₁ K hK => ?_); go_simp; refine hK _ (fun e he => ?_) ?_; (first | done | (have hm := mem_listed he; simp [go_sem, evS_bool, evS_slice, evS_int, evS_ptr, storedEv, *] at hm; exact hm)); (clear hK K hc₁ hz₁; clear w₁); (try walk_nrm))
        repeat (first | ((first | refine wpI_seq ?_ | refine wpI_block ?_ | refine wpI_skip ?_ | refine wpI_label ?_ | refine wpI_ret ?_ | refine wpI_exit ?_ | refine opI_nil ?_); try simp only [thenI, blkI, if_true, if_false, reduceIte, Nat.reduceEqDiff]) | (refine wpI_region ?_; simp only [List.size_toArray, List.length_cons, List.length_nil, Nat.reduceAdd, Nat.zero_add, List.range, List.range.loop]) | (refine opI_unwanted rfl (by rfl) ?_; try walk_nrm) | (refine opI_k rfl (by rfl) (fun w₁ hR K hK => ?_); skip; go_simp; refine hK _ (fun e he => ?_) ?_; (first | done | ((rw [listed_nil (by simp [go_sem, *])] at he; simp at he))); (try clear hc₁); (clear hK K hR; clear w₁); (try walk_nrm)))
        refine ⟨rfl, _, resultsC_tmp rfl _, ?_⟩
        exact hfin
      · have ez1 : (z == 1) = false := by simpa using hz1'
        have hfin : Drawn γ₀ w₀ rd cv L γo (.slice (some ⟨g, 0, none⟩) N gc) w3 := ⟨q, by omega, hG, rows, .inr (hA.tab hne0), by have := hrl.out; omega, fun bs h => by have := hrows.out bs h; omega⟩
        clear hz0 hz0' hz1' hA hG
        repeat (first | ((first | refine wpI_seq ?_ | refine wpI_block ?_ | refine wpI_skip ?_ | refine wpI_label ?_ | refine wpI_ret ?_ | refine wpI_exit ?_ | refine opI_nil ?_); try simp only [thenI, blkI, if_true, if_false, reduceIte, Nat.reduceEqDiff]) | (refine wpI_region ?_; simp only [List.size_toArray, List.length_cons, List.length_nil, Nat.reduceAdd, Nat.zero_add, List.range, List.range.loop]) | (refine opI_unwanted rfl (by rfl) ?_; try walk_nrm) | (refine opI_k rfl (by rfl) (fun w₁ hR K hK => ?_); skip; go_simp; refine hK _ (fun e he => ?_) ?_; (first | done | ((rw [listed_nil (by simp [go_sem, *])] at he; simp at he))); (try clear hc₁); (clear hK K hR; clear w₁); (try walk_nrm)))
        (refine wpI_cond (t := false) rfl ?_; simp only [if_true, if_false, Bool.false_eq_true, reduceIte])
        repeat (first | ((first | refine wpI_seq ?_ | refine wpI_block ?_ | refine wpI_skip ?_ | refine wpI_label ?_ | refine wpI_ret ?_ | refine wpI_exit ?_ | refine opI_nil ?_); try simp only [thenI, blkI, if_true, if_false, reduceIte, Nat.reduceEqDiff]) | (refine wpI_region ?_; simp only [List.size_toArray, List.length_cons, List.length_nil, Nat.reduceAdd, Nat.zero_add, List.range, List.range.loop]) | (refine opI_unwanted rfl (by rfl) ?_; try walk_nrm) | (refine opI_k rfl (by rfl) (fun w₁ hR K hK => ?_); skip; go_simp; refine hK _ (fun e he => ?_) ?_; (first | done | ((rw [listed_nil (by simp [go_sem, *])] at he; simp at he))); (try clear hc₁); (clear hK K hR; clear w₁); (try walk_nrm)))
        (refine wpI_cond (t := false) rfl ?_; simp only [if_true, if_false, Bool.false_eq_true, reduceIte])
        repeat (first | ((first | refine wpI_seq ?_ | refine wpI_block ?_ | refine wpI_skip ?_ | refine wpI_label ?_ | refine wpI_ret ?_ | refine wpI_exit ?_ | refine opI_nil ?_); try simp only [thenI, blkI, if_true, if_false, reduceIte, Nat.reduceEqDiff]) | (refine wpI_region ?_; simp only [List.size_toArray, List.length_cons, List.length_nil, Nat.reduceAdd, Nat.zero_add, List.range, List.range.loop]) | (refine opI_unwanted rfl (by rfl) ?_; try walk_nrm) | (refine opI_k rfl (by rfl) (fun w₁ hR K hK => ?_); skip; go_simp; refine hK _ (fun e he => ?_) ?_; (first | done | ((rw [listed_nil (by simp [go_sem, *])] at he; simp at he))); (try clear hc₁); (clear hK K hR; clear w₁); (try walk_nrm)))
        refine ⟨rfl, _, resultsC_tmp rfl _, ?_⟩
        exact hfin
end Go.Proofs.Ytndfookgkkefnaa
