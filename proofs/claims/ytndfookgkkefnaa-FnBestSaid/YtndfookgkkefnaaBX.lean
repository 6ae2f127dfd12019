/- Memory of one's own, row by row, among other goroutines. -/
import Derived.Test.YtndfookgkkefnaaBW2
namespace Go.Proofs.Ytndfookgkkefnaa
set_option linter.unusedSimpArgs false
set_option linter.unusedVariables false
set_option linter.unusedSectionVars false
open Go Go.Conc Go.RowKit

theorem Ext.set {γ γ' : Gh} {w w' : World} (h : Ext γ w γ' w') (hL : Lies γ w) {x : Addr} (hx : w.heap.size ≤ x.block) (v : Value) : Ext γ w γ' (w'.setCell x v) := by
  have ne : ∀ b, b < w.heap.size → b ≠ x.block := fun b hb => by omega
  refine ⟨h.F, h.W, h.Cs, h.Q, h.G, h.p, by rw [size_set]; exact h.rl.size, fun b hb => (set_other (ne b (hL.F b hb)) v).trans (h.rl.blk b hb), fun a ha => (cell_of (set_other (ne _ (hL.Cs a ha).1) v)).trans (h.rl.cell a ha), fun a ha => (fz_set _ _ _ _).trans (h.rl.fz a ha),
    fun b hb => (set_other (ne b (hL.Q b (.inl hb)).1) v).trans (h.rl.q b hb), fun a u hg hu => ?_⟩
  obtain ⟨u', hu'⟩ := h.rl.ex a u hg hu
  exact cell_set hu' x v
theorem Lies.set {γ : Gh} {w : World} (h : Lies γ w) (x : Addr) (v : Value) : Lies γ (w.setCell x v) := ⟨fun b hb => by rw [size_set]; exact h.F b hb, fun y hy => by rw [size_set]; exact h.Cs y hy, fun b hb => by rw [size_set]; exact h.Q b hb, h.W⟩
theorem Lies.rely {γ : Gh} {w w₁ : World} (h : Lies γ w) (r : Rl γ w w₁) : Lies γ w₁ :=
  ⟨fun b hb => Nat.lt_of_lt_of_le (h.F b hb) r.size, fun y hy => ⟨Nat.lt_of_lt_of_le (h.Cs y hy).1 r.size, (h.Cs y hy).2⟩, fun b hb => ⟨Nat.lt_of_lt_of_le (h.Q b hb).1 r.size, (h.Q b hb).2⟩, h.W⟩
theorem size_alloc' (w : World) (ob : Obj) : (w.alloc ob).heap.size = w.heap.size + 1 := by simp [World.alloc, -World.alloc_eq]
theorem alloc_old (w : World) (ob : Obj) {b : Nat} (h : b < w.heap.size) : (w.alloc ob).heap[b]? = w.heap[b]? := by simp only [World.alloc]; rw [Array.getElem?_push, if_neg (by omega)]
theorem alloc_new (w : World) (ob : Obj) : (w.alloc ob).heap[w.heap.size]? = some ob := by simp [World.alloc, -World.alloc_eq]
theorem Rl.alloc {γ : Gh} {w : World} (h : Lies γ w) (ob : Obj) : Rl γ w (w.alloc ob) :=
  ⟨by rw [size_alloc']; omega, fun b hb => alloc_old w ob (h.F b hb), fun a ha => cell_of (alloc_old w ob (h.Cs a ha).1), fun a ha => World.frozen?_of_block (alloc_old w ob (h.Cs a ha).1), fun b hb => alloc_old w ob (h.Q b (.inl hb)).1,
   fun a v hg hv => ⟨v, (cell_of (alloc_old w ob (h.Q _ (.inr hg)).1)).trans hv⟩⟩
theorem Ext.new {γ : Gh} {w : World} (h : Lies γ w) (ob : Obj) : Ext γ w (γ.new w.heap.size) (w.alloc ob) :=
  ⟨fun _ h => .inl h, fun _ h => .inl h, fun _ h => h, fun _ h => h, fun _ h => h, rfl, Rl.alloc h ob⟩
theorem Lies.new {γ : Gh} {w : World} (h : Lies γ w) (ob : Obj) : Lies (γ.new w.heap.size) (w.alloc ob) := by
  refine ⟨fun b hb => ?_, fun y hy => ?_, fun b hb => ?_, fun b hb => hb.imp (h.W b) id⟩
  · rw [size_alloc']
    rcases hb with hb | rfl
    · have := h.F b hb; omega
    · omega
  · rw [size_alloc']
    have := h.Cs y hy
    exact ⟨by omega, fun hf => by
      rcases hf with hf | e
      · exact this.2 hf
      · omega⟩
  · rw [size_alloc']
    have := h.Q b hb
    exact ⟨by omega, fun hf => by
      rcases hf with hf | e
      · exact this.2 hf
      · omega⟩
/-- .. with the others' doing ahead -/
theorem Ext.new' {γ : Gh} {w w₁ : World} (h : Lies γ w) (r : Rl γ w w₁) (ob : Obj) : Ext γ w (γ.new w₁.heap.size) (w₁.alloc ob) := (Ext.of_rl r).trans (Ext.new (h.rely r) ob)

/-- a row in a block of its own -/
def RowB (γ : Gh) (w : World) (b : Nat) (u : Value) (bs : List Bool) : Prop :=
  ∃ c, u = .slice (some ⟨b, 0, none⟩) bs.length c ∧ γ.F b ∧ γ.W b ∧ ∀ (i : Nat) (x : Bool), bs[i]? = some x → w.cell? ⟨b, i, none⟩ = some (.bool x)
theorem RowB.row {γ : Gh} {w : World} {b : Nat} {u : Value} {bs : List Bool} (h : RowB γ w b u bs) : RowI γ w u bs := by
  obtain ⟨c, rfl, hb, _, hx⟩ := h
  exact .inr ⟨b, 0, c, rfl, hb, fun i x hi => by rw [Nat.zero_add]; exact hx i x hi⟩
theorem RowB.ext {γ γ' : Gh} {w w' : World} {b : Nat} {u : Value} {bs : List Bool} (h : RowB γ w b u bs) (hF : γ'.F b) (hW : γ'.W b) (hb : w'.heap[b]? = w.heap[b]?) : RowB γ' w' b u bs := by
  obtain ⟨c, rfl, _, _, hx⟩ := h
  exact ⟨c, rfl, hF, hW, fun i x hi => (cell_of (a := ⟨b, i, none⟩) hb).trans (hx i x hi)⟩

/-- a table that is being built -/
structure AccT (γ₀ : Gh) (w₀ : World) (γ : Gh) (w : World) (vo : Value) (rows : List (List Bool)) : Prop where
  ext : Ext γ₀ w₀ γ w
  lies : Lies γ w
  blk : ∀ b, vo.ownBlock = some b → γ.W b ∧ γ.F b
  own : ∃ vals : List Value, w.ownsRow w₀.heap.size 28 1 vo rows.length vals ∧ ∀ (i : Nat) (bs : List Bool), rows[i]? = some bs → ∃ u b, vals[i]? = some u ∧ RowB γ w b u bs ∧ vo.ownBlock ≠ some b
theorem AccT.mono {γ₀ γ γ' : Gh} {w₀ w w' : World} {vo : Value} {rows : List (List Bool)} (h : AccT γ₀ w₀ γ w vo rows) (e : Ext γ w γ' w') (hL : Lies γ' w') : AccT γ₀ w₀ γ' w' vo rows := by
  obtain ⟨vals, ho, hr⟩ := h.own
  refine ⟨h.ext.trans e, hL, fun b hb => ⟨e.W b (h.blk b hb).1, e.F b (h.blk b hb).2⟩, vals, ownsRow_at ho fun b hb => e.rl.blk b (h.blk b hb).2, fun i bs hi => ?_⟩
  obtain ⟨u, b, hu, hb, hne⟩ := hr i bs hi
  obtain ⟨_, _, hF, hW, _⟩ := id hb
  exact ⟨u, b, hu, hb.ext (e.F b hF) (e.W b hW) (e.rl.blk b hF), hne⟩
theorem AccT.tab {γ₀ γ : Gh} {w₀ w : World} {vo : Value} {rows : List (List Bool)} (h : AccT γ₀ w₀ γ w vo rows) (h0 : rows ≠ []) : TabI γ w vo rows := by
  obtain ⟨vals, ho, hr⟩ := h.own
  have hpos := List.length_pos_iff.2 h0
  rcases id ho.2 with ⟨_, e⟩ | ⟨g, cap, cur, rfl, _⟩
  · omega
  · refine ⟨g, 0, cap, rfl, (h.blk g rfl).2, fun i bs hi => ?_⟩
    obtain ⟨u, b, hu, hb, _⟩ := hr i bs hi
    exact ⟨u, by rw [Nat.zero_add]; have := ho.cells (g := g) rfl i u hu; rwa [Addr.add_lit, Nat.zero_add] at this, hb.row⟩

theorem infoRow : (Try.prog.info? 28).map (fun i => (i.zero, i.size, i.bytes)) = some (some (.slice none 0 0), 1, 24) := by kernel_rfl
theorem own_ge {w : World} {base size n : Nat} {e : TypeId} {v : Value} {xs : List Value} (h : w.ownsRow base e size v n xs) {b : Nat} (hb : v.ownBlock = some b) : base ≤ b := by
  rcases h.2 with ⟨rfl, _⟩ | ⟨g, _, _, rfl, hg, _⟩
  · cases hb
  · simp only [Value.ownBlock, Option.some.injEq] at hb
    omega
theorem AccT.ge {γ₀ γ : Gh} {w₀ w : World} {vo : Value} {rows : List (List Bool)} (h : AccT γ₀ w₀ γ w vo rows) : ∀ b, vo.ownBlock = some b → w₀.heap.size ≤ b := fun b hb => by
  obtain ⟨vals, ho, _⟩ := h.own
  exact own_ge ho hb
/-- one row more -/
theorem opI_accT {main : Bool} {X : Pha} {fn : FuncId} {ops : Array Oper} {Q : PoI} {γ₀ γ : Gh} {w₀ w : World} {vo : Value} {rows : List (List Bool)} (h : AccT γ₀ w₀ γ w vo rows) (hL₀ : Lies γ₀ w₀) {i : Nat} {rest : List Nat} {o : Oper} {a : Act}
    (ho : ops[i]? = some o) (hw : Region.wanted o (yielded ops a.tmps) = true) (s x : Operand) (hop : o.op = .call { callee := .builtin .append, args := #[s, x], argTypes := #[23, 23] }) (ht : Try.prog.underlying 23 = some (.slice 28))
    (hs : a.eval s = vo) (nb : Nat) (c : Nat) (hx : a.eval x = .slice (some ⟨nb, 0, none⟩) 1 c) (hF : γ.F nb) (r : Value) (hr : w.cell? ⟨nb, 0, none⟩ = some r) (bs : List Bool) (rb : Nat) (hrb : RowB γ w rb r bs) (hne : vo.ownBlock ≠ some rb) (h5 : rows.length < 1000)
    (hn : ∀ γ' v' w', AccT γ₀ w₀ γ' w' v' (rows ++ [bs]) → opI Try.prog main X fn ops rest Q γ' (a.put o.dst v') w') : opI Try.prog main X fn ops (i :: rest) Q γ a w := by
  obtain ⟨i0, hi, hz0, hz1, hz2⟩ := info_parts infoRow
  obtain ⟨vals, hown, hrows⟩ := h.own
  have hL := h.lies
  refine opI_app ho hw s x 23 hop w₀.heap.size 28 i0 (.slice none 0 0) 1 24 ht hi hz0 hz1 hz2 rfl (by decide) vo rows.length vals hs hown h.blk ⟨nb, 0, none⟩ 1 c hx hF [r] rfl (fun j u hj => ?_) ?_ (by simp only [maxLen]; omega) (by omega) h.ext.rl.size
    (fun y hy => ⟨(hL.Cs y hy).1, fun b hb e => (hL.Cs y hy).2 (e ▸ (h.blk b hb).2)⟩) hL.F hL.Q ?_
  · cases j with
    | zero => obtain rfl : r = u := by simpa using hj
              rw [Addr.add_lit]; exact hr
    | succ j => simp at hj
  · intro u hu
    obtain rfl : u = r := by simpa using hu
    obtain ⟨c', rfl, _⟩ := hrb
    rfl
  intro γ' v' w' hWF hfr hQ' hG' hp' hqb hex hF' hW' hC' hv' ho' hs' hblk hlt' hcell'
  have ge := h.ge
  have nlt : ∀ b, b < w₀.heap.size → vo.ownBlock ≠ some b := fun b hb e => by have := ge b e; omega
  obtain ⟨cr, hreq, hrF, hrW, hrx⟩ := id hrb
  refine hn γ' v' w' ⟨⟨fun b hb => hF' b (h.ext.F b hb), fun b hb => hW' b (h.ext.W b hb), fun y hy => by rw [hC']; exact h.ext.Cs y hy, fun b hb => by rw [hQ']; exact h.ext.Q b hb, fun b hb => by rw [hG']; exact h.ext.G b hb, hp'.trans h.ext.p,
    ⟨Nat.le_trans h.ext.rl.size hs', fun b hb => (hblk b (h.ext.F b hb) (nlt b (hL₀.F b hb))).trans (h.ext.rl.blk b hb), fun y hy => (hcell' y (h.ext.Cs y hy)).1.trans (h.ext.rl.cell y hy), fun y hy => (hcell' y (h.ext.Cs y hy)).2.trans (h.ext.rl.fz y hy),
      fun b hb => (hqb b (h.ext.Q b hb)).trans (h.ext.rl.q b hb), fun y u hg hu => let ⟨u', hu'⟩ := h.ext.rl.ex y u hg hu; hex y u' (h.ext.G _ hg) hu'⟩⟩,
    ⟨fun b hb => (hlt' b hb).1, fun y hy => ?_, fun b hb => ?_, hWF hL.W⟩, hv', vals ++ [r], by rw [List.length_append]; exact ho', fun i bs' hi' => ?_⟩
  · rw [hC'] at hy
    have h1 := hL.Cs y hy
    refine ⟨by omega, fun hf => ?_⟩
    rcases (hlt' _ hf).2 with h2 | h2
    · exact h1.2 h2
    · omega
  · rw [hQ', hG'] at hb
    have h1 := hL.Q b hb
    refine ⟨by omega, fun hf => ?_⟩
    rcases (hlt' _ hf).2 with h2 | h2
    · exact h1.2 h2
    · omega
  · have hlen : vals.length = rows.length := by simpa using hown.1
    have nv : ∀ b, γ.F b → vo.ownBlock ≠ some b → v'.ownBlock ≠ some b := fun b hb hn e => by
      rcases hfr b e with h2 | h2
      · exact hn h2
      · have := hL.F b hb; omega
    rcases Nat.lt_or_ge i rows.length with hlt | hge
    · rw [List.getElem?_append_left hlt] at hi'
      obtain ⟨u, b, hu, hb, hnb⟩ := hrows i bs' hi'
      obtain ⟨_, _, hbF, hbW, _⟩ := id hb
      exact ⟨u, b, by rw [List.getElem?_append_left (by omega)]; exact hu, hb.ext (hF' b hbF) (hW' b hbW) (hblk b hbF hnb), nv b hbF hnb⟩
    · rw [List.getElem?_append_right hge] at hi'
      have e0 : i - rows.length = 0 := by
        rcases Nat.eq_zero_or_pos (i - rows.length) with h1 | h1
        · exact h1
        · rw [List.getElem?_eq_none (by simp; omega)] at hi'; cases hi'
      rw [e0] at hi'
      obtain rfl : bs = bs' := by simpa using hi'
      exact ⟨r, rb, by rw [List.getElem?_append_right (by omega), hlen, e0]; rfl, hrb.ext (hF' rb hrF) (hW' rb hrW) (hblk rb hrF hne), nv rb hrF hne⟩
end Go.Proofs.Ytndfookgkkefnaa
