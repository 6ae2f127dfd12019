/- A plain row of one's own that grows, among other goroutines. -/
import Derived.Test.YtndfookgkkefnaaBW3
namespace Go.Proofs.Ytndfookgkkefnaa
set_option linter.unusedSimpArgs false
set_option linter.unusedVariables false
set_option linter.unusedSectionVars false
open Go Go.Conc Go.RowKit

structure AccV (γ₀ : Gh) (w₀ : World) (γ : Gh) (w : World) (e : TypeId) (vo : Value) (vals : List Value) : Prop where
  ext : Ext γ₀ w₀ γ w
  lies : Lies γ w
  blk : ∀ b, vo.ownBlock = some b → γ.W b ∧ γ.F b
  own : w.ownsRow w₀.heap.size e 1 vo vals.length vals
section
variable {γ₀ γ γ' : Gh} {w₀ w w' w₁ : World} {e : TypeId} {vo : Value} {vals : List Value}
theorem AccV.mono (h : AccV γ₀ w₀ γ w e vo vals) (x : Ext γ w γ' w') (hL : Lies γ' w') : AccV γ₀ w₀ γ' w' e vo vals :=
  ⟨h.ext.trans x, hL, fun b hb => ⟨x.W b (h.blk b hb).1, x.F b (h.blk b hb).2⟩, ownsRow_at h.own fun b hb => x.rl.blk b (h.blk b hb).2⟩
theorem AccV.ge (h : AccV γ₀ w₀ γ w e vo vals) : ∀ b, vo.ownBlock = some b → w₀.heap.size ≤ b := fun b hb => own_ge h.own hb
/-- an empty one -/
theorem AccV.start (hL : Lies γ w) (hR : Rl γ w w₁) (e : TypeId) : AccV γ w (γ.new w₁.heap.size) (w₁.alloc (.cells #[] e)) e (.slice (some ⟨w₁.heap.size, 0, none⟩) 0 0) [] := by
  refine ⟨Ext.new' hL hR _, Lies.new (hL.rely hR) _, fun b hb => ?_, rfl, .inr ⟨w₁.heap.size, 0, #[], rfl, hR.size, alloc_new _ _, Nat.le_refl _, by simp [maxLen], by simp, rfl⟩⟩
  obtain rfl : w₁.heap.size = b := by simpa [Value.ownBlock] using hb
  exact ⟨.inr rfl, .inr rfl⟩
theorem AccV.cell (h : AccV γ₀ w₀ γ w e vo vals) (h0 : vals ≠ [] ∨ ∃ b l c, vo = .slice (some ⟨b, 0, none⟩) l c) : ∃ b c, vo = .slice (some ⟨b, 0, none⟩) vals.length c ∧ γ.F b ∧ γ.W b ∧ w₀.heap.size ≤ b ∧ (∀ i, w.frozen? ⟨b, i, none⟩ = false) ∧ ∀ i u, vals[i]? = some u → w.cell? ⟨b, i, none⟩ = some u := by
  have hown := h.own
  rcases id hown.2 with ⟨e1, e2⟩ | ⟨g, cap, cur, rfl, hg, _⟩
  · exfalso
    rcases h0 with h0 | ⟨b, l, c, h0⟩
    · exact h0 (List.length_eq_zero_iff.1 e2)
    · rw [e1] at h0; cases h0
  · refine ⟨g, cap, rfl, (h.blk g rfl).2, (h.blk g rfl).1, hg, fz_own hown, fun i u hi => ?_⟩
    have := hown.cells (g := g) rfl i u hi
    rwa [Addr.add_lit, Nat.zero_add] at this
end
/-- some elements more -/
theorem opI_accV {P : Program} {main : Bool} {X : Pha} {fn : FuncId} {ops : Array Oper} {Q : PoI} {γ₀ γ : Gh} {w₀ w : World} {e : TypeId} {vo : Value} {vals : List Value} (h : AccV γ₀ w₀ γ w e vo vals) (hL₀ : Lies γ₀ w₀) {i : Nat} {rest : List Nat} {o : Oper} {a : Act}
    (ho : ops[i]? = some o) (hw : Region.wanted o (yielded ops a.tmps) = true) (s x : Operand) (t : TypeId) (hop : o.op = .call { callee := .builtin .append, args := #[s, x], argTypes := #[t, t] }) (ht : P.underlying t = some (.slice e)) (inf : TypeInfo) (z : Value) (bytes : Nat) (hi : P.info? e = some inf) (hz0 : inf.zero = some z) (hz1 : inf.size = 1) (hz2 : inf.bytes = bytes) (hzc : z.cells.size = 1)
    (hs : a.eval s = vo) (ad : Addr) (m c : Nat) (hx : a.eval x = .slice (some ad) m c) (hF : γ.F ad.block) (news : List Value) (hm : news.length = m) (hnews : ∀ j u, news[j]? = some u → w.cell? (ad.add j) = some u) (h1 : ∀ u ∈ news, u.oneCell' = true) (hlen : vals.length + m ≤ 4194304) (hby : bytes ≤ 1024)
    (hn : ∀ γ' v' w', AccV γ₀ w₀ γ' w' e v' (vals ++ news) → (∀ b, γ.F b → vo.ownBlock ≠ some b → γ'.F b ∧ w'.heap[b]? = w.heap[b]?) → opI P main X fn ops rest Q γ' (a.put o.dst v') w') : opI P main X fn ops (i :: rest) Q γ a w := by
  have hL := h.lies
  have hown := h.own
  refine opI_app ho hw s x t hop w₀.heap.size e inf z 1 bytes ht hi hz0 hz1 hz2 hzc (by decide) vo vals.length vals hs hown h.blk ad m c hx hF news (by omega) hnews h1 (by simp only [maxLen]; omega) (by
      have : (vals.length + m) * bytes ≤ 4194304 * 1024 := Nat.mul_le_mul hlen hby
      omega) h.ext.rl.size
    (fun y hy => ⟨(hL.Cs y hy).1, fun b hb e => (hL.Cs y hy).2 (e ▸ (h.blk b hb).2)⟩) hL.F hL.Q ?_
  intro γ' v' w' hWF hfr hQ' hG' hp' hqb hex hF' hW' hC' hv' ho' hs' hblk hlt' hcell'
  have ge := h.ge
  have nlt : ∀ b, b < w₀.heap.size → vo.ownBlock ≠ some b := fun b hb e => by have := ge b e; omega
  refine hn γ' v' w' ⟨⟨fun b hb => hF' b (h.ext.F b hb), fun b hb => hW' b (h.ext.W b hb), fun y hy => by rw [hC']; exact h.ext.Cs y hy, fun b hb => by rw [hQ']; exact h.ext.Q b hb, fun b hb => by rw [hG']; exact h.ext.G b hb, hp'.trans h.ext.p,
    ⟨Nat.le_trans h.ext.rl.size hs', fun b hb => (hblk b (h.ext.F b hb) (nlt b (hL₀.F b hb))).trans (h.ext.rl.blk b hb), fun y hy => (hcell' y (h.ext.Cs y hy)).1.trans (h.ext.rl.cell y hy), fun y hy => (hcell' y (h.ext.Cs y hy)).2.trans (h.ext.rl.fz y hy),
      fun b hb => (hqb b (h.ext.Q b hb)).trans (h.ext.rl.q b hb), fun y u hg hu => let ⟨u', hu'⟩ := h.ext.rl.ex y u hg hu; hex y u' (h.ext.G _ hg) hu'⟩⟩,
    ⟨fun b hb => (hlt' b hb).1, fun y hy => ?_, fun b hb => ?_, hWF hL.W⟩, hv', ?_⟩ fun b hb hne => ⟨hF' b hb, hblk b hb hne⟩
  · rw [hC'] at hy
    have h1 := hL.Cs y hy
    refine ⟨by omega, fun hf => ?_⟩
    rcases (hlt' _ hf).2 with h2 | h2
    · exact h1.2 h2
    · omega
  · rw [hQ', hG'] at hb
    have h1 := hL.Q b hb
    refine ⟨by omega, fun hf => ?_⟩
    rcases (hlt' _ hf).2 with h2 | h2
    · exact h1.2 h2
    · omega
  · rw [List.length_append, hm]; exact ho'
end Go.Proofs.Ytndfookgkkefnaa
