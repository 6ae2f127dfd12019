/- Many goroutines: the library's own steps on a group's cells; how a worker's place bears the others' doing. -/
import Derived.Test.YtndfookgkkefnaaBM2
namespace Go.Proofs.Ytndfookgkkefnaa
set_option linter.unusedSimpArgs false
set_option linter.unusedVariables false
set_option linter.unusedSectionVars false
open Go Go.Conc
open Go.ConcN (upd upd_same upd_ne PermW fork_knows RelBy CTag WD Vc cnt AllQuit OpenSt isOpen isW3 isFin pend WgLive PayAt Has RW WSit AtK1)
open Go.ConcR (KK WgAt stA smA rd wr mk Payload DC0 deafBehind_cons deafBehind_one)

theorem mem_ops {k : Nat} {fn : FuncId} {pos : String} {es : Array Event} {op : MemOp} (h : op ∈ MemOp.ofEvents k fn pos es) : ∃ e ∈ es, op = { g := k, fn, pos, act := .ofEvent e } := Go.Conc.mem_ofEvents h

/-- an entry of the library's own -/
def BkE (Wg : Nat) (e : Event) : Prop :=
  ((MemAct.ofEvent e).touch? = none ∧ (∀ N, Wg < N → (MemAct.ofEvent e).low N) ∧ ∀ a, MemAct.ofEvent e ≠ .mark (.release a)) ∨ ∃ a wr, e = ⟨.cell a, wr, true⟩ ∧ a.block = Wg
/-- a step of the library's own: at most the group's block turns -/
structure Bks (Wg : Nat) (w w' : World) (es : Array Event) : Prop where
  w : w' = w ∨ ∃ (x : Addr) (v : Value), x.block = Wg ∧ w' = w.setCell x v
  e : ∀ e ∈ es, BkE Wg e

section
variable {S : Nat → Prop} {Γ : Nat → Gh} {w w' : World} {t : Trace} {b j k Wg : Nat} {es : Array Event}

theorem Bks.size (h : Bks Wg w w' es) : w'.heap.size = w.heap.size := by
  rcases h.w with rfl | ⟨x, v, _, rfl⟩
  · rfl
  · exact size_set w x v
theorem Bks.kp (h : Bks Wg w w' es) : Kp w w' := by
  rcases h.w with rfl | ⟨x, v, _, rfl⟩
  · exact Kp.refl _
  · exact ⟨rfl, rfl⟩
theorem Bks.block (h : Bks Wg w w' es) {c : Nat} (hc : c ≠ Wg) : w'.heap[c]? = w.heap[c]? := by
  rcases h.w with rfl | ⟨x, v, hx, rfl⟩
  · rfl
  · exact set_other (by rw [hx]; exact hc) v
theorem bk_touch (he : ∀ e ∈ es, BkE Wg e) (fn : FuncId) (pos : String) : ∀ op ∈ MemOp.ofEvents k fn pos es, ∀ x, op.act.touch? = some x → (∃ y : Addr, x.loc = .cell y ∧ y.block = Wg) ∧ x.kind = .atomic := by
  intro op hop x hx
  obtain ⟨e, hm, rfl⟩ := mem_ops hop
  rcases he e hm with ⟨h1, _⟩ | ⟨a, wr, rfl, ha⟩
  · rw [h1] at hx; cases hx
  · simp only [ConcR.ofEvent_cell, MemAct.touch?, Option.some.injEq] at hx
    subst hx
    exact ⟨⟨a, rfl, ha⟩, rfl⟩
theorem bk_norel (he : ∀ e ∈ es, BkE Wg e) (fn : FuncId) (pos : String) : ∀ op ∈ MemOp.ofEvents k fn pos es, ∀ a, op.act ≠ .mark (.release a) := by
  intro op hop a
  obtain ⟨e, hm, rfl⟩ := mem_ops hop
  rcases he e hm with ⟨_, _, h1⟩ | ⟨a, wr, rfl, ha⟩
  · exact h1 a
  · simp [ConcR.ofEvent_cell]
theorem bk_ok (he : ∀ e ∈ es, BkE Wg e) (sW : S Wg) (hlt : Wg < w.heap.size) (fn : FuncId) (pos : String) : OkU S t k w.heap.size (MemOp.ofEvents k fn pos es) := by
  refine ⟨fun op hop => by obtain ⟨e, _, rfl⟩ := mem_ops hop; rfl, fun op hop x hx => ?_, fun op hop => ?_⟩
  · obtain ⟨⟨y, hy, hb⟩, hk⟩ := bk_touch he fn pos op hop x hx
    exact .inl ⟨⟨y, hy, hb ▸ sW⟩, by rw [hk]; simp, by rw [hk]; simp⟩
  · obtain ⟨e, hm, rfl⟩ := mem_ops hop
    rcases he e hm with ⟨_, h1, _⟩ | ⟨a, wr, rfl, ha⟩
    · exact h1 _ hlt
    · rw [ConcR.ofEvent_cell]
      show a.block < _
      omega
theorem mute_ok (he : ∀ e ∈ es, e.mute = true) (N : Nat) (fn : FuncId) (pos : String) : OkU S t k N (MemOp.ofEvents k fn pos es) ∧ (∀ op ∈ MemOp.ofEvents k fn pos es, op.act.touch? = none) ∧ ∀ op ∈ MemOp.ofEvents k fn pos es, ∀ a, op.act ≠ .mark (.release a) := by
  refine ⟨⟨fun op hop => by obtain ⟨e, _, rfl⟩ := mem_ops hop; rfl, fun op hop x hx => ?_, fun op hop => ?_⟩, fun op hop => ?_, fun op hop a => ?_⟩
  all_goals obtain ⟨e, hm, rfl⟩ := mem_ops hop
  · rw [touch_mute (he e hm)] at hx; cases hx
  · exact low_mute (he e hm) N
  · exact touch_mute (he e hm)
  · have := he e hm
    intro hx
    have hl := ConcR.loc_of_ofEvent hx
    obtain ⟨loc, wr, sy⟩ := e
    simp only at hl
    subst hl
    simp [Event.mute] at this

/-- ghosts where only shunned cells are touched -/
theorem GhI.app (h : GhI S Γ w t) {u : Trace} (hu : ∀ op ∈ u, ∀ x, op.act.touch? = some x → ShB S x.loc) (hw : w'.heap.size = w.heap.size) : GhI S Γ w' (t ++ u) := by
  have no : ∀ (a : Addr), ¬ S a.block → ∀ op ∈ u, ∀ x, op.act.touch? = some x → x.loc ≠ .cell a := fun a hn op hop x hx hl => by
    obtain ⟨y, hy, hs⟩ := hu op hop x hx
    rw [hl] at hy
    injection hy with hy
    exact hn (hy ▸ hs)
  refine ⟨fun b hb => by rw [hw]; exact h.s b hb, fun k b hb => by rw [hw]; exact h.low k b hb, fun k a ha => by rw [hw]; exact h.lowC k a ha, h.sep, h.sepC, h.sepCC, h.sepQ, h.sepQQ, h.G, fun k a ha => ?_, fun k a ha => ?_, fun k a ha => ?_, fun k a ha i x hx => ?_⟩
  · exact (h.pF k a ha).app fun op hop x hx hl _ => absurd hl (no a (h.low k _ (.inl ha)).2 op hop x hx)
  · exact (h.pW k a ha).app fun op hop x hx hl => absurd hl (no a (h.low k _ (.inr (.inl ha))).2 op hop x hx)
  · exact (h.pC k a ha).app fun op hop x hx hl => absurd hl (no a (h.lowC k a ha).2 op hop x hx)
  · rcases touch_cases hx with ⟨_, hx'⟩ | ⟨_, op, hop, hot, _⟩
    · exact h.pQ k a ha i x hx'
    · exact no a (h.low k _ (.inr (.inr ha))).2 op hop x hot
/-- a ghost that lets go -/
theorem GhI.less (h : GhI S Γ w t) {γ' : Gh} (hF : ∀ b, γ'.F b → (Γ k).F b) (hW : ∀ b, γ'.W b → (Γ k).W b) (hC : ∀ a, γ'.Cs a → (Γ k).Cs a) (hQ : ∀ b, γ'.Q b → (Γ k).Q b) (hG : ∀ b, γ'.G b → (Γ k).G b) : GhI S (upd Γ k γ') w t := by
  have eF : ∀ k1 b, (upd Γ k γ' k1).F b → (Γ k1).F b := fun k1 b hb => by
    by_cases e : k1 = k
    · subst e; rw [upd_same] at hb; exact hF b hb
    · rw [upd_ne Γ _ e] at hb; exact hb
  have eW : ∀ k1 b, (upd Γ k γ' k1).W b → (Γ k1).W b := fun k1 b hb => by
    by_cases e : k1 = k
    · subst e; rw [upd_same] at hb; exact hW b hb
    · rw [upd_ne Γ _ e] at hb; exact hb
  have eC : ∀ k1 b, (upd Γ k γ' k1).Cs b → (Γ k1).Cs b := fun k1 b hb => by
    by_cases e : k1 = k
    · subst e; rw [upd_same] at hb; exact hC b hb
    · rw [upd_ne Γ _ e] at hb; exact hb
  have eQ : ∀ k1 b, (upd Γ k γ' k1).Q b → (Γ k1).Q b := fun k1 b hb => by
    by_cases e : k1 = k
    · subst e; rw [upd_same] at hb; exact hQ b hb
    · rw [upd_ne Γ _ e] at hb; exact hb
  have eG : ∀ k1 b, (upd Γ k γ' k1).G b → (Γ k1).G b := fun k1 b hb => by
    by_cases e : k1 = k
    · subst e; rw [upd_same] at hb; exact hG b hb
    · rw [upd_ne Γ _ e] at hb; exact hb
  exact ⟨h.s, fun k1 b hb => h.low k1 b (hb.imp (eF k1 b) (Or.imp (eW k1 b) (eQ k1 b))), fun k1 a ha => h.lowC k1 a (eC k1 a ha),
    fun k1 k2 b hne hb => ⟨fun x => (h.sep k1 k2 b hne (eW k1 b hb)).1 (eF k2 b x), fun x => (h.sep k1 k2 b hne (eW k1 b hb)).2 (eW k2 b x)⟩,
    fun k1 k2 a ha => ⟨fun x => (h.sepC k1 k2 a (eC k1 a ha)).1 (eF k2 _ x), fun x => (h.sepC k1 k2 a (eC k1 a ha)).2.1 (eW k2 _ x), fun x => (h.sepC k1 k2 a (eC k1 a ha)).2.2 (eQ k2 _ x)⟩,
    fun k1 k2 a hne ha hb => h.sepCC k1 k2 a hne (eC k1 a ha) (eC k2 a hb),
    fun k1 k2 b hb => ⟨fun x => (h.sepQ k1 k2 b (eQ k1 b hb)).1 (eF k2 b x), fun x => (h.sepQ k1 k2 b (eQ k1 b hb)).2 (eW k2 b x)⟩,
    fun k1 k2 b hne hb hb2 => h.sepQQ k1 k2 b hne (eQ k1 b hb) (eQ k2 b hb2), fun k1 b hb => h.G k1 b (eG k1 b hb),
    fun k1 a ha => h.pF k1 a (eF k1 _ ha), fun k1 a ha => h.pW k1 a (eW k1 _ ha), fun k1 a ha => h.pC k1 a (eC k1 a ha), fun k1 a ha => h.pQ k1 a (eQ k1 _ ha)⟩

/-- what a step of the library's means to the others -/
theorem Bks.rl (hb : Bks Wg w w' es) (h : GhI S Γ w t) (sW : S Wg) (k : Nat) : Rl (Γ k) w w' := by
  refine ⟨by rw [hb.size]; exact Nat.le_refl _, fun c hc => hb.block fun e => (h.low k c (.inl hc)).2 (e ▸ sW), fun a ha => cell_of (hb.block fun e => (h.lowC k a ha).2 (e ▸ sW)), fun a ha => World.frozen?_of_block (hb.block fun e => (h.lowC k a ha).2 (e ▸ sW)),
    fun c hc => hb.block fun e => (h.low k c (.inr (.inr hc))).2 (e ▸ sW), fun a v _ hv => ?_⟩
  rcases hb.w with rfl | ⟨x, u, _, rfl⟩
  · exact ⟨v, hv⟩
  · exact cell_set hv x u

theorem RelB.other {r g : Nat} (h : RelB Wg t k r) {fn : FuncId} {pos : String} (hg : g ≠ k) : RelB Wg (t ++ MemOp.ofEvents g fn pos es) k r := by
  refine ⟨h.rel.appOther ConcR.g_of_ofEvents hg, fun i hi hgi a ha => ?_⟩
  rcases gq_mem hgi with ⟨hlt, hg'⟩ | ⟨_, op, hop, hog⟩
  · exact h.sh i hi hg' a (by rw [← touchAt_old hlt]; exact ha)
  · exact absurd ((ConcR.g_of_ofEvents op hop).symm.trans hog) hg
theorem RelB.not {r : Nat} (h : RelB Wg t k r) {u : Trace} (hu : ∀ op ∈ u, op.g ≠ k) : RelB Wg (t ++ u) k r := by
  refine ⟨h.rel.appNot hu, fun i hi hgi a ha => ?_⟩
  rcases gq_mem hgi with ⟨hlt, hg'⟩ | ⟨_, op, hop, hog⟩
  · exact h.sh i hi hg' a (by rw [← touchAt_old hlt]; exact ha)
  · exact absurd hog (hu op hop)
/-- .. its own steps behind the release -/
theorem RelB.own {r d : Nat} (h : RelB Wg t k r) (hdk : Deaf t k = d) (fn : FuncId) (pos : String) (he : ∀ e ∈ es, BkE Wg e)
    (hd : ∀ i e, es[i]? = some e → (MemAct.ofEvent e).touch? = none ∨ 0 < deafBehind d (es.extract 0 i)) : RelB Wg (t ++ MemOp.ofEvents k fn pos es) k r := by
  refine ⟨h.rel.appOwn fn pos es fun i e hi => ?_, fun i hi hgi a ha => ?_⟩
  · rcases hd i e hi with h0 | h0
    · exact .inl h0
    · rcases he e (Array.mem_of_getElem? hi) with ⟨h1, _⟩ | ⟨a, wr, rfl, _⟩
      · exact .inl h1
      · exact .inr ⟨⟨a, wr, rfl⟩, by rw [hdk]; exact h0⟩
  · rcases touch_cases ha with ⟨hlt, ha'⟩ | ⟨_, op, hop, hot, _⟩
    · exact h.sh i hi (by rw [← g?_old hlt]; exact hgi) a ha'
    · exact bk_touch he fn pos op hop a hot
/-- the release itself -/
theorem RelB.new (hd : Deaf t k = 0) (fn : FuncId) (pos : String) : RelB Wg (t ++ MemOp.ofEvents k fn pos #[ConcR.mk (.releaseMerge (stA Wg))]) k t.size := by
  refine ⟨Go.ConcN.RelBy.new hd fn pos, fun i hi hgi a ha => ?_⟩
  have := gq_lt hgi
  simp [ofEvents_eq] at this
  omega
end

section
variable [Payload] {P : Program} {ty : TypeId} {Wg C n i : Nat} {v : Value} {w w' : World}

theorem Gi.running {main : Bool} {X : Pha} {Stop : Stp} (hX : ∀ γ g w Po, X γ g w Po → g.status = .running) (hS : ∀ γ g w, Stop γ g w → g.status = .running) : ∀ {ρ : Rk} {γ : Gh} {g : Goroutine} {w : World}, Gi P main X Stop ρ γ g w → g.status = .running
  | .leaf, _, _, w, h => hS _ _ _ (h w (Rl.refl _ w))
  | .mk _, _, _, w, h => h.elim (fun h => h.1) fun ⟨_, h, _⟩ => hX _ _ _ _ (h w (Rl.refl _ w))
theorem WS.running {r : WR} {d : WD} {γ : Gh} {g : Goroutine} (h : WS P ty Wg C n i v r d γ g w) : g.status = .running := by
  cases h with
  | gi h _ => exact Gi.running (fun _ _ _ _ h => h.elim) (fun _ _ _ h => h.1) h
  | lib h1 h2 h => exact h.running_of h2
theorem WS.rely {r : WR} {d : WD} {γ : Gh} {g : Goroutine} (h : WS P ty Wg C n i v r d γ g w) (hr : Rl γ w w') (hl : WgLive ty Wg w') (hp : PayAt C n w') (hc : d.stage ≠ 7 → w'.cell? ⟨C, i, none⟩ = w.cell? ⟨C, i, none⟩) : WS P ty Wg C n i v r d γ g w' := by
  cases h with
  | gi h hp => exact .gi (h.rely hr) hp
  | lib h1 h2 h => exact .lib h1 h2 (h.rely ⟨fun b hb => absurd hb (Nat.not_lt_zero b), fun _ => hl, fun _ => hp, by simpa using hc h1⟩)
end
end Go.Proofs.Ytndfookgkkefnaa
