/- The trace and the ghosts of many goroutines: what an own step does to them. -/
import Derived.Test.YtndfookgkkefnaaBM0
import Derived.Conc.CrowdRun
import Derived.Conc.Beside
namespace Go.Proofs.Ytndfookgkkefnaa
set_option linter.unusedSimpArgs false
set_option linter.unusedVariables false
set_option linter.unusedSectionVars false
open Go Go.Conc
open Go.ConcN (upd upd_same upd_ne PermW fork_knows)

/-- the cells of these blocks -/
def ShB (S : Nat → Prop) : Loc → Prop := fun l => ∃ a, l = .cell a ∧ S a.block

structure Tr (S : Nat → Prop) (b j N : Nat) (t : Trace) : Prop where
  clean : ∀ said, ¬ Race said t
  quiet : Quiet (ShB S) t
  known : ∀ i a, touchAt t i = some a → Knows t 0 i ∨ (ShB S a.loc ∧ a.kind = .atomic) ∨ ∃ g, t.g? i = some g ∧ b < g
  over : ∀ i g, t.g? i = some g → g ≠ 0 → t.counts i → (∃ q, t.g? q = some 0 ∧ HappensBefore t i q) ∨ b < g
  gs : ∀ (i : Nat) (op : MemOp), t[i]? = some op → op.g ≤ j
  seen : ∀ op ∈ t, op.act.low N

/-- operations of goroutine k that it may make -/
structure OkU (S : Nat → Prop) (t : Trace) (k N : Nat) (u : Trace) : Prop where
  g : ∀ op ∈ u, op.g = k
  ok : ∀ op ∈ u, ∀ x, op.act.touch? = some x → (ShB S x.loc ∧ x.kind ≠ .plain ∧ (x.kind = .said → k = 0)) ∨ (¬ ShB S x.loc ∧ (Perm t k x.loc ∨ (PermW t k x.loc ∧ x.write = false)))
  low : ∀ op ∈ u, op.act.low N

theorem gq_mem {t u : Trace} {i g : Nat} (h : (t ++ u).g? i = some g) : (i < t.size ∧ t.g? i = some g) ∨ (t.size ≤ i ∧ ∃ op ∈ u, op.g = g) := by
  obtain ⟨op, ho, rfl⟩ := Option.map_eq_some_iff.1 h
  rcases getElem?_append_cases ho with ⟨hi, ho'⟩ | ⟨hi, hou⟩
  · exact .inl ⟨hi, by simp [Trace.g?, ho']⟩
  · exact .inr ⟨hi, op, hou, rfl⟩
theorem gq_lt {t : Trace} {i g : Nat} (h : t.g? i = some g) : i < t.size := by
  obtain ⟨op, ho, _⟩ := Option.map_eq_some_iff.1 h
  exact lt_size_of_getElem? ho
theorem touch_cases {t u : Trace} {i : Nat} {a : Touch} (h : touchAt (t ++ u) i = some a) : (i < t.size ∧ touchAt t i = some a) ∨ (t.size ≤ i ∧ ∃ op ∈ u, op.act.touch? = some a ∧ (t ++ u)[i]? = some op) := by
  obtain ⟨x, hx, hxa⟩ := touch_of h
  rcases getElem?_append_cases hx with ⟨hi, hx'⟩ | ⟨hi, hxu⟩
  · exact .inl ⟨hi, by rw [touchAt_of hx']; exact hxa⟩
  · exact .inr ⟨hi, x, hxu, hxa, hx⟩
theorem counts_touch {t : Trace} {i : Nat} (h : t.counts i) : ∃ a, touchAt t i = some a := by
  obtain ⟨x, hx, _⟩ := h
  exact ⟨x, hx⟩

section
variable {S : Nat → Prop} {b j N N' k : Nat} {t u : Trace}

theorem Tr.app (h : Tr S b j N t) (hN : N ≤ N') (hk : k ≤ j) (hu : OkU S t k N' u) (h0 : k = 0 ∨ b < k ∨ ∀ op ∈ u, op.act.touch? = none) : Tr S b j N' (t ++ u) := by
  refine ⟨fun said => noRace_append (h.clean said) hu.g (fun i a ha op hop x hx hc => ?_), h.quiet.app fun op hop x hx hs => ?_, fun i a ha => ?_, fun i g hg hne hc => ?_, fun i op hi => ?_, seen_app (fun op hop => MemAct.low_mono hN (h.seen op hop)) hu.low⟩
  · rcases hu.ok op hop x hx with ⟨hs, hka, hkb⟩ | ⟨_, hp | ⟨hp, hw⟩⟩
    · exact h.quiet.known hs hka hkb i a ha hc
    · exact hp i a ha hc.1
    · exact hp i a ha hc.1 (hc.2.2.1.resolve_right (by simp [hw]))
  · rcases hu.ok op hop x hx with ⟨_, hka, hkb⟩ | ⟨hn, _⟩
    · exact ⟨hka, fun e => (hu.g op hop).trans (hkb e)⟩
    · exact absurd hs hn
  · rcases touch_cases ha with ⟨hi, ha'⟩ | ⟨hi, op, hop, hta, hx⟩
    · rcases h.known i a ha' with h1 | h1 | ⟨g, hg, hb⟩
      · exact .inl (h1.app u)
      · exact .inr (.inl h1)
      · exact .inr (.inr ⟨g, by rw [g?_old hi]; exact hg, hb⟩)
    · have hg := hu.g op hop
      rcases h0 with h0 | h0 | h0
      · have := knows_own hx
        rw [hg, h0] at this
        exact .inl this
      · exact .inr (.inr ⟨k, by simp [Trace.g?, hx, hg], h0⟩)
      · rw [h0 op hop] at hta; cases hta
  · rcases gq_mem hg with ⟨hi, hg'⟩ | ⟨hi, op, hop, hog⟩
    · rcases h.over i g hg' hne ((counts_old hi).1 hc) with ⟨q, hq, hb⟩ | hb
      · exact .inl ⟨q, by rw [g?_old (gq_lt hq)]; exact hq, hb_app u hb⟩
      · exact .inr hb
    · have hkg : k = g := (hu.g op hop).symm.trans hog
      rcases h0 with h0 | h0 | h0
      · omega
      · exact .inr (by omega)
      · obtain ⟨a, ha⟩ := counts_touch hc
        rcases touch_cases ha with ⟨hi', _⟩ | ⟨_, op', hop', hta, _⟩
        · omega
        · rw [h0 op' hop'] at hta; cases hta
  · rcases getElem?_append_cases hi with ⟨_, hi'⟩ | ⟨_, hiu⟩
    · exact h.gs i op hi'
    · rw [hu.g op hiu]; exact hk
theorem low_touch {x : MemAct} {y : Touch} {a : Addr} (h : x.low N) (ht : x.touch? = some y) (hl : y.loc = .cell a) : a.block < N := by
  cases x with
  | access e =>
    simp only [MemAct.touch?, Option.some.injEq] at ht
    subst ht
    simp only at hl
    simp only [MemAct.low, hl] at h
    exact h
  | mark m =>
    cases m <;> simp only [MemAct.touch?, Option.some.injEq] at ht <;> first | (cases ht; done) | (subst ht; simp only [Loc.cell.injEq] at hl; subst hl; exact h)
  | _ => cases ht
theorem Tr.lowAt (h : Tr S b j N t) {i : Nat} {x : Touch} (hx : touchAt t i = some x) {a : Addr} (hl : x.loc = .cell a) : a.block < N := by
  obtain ⟨op, hop, hot⟩ := touch_of hx
  exact low_touch (h.seen op (Array.mem_of_getElem? hop)) hot hl
theorem Tr.fresh (h : Tr S b j N t) {a : Addr} (ha : N ≤ a.block) (g : Nat) : Perm t g (.cell a) := fun i x hx hl => by
  have := h.lowAt hx hl
  omega
end

/-- what is held of the ghosts -/
structure GhI (S : Nat → Prop) (Γ : Nat → Gh) (w : World) (t : Trace) : Prop where
  s : ∀ b, S b → b < w.heap.size
  low : ∀ k b, (Γ k).F b ∨ (Γ k).W b ∨ (Γ k).Q b → b < w.heap.size ∧ ¬ S b
  lowC : ∀ k a, (Γ k).Cs a → a.block < w.heap.size ∧ ¬ S a.block
  sep : ∀ k k' b, k ≠ k' → (Γ k).W b → ¬ (Γ k').F b ∧ ¬ (Γ k').W b
  sepC : ∀ k k' a, (Γ k).Cs a → ¬ (Γ k').F a.block ∧ ¬ (Γ k').W a.block ∧ ¬ (Γ k').Q a.block
  sepCC : ∀ k k' a, k ≠ k' → (Γ k).Cs a → ¬ (Γ k').Cs a
  sepQ : ∀ k k' b, (Γ k).Q b → ¬ (Γ k').F b ∧ ¬ (Γ k').W b
  sepQQ : ∀ k k' b, k ≠ k' → (Γ k).Q b → ¬ (Γ k').Q b
  G : ∀ k b, (Γ k).G b → S b
  pF : ∀ k a, (Γ k).F a.block → PermW t k (.cell a)
  pW : ∀ k a, (Γ k).W a.block → Perm t k (.cell a)
  pC : ∀ k a, (Γ k).Cs a → Perm t k (.cell a)
  pQ : ∀ k a, (Γ k).Q a.block → ∀ i x, touchAt t i = some x → x.loc ≠ .cell a

section
variable {S : Nat → Prop} {Γ : Nat → Gh} {w w' : World} {t : Trace} {b j k : Nat} {γ' : Gh} {es : Array Event}

/-- where a step does not write -/
theorem Up.stands (h : GhI S Γ w t) (hu : Up (Γ k) w w' es γ') {b : Nat} (hb : b < w.heap.size) (hW : ¬ (Γ k).W b) (hC : ∀ a, (Γ k).Cs a → a.block ≠ b) : w'.heap[b]? = w.heap[b]? := by
  rcases hu.old with h1 | ⟨a, u, v, hc, _, rfl⟩
  · exact h1 b hb hW
  · exact set_other (Ne.symm (hC a hc)) v
theorem GhI.rl (h : GhI S Γ w t) (hu : Up (Γ k) w w' es γ') {k' : Nat} (hne : k' ≠ k) : Rl (Γ k') w w' := by
  refine ⟨hu.size, fun b hb => hu.stands h (h.low k' b (.inl hb)).1 (fun hw => (h.sep k k' b (Ne.symm hne) hw).1 hb) (fun a ha e => (h.sepC k k' a ha).1 (e ▸ hb)), fun a ha => ?_, fun a ha => ?_,
    fun b hb => hu.stands h (h.low k' b (.inr (.inr hb))).1 (fun hw => (h.sepQ k' k b hb).2 hw) (fun a ha e => (h.sepC k k' a ha).2.2 (e ▸ hb)), fun a v hg hv => ⟨v, ?_⟩⟩
  · rcases hu.old with h1 | ⟨x, u, v, hc, _, rfl⟩
    · exact cell_of (h1 _ (h.lowC k' a ha).1 (h.sepC k' k a ha).2.1)
    · exact set_ne' (fun e => h.sepCC k' k a hne ha (by rw [e]; exact hc)) v
  · rcases hu.old with h1 | ⟨x, u, v, hc, _, rfl⟩
    · exact World.frozen?_of_block (h1 _ (h.lowC k' a ha).1 (h.sepC k' k a ha).2.1)
    · exact fz_set w x a v
  · have hs := h.G k' _ hg
    rw [cell_of (hu.stands h (h.s _ hs) (fun hw => (h.low k _ (.inr (.inl hw))).2 hs) (fun y hy e => (h.lowC k y hy).2 (e ▸ hs)))]
    exact hv
theorem GhI.sh (h : GhI S Γ w t) (hu : Up (Γ k) w w' es γ') {b : Nat} (hs : S b) : w'.heap[b]? = w.heap[b]? :=
  hu.stands h (h.s b hs) (fun hw => (h.low k b (.inr (.inl hw))).2 hs) fun a ha e => (h.lowC k a ha).2 (e ▸ hs)

theorem ev_cases {fn : FuncId} {pos : String} {op : MemOp} (h : op ∈ MemOp.ofEvents k fn pos es) {γ : Gh} (hev : ∀ e ∈ es, Ev γ w w' e) :
    op.g = k ∧ ((op.act.touch? = none ∧ (∀ N, op.act.low N) ∧ ∀ a, op.act ≠ .mark (.release a)) ∨ ∃ (a : Addr) (wr sy : Bool), ⟨.cell a, wr, sy⟩ ∈ es ∧ op.act = .access ⟨.cell a, wr, sy⟩ ∧
      ((γ.F a.block ∧ wr = false) ∨ γ.W a.block ∨ γ.Cs a ∨ (w.heap.size ≤ a.block ∧ a.block < w'.heap.size))) := by
  obtain ⟨e, he, rfl⟩ := Go.Conc.mem_ofEvents h
  refine ⟨rfl, ?_⟩
  rcases hev e he with ⟨a, wr, sy, rfl, hc⟩ | ⟨m, rfl, hm⟩
  · exact .inr ⟨a, wr, sy, he, rfl, hc⟩
  · unfold Neutral at hm
    subst hm
    exact .inl ⟨rfl, fun _ => trivial, fun a => by simp [MemAct.ofEvent]⟩

theorem GhI.ok (h : GhI S Γ w t) (ht : Tr S b j w.heap.size t) (hu : Up (Γ k) w w' es γ') (fn : FuncId) (pos : String) : OkU S t k w'.heap.size (MemOp.ofEvents k fn pos es) := by
  refine ⟨fun op hop => (ev_cases hop hu.ev).1, fun op hop x hx => ?_, fun op hop => ?_⟩
  · rcases (ev_cases hop hu.ev).2 with ⟨hn, _⟩ | ⟨a, wr, sy, _, ha, hc⟩
    · rw [hn] at hx; cases hx
    · rw [ha] at hx
      simp only [MemAct.touch?, Option.some.injEq] at hx
      subst hx
      have nsh : ¬ S a.block → ¬ ShB S (.cell a) := fun hn ⟨y, hy, hs⟩ => by injection hy with hy; exact hn (hy ▸ hs)
      right
      rcases hc with ⟨hF, hw⟩ | hW | hC | ⟨h1, h2⟩
      · exact ⟨nsh (h.low k _ (.inl hF)).2, .inr ⟨h.pF k a hF, hw⟩⟩
      · exact ⟨nsh (h.low k _ (.inr (.inl hW))).2, .inl (h.pW k a hW)⟩
      · exact ⟨nsh (h.lowC k a hC).2, .inl (h.pC k a hC)⟩
      · exact ⟨nsh fun hs => by have := h.s _ hs; omega, .inl (ht.fresh h1 k)⟩
  · rcases (ev_cases hop hu.ev).2 with ⟨_, hl, _⟩ | ⟨a, wr, sy, _, ha, hc⟩
    · exact hl _
    · rw [ha]
      show a.block < w'.heap.size
      have hs := hu.size
      rcases hc with ⟨hF, _⟩ | hW | hC | ⟨_, h2⟩
      · have := (h.low k _ (.inl hF)).1; omega
      · have := (h.low k _ (.inr (.inl hW))).1; omega
      · have := (h.lowC k a hC).1; omega
      · exact h2

theorem GhI.step (h : GhI S Γ w t) (ht : Tr S b j w.heap.size t) (hu : Up (Γ k) w w' es γ') (fn : FuncId) (pos : String) : GhI S (upd Γ k γ') w' (t ++ MemOp.ofEvents k fn pos es) := by
  have hsz := hu.size
  have eF : ∀ k1 b, (upd Γ k γ' k1).F b → (Γ k1).F b ∨ (k1 = k ∧ w.heap.size ≤ b ∧ b < w'.heap.size) := fun k1 b hb => by
    by_cases e : k1 = k
    · subst e; rw [upd_same] at hb; exact (hu.F b hb).imp id fun x => ⟨rfl, x⟩
    · rw [upd_ne Γ _ e] at hb; exact .inl hb
  have eW : ∀ k1 b, (upd Γ k γ' k1).W b → (Γ k1).W b ∨ (k1 = k ∧ w.heap.size ≤ b ∧ b < w'.heap.size) := fun k1 b hb => by
    by_cases e : k1 = k
    · subst e; rw [upd_same] at hb; exact (hu.W b hb).imp id fun x => ⟨rfl, x⟩
    · rw [upd_ne Γ _ e] at hb; exact .inl hb
  have eC : ∀ k1 a, (upd Γ k γ' k1).Cs a → (Γ k1).Cs a := fun k1 a ha => by
    by_cases e : k1 = k
    · subst e; rw [upd_same] at ha; exact hu.Cs a ha
    · rw [upd_ne Γ _ e] at ha; exact ha
  have eQ : ∀ k1 b, (upd Γ k γ' k1).Q b → (Γ k1).Q b ∨ (k1 = k ∧ (w.heap.size ≤ b ∧ b < w'.heap.size) ∧ ¬ γ'.F b ∧ ¬ γ'.W b ∧ ∀ e ∈ es, ∀ a : Addr, e.loc = .cell a → a.block ≠ b) := fun k1 b hb => by
    by_cases e : k1 = k
    · subst e; rw [upd_same] at hb; exact (hu.Q b hb).imp id fun x => ⟨rfl, x⟩
    · rw [upd_ne Γ _ e] at hb; exact .inl hb
  have lw : ∀ k1 b, (Γ k1).F b ∨ (Γ k1).W b ∨ (Γ k1).Q b → b < w.heap.size := fun k1 b hb => (h.low k1 b hb).1
  have nw : ∀ (a : Addr), ∀ op ∈ MemOp.ofEvents k fn pos es, ∀ x, op.act.touch? = some x → x.loc = .cell a → op.g = k ∧ (((Γ k).F a.block ∧ x.write = false) ∨ (Γ k).W a.block ∨ (Γ k).Cs a ∨ (w.heap.size ≤ a.block ∧ a.block < w'.heap.size)) ∧ ∃ e ∈ es, e.loc = .cell a := fun a op hop x hx hl => by
      obtain ⟨hg, hc⟩ := ev_cases hop hu.ev
      refine ⟨hg, ?_⟩
      rcases hc with ⟨hn, _⟩ | ⟨a', wr, sy, hm, ha, hc⟩
      · rw [hn] at hx; cases hx
      · rw [ha] at hx
        simp only [MemAct.touch?, Option.some.injEq] at hx
        subst hx
        simp only [Loc.cell.injEq] at hl
        subst hl
        exact ⟨hc, _, hm, rfl⟩
  refine ⟨fun b hb => by have := h.s b hb; omega, fun k1 b hb => ?_, fun k1 a ha => by have := h.lowC k1 a (eC k1 a ha); exact ⟨by omega, this.2⟩, fun k1 k2 b hne hb => ?_, fun k1 k2 a ha => ?_,
    fun k1 k2 a hne ha hb => h.sepCC k1 k2 a hne (eC k1 a ha) (eC k2 a hb), fun k1 k2 b hb => ?_, fun k1 k2 b hne hb hb2 => ?_, fun k1 b hb => ?_, fun k1 a ha => ?_, fun k1 a ha => ?_, fun k1 a ha => ?_, fun k1 a ha i x hx => ?_⟩
  · have hcs : ((Γ k1).F b ∨ (Γ k1).W b ∨ (Γ k1).Q b) ∨ (w.heap.size ≤ b ∧ b < w'.heap.size) := by
      rcases hb with hb | hb | hb
      · rcases eF k1 b hb with x | x
        · exact .inl (.inl x)
        · exact .inr x.2
      · rcases eW k1 b hb with x | x
        · exact .inl (.inr (.inl x))
        · exact .inr x.2
      · rcases eQ k1 b hb with x | x
        · exact .inl (.inr (.inr x))
        · exact .inr x.2.1
    rcases hcs with x | x
    · have := h.low k1 b x; exact ⟨by omega, this.2⟩
    · exact ⟨x.2, fun hs => by have := h.s b hs; omega⟩
  · refine ⟨fun hf => ?_, fun hf => ?_⟩
    · rcases eW k1 b hb with x | x <;> rcases eF k2 b hf with y | y
      · exact (h.sep k1 k2 b hne x).1 y
      · have := lw k1 b (.inr (.inl x)); omega
      · have := lw k2 b (.inl y); omega
      · omega
    · rcases eW k1 b hb with x | x <;> rcases eW k2 b hf with y | y
      · exact (h.sep k1 k2 b hne x).2 y
      · have := lw k1 b (.inr (.inl x)); omega
      · have := lw k2 b (.inr (.inl y)); omega
      · omega
  · have ha' := eC k1 a ha
    have h1 := h.sepC k1 k2 a ha'
    have h2 := (h.lowC k1 a ha').1
    refine ⟨fun hf => ?_, fun hf => ?_, fun hf => ?_⟩
    · rcases eF k2 _ hf with y | y
      · exact h1.1 y
      · omega
    · rcases eW k2 _ hf with y | y
      · exact h1.2.1 y
      · omega
    · rcases eQ k2 _ hf with y | y
      · exact h1.2.2 y
      · omega
  · refine ⟨fun hf => ?_, fun hf => ?_⟩
    · rcases eQ k1 b hb with x | x <;> rcases eF k2 b hf with y | y
      · exact (h.sepQ k1 k2 b x).1 y
      · have := lw k1 b (.inr (.inr x)); omega
      · have := lw k2 b (.inl y); omega
      · obtain rfl : k2 = k := y.1
        rw [upd_same] at hf
        exact x.2.2.1 hf
    · rcases eQ k1 b hb with x | x <;> rcases eW k2 b hf with y | y
      · exact (h.sepQ k1 k2 b x).2 y
      · have := lw k1 b (.inr (.inr x)); omega
      · have := lw k2 b (.inr (.inl y)); omega
      · obtain rfl : k2 = k := y.1
        rw [upd_same] at hf
        exact x.2.2.2.1 hf
  · rcases eQ k1 b hb with x | x <;> rcases eQ k2 b hb2 with y | y
    · exact h.sepQQ k1 k2 b hne x y
    · have := lw k1 b (.inr (.inr x)); omega
    · have := lw k2 b (.inr (.inr y)); omega
    · omega
  · by_cases e : k1 = k
    · subst e; rw [upd_same, hu.G] at hb; exact h.G k1 b hb
    · rw [upd_ne Γ _ e] at hb; exact h.G k1 b hb
  · have base : PermW t k1 (.cell a) := by
      rcases eF k1 _ ha with x | x
      · exact h.pF k1 a x
      · exact PermW.of (ht.fresh x.2.1 k1)
    refine base.app fun op hop x hx hl hw => ?_
    obtain ⟨hg, hc, _⟩ := nw a op hop x hx hl
    by_cases e : k1 = k
    · rw [hg, e]
    · rw [upd_ne Γ _ e] at ha
      exfalso
      rcases hc with ⟨_, hw'⟩ | hc | hc | hc
      · rw [hw] at hw'; cases hw'
      · exact (h.sep k k1 _ (Ne.symm e) hc).1 ha
      · exact (h.sepC k k1 a hc).1 ha
      · have := lw k1 _ (.inl ha); omega
  · have base : Perm t k1 (.cell a) := by
      rcases eW k1 _ ha with x | x
      · exact h.pW k1 a x
      · exact ht.fresh x.2.1 k1
    refine base.app fun op hop x hx hl => ?_
    obtain ⟨hg, hc, _⟩ := nw a op hop x hx hl
    by_cases e : k1 = k
    · rw [hg, e]
    · rw [upd_ne Γ _ e] at ha
      exfalso
      rcases hc with ⟨hc, _⟩ | hc | hc | hc
      · exact (h.sep k1 k _ e ha).1 hc
      · exact (h.sep k k1 _ (Ne.symm e) hc).2 ha
      · exact (h.sepC k k1 a hc).2.1 ha
      · have := lw k1 _ (.inr (.inl ha)); omega
  · have ha' := eC k1 a ha
    refine (h.pC k1 a ha').app fun op hop x hx hl => ?_
    obtain ⟨hg, hc, _⟩ := nw a op hop x hx hl
    by_cases e : k1 = k
    · rw [hg, e]
    · exfalso
      have h1 := h.sepC k1 k a ha'
      rcases hc with ⟨hc, _⟩ | hc | hc | hc
      · exact h1.1 hc
      · exact h1.2.1 hc
      · exact h.sepCC k k1 a (Ne.symm e) hc ha'
      · have := (h.lowC k1 a ha').1; omega
  · intro hl
    rcases touch_cases hx with ⟨_, hx'⟩ | ⟨_, op, hop, hot, _⟩
    · rcases eQ k1 _ ha with y | y
      · exact h.pQ k1 a y i x hx' hl
      · have := ht.lowAt hx' hl; omega
    · obtain ⟨hg, hc, e, he, hel⟩ := nw a op hop x hot hl
      rcases eQ k1 _ ha with y | y
      · rcases hc with ⟨hc, _⟩ | hc | hc | hc
        · exact (h.sepQ k1 k _ y).1 hc
        · exact (h.sepQ k1 k _ y).2 hc
        · exact (h.sepC k k1 a hc).2.2 y
        · have := lw k1 _ (.inr (.inr y)); omega
      · exact y.2.2.2.2 e he a hel rfl
end
end Go.Proofs.Ytndfookgkkefnaa
