/- One goroutine's own steps among others that change the heap: a ghost says which blocks it counts on ('F'), which it may write ('W'), which single cells are its own ('Cs'). No count of steps: a tree ('Rk') says that it comes to an end. -/
import Derived.Conc.CompanyMem
import Derived.Conc.DeferLaws
import Derived.Conc.AppendEvents3
import Derived.Conc.CrowdSit
namespace Go.Proofs.Ytndfookgkkefnaa
set_option linter.unusedSimpArgs false
set_option linter.unusedVariables false
set_option linter.unusedSectionVars false
open Go Go.Conc

/-- hidden from simp -/
structure Hd (p : Prop) : Prop where
  out : p

/-- where the starter of a group stands (the group's block, the results' block, how many, what is written again behind the join, the results, how many are started, the place, a bound) -/
inductive Pt where
  | no
  | at (Wg C n : Nat) (K : Nat → Prop) (val : Nat → Value) (j : Nat) (tag : ConcN.CTag) (bd : Nat)

structure Gh where
  F : Nat → Prop
  W : Nat → Prop
  Cs : Addr → Prop
  Q : Nat → Prop
  G : Nat → Prop
  p : Pt

/-- how far it is to the stop -/
inductive Rk where
  | leaf
  | mk (f : Gh → Goroutine → World → Rk)

/-- what the others may have done -/
structure Rl (γ : Gh) (w w₁ : World) : Prop where
  size : w.heap.size ≤ w₁.heap.size
  blk : ∀ b, γ.F b → w₁.heap[b]? = w.heap[b]?
  cell : ∀ a, γ.Cs a → w₁.cell? a = w.cell? a
  fz : ∀ a, γ.Cs a → w₁.frozen? a = w.frozen? a
  q : ∀ b, γ.Q b → w₁.heap[b]? = w.heap[b]?
  ex : ∀ a v, γ.G a.block → w.cell? a = some v → ∃ v', w₁.cell? a = some v'

theorem Rl.refl (γ : Gh) (w : World) : Rl γ w w := ⟨Nat.le_refl _, fun _ _ => rfl, fun _ _ => rfl, fun _ _ => rfl, fun _ _ => rfl, fun _ v _ h => ⟨v, h⟩⟩
theorem Rl.trans {γ : Gh} {w w₁ w₂ : World} (h : Rl γ w w₁) (k : Rl γ w₁ w₂) : Rl γ w w₂ :=
  ⟨Nat.le_trans h.size k.size, fun b hb => (k.blk b hb).trans (h.blk b hb), fun a ha => (k.cell a ha).trans (h.cell a ha), fun a ha => (k.fz a ha).trans (h.fz a ha),
   fun b hb => (k.q b hb).trans (h.q b hb), fun a v hg hv => let ⟨v', hv'⟩ := h.ex a v hg hv; k.ex a v' hg hv'⟩

/-- what a step may list -/
def Ev (γ : Gh) (w w' : World) (e : Event) : Prop :=
  (∃ (a : Addr) (wr sy : Bool), e = ⟨.cell a, wr, sy⟩ ∧
    ((γ.F a.block ∧ wr = false) ∨ γ.W a.block ∨ γ.Cs a ∨ (w.heap.size ≤ a.block ∧ a.block < w'.heap.size))) ∨ ∃ m, e = ⟨.mark m, false, true⟩ ∧ Neutral m

/-- what no step turns: the world outside the heap -/
def Kp (w w' : World) : Prop := w'.os = w.os ∧ w'.output = w.output
theorem Kp.refl (w : World) : Kp w w := ⟨rfl, rfl⟩
theorem Kp.trans {w w₁ w₂ : World} (h : Kp w w₁) (k : Kp w₁ w₂) : Kp w w₂ := ⟨k.1.trans h.1, k.2.trans h.2⟩
/-- what a step may do -/
structure Up (γ : Gh) (w w' : World) (es : Array Event) (γ' : Gh) : Prop where
  size : w.heap.size ≤ w'.heap.size
  old : (∀ b, b < w.heap.size → ¬ γ.W b → w'.heap[b]? = w.heap[b]?) ∨ ∃ a u v, γ.Cs a ∧ w.cell? a = some u ∧ w' = w.setCell a v
  F : ∀ b, γ'.F b → γ.F b ∨ (w.heap.size ≤ b ∧ b < w'.heap.size)
  W : ∀ b, γ'.W b → γ.W b ∨ (w.heap.size ≤ b ∧ b < w'.heap.size)
  Cs : ∀ a, γ'.Cs a → γ.Cs a
  ev : ∀ e ∈ es, Ev γ w w' e
  Q : ∀ b, γ'.Q b → γ.Q b ∨ ((w.heap.size ≤ b ∧ b < w'.heap.size) ∧ ¬ γ'.F b ∧ ¬ γ'.W b ∧ ∀ e ∈ es, ∀ a : Addr, e.loc = .cell a → a.block ≠ b)
  G : γ'.G = γ.G
  p : γ'.p = γ.p
  kp : Kp w w'

theorem Up.idle (γ : Gh) (w : World) {es : Array Event} (h : ∀ e ∈ es, Ev γ w w e) : Up γ w w es γ :=
  ⟨Nat.le_refl _, .inl fun _ _ _ => rfl, fun _ h => .inl h, fun _ h => .inl h, fun _ h => h, h, fun _ h => .inl h, rfl, rfl, ⟨rfl, rfl⟩⟩
theorem Up.idle0 (γ : Gh) (w : World) : Up γ w w #[] γ := Up.idle γ w (by simp)

theorem size_set (w : World) (x : Addr) (v : Value) : (w.setCell x v).heap.size = w.heap.size := by simp [World.setCell]
theorem set_other {w : World} {x : Addr} {b : Nat} (h : b ≠ x.block) (v : Value) : (w.setCell x v).heap[b]? = w.heap[b]? := by
  simp [World.setCell, Array.getElem?_modify, Ne.symm h]
theorem fz_set (w : World) (x a : Addr) (v : Value) : (w.setCell x v).frozen? a = w.frozen? a := by
  unfold World.frozen?
  simp only [World.setCell, Array.getElem?_modify]
  by_cases h : x.block = a.block
  · rw [if_pos h]
    cases w.heap[a.block]? with
    | none => rfl
    | some ob => cases ob <;> rfl
  · rw [if_neg h]
theorem set_block (w : World) (x : Addr) (v : Value) {w₁ : World} (h : w₁.heap[x.block]? = w.heap[x.block]?) : (w₁.setCell x v).heap[x.block]? = (w.setCell x v).heap[x.block]? := by
  simp [World.setCell, Array.getElem?_modify, h]
theorem cell_of {w w₁ : World} {a : Addr} (h : w₁.heap[a.block]? = w.heap[a.block]?) : w₁.cell? a = w.cell? a := by unfold World.cell?; rw [h]
theorem set_same {w : World} {x : Addr} {u : Value} (h : w.cell? x = some u) (v : Value) : (w.setCell x v).cell? x = some v := by
  unfold World.cell? at h ⊢
  simp only [World.setCell, Array.getElem?_modify, if_true]
  cases hb : w.heap[x.block]? with
  | none => rw [hb] at h; cases h
  | some ob =>
    rw [hb] at h
    cases ob with
    | cells c t fz =>
      cases hs : x.spot with
      | some y => simp [hs] at h
      | none =>
        simp only [hs, Option.isSome_none, Bool.false_eq_true, if_false] at h ⊢
        have : x.off < c.size := by
          rcases Nat.lt_or_ge x.off c.size with h' | h'
          · exact h'
          · rw [Array.getElem?_eq_none h'] at h; cases h
        simp [this]
    | _ => cases h
theorem cell_set {w : World} {a : Addr} {u : Value} (h : w.cell? a = some u) (x : Addr) (v : Value) : ∃ u', (w.setCell x v).cell? a = some u' := by
  unfold World.cell? at h ⊢
  simp only [World.setCell, Array.getElem?_modify]
  by_cases e : x.block = a.block
  · rw [if_pos e]
    cases hb : w.heap[a.block]? with
    | none => rw [hb] at h; cases h
    | some ob =>
      rw [hb] at h
      cases ob with
      | cells c t fz =>
        cases hs : a.spot with
        | some y => simp [hs] at h
        | none =>
          simp only [hs, Option.isSome_none, Bool.false_eq_true, if_false] at h
          have hlt : a.off < c.size := by
            rcases Nat.lt_or_ge a.off c.size with h' | h'
            · exact h'
            · rw [Array.getElem?_eq_none h'] at h; cases h
          simp [Array.getElem?_setIfInBounds, hlt]
          split <;> simp_all
      | _ => cases h
  · rw [if_neg e]; exact ⟨u, h⟩
theorem cell_unset {w : World} {a x : Addr} {u v : Value} (h : (w.setCell x v).cell? a = some u) : ∃ u', w.cell? a = some u' := by
  unfold World.cell? at h ⊢
  simp only [World.setCell, Array.getElem?_modify] at h
  by_cases e : x.block = a.block
  · rw [if_pos e] at h
    cases hb : w.heap[a.block]? with
    | none => rw [hb] at h; cases h
    | some ob =>
      rw [hb] at h
      cases ob with
      | cells c t fz =>
        cases hs : a.spot with
        | some y => simp [hs] at h
        | none =>
          simp only [Option.map_some, hs, Option.isSome_none, Bool.false_eq_true, if_false] at h
          have hlt : a.off < c.size := by
            rcases Nat.lt_or_ge a.off c.size with h' | h'
            · exact h'
            · rw [Array.getElem?_eq_none (by split <;> simpa using h')] at h; cases h
          simp [hlt]
      | _ => cases h
  · rw [if_neg e] at h; exact ⟨u, h⟩
theorem Rl.set {γ : Gh} {w w₁ : World} (h : Rl γ w w₁) {x : Addr} (hx : γ.F x.block) (v : Value) : Rl γ (w.setCell x v) (w₁.setCell x v) := by
  refine ⟨by rw [size_set, size_set]; exact h.size, fun b hb => ?_, fun a ha => ?_, fun a ha => by rw [fz_set, fz_set]; exact h.fz a ha, fun b hb => ?_, fun a u hg hu => ?_⟩
  · by_cases e : b = x.block
    · subst e; exact set_block w x v (h.blk _ hb)
    · rw [set_other e, set_other e]; exact h.blk b hb
  · by_cases e : a.block = x.block
    · exact cell_of (by rw [e]; exact set_block w x v (h.blk _ hx))
    · rw [cell_of (w := w₁) (set_other e v), cell_of (w := w) (set_other e v)]; exact h.cell a ha
  · by_cases e : b = x.block
    · subst e; exact set_block w x v (h.blk _ hx)
    · rw [set_other e, set_other e]; exact h.q b hb
  · obtain ⟨u0, hu0⟩ := cell_unset hu
    obtain ⟨u1, hu1⟩ := h.ex a u0 hg hu0
    exact cell_set hu1 x v
theorem set_ne' {w : World} {x a : Addr} (h : a ≠ x) (v : Value) : (w.setCell x v).cell? a = w.cell? a := by
  by_cases e : a.block = x.block
  · unfold World.cell?
    simp only [World.setCell, Array.getElem?_modify, e, if_true]
    cases hb : w.heap[x.block]? with
    | none => rfl
    | some ob =>
      cases ob with
      | cells c t fz =>
        cases hs : a.spot with
        | some y => simp
        | none =>
          cases hx : x.spot with
          | some y => simp
          | none =>
            have : x.off ≠ a.off := fun eo => h (by cases a; cases x; simp_all)
            simp [this]
      | _ => rfl
  · exact cell_of (set_other e v)

def Gh.new (γ : Gh) (n : Nat) : Gh := { γ with F := fun b => γ.F b ∨ b = n, W := fun b => γ.W b ∨ b = n }
def Gh.newQ (γ : Gh) (n : Nat) : Gh := { γ with Q := fun b => γ.Q b ∨ b = n }
theorem up_new (γ : Gh) (w : World) (ob : Obj) {es : Array Event} (h : ∀ e ∈ es, Ev γ w (w.alloc ob) e) : Up γ w (w.alloc ob) es (γ.new w.heap.size) := by
  have hs : (w.alloc ob).heap.size = w.heap.size + 1 := by simp [World.alloc, -World.alloc_eq]
  refine ⟨by omega, .inl fun b hb _ => ?_, fun b hb => hb.imp id fun e => ?_, fun b hb => hb.imp id fun e => ?_, fun _ h => h, h, fun _ h => .inl h, rfl, rfl, ⟨rfl, rfl⟩⟩
  · simp only [World.alloc]; rw [Array.getElem?_push, if_neg (by omega)]
  · subst e; omega
  · subst e; omega

/-- a stretch that the machine carries out as a whole (a phase of workers): from here to one of these -/
abbrev Pha := Gh → Goroutine → World → (Gh → Goroutine → World → Prop) → Prop
abbrev Stp := Gh → Goroutine → World → Prop
def noPh : Pha := fun _ _ _ _ => False

def Gi (P : Program) (main : Bool) (X : Pha) (Stop : Stp) : Rk → Stp
  | .leaf, γ, g, w => ∀ w₁, Rl γ w w₁ → Stop γ g w₁
  | .mk f, γ, g, w => (g.status = .running ∧ ∀ w₁, Rl γ w w₁ → (stepG P main g w₁).goes fun g' w' es => ∃ γ', Up γ w₁ w' es γ' ∧ Gi P main X Stop (f γ g w₁) γ' g' w') ∨
    ∃ Post, (∀ w₁, Rl γ w w₁ → X γ g w₁ Post) ∧ ∀ γ' g' w', Post γ' g' w' → Gi P main X Stop (f γ' g' w') γ' g' w'

def GI (P : Program) (main : Bool) (X : Pha) (Stop : Stp) (γ : Gh) (g : Goroutine) (w : World) : Prop := ∃ ρ, Gi P main X Stop ρ γ g w

section
variable {P : Program} {main : Bool} {X : Pha} {Stop Stop' : Stp} {γ : Gh} {g : Goroutine} {w w₁ : World}

theorem goes_mono' {s : GStep} {K K' : Goroutine → World → Array Event → Prop} (h : ∀ g w es, K g w es → K' g w es) (hs : s.goes K) : s.goes K' := by
  cases s <;> first | exact h _ _ _ hs | exact hs

theorem Gi.rely {ρ : Rk} (h : Gi P main X Stop ρ γ g w) (hr : Rl γ w w₁) : Gi P main X Stop ρ γ g w₁ := by
  cases ρ with
  | leaf => exact fun w₂ h₂ => h w₂ (hr.trans h₂)
  | mk f => exact h.imp (fun h => ⟨h.1, fun w₂ h₂ => h.2 w₂ (hr.trans h₂)⟩) fun ⟨Po, h, k⟩ => ⟨Po, fun w₂ h₂ => h w₂ (hr.trans h₂), k⟩
theorem GI.rely (h : GI P main X Stop γ g w) (hr : Rl γ w w₁) : GI P main X Stop γ g w₁ := let ⟨ρ, h⟩ := h; ⟨ρ, h.rely hr⟩
theorem GI.stop (h : ∀ w₁, Rl γ w w₁ → Stop γ g w₁) : GI P main X Stop γ g w := ⟨.leaf, h⟩
theorem GI.step (hs : g.status = .running) (h : ∀ w₁, Rl γ w w₁ → (stepG P main g w₁).goes fun g' w' es => ∃ γ', Up γ w₁ w' es γ' ∧ GI P main X Stop γ' g' w') : GI P main X Stop γ g w := by
  have h' : ∀ w₁, ∃ ρ, Rl γ w w₁ → (stepG P main g w₁).goes fun g' w' es => ∃ γ', Up γ w₁ w' es γ' ∧ Gi P main X Stop ρ γ' g' w' := fun w₁ => by
    by_cases hr : Rl γ w w₁
    · have := h w₁ hr
      cases hgo : stepG P main g w₁ with
      | go g' w' es => rw [hgo] at this; obtain ⟨γ', hu, ρ, hg⟩ := this; exact ⟨ρ, fun _ => ⟨γ', hu, hg⟩⟩
      | _ => rw [hgo] at this; exact this.elim
    · exact ⟨.leaf, fun x => absurd x hr⟩
  exact ⟨.mk fun _ _ w₁ => (h' w₁).choose, .inl ⟨hs, fun w₁ hr => (h' w₁).choose_spec hr⟩⟩
theorem GI.phase (Po : Stp) (h : ∀ w₁, Rl γ w w₁ → X γ g w₁ Po) (hn : ∀ γ' g' w', Po γ' g' w' → GI P main X Stop γ' g' w') : GI P main X Stop γ g w := by
  have h' : ∀ γ' g' w', ∃ ρ, Po γ' g' w' → Gi P main X Stop ρ γ' g' w' := fun γ' g' w' => by
    by_cases hp : Po γ' g' w'
    · obtain ⟨ρ, hg⟩ := hn _ _ _ hp; exact ⟨ρ, fun _ => hg⟩
    · exact ⟨.leaf, fun x => absurd x hp⟩
  exact ⟨.mk fun γ' g' w' => (h' γ' g' w').choose, .inr ⟨Po, h, fun γ' g' w' hp => (h' γ' g' w').choose_spec hp⟩⟩
/-- a move of control -/
theorem GI.ctl {g' : Goroutine} (hs : g.status = .running) (h : ∀ w₁, stepG P main g w₁ = .go g' w₁ #[]) (hg : GI P main X Stop γ g' w) : GI P main X Stop γ g w :=
  GI.step hs fun w₁ hr => by rw [h w₁]; exact ⟨γ, Up.idle0 γ w₁, hg.rely hr⟩
theorem GI.bind (h : GI P main X Stop γ g w) (hs : ∀ γ g w, (∀ w₁, Rl γ w w₁ → Stop γ g w₁) → GI P main X Stop' γ g w) : GI P main X Stop' γ g w := by
  obtain ⟨ρ, h⟩ := h
  induction ρ generalizing γ g w with
  | leaf => exact hs _ _ _ h
  | mk f ih =>
    rcases h with h | ⟨Po, h, hp⟩
    · exact GI.step h.1 fun w₁ hr => goes_mono' (fun g' w' es ⟨γ', hu, hg⟩ => ⟨γ', hu, ih _ _ w₁ hg⟩) (h.2 w₁ hr)
    · exact GI.phase Po h fun γ' g' w' hpo => ih _ _ _ (hp γ' g' w' hpo)
theorem GI.mono (h : GI P main X Stop γ g w) (hs : ∀ γ g w, Stop γ g w → Stop' γ g w) : GI P main X Stop' γ g w :=
  h.bind fun _ _ _ k => GI.stop fun w₁ hr => hs _ _ _ (k w₁ hr)
end

/-- where it goes on behind a piece of code -/
def Aft (P : Program) (main : Bool) (X : Pha) (Stop : Stp) (b : Frame) (k : List Item) (cs : List Frame) : Exit → Gh → Act → World → Prop
  | .normal, γ, a, w => GI P main X Stop γ (G (b.at a k) cs) w
  | .exit id, γ, a, w => ∃ k', exitTo id k = some k' ∧ GI P main X Stop γ (G (b.at a k') cs) w
  | .ret, γ, a, w => ∀ todo, GI P main X Stop γ (G { b.at a todo with mode := .returning } cs) w
  | _, _, _, _ => False

theorem Aft.push {P : Program} {main : Bool} {X : Pha} {Stop : Stp} {b : Frame} {x : Item} {k : List Item} {cs : List Frame} {e : Exit} {γ : Gh} {a : Act} {w : World} (hx : x.plain = true) (he : e ≠ .normal)
    (h : Aft P main X Stop b k cs e γ a w) : Aft P main X Stop b (x :: k) cs e γ a w := by
  cases e with
  | normal => exact absurd rfl he
  | exit id => obtain ⟨k', hk, hg⟩ := h; exact ⟨k', by cases x <;> simp_all [exitTo, Item.plain], hg⟩
  | ret => exact h
  | goto l => exact h
  | panic ch => exact h
  | outgrown => exact h

abbrev PoI := Exit → Gh → Act → World → Prop

def wpI (P : Program) (main : Bool) (X : Pha) (fn : FuncId) (c : Code) (Q : PoI) (γ : Gh) (a : Act) (w : World) : Prop :=
  ∀ (b : Frame) (k : List Item) (cs : List Frame) (Stop : Stp), b.fn = fn → b.kind ≠ .early →
    (∀ e γ' a' w', Q e γ' a' w' → Aft P main X Stop b k cs e γ' a' w') → GI P main X Stop γ (G (b.at a (.code c :: k)) cs) w
def opI (P : Program) (main : Bool) (X : Pha) (fn : FuncId) (ops : Array Oper) (todo : List Nat) (Q : PoI) (γ : Gh) (a : Act) (w : World) : Prop :=
  ∀ (b : Frame) (k : List Item) (cs : List Frame) (Stop : Stp), b.fn = fn → b.kind ≠ .early →
    (∀ e γ' a' w', Q e γ' a' w' → Aft P main X Stop b k cs e γ' a' w') → GI P main X Stop γ (G (b.at a (.inRegion ops todo :: k)) cs) w

def thenI (nx : Gh → Act → World → Prop) (Q : PoI) : PoI
  | .normal, γ, a, w => nx γ a w
  | e, γ, a, w => Q e γ a w
def blkI (id : Nat) (Q : PoI) : PoI
  | .exit id', γ, a, w => if id' = id then Q .normal γ a w else Q (.exit id') γ a w
  | e, γ, a, w => Q e γ a w

section
variable {P : Program} {main : Bool} {X : Pha} {fn : FuncId} {Q : PoI} {γ : Gh} {a : Act} {w : World}

theorem wpI_mono {c : Code} {Q' : PoI} (h : wpI P main X fn c Q γ a w) (hq : ∀ e γ a w, Q e γ a w → Q' e γ a w) : wpI P main X fn c Q' γ a w :=
  fun b k cs Stop hb hk hc => h b k cs Stop hb hk fun e γ' a' w' q => hc e γ' a' w' (hq _ _ _ _ q)
theorem wpI_rely {c : Code} {w₁ : World} (h : wpI P main X fn c Q γ a w) (hr : Rl γ w w₁) : wpI P main X fn c Q γ a w₁ :=
  fun b k cs Stop hb hk hc => (h b k cs Stop hb hk hc).rely hr
theorem wpI_skip (h : Q .normal γ a w) : wpI P main X fn .skip Q γ a w := fun b k cs Stop _ _ hc => GI.ctl rfl (fun _ => stepG_skip) (hc _ _ _ _ h)
theorem wpI_label {l : Nat} (h : Q .normal γ a w) : wpI P main X fn (.label l) Q γ a w := fun b k cs Stop _ _ hc => GI.ctl rfl (fun _ => stepG_label) (hc _ _ _ _ h)
theorem wpI_ret (h : Q .ret γ a w) : wpI P main X fn .ret Q γ a w := fun b k cs Stop _ _ hc => GI.ctl rfl (fun _ => stepG_ret') (hc _ _ _ _ h _)
theorem wpI_exit {id : Nat} (h : Q (.exit id) γ a w) : wpI P main X fn (.exit id) Q γ a w := fun b k cs Stop _ _ hc => by
  obtain ⟨k', hk', hg⟩ := hc _ _ _ _ h
  exact GI.ctl rfl (fun _ => stepG_exit hk') hg
theorem wpI_seq {x y : Code} (h : wpI P main X fn x (thenI (wpI P main X fn y Q) Q) γ a w) : wpI P main X fn (.seq x y) Q γ a w := fun b k cs Stop hb hk hc => by
  refine GI.ctl rfl (fun _ => stepG_seq) (h b (.code y :: k) cs Stop hb hk fun e γ' a' w' q => ?_)
  cases e with
  | normal => exact q b k cs Stop hb hk hc
  | exit id => exact (hc _ _ _ _ q).push rfl (by simp)
  | ret => exact (hc _ _ _ _ q).push (x := .code y) rfl (by simp)
  | goto l => exact hc _ _ _ _ q
  | panic ch => exact hc _ _ _ _ q
  | outgrown => exact hc _ _ _ _ q
theorem wpI_cond {c : Operand} {x y : Code} {t : Bool} (hc : a.eval c = .bool t) (h : wpI P main X fn (if t then x else y) Q γ a w) : wpI P main X fn (.cond c x y) Q γ a w :=
  fun b k cs Stop hb hk hq => GI.ctl rfl (fun _ => stepG_cond hc) (h b k cs Stop hb hk hq)
theorem wpI_split {c : Operand} {x y : Code} {t : Bool} (hc : a.eval c = .bool t) (ht : t = true → wpI P main X fn x Q γ a w) (hf : t = false → wpI P main X fn y Q γ a w) : wpI P main X fn (.cond c x y) Q γ a w := by
  refine wpI_cond hc ?_
  cases t with
  | true => exact ht rfl
  | false => exact hf rfl
theorem wpI_block {id : Nat} {c : Code} (h : wpI P main X fn c (blkI id Q) γ a w) : wpI P main X fn (.block id c) Q γ a w := fun b k cs Stop hb hk hc => by
  refine GI.ctl rfl (fun _ => stepG_block) (h b (.inBlock id :: k) cs Stop hb hk fun e γ' a' w' q => ?_)
  cases e with
  | normal => exact GI.ctl rfl (fun _ => stepG_inBlock) (hc _ _ _ _ q)
  | exit id' =>
    by_cases hid : id' = id
    · simp only [blkI, hid, if_true] at q
      exact ⟨k, by simp [exitTo, hid], hc _ _ _ _ q⟩
    · simp only [blkI, hid, if_false] at q
      obtain ⟨k', hk', hg⟩ := hc _ _ _ _ q
      have : (id == id') = false := by simp; exact fun h => hid h.symm
      exact ⟨k', by simp [exitTo, this, hk'], hg⟩
  | ret => exact fun todo => hc _ _ _ _ q todo
  | goto l => exact hc _ _ _ _ q
  | panic ch => exact hc _ _ _ _ q
  | outgrown => exact hc _ _ _ _ q
/-- a loop: an invariant with a measure -/
theorem wpI_loop {c : Code} (I : Nat → Gh → Act → World → Prop) (n : Nat) (h₀ : I n γ a w)
    (round : ∀ n γ a w, I n γ a w → wpI P main X fn c (thenI (fun γ' a' w' => ∃ m, m < n ∧ I m γ' a' w') Q) γ a w) : wpI P main X fn (.loop c) Q γ a w := fun b k cs Stop hb hk hc => by
  refine GI.ctl rfl (fun _ => stepG_loop) ?_
  induction n using Nat.strongRecOn generalizing γ a w with
  | _ n ih =>
    refine round n γ a w h₀ b (.inLoop c :: k) cs Stop hb hk fun e γ' a' w' q => ?_
    cases e with
    | normal => obtain ⟨m, hm, hI⟩ := q; exact GI.ctl rfl (fun _ => stepG_inLoop) (ih m hm hI)
    | exit id => exact (hc _ _ _ _ q).push rfl (by simp)
    | ret => exact (hc _ _ _ _ q).push (x := .inLoop c) rfl (by simp)
    | goto l => exact hc _ _ _ _ q
    | panic ch => exact hc _ _ _ _ q
    | outgrown => exact hc _ _ _ _ q
theorem wpI_region {id : Nat} {ops : Array Oper} (h : opI P main X fn ops (List.range ops.size) Q γ a w) : wpI P main X fn (.region id ops false) Q γ a w :=
  fun b k cs Stop hb hk hc => GI.ctl rfl (fun _ => stepG_region) (h b k cs Stop hb hk hc)
theorem opI_nil {ops : Array Oper} (h : Q .normal γ a w) : opI P main X fn ops [] Q γ a w := fun b k cs Stop _ _ hc => GI.ctl rfl (fun _ => stepG_region_end) (hc _ _ _ _ h)
theorem opI_rely {ops : Array Oper} {todo : List Nat} {w₁ : World} (h : opI P main X fn ops todo Q γ a w) (hr : Rl γ w w₁) : opI P main X fn ops todo Q γ a w₁ :=
  fun b k cs Stop hb hk hc => (h b k cs Stop hb hk hc).rely hr
theorem opI_cons {ops : Array Oper} {i : Nat} {rest : List Nat} {o : Oper} (ho : ops[i]? = some o) (hw : Region.wanted o (yielded ops a.tmps) = true)
    (h : ∀ w₁, Rl γ w w₁ → uponK o a (fun a' w' => ∃ γ', Up γ w₁ w' (listed P fn a o w₁) γ' ∧ opI P main X fn ops rest Q γ' a' w') ((execOp a.eval o).run P w₁)) : opI P main X fn ops (i :: rest) Q γ a w := by
  intro b k cs Stop hb hk hc
  refine GI.step rfl fun w₁ h₁ => goes_oper ho hw hk ?_
  have := h w₁ h₁
  revert this
  cases (execOp a.eval o).run P w₁ with
  | ok x w' => cases x <;> first | exact fun ⟨γ', d, g⟩ => ⟨γ', hb ▸ d, g b k cs Stop hb hk hc⟩ | exact id
  | halt _ _ => exact id
theorem opI_unwanted {ops : Array Oper} {i : Nat} {rest : List Nat} {o : Oper} (ho : ops[i]? = some o) (hw : Region.wanted o (yielded ops a.tmps) = false)
    (h : opI P main X fn ops rest Q γ (a.put o.dst undef) w) : opI P main X fn ops (i :: rest) Q γ a w :=
  fun b k cs Stop hb hk hc => GI.ctl rfl (fun _ => stepG_unwanted ho hw) (h b k cs Stop hb hk hc)
/-- an operation that yields a value and turns nothing: the world at hand stays -/
theorem opI_val {ops : Array Oper} {i : Nat} {rest : List Nat} {o : Oper} {v : Value} (ho : ops[i]? = some o) (hw : Region.wanted o (yielded ops a.tmps) = true)
    (h : ∀ w₁, Rl γ w w₁ → (execOp a.eval o).run P w₁ = .ok (.value v) w₁ ∧ ∀ e ∈ listed P fn a o w₁, Ev γ w₁ w₁ e)
    (hn : opI P main X fn ops rest Q γ (a.put o.dst v) w) : opI P main X fn ops (i :: rest) Q γ a w :=
  opI_cons ho hw fun w₁ h₁ => by rw [(h w₁ h₁).1]; exact ⟨γ, Up.idle γ w₁ (h w₁ h₁).2, opI_rely hn h₁⟩
/-- a store into a block of one's own -/
theorem opI_set {ops : Array Oper} {i : Nat} {rest : List Nat} {o : Oper} {x : Addr} {u v : Value} (ho : ops[i]? = some o) (hw : Region.wanted o (yielded ops a.tmps) = true)
    (hu : w.cell? x = some u) (hx : γ.W x.block ∧ γ.F x.block)
    (h : ∀ w₁, Rl γ w w₁ → (execOp a.eval o).run P w₁ = .ok .skip (w₁.setCell x v) ∧ ∀ e ∈ listed P fn a o w₁, Ev γ w₁ (w₁.setCell x v) e)
    (hn : opI P main X fn ops rest Q γ (a.put o.dst undef) (w.setCell x v)) : opI P main X fn ops (i :: rest) Q γ a w :=
  opI_cons ho hw fun w₁ h₁ => by
    rw [(h w₁ h₁).1]
    refine ⟨γ, ⟨by rw [size_set]; exact Nat.le_refl _, .inl fun b hb hn => set_other (fun e => hn (by rw [e]; exact hx.1)) _, fun _ h => .inl h, fun _ h => .inl h, fun _ h => h, (h w₁ h₁).2, fun _ h => .inl h, rfl, rfl, ⟨rfl, rfl⟩⟩, opI_rely hn (h₁.set hx.2 v)⟩
/-- a store into a single cell of one's own -/
theorem opI_put {ops : Array Oper} {i : Nat} {rest : List Nat} {o : Oper} {x : Addr} {u v : Value} (ho : ops[i]? = some o) (hw : Region.wanted o (yielded ops a.tmps) = true)
    (hu : w.cell? x = some u) (hx : γ.Cs x) (hF : ¬ γ.F x.block) (hQ : ¬ γ.Q x.block) (hC : ∀ y, γ.Cs y → y = x)
    (h : ∀ w₁, Rl γ w w₁ → (execOp a.eval o).run P w₁ = .ok .skip (w₁.setCell x v) ∧ ∀ e ∈ listed P fn a o w₁, Ev γ w₁ (w₁.setCell x v) e)
    (hn : opI P main X fn ops rest Q γ (a.put o.dst undef) (w.setCell x v)) : opI P main X fn ops (i :: rest) Q γ a w :=
  opI_cons ho hw fun w₁ h₁ => by
    rw [(h w₁ h₁).1]
    have h1 : w₁.cell? x = some u := (h₁.cell x hx).trans hu
    refine ⟨γ, ⟨by rw [size_set]; exact Nat.le_refl _, .inr ⟨x, u, v, hx, h1, rfl⟩, fun _ h => .inl h, fun _ h => .inl h, fun _ h => h, (h w₁ h₁).2, fun _ h => .inl h, rfl, rfl, ⟨rfl, rfl⟩⟩, opI_rely hn ?_⟩
    refine ⟨by rw [size_set, size_set]; exact h₁.size, fun b hb => ?_, fun y hy => ?_, fun y hy => by rw [fz_set, fz_set]; exact h₁.fz y hy, fun b hb => ?_, fun a u hg hu => ?_⟩
    · have hne : b ≠ x.block := fun e => hF (e ▸ hb)
      rw [set_other hne, set_other hne]; exact h₁.blk b hb
    · obtain rfl := hC y hy
      rw [set_same hu, set_same h1]
    · have hne : b ≠ x.block := fun e => hQ (e ▸ hb)
      rw [set_other hne, set_other hne]; exact h₁.q b hb
    · obtain ⟨u0, hu0⟩ := cell_unset hu
      obtain ⟨u1, hu1⟩ := h₁.ex a u0 hg hu0
      exact cell_set hu1 x v
/-- an operation that makes one block -/
theorem opI_new {ops : Array Oper} {i : Nat} {rest : List Nat} {o : Oper} {v : Nat → Value} {ob : Obj} (ho : ops[i]? = some o) (hw : Region.wanted o (yielded ops a.tmps) = true)
    (h : ∀ w₁, Rl γ w w₁ → (execOp a.eval o).run P w₁ = .ok (.value (v w₁.heap.size)) (w₁.alloc ob) ∧ ∀ e ∈ listed P fn a o w₁, Ev γ w₁ (w₁.alloc ob) e)
    (hn : ∀ w₁, Rl γ w w₁ → opI P main X fn ops rest Q (γ.new w₁.heap.size) (a.put o.dst (v w₁.heap.size)) (w₁.alloc ob)) : opI P main X fn ops (i :: rest) Q γ a w :=
  opI_cons ho hw fun w₁ h₁ => by
    rw [(h w₁ h₁).1]
    exact ⟨_, up_new γ w₁ ob (h w₁ h₁).2, hn w₁ h₁⟩
/-- .. that is kept untouched -/
theorem opI_newQ {ops : Array Oper} {i : Nat} {rest : List Nat} {o : Oper} {v : Nat → Value} {ob : Obj} (ho : ops[i]? = some o) (hw : Region.wanted o (yielded ops a.tmps) = true)
    (h : ∀ w₁, Rl γ w w₁ → (execOp a.eval o).run P w₁ = .ok (.value (v w₁.heap.size)) (w₁.alloc ob) ∧ listed P fn a o w₁ = #[]) (hlt : ∀ b, γ.F b ∨ γ.W b → b < w.heap.size)
    (hn : ∀ w₁, Rl γ w w₁ → opI P main X fn ops rest Q (γ.newQ w₁.heap.size) (a.put o.dst (v w₁.heap.size)) (w₁.alloc ob)) : opI P main X fn ops (i :: rest) Q γ a w :=
  opI_cons ho hw fun w₁ h₁ => by
    rw [(h w₁ h₁).1, (h w₁ h₁).2]
    have hs : (w₁.alloc ob).heap.size = w₁.heap.size + 1 := by simp [World.alloc, -World.alloc_eq]
    have hsz := h₁.size
    refine ⟨γ.newQ w₁.heap.size, ⟨by omega, .inl fun b hb _ => ?_, fun _ h => .inl h, fun _ h => .inl h, fun _ h => h, by simp, fun b hb => ?_, rfl, rfl, ⟨rfl, rfl⟩⟩, hn w₁ h₁⟩
    · simp only [World.alloc]; rw [Array.getElem?_push, if_neg (by omega)]
    · rcases (show γ.Q b ∨ b = w₁.heap.size from hb) with hb | rfl
      · exact .inl hb
      exact .inr ⟨⟨by omega, by omega⟩, fun hf => by have := hlt _ (.inl hf); omega, fun hf => by have := hlt _ (.inr hf); omega, by simp⟩
end
end Go.Proofs.Ytndfookgkkefnaa
