/- Many goroutines: whatever step of the starter's. -/
import Derived.Test.YtndfookgkkefnaaBM5
namespace Go.Proofs.Ytndfookgkkefnaa
set_option linter.unusedSimpArgs false
set_option linter.unusedVariables false
set_option linter.unusedSectionVars false
open Go Go.Conc
open Go.ConcN (upd upd_same upd_ne PermW fork_knows RelBy CTag WD Vc cnt AllQuit OpenSt isOpen isW3 isFin pend WgLive PayAt Has RW WSit AtK1 get_map_set get_map_set_same Vc_upd others_uncounted le_sumTo sumTo)
open Go.ConcR (KK WgAt stA smA rd wr mk Payload DC0 deafBehind_cons deafBehind_one)

section
variable [Payload] [Start] {P : Program} {ty : TypeId} {Stop : Stp} {S : Nat → Prop} {b j : Nat} {D : Nat → WD} {R : Nat → WR} {Γ : Nat → Gh} {ρ : Rk} {bit : Nat} {tg : CTag} {gs : Array Goroutine} {w w' : World} {t : Trace}

theorem MI.step0 (h : MI P ty Stop S b j D R Γ ρ bit tg gs w t) {sl : Option (Nat × Nat)} {a a' : Goroutine} {es : Array Event} {S' : Nat → Prop} {b' : Nat} {γ' : Gh} {ρ' : Rk} {bit' : Nat} {tg' : CTag} (ha : gs[0]? = some a) (hgo : stepG P true a w = .go a' w' es) (hkp : Kp w w')
    (htr : Tr S' b' j w'.heap.size (t ++ MemOp.ofEvents 0 a.frame.fn a.frame.place es)) (hgh : GhI S' (upd Γ 0 γ') w' (t ++ MemOp.ofEvents 0 a.frame.fn a.frame.place es))
    (hnr : ∀ op ∈ MemOp.ofEvents 0 a.frame.fn a.frame.place es, ∀ a, op.act ≠ .mark (.release a)) (hdf : deafBehind (dfOf (Γ 0).p) es = dfOf γ'.p)
    (hs0 : (bit' = 1 ∧ tg' ≠ .blk ∧ Gi P true (XS P ty) Stop ρ' γ' a' w') ∨ (bit' = 0 ∧ tg' = .blk ∧ (∃ Wg C n K val jn, γ'.p = .at Wg C n K val jn .w3 0) ∧ ∃ f g Post, ρ' = .mk f ∧ a' = { g with status := .blocked } ∧ (∀ w₁, Rl γ' w' w₁ → XS P ty γ' g w₁ Post) ∧ ∀ γ' g' w', Post γ' g' w' → Gi P true (XS P ty) Stop (f γ' g' w') γ' g' w'))
    (hlt : MRlt (ρ', (rowR j R, bit')) (ρ, (rowR j R, bit))) (hpno : γ'.p = .no → b' = j ∧ AllQuit j D ∧ tg' ≠ .blk)
    (hpat : ∀ Wg C n K val jn tag bd, γ'.p = .at Wg C n K val jn tag bd → Prt P ty S' b' j D R (upd Γ 0 γ') ((gs.map (woken P a a' w')).setIfInBounds 0 a') w' (t ++ MemOp.ofEvents 0 a.frame.fn a.frame.place es) tg' Wg C n K val jn tag bd) :
    ∃ m₁ ops μ', runT P (crowd gs w sl) 0 = (.next m₁, ops) ∧ MRlt μ' (ρ, (rowR j R, bit)) ∧ Inv P ty Stop μ' m₁ (t ++ ops) := by
  have hrun := runT_crowd_go (P := P) (sl := sl) (i := 0) ha (by simpa using hgo)
  refine ⟨_, _, (ρ', (rowR j R, bit')), hrun, hlt, S', b', j, D, R, upd Γ 0 γ', ρ', bit', tg', _, w', sl, rfl, ?_, rfl⟩
  refine ⟨by simp [h.size], htr, hgh, fun k hk => by rw [upd_ne Γ _ (by omega)]; exact h.gnil k hk, ⟨a', get_map_set_same _ _ _ (by rw [h.size]; omega), by rw [upd_same]; exact hs0⟩, ?_, fun i hi => ?_, fun i x hx => ?_, fun i hi hs => ?_, fun e => hpno (by rw [upd_same] at e; exact e), fun Wg C n K val jn tag bd hp => hpat _ _ _ _ _ _ _ _ (by rw [upd_same] at hp; exact hp), h.kp.trans hkp⟩
  · rw [Deaf_own, h.deaf0, hdf, upd_same]
  · rw [Deaf_other t (by omega) _ ConcR.g_of_ofEvents, h.deafW i hi]
  · obtain ⟨op, ho, hoa⟩ := Option.map_eq_some_iff.1 hx
    rcases getElem?_append_cases ho with ⟨_, ho'⟩ | ⟨_, hou⟩
    · exact h.norl i x (by rw [act?_of ho', hoa])
    · exact hnr op hou x hoa
  · obtain ⟨h1, x, q, hx, hqx, hR⟩ := h.lv i hi hs
    rw [upd_ne Γ _ (by omega)]
    exact ⟨h1, x, q, by rw [get_map_set _ _ _ _ (by omega), hx, Option.map_some, woken_quitsD hqx], hqx, hR⟩

theorem Prt.step0 {Wg C n : Nat} {K : Nat → Prop} {val : Nat → Value} {jn : Nat} {tag tag' tg' : CTag} {bd bd' : Nat} (h : Prt P ty S b j D R Γ gs w t tg Wg C n K val jn tag bd) {a a' : Goroutine} {fn : FuncId} {pos : String} {es : Array Event} {γ' : Gh}
    (hsz : w.heap.size ≤ w'.heap.size) (hwg : ∃ st sm, WgAt ty Wg w' st sm ∧ ConcN.Mode j D tg' st sm) (hplace : (∃ r s, tag' = .sp r s ∧ jn + r + 1 = n) ∨ ((∀ r s, tag' ≠ .sp r s) ∧ jn = n)) (htg : (tg' = tag' ∧ tag' ≠ .blk) ∨ (tag' = .w3 ∧ tg' = .blk))
    (hbd : tag' = .w1 → Vc j D ≤ bd') (hpay : PayAt C n w') (hcF : ¬ γ'.F C ∧ ¬ γ'.W C ∧ ¬ γ'.Q C) (hCs : ∀ a, γ'.Cs a → (Γ 0).Cs a) (hcell : ∀ i', i' < jn → w'.cell? ⟨C, i', none⟩ = w.cell? ⟨C, i', none⟩)
    (hrl : ∀ k', k' ≠ 0 → Rl (Γ k') w w') (hQ : ∀ x, K x → ¬ γ'.Q x) :
    Prt P ty S b j D R (upd Γ 0 γ') ((gs.map (woken P a a' w')).setIfInBounds 0 a') w' (t ++ MemOp.ofEvents 0 fn pos es) tg' Wg C n K val jn tag' bd' := by
  obtain ⟨st, sm, hw1, hw2⟩ := hwg
  refine ⟨h.sW, h.hj, h.hn, hplace, htg, ⟨st, sm, hw1, hw2⟩, hbd, h.old, hpay, ⟨by have := h.cC.1; omega, h.cC.2⟩, fun k => ?_, fun k x hx => ?_, fun i hi hs => (hcell i hi).trans (h.has i hi hs), fun i hi hs => ?_, fun x hx => ?_, fun i hi hs => ?_⟩
  · by_cases e : k = 0
    · subst e; rw [upd_same]; exact hcF
    · rw [upd_ne Γ _ e]; exact h.cF k
  · by_cases e : k = 0
    · subst e; rw [upd_same] at hx; exact h.own 0 x (hCs x hx)
    · rw [upd_ne Γ _ e] at hx; exact h.own k x hx
  · obtain ⟨r, hr⟩ := h.rel i hi hs
    exact ⟨r, hr.other (by omega)⟩
  · rw [upd_same]
    have := h.kK x hx
    exact ⟨by omega, this.2.1, hQ x hx⟩
  · obtain ⟨x, hx, hws⟩ := h.wk i hi hs
    refine ⟨x, by rw [get_map_set _ _ _ _ (by omega), hx, Option.map_some, woken_run hws.running], ?_⟩
    rw [upd_ne Γ _ (by omega)]
    exact hws.rely (hrl _ (by omega)) ⟨st, sm, hw1⟩ hpay fun _ => hcell i hi

/-- the group's block is touched by nobody yet -/
theorem Tr.open {N : Nat} {Wg : Nat} (h : Tr S b j N t) (hq : ∀ a : Addr, a.block = Wg → ∀ i x, touchAt t i = some x → x.loc ≠ .cell a) : Tr (fun x => S x ∨ x = Wg) b j N t := by
  refine ⟨h.clean, fun i op x hi hx hs => ?_, fun i a ha => ?_, h.over, h.gs, h.seen⟩
  · obtain ⟨y, hy, hs | hs⟩ := hs
    · exact h.quiet i op x hi hx ⟨y, hy, hs⟩
    · exact absurd hy (hq y hs i x (by rw [touchAt_of hi]; exact hx))
  · rcases h.known i a ha with h1 | ⟨⟨y, hy, hs⟩, h2⟩ | h1
    · exact .inl h1
    · exact .inr (.inl ⟨⟨y, hy, .inl hs⟩, h2⟩)
    · exact .inr (.inr h1)

theorem GhI.open {Wg C n : Nat} {val : Nat → Value} (h : GhI S Γ w t) (hQ : (Γ 0).Q Wg) (hC : (Γ 0).W C) (hn : ∀ a, ¬ (Γ 0).Cs a) : GhI (fun x => S x ∨ x = Wg) (upd Γ 0 ((Γ 0).opn Wg C n val)) w t := by
  have hCW : C ≠ Wg := fun e => (h.sepQ 0 0 Wg hQ).2 (e ▸ hC)
  have eF : ∀ k b, (upd Γ 0 ((Γ 0).opn Wg C n val) k).F b → (Γ k).F b ∧ (k = 0 → b ≠ C) := fun k b hb => by
    by_cases e : k = 0
    · subst e; rw [upd_same] at hb; exact ⟨hb.1, fun _ => hb.2⟩
    · rw [upd_ne Γ _ e] at hb; exact ⟨hb, fun x => absurd x e⟩
  have eW : ∀ k b, (upd Γ 0 ((Γ 0).opn Wg C n val) k).W b → (Γ k).W b ∧ (k = 0 → b ≠ C) := fun k b hb => by
    by_cases e : k = 0
    · subst e; rw [upd_same] at hb; exact ⟨hb.1, fun _ => hb.2⟩
    · rw [upd_ne Γ _ e] at hb; exact ⟨hb, fun x => absurd x e⟩
  have eQ : ∀ k b, (upd Γ 0 ((Γ 0).opn Wg C n val) k).Q b → (Γ k).Q b ∧ (k = 0 → b ≠ Wg) := fun k b hb => by
    by_cases e : k = 0
    · subst e; rw [upd_same] at hb; exact ⟨hb.1, fun _ => hb.2⟩
    · rw [upd_ne Γ _ e] at hb; exact ⟨hb, fun x => absurd x e⟩
  have eC : ∀ k a, (upd Γ 0 ((Γ 0).opn Wg C n val) k).Cs a → (k = 0 ∧ a.block = C) ∨ (k ≠ 0 ∧ (Γ k).Cs a) := fun k a ha => by
    by_cases e : k = 0
    · subst e; rw [upd_same] at ha; obtain ⟨i, _, rfl⟩ := ha; exact .inl ⟨rfl, rfl⟩
    · rw [upd_ne Γ _ e] at ha; exact .inr ⟨e, ha⟩
  have nW : ∀ k b, ((Γ k).F b ∨ (Γ k).W b ∨ ((Γ k).Q b ∧ (k = 0 → b ≠ Wg))) → b ≠ Wg := fun k b hb e => by
    subst e
    rcases hb with hb | hb | ⟨hb, h0⟩
    · exact (h.sepQ 0 k b hQ).1 hb
    · exact (h.sepQ 0 k b hQ).2 hb
    · by_cases e : k = 0
      · exact h0 e rfl
      · exact h.sepQQ 0 k b (Ne.symm e) hQ hb
  have cW : ∀ k a, k ≠ 0 → (Γ k).Cs a → a.block ≠ C := fun k a _ ha e => (h.sepC k 0 a ha).2.1 (e ▸ hC)
  refine ⟨fun x hx => ?_, fun k x hx => ?_, fun k a ha => ?_, fun k k' x hne hx => ⟨fun y => (h.sep k k' x hne (eW k x hx).1).1 (eF k' x y).1, fun y => (h.sep k k' x hne (eW k x hx).1).2 (eW k' x y).1⟩, fun k k' a ha => ?_, fun k k' a hne ha hb => ?_,
    fun k k' x hx => ⟨fun y => (h.sepQ k k' x (eQ k x hx).1).1 (eF k' x y).1, fun y => (h.sepQ k k' x (eQ k x hx).1).2 (eW k' x y).1⟩, fun k k' x hne hx hy => h.sepQQ k k' x hne (eQ k x hx).1 (eQ k' x hy).1, fun k x hx => ?_,
    fun k a ha => h.pF k a (eF k _ ha).1, fun k a ha => h.pW k a (eW k _ ha).1, fun k a ha => ?_, fun k a ha => h.pQ k a (eQ k _ ha).1⟩
  · rcases hx with hx | rfl
    · exact h.s x hx
    · exact (h.low 0 x (.inr (.inr hQ))).1
  · have h1 : (Γ k).F x ∨ (Γ k).W x ∨ ((Γ k).Q x ∧ (k = 0 → x ≠ Wg)) := hx.imp (fun y => (eF k x y).1) (Or.imp (fun y => (eW k x y).1) (eQ k x))
    have h2 := h.low k x (h1.imp id (Or.imp id And.left))
    exact ⟨h2.1, fun hs => hs.elim h2.2 (nW k x h1)⟩
  · rcases eC k a ha with ⟨rfl, e⟩ | ⟨hne, ha'⟩
    · have h2 := h.low 0 C (.inr (.inl hC))
      rw [e]
      exact ⟨h2.1, fun hs => hs.elim h2.2 hCW⟩
    · have h2 := h.lowC k a ha'
      exact ⟨h2.1, fun hs => hs.elim h2.2 fun e => (h.sepC k 0 a ha').2.2 (e ▸ hQ)⟩
  · rcases eC k a ha with ⟨rfl, e⟩ | ⟨hne, ha'⟩
    · rw [e]
      by_cases e0 : k' = 0
      · subst e0
        exact ⟨fun y => (eF 0 C y).2 rfl rfl, fun y => (eW 0 C y).2 rfl rfl, fun y => (h.sepQ 0 0 C (eQ 0 C y).1).2 hC⟩
      · exact ⟨fun y => (h.sep 0 k' C (Ne.symm e0) hC).1 (eF k' C y).1, fun y => (h.sep 0 k' C (Ne.symm e0) hC).2 (eW k' C y).1, fun y => (h.sepQ k' 0 C (eQ k' C y).1).2 hC⟩
    · have h2 := h.sepC k k' a ha'
      exact ⟨fun y => h2.1 (eF k' _ y).1, fun y => h2.2.1 (eW k' _ y).1, fun y => h2.2.2 (eQ k' _ y).1⟩
  · rcases eC k a ha with ⟨rfl, e⟩ | ⟨h1, ha'⟩ <;> rcases eC k' a hb with ⟨rfl, e'⟩ | ⟨h1', hb'⟩
    · exact hne rfl
    · exact cW k' a h1' hb' e
    · exact cW k a h1 ha' e'
    · exact h.sepCC k k' a hne ha' hb'
  · by_cases e : k = 0
    · subst e; rw [upd_same] at hx; exact hx.imp (h.G 0 x) id
    · rw [upd_ne Γ _ e] at hx; exact .inl (h.G k x hx)
  · rcases eC k a ha with ⟨rfl, e⟩ | ⟨hne, ha'⟩
    · exact h.pW 0 a (e ▸ hC)
    · exact h.pC k a ha'

/-- a go statement -/
theorem Tr.fork {N : Nat} {x y : MemOp} (h : Tr S b j N t) (hx : x.g = 0 ∧ x.act = .go (j + 1)) (hy : y.g = j + 1 ∧ y.act = .start) : Tr S b (j + 1) N (t ++ #[x, y]) := by
  have hnt : ∀ op ∈ #[x, y], ∀ b, op.act.touch? = some b → False := by
    intro op hop b hb
    simp only [List.mem_toArray, List.mem_cons, List.not_mem_nil, or_false] at hop
    rcases hop with rfl | rfl
    · rw [hx.2] at hb; cases hb
    · rw [hy.2] at hb; cases hb
  have old : ∀ {i : Nat} {a : Touch}, touchAt (t ++ #[x, y]) i = some a → i < t.size ∧ touchAt t i = some a := by
    intro i a ha
    rcases touch_cases ha with h1 | ⟨_, op, hop, hot, _⟩
    · exact h1
    · exact (hnt op hop a hot).elim
  refine ⟨fun said => ?_, h.quiet.app fun op hop b hb _ => (hnt op hop b hb).elim, fun i a ha => ?_, fun i g hg hne hc => ?_, fun i op hi => ?_, seen_app h.seen fun op hop => ?_⟩
  · have e : t ++ #[x, y] = (t ++ #[x]) ++ #[y] := by apply Array.ext'; simp
    rw [e]
    refine noRace_append (g := j + 1) (noRace_append (g := 0) (h.clean said) (fun op hop => by simp at hop; rw [hop]; exact hx.1) (fun i a _ op hop b hb _ => (hnt op (by simp at hop ⊢; exact .inl hop) b hb).elim))
      (fun op hop => by simp at hop; rw [hop]; exact hy.1) (fun i a _ op hop b hb _ => (hnt op (by simp at hop ⊢; exact .inr hop) b hb).elim)
  · obtain ⟨hi, ha'⟩ := old ha
    rcases h.known i a ha' with h1 | h1 | ⟨g, hg, hb⟩
    · exact .inl (h1.app _)
    · exact .inr (.inl h1)
    · exact .inr (.inr ⟨g, by rw [g?_old hi]; exact hg, hb⟩)
  · obtain ⟨a, ha⟩ := counts_touch hc
    obtain ⟨hi, _⟩ := old ha
    rw [g?_old hi] at hg
    rcases h.over i g hg hne ((counts_old hi).1 hc) with ⟨q, hq, hb⟩ | hb
    · exact .inl ⟨q, by rw [g?_old (gq_lt hq)]; exact hq, hb_app _ hb⟩
    · exact .inr hb
  · rcases getElem?_append_cases hi with ⟨_, hi'⟩ | ⟨_, hiu⟩
    · exact Nat.le_succ_of_le (h.gs i op hi')
    · simp only [List.mem_toArray, List.mem_cons, List.not_mem_nil, or_false] at hiu
      rcases hiu with rfl | rfl
      · rw [hx.1]; exact Nat.zero_le _
      · rw [hy.1]; exact Nat.le_refl _
  · simp only [List.mem_toArray, List.mem_cons, List.not_mem_nil, or_false] at hop
    rcases hop with rfl | rfl
    · rw [hx.2]; trivial
    · rw [hy.2]; trivial

theorem GhI.fork {x y : MemOp} {Wg C i : Nat} {p : Pt} (h : GhI S Γ w t) (htr : Tr S b j w.heap.size t) (hx : x.g = 0 ∧ x.act = .go (j + 1)) (hy : y.g = j + 1 ∧ y.act = .start) (h0 : Deaf t 0 = 0) (hnil : Γ (j + 1) = Gh.nil)
    (hc : (Γ 0).Cs ⟨C, i, none⟩) (sW : S Wg) : GhI S (upd (upd Γ 0 ((Γ 0).started C i p)) (j + 1) ((Γ 0).child Wg C i)) w (t ++ #[x, y]) := by
  have hk : Deaf t (j + 1) = 0 := ConcN.Deaf_absent fun i op hi e => by have := htr.gs i op hi; omega
  have hnt : ∀ op ∈ #[x, y], ∀ b, op.act.touch? = some b → False := by
    intro op hop b hb
    simp only [List.mem_toArray, List.mem_cons, List.not_mem_nil, or_false] at hop
    rcases hop with rfl | rfl
    · rw [hx.2] at hb; cases hb
    · rw [hy.2] at hb; cases hb
  have old : ∀ {i : Nat} {a : Touch}, touchAt (t ++ #[x, y]) i = some a → touchAt t i = some a := by
    intro i a ha
    rcases touch_cases ha with h1 | ⟨_, op, hop, hot, _⟩
    · exact h1.2
    · exact (hnt op hop a hot).elim
  -- of a new ghost: whose old one it comes from
  have src : ∀ k, ∃ k0, ((k0 = k ∧ k ≠ j + 1) ∨ (k0 = 0 ∧ k = j + 1)) ∧ (∀ b, (upd (upd Γ 0 ((Γ 0).started C i p)) (j + 1) ((Γ 0).child Wg C i) k).F b → (Γ k0).F b) ∧
      (∀ b, (upd (upd Γ 0 ((Γ 0).started C i p)) (j + 1) ((Γ 0).child Wg C i) k).W b → (Γ k0).W b ∧ k ≠ j + 1 ∧ k ≠ 0) ∧
      (∀ a, (upd (upd Γ 0 ((Γ 0).started C i p)) (j + 1) ((Γ 0).child Wg C i) k).Cs a → (Γ k0).Cs a ∧ (k = j + 1 → a = ⟨C, i, none⟩) ∧ (k = 0 → a ≠ ⟨C, i, none⟩)) ∧
      (∀ b, (upd (upd Γ 0 ((Γ 0).started C i p)) (j + 1) ((Γ 0).child Wg C i) k).Q b → (Γ k0).Q b ∧ k ≠ j + 1) ∧
      (∀ b, (upd (upd Γ 0 ((Γ 0).started C i p)) (j + 1) ((Γ 0).child Wg C i) k).G b → (Γ k0).G b ∨ b = Wg) := by
    intro k
    by_cases e : k = j + 1
    · subst e
      rw [upd_same]
      exact ⟨0, .inr ⟨rfl, rfl⟩, fun _ h => h, fun _ h => h.elim, fun a ha => by obtain rfl := ha; exact ⟨hc, fun _ => rfl, fun e => by omega⟩, fun _ h => h.elim, fun _ h => .inr h⟩
    · rw [upd_ne _ _ e]
      by_cases e0 : k = 0
      · subst e0
        rw [upd_same]
        exact ⟨0, .inl ⟨rfl, e⟩, fun _ h => h, fun _ h => h.elim, fun a ha => ⟨ha.1, fun x => absurd x e, fun _ => ha.2⟩, fun _ h => ⟨h, e⟩, fun _ h => .inl h⟩
      · rw [upd_ne _ _ e0]
        exact ⟨k, .inl ⟨rfl, e⟩, fun _ h => h, fun _ h => ⟨h, e, e0⟩, fun a ha => ⟨ha, fun x => absurd x e, fun x => absurd x e0⟩, fun _ h => ⟨h, e⟩, fun _ h => .inl h⟩
  have kn : ∀ k k0, ((k0 = k ∧ k ≠ j + 1) ∨ (k0 = 0 ∧ k = j + 1)) → ∀ i, Knows t k0 i → Knows (t ++ #[x, y]) k i := fun k k0 hk0 i hi => by
    rcases hk0 with ⟨rfl, _⟩ | ⟨rfl, rfl⟩
    · exact hi.app _
    · exact fork_knows hx hy h0 hk hi
  refine ⟨h.s, fun k b hb => ?_, fun k a ha => ?_, fun k k' b hne hb => ?_, fun k k' a ha => ?_, fun k k' a hne ha hb => ?_, fun k k' b hb => ?_, fun k k' b hne hb hb' => ?_, fun k b hb => ?_, fun k a ha => ?_, fun k a ha => ?_, fun k a ha => ?_, fun k a ha i x hx => ?_⟩
  all_goals obtain ⟨k0, hk0, sF, sW', sC, sQ, sG⟩ := src k
  · exact h.low k0 b (hb.imp (sF b) (Or.imp (fun x => (sW' b x).1) fun x => (sQ b x).1))
  · exact h.lowC k0 a (sC a ha).1
  · obtain ⟨k1, hk1, sF1, sW1, -⟩ := src k'
    have h1 := sW' b hb
    have hne1 : k0 ≠ k1 := by omega
    exact ⟨fun y => (h.sep k0 k1 b hne1 h1.1).1 (sF1 b y), fun y => (h.sep k0 k1 b hne1 h1.1).2 (sW1 b y).1⟩
  · obtain ⟨k1, hk1, sF1, sW1, _, sQ1, _⟩ := src k'
    have h1 := h.sepC k0 k1 a (sC a ha).1
    exact ⟨fun y => h1.1 (sF1 _ y), fun y => h1.2.1 (sW1 _ y).1, fun y => h1.2.2 (sQ1 _ y).1⟩
  · obtain ⟨k1, hk1, _, _, sC1, _⟩ := src k'
    have h1 := sC a ha
    have h2 := sC1 a hb
    by_cases e : k0 = k1
    · rcases hk0 with ⟨e1, e2⟩ | ⟨e1, e2⟩ <;> rcases hk1 with ⟨e3, e4⟩ | ⟨e3, e4⟩
      · omega
      · exact h1.2.2 (by omega) (h2.2.1 e4)
      · exact h2.2.2 (by omega) (h1.2.1 e2)
      · omega
    · exact h.sepCC k0 k1 a e h1.1 h2.1
  · obtain ⟨k1, hk1, sF1, sW1, -⟩ := src k'
    have h1 := sQ b hb
    exact ⟨fun y => (h.sepQ k0 k1 b h1.1).1 (sF1 b y), fun y => (h.sepQ k0 k1 b h1.1).2 (sW1 b y).1⟩
  · obtain ⟨k1, hk1, _, _, _, sQ1, _⟩ := src k'
    have h1 := sQ b hb
    have h2 := sQ1 b hb'
    exact h.sepQQ k0 k1 b (by omega) h1.1 h2.1
  · rcases sG b hb with h1 | rfl
    · exact h.G k0 b h1
    · exact sW
  · exact fun i' x' hx' hl hw => kn k k0 hk0 i' (h.pF k0 a (sF _ ha) i' x' (old hx') hl hw)
  · exact fun i' x' hx' hl => kn k k0 hk0 i' (h.pW k0 a (sW' _ ha).1 i' x' (old hx') hl)
  · exact fun i' x' hx' hl => kn k k0 hk0 i' (h.pC k0 a (sC a ha).1 i' x' (old hx') hl)
  · exact h.pQ k0 a (sQ _ ha).1 i x (old hx)
end
end Go.Proofs.Ytndfookgkkefnaa
