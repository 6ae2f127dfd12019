/- Many goroutines: the join; every step of the starter's. -/
import Derived.Test.YtndfookgkkefnaaBM6
namespace Go.Proofs.Ytndfookgkkefnaa
set_option linter.unusedSimpArgs false
set_option linter.unusedVariables false
set_option linter.unusedSectionVars false
open Go Go.Conc
open Go.ConcN (upd upd_same upd_ne PermW fork_knows RelBy CTag WD Vc cnt AllQuit OpenSt isOpen isW3 isFin pend WgLive PayAt Has RW WSit AtK1 get_map_set get_map_set_same Vc_upd others_uncounted le_sumTo sumTo allQuit_of)
open Go.ConcR (KK WgAt stA smA rd wr mk Payload DC0 deafBehind_cons deafBehind_one)

section
variable [Payload] [Start] {P : Program} {ty : TypeId} {Stop : Stp} {S : Nat → Prop} {b j : Nat} {D : Nat → WD} {R : Nat → WR} {Γ : Nat → Gh} {ρ : Rk} {bit : Nat} {tg : CTag} {gs : Array Goroutine} {w w' : World} {t : Trace}

/-- the starter acquires: it knows what every worker did ahead of its release -/
theorem Tr.join {N Wg : Nat} (h : Tr S b j N t) (sW : S Wg) (hN : Wg < N) (hd : Deaf t 0 = 0) (hnr : ∀ (i : Nat) (a : Addr), t.act? i ≠ some (.mark (.release a))) (hrel : ∀ g, b < g → g ≤ j → ∃ r, RelB Wg t g r) (fn : FuncId) (pos : String) :
    Tr S j j N (t ++ MemOp.ofEvents 0 fn pos #[ConcR.mk (.acquire (stA Wg))]) := by
  have e1 : MemOp.ofEvents 0 fn pos #[ConcR.mk (.acquire (stA Wg))] = #[{ g := 0, fn, pos, act := .mark (.acquire (stA Wg)) }] := by rw [ofEvents_eq]; simp [ConcR.ofEvent_mk]
  have hbe : ∀ e ∈ #[ConcR.mk (.acquire (stA Wg))], BkE Wg e := fun e he => by simp at he; subst he; exact bk_none _ (.inr (.inr (.inr rfl))) rfl
  have hok : OkU S t 0 N (MemOp.ofEvents 0 fn pos #[ConcR.mk (.acquire (stA Wg))]) := by
    refine ⟨fun op hop => by obtain ⟨e, _, rfl⟩ := mem_ops hop; rfl, fun op hop x hx => ?_, fun op hop => ?_⟩
    · obtain ⟨⟨y, hy, hb⟩, hk⟩ := bk_touch hbe fn pos op hop x hx
      exact .inl ⟨⟨y, hy, hb ▸ sW⟩, by rw [hk]; simp, by rw [hk]; simp⟩
    · rw [e1] at hop
      simp at hop
      subst hop
      exact hN
  have h' := h.app (Nat.le_refl _) (Nat.zero_le _) hok (.inl rfl)
  have hq : (t ++ MemOp.ofEvents 0 fn pos #[ConcR.mk (.acquire (stA Wg))])[t.size]? = some { g := 0, fn, pos, act := .mark (.acquire (stA Wg)) } := by rw [e1]; simp
  have hqh : (t ++ MemOp.ofEvents 0 fn pos #[ConcR.mk (.acquire (stA Wg))]).heard t.size := ⟨0, by simp [Trace.g?, hq], by rw [deaf_old (Nat.le_refl _)]; exact hd⟩
  have edge : ∀ g r, RelB Wg t g r → ∀ i, i ≤ r → t.g? i = some g → HappensBefore (t ++ MemOp.ofEvents 0 fn pos #[ConcR.mk (.acquire (stA Wg))]) i t.size := fun g r hr i hi hg => by
    have hrl := lt_of_act? hr.rel.act
    have e : HappensBefore (t ++ MemOp.ofEvents 0 fn pos #[ConcR.mk (.acquire (stA Wg))]) r t.size := by
      refine .single (.inr ⟨.marked (a := stA Wg) hrl (.inr (by rw [act?_old hrl]; exact hr.rel.act)) (by rw [act?_of hq]) (fun k _ hk => by rw [act?_old hk]; exact hnr k _), (heard_old hrl).2 hr.rel.heard, hqh⟩)
    rcases Nat.lt_or_ge i r with hlt | hge
    · exact .trans (.single (.inl ⟨hlt, g, by rw [g?_old (by omega)]; exact hg, by rw [g?_old hrl]; exact hr.rel.g⟩)) e
    · obtain rfl : i = r := by omega
      exact e
  have hsz : (t ++ MemOp.ofEvents 0 fn pos #[ConcR.mk (.acquire (stA Wg))]).size = t.size + 1 := by rw [e1]; simp
  refine ⟨h'.clean, h'.quiet, fun i a ha => ?_, fun i g hg hne hc => ?_, h'.gs, h'.seen⟩
  · rcases h'.known i a ha with h1 | h1 | ⟨g, hg, hb⟩
    · exact .inl h1
    · exact .inr (.inl h1)
    · rcases gq_mem hg with ⟨hi, hg'⟩ | ⟨hi, op, hop, hog⟩
      · obtain ⟨op, ho, hog⟩ := Option.map_eq_some_iff.1 hg'
        obtain ⟨r, hr⟩ := hrel g hb (by have := h.gs i op ho; omega)
        rcases Nat.lt_or_ge r i with hlt | hge
        · obtain ⟨⟨y, hy, hyb⟩, hk⟩ := hr.sh i hlt hg' a (by rw [← touchAt_old hi]; exact ha)
          exact .inr (.inl ⟨⟨y, hy, hyb ▸ sW⟩, hk⟩)
        · exact .inl ⟨t.size, _, hq, rfl, .inr (edge g r hr i hge hg')⟩
      · have := (ConcR.g_of_ofEvents op hop).symm.trans hog
        omega
  · rcases h'.over i g hg hne hc with h1 | hb
    · exact .inl h1
    · rcases gq_mem hg with ⟨hi, hg'⟩ | ⟨hi, op, hop, hog⟩
      · obtain ⟨op, ho, hog⟩ := Option.map_eq_some_iff.1 hg'
        obtain ⟨r, hr⟩ := hrel g hb (by have := h.gs i op ho; omega)
        have hle : i ≤ r := Nat.le_of_not_lt fun hlt => hr.rel.after i hlt hg' ((counts_old hi).1 hc)
        exact .inl ⟨t.size, by simp [Trace.g?, hq], edge g r hr i hle hg'⟩
      · have := (ConcR.g_of_ofEvents op hop).symm.trans hog
        omega

theorem GhI.join {C : Nat} {K : Nat → Prop} (h : GhI S Γ w t) (htr : Tr S j j w.heap.size t) (hnil : ∀ k, k ≠ 0 → Γ k = Gh.nil) (hC : C < w.heap.size ∧ ¬ S C ∧ ¬ (Γ 0).Q C) (hK : ∀ x, K x → x < w.heap.size ∧ ¬ S x ∧ ¬ (Γ 0).Q x) :
    GhI S (upd Γ 0 ((Γ 0).joined C K)) w t := by
  have all : ∀ a : Addr, ¬ S a.block → Perm t 0 (.cell a) := fun a hn i x hx hl => by
    rcases htr.known i x hx with h1 | ⟨⟨y, hy, hs⟩, _⟩ | ⟨g, hg, hlt⟩
    · exact h1
    · rw [hl] at hy
      injection hy with hy
      exact absurd (hy ▸ hs) hn
    · obtain ⟨op, ho, rfl⟩ := Option.map_eq_some_iff.1 hg
      have := htr.gs i op ho
      omega
  have e0 : ∀ k, k ≠ 0 → upd Γ 0 ((Γ 0).joined C K) k = Gh.nil := fun k hk => by rw [upd_ne Γ _ hk]; exact hnil k hk
  have two : ∀ k, k = 0 ∨ k ≠ 0 := fun k => by omega
  refine ⟨h.s, fun k x hx => ?_, fun k a ha => ?_, fun k k' x hne hx => ?_, fun k k' a ha => ?_, fun k k' a hne ha => ?_, fun k k' x hx => ?_, fun k k' x hne hx => ?_, fun k x hx => ?_, fun k a ha => ?_, fun k a ha => ?_, fun k a ha => ?_, fun k a ha => ?_⟩
  all_goals rcases two k with rfl | hk
  all_goals first | rw [e0 _ hk] at hx | rw [e0 _ hk] at ha | rw [upd_same] at hx | rw [upd_same] at ha
  · rcases hx with (hx | rfl) | hx | hx
    · exact h.low 0 x (.inl hx)
    · exact ⟨hC.1, hC.2.1⟩
    · exact ⟨(hK x hx).1, (hK x hx).2.1⟩
    · exact h.low 0 x (.inr (.inr hx))
  · rcases hx with hx | hx | hx <;> exact hx.elim
  · exact ha.elim
  · exact ha.elim
  · rw [e0 k' (Ne.symm hne)]
    exact ⟨id, id⟩
  · exact hx.elim
  · exact ha.elim
  · exact ha.elim
  · exact ha.elim
  · exact ha.elim
  · rcases two k' with rfl | hk'
    · rw [upd_same]
      refine ⟨fun y => ?_, fun y => (hK x y).2.2 hx⟩
      rcases y with y | rfl
      · exact (h.sepQ 0 0 x hx).1 y
      · exact hC.2.2 hx
    · rw [e0 k' hk']; exact ⟨id, id⟩
  · exact hx.elim
  · rw [e0 k' (Ne.symm hne)]; exact id
  · exact hx.elim
  · exact h.G 0 x hx
  · exact hx.elim
  · rcases ha with ha | ha
    · exact h.pF 0 a ha
    · exact PermW.of (all a (ha ▸ hC.2.1))
  · exact ha.elim
  · exact all a (hK _ ha).2.1
  · exact ha.elim
  · exact ha.elim
  · exact ha.elim
  · exact h.pQ 0 a ha
  · exact ha.elim

/-- goroutine 0 stands at the step that ends the run -/
def StopE (P : Program) (Post : Value → World → Prop) : Stp := fun γ g w =>
  g.status = .running ∧ γ.p = .no ∧ ∃ v es, stepG P true g w = .ended (.done v) w es ∧ (∀ e ∈ es, Ev γ w w e) ∧ Post v w
end
end Go.Proofs.Ytndfookgkkefnaa
