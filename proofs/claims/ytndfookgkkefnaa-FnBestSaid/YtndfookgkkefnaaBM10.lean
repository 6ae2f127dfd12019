/- Many goroutines: the run, from its start to its end, on every tape. -/
import Derived.Test.YtndfookgkkefnaaBM9
namespace Go.Proofs.Ytndfookgkkefnaa
set_option linter.unusedSimpArgs false
set_option linter.unusedVariables false
set_option linter.unusedSectionVars false
open Go Go.Conc
open Go.ConcN (upd upd_same upd_ne PermW CTag WD Vc cnt AllQuit isOpen isFin WgLive PayAt Has RW WSit exists_counted)
open Go.ConcR (KK WgAt stA smA rd wr mk Payload DC0)

section
variable [Payload] [Start] {P : Program} {ty : TypeId} {S : Nat → Prop} {b j : Nat} {D : Nat → WD} {R : Nat → WR} {Γ : Nat → Gh} {ρ : Rk} {bit : Nat} {tg : CTag} {gs : Array Goroutine} {w w' : World} {t : Trace} {Post : Value → World → Prop}

theorem Rl.at (γ : Gh) (w : World) (d : Nat) : Rl γ w (w.at d) := ⟨Nat.le_refl _, fun _ _ => rfl, fun _ _ => rfl, fun _ _ => rfl, fun _ _ => rfl, fun _ v _ h => ⟨v, h⟩⟩

theorem MI.at (h : MI P ty (StopE P Post) S b j D R Γ ρ bit tg gs w t) (d : Nat) : MI P ty (StopE P Post) S b j D R Γ ρ bit tg gs (w.at d) t := by
  obtain ⟨a, ha, hs⟩ := h.s0
  refine ⟨h.size, h.tr, ⟨h.gh.s, h.gh.low, h.gh.lowC, h.gh.sep, h.gh.sepC, h.gh.sepCC, h.gh.sepQ, h.gh.sepQQ, h.gh.G, h.gh.pF, h.gh.pW, h.gh.pC, h.gh.pQ⟩, h.gnil, ⟨a, ha, ?_⟩, h.deaf0, h.deafW, h.norl, h.lv, h.pno, fun Wg C n K val jn tag bd hp => ?_, h.kp⟩
  · rcases hs with ⟨h1, h2, h3⟩ | ⟨h1, h2, h0, f, g, Po, h3, h4, h5, h6⟩
    · exact .inl ⟨h1, h2, h3.rely (Rl.at _ w d)⟩
    · exact .inr ⟨h1, h2, h0, f, g, Po, h3, h4, fun w₁ hr => h5 w₁ ((Rl.at _ w d).trans hr), h6⟩
  · have hpr := h.pat _ _ _ _ _ _ _ _ hp
    obtain ⟨st, sm, hw, hm⟩ := hpr.wg
    refine ⟨hpr.sW, hpr.hj, hpr.hn, hpr.place, hpr.htg, ⟨st, sm, hw, hm⟩, hpr.bd, hpr.old, hpr.pay, hpr.cC, hpr.cF, hpr.own, hpr.has, hpr.rel, hpr.kK, fun i hi hs => ?_⟩
    obtain ⟨g, hg, hws⟩ := hpr.wk i hi hs
    exact ⟨g, hg, hws.rely (Rl.at _ w d) ⟨st, sm, hw⟩ hpr.pay fun _ => rfl⟩

theorem MI.status (h : MI P ty (StopE P Post) S b j D R Γ ρ bit tg gs w t) : ∀ (i : Nat) (g : Goroutine), gs[i]? = some g → g.status = .running ∨ g.status = .blocked ∨ g.status = .finished := by
  intro i g hg
  cases i with
  | zero =>
    obtain ⟨a, ha, hs⟩ := h.s0
    rw [hg] at ha
    obtain rfl := Option.some.inj ha
    rcases hs with ⟨_, _, h3⟩ | ⟨_, _, _, f, g, Po, _, rfl, _⟩
    · exact .inl (h3.running (fun _ _ _ _ x => x.running) stopE_running)
    · exact .inr (.inl rfl)
  | succ i =>
    have hi : i < j := by have := (Array.getElem?_eq_some_iff.1 hg).1; rw [h.size] at this; omega
    by_cases hst : (D i).stage = 1
    · obtain ⟨_, x, q, hx, hq, _⟩ := h.lv i hi hst
      rw [hg] at hx
      obtain rfl := Option.some.inj hx
      exact hq.status.elim .inl fun x => .inr (.inr x)
    · have hne : (Γ 0).p ≠ .no := fun e => hst ((h.pno e).2.1 i hi)
      obtain ⟨Wg, C, n, K, val, jn, tag, bd, hp⟩ : ∃ Wg C n K val jn tag bd, (Γ 0).p = .at Wg C n K val jn tag bd := by
        cases hq : (Γ 0).p with
        | no => exact absurd hq hne
        | «at» Wg C n K val jn tag bd => exact ⟨_, _, _, _, _, _, _, _, rfl⟩
      have hpr := h.pat _ _ _ _ _ _ _ _ hp
      have hib : b ≤ i := Nat.le_of_not_lt fun hlt => hst (hpr.old i hlt)
      obtain ⟨i', rfl⟩ : ∃ i', i = b + i' := ⟨i - b, by omega⟩
      obtain ⟨x, hx, hws⟩ := hpr.wk i' (by have := hpr.hj; omega) hst
      rw [hg] at hx
      obtain rfl := Option.some.inj hx
      exact .inl hws.running

theorem MI.someone (h : MI P ty (StopE P Post) S b j D R Γ ρ bit tg gs w t) : ∃ (i : Nat) (g : Goroutine), gs[i]? = some g ∧ g.status = .running := by
  obtain ⟨a, ha, hs⟩ := h.s0
  rcases hs with ⟨_, _, h3⟩ | ⟨_, hb, _⟩
  · exact ⟨0, a, ha, h3.running (fun _ _ _ _ x => x.running) stopE_running⟩
  · have hne : (Γ 0).p ≠ .no := fun e => (h.pno e).2.2 hb
    obtain ⟨Wg, C, n, K, val, jn, tag, bd, hp⟩ : ∃ Wg C n K val jn tag bd, (Γ 0).p = .at Wg C n K val jn tag bd := by
      cases hq : (Γ 0).p with
      | no => exact absurd hq hne
      | «at» Wg C n K val jn tag bd => exact ⟨_, _, _, _, _, _, _, _, rfl⟩
    have hpr := h.pat _ _ _ _ _ _ _ _ hp
    obtain ⟨st, sm, _, hmode⟩ := hpr.wg
    have run : ∀ i, i < j → (D i).stage ≠ 1 → ∃ (i : Nat) (g : Goroutine), gs[i]? = some g ∧ g.status = .running := fun i hi hst => by
      have hib : b ≤ i := Nat.le_of_not_lt fun hlt => hst (hpr.old i hlt)
      obtain ⟨i', rfl⟩ : ∃ i', i = b + i' := ⟨i - b, by omega⟩
      obtain ⟨x, hx, hws⟩ := hpr.wk i' (by have := hpr.hj; omega) hst
      exact ⟨_, x, hx, hws.running⟩
    rw [hb] at hmode
    cases hmode with
    | opn h1 _ _ => exact h1.elim
    | reg _ _ h3 =>
      obtain ⟨i, hi, h5⟩ := exists_counted h3
      exact run i hi (by omega)
    | last L _ h2 h3 _ => exact run L h2 (by omega)
    | fin h1 _ => exact h1.elim

theorem inv_step (μ : MR) (m : Machine) (t : Trace) (h : Inv P ty (StopE P Post) μ m t) :
    (∃ o w ops, stepT P m = (.ended o w, ops) ∧ Good P (PostK Post) m o w (t ++ ops)) ∨ (∃ m' ops μ', stepT P m = (.next m', ops) ∧ MRlt μ' μ ∧ Inv P ty (StopE P Post) μ' m' (t ++ ops)) := by
  obtain ⟨S, b, j, D, R, Γ, ρ, bit, tg, gs, w, sl, rfl, h, rfl⟩ := h
  obtain ⟨i, g, d, sl', hg, hrun, hstep⟩ := crowd_pick (P := P) (w := w) (sl := sl) (fun g hg => by obtain ⟨i, hi⟩ := Array.mem_iff_getElem?.1 hg; exact awake_of (h.status i g hi)) h.someone
  rw [hstep]
  have h' := h.at d
  cases i with
  | zero =>
    rcases stepCaller (sl := sl') h' hg hrun with ⟨o, w₁, ops, h1, h2⟩ | h1
    · exact .inl ⟨o, w₁, ops, h1, h2 w sl⟩
    · exact .inr h1
  | succ i =>
    have hi : i < j := by have := (Array.getElem?_eq_some_iff.1 hg).1; rw [h.size] at this; omega
    exact .inr (stepWorker h' stopE_running hi hg hrun)

end
/-- goroutine 0 as it begins -/
def Gh.start (w : World) : Gh := ⟨fun b => b < w.heap.size, fun b => b < w.heap.size, fun _ => False, fun _ => False, fun _ => False, .no⟩

theorem run_good [Payload] {P : Program} {ty : TypeId} {w : World} {Post : Value → World → Prop} {a : Goroutine} (h : GI P true (XS P ty) (StopE P Post) (Gh.start w) a w) :
    ∃ N last o w' t', runNT P (N + 1) (solo a w) #[] = (.ended o w', t') ∧ runN P N (solo a w) = .next last ∧ step P last = .ended o w' ∧ Good P (fun v w' => Post v w' ∧ Kp w w') last o w' t' := by
  letI : Start := ⟨w⟩
  obtain ⟨ρ, h⟩ := h
  refine run_of_inv mr_wf (Inv P ty (StopE P Post)) (Good P (PostK Post)) inv_step (ρ, (rowR 0 fun _ => (0, .leaf), 1)) (solo a w) #[]
    ⟨fun _ => False, 0, 0, fun _ => ⟨1, 0, 0⟩, fun _ => (0, .leaf), fun k => if k = 0 then Gh.start w else Gh.nil, ρ, 1, .kd, #[a], w, none, solo_eq_crowd a w, ?_, rfl⟩
  have nt : ∀ i x, touchAt #[] i = some x → False := fun i x hx => by simp [touchAt, Trace.act?] at hx
  have en : ∀ k, k ≠ 0 → (fun k => if k = 0 then Gh.start w else Gh.nil) k = Gh.nil := fun k hk => by simp [hk]
  refine ⟨rfl, ⟨fun said => ConcN.noRace_nil said, fun i op x hi => by simp at hi, fun i a ha => (nt i a ha).elim, fun i g hg => by simp [Trace.g?] at hg, fun i op hi => by simp at hi, fun op hop => by simp at hop⟩, ?_, fun k hk => en k (by omega), ⟨a, rfl, .inl ⟨rfl, by simp, h⟩⟩, rfl, fun i hi => by omega, fun i a hi => by simp [Trace.act?] at hi, fun i hi => by omega, fun _ => ⟨rfl, fun i hi => by omega, by simp⟩, fun Wg C n K val jn tag bd hp => (by cases hp), Kp.refl _⟩
  have two : ∀ k : Nat, k = 0 ∨ k ≠ 0 := fun k => by omega
  refine ⟨fun _ h => h.elim, fun k x hx => ?_, fun k x hx => ?_, fun k k' x hne hx => ?_, fun k k' x hx => ?_, fun k k' x hne hx => ?_, fun k k' x hx => ?_, fun k k' x hne hx => ?_, fun k x hx => ?_, fun k a _ i x hx => (nt i x hx).elim, fun k a _ i x hx => (nt i x hx).elim, fun k a _ i x hx => (nt i x hx).elim, fun k a _ i x hx => (nt i x hx).elim⟩
  all_goals rcases two k with rfl | hk
  all_goals first | (simp only [hk, if_false] at hx) | (simp only [if_true] at hx)
  · refine ⟨?_, id⟩
    rcases hx with hx | hx | hx
    · exact hx
    · exact hx
    · exact hx.elim
  · rcases hx with hx | hx | hx <;> exact hx.elim
  · exact hx.elim
  · exact hx.elim
  · simp only [Ne.symm hne, if_false]; exact ⟨id, id⟩
  all_goals exact hx.elim
end Go.Proofs.Ytndfookgkkefnaa
