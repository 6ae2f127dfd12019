/- Many goroutines: whatever step of a worker's. -/
import Derived.Test.YtndfookgkkefnaaBM3
namespace Go.Proofs.Ytndfookgkkefnaa
set_option linter.unusedSimpArgs false
set_option linter.unusedVariables false
set_option linter.unusedSectionVars false
open Go Go.Conc
open Go.ConcN (upd upd_same upd_ne PermW fork_knows RelBy CTag WD Vc cnt AllQuit OpenSt isOpen isW3 isFin pend WgLive PayAt Has RW WSit AtK1 get_map_set get_map_set_same Vc_upd)
open Go.ConcR (KK WgAt stA smA rd wr mk Payload DC0 deafBehind_cons deafBehind_one)

section
variable [Payload] [Start] {P : Program} {ty : TypeId} {Stop : Stp} {S : Nat → Prop} {b j : Nat} {D : Nat → WD} {R : Nat → WR} {Γ : Nat → Gh} {ρ : Rk} {bit : Nat} {tg : CTag} {gs : Array Goroutine} {w w' : World} {t : Trace}

def Inv (P : Program) (ty : TypeId) (Stop : Stp) (μ : MR) (m : Machine) (t : Trace) : Prop :=
  ∃ S b j D R Γ ρ bit tg gs w sl, m = crowd gs w sl ∧ MI P ty Stop S b j D R Γ ρ bit tg gs w t ∧ μ = (ρ, (rowR j R, bit))

theorem Prt.stepW {Wg C n : Nat} {K : Nat → Prop} {val : Nat → Value} {jn : Nat} {tag : CTag} {bd : Nat} (h : Prt P ty S b j D R Γ gs w t tg Wg C n K val jn tag bd) (hsize : gs.size = j + 1) {i : Nat} (hi : i < j)
    {g g' : Goroutine} {fn : FuncId} {pos : String} {es : Array Event} {γ' : Gh} {r' : WR} {d' : WD} {tg' : CTag}
    (htg : tg' = tg ∨ (tg = .blk ∧ tg' = .w3)) (hsz : w.heap.size ≤ w'.heap.size) (hwg : ∃ st sm, WgAt ty Wg w' st sm ∧ ConcN.Mode j (upd D i d') tg' st sm) (hV : cnt d' ≤ cnt (D i)) (hold : i < b → d'.stage = 1) (hpay : PayAt C n w')
    (hcF : ¬ γ'.F C ∧ ¬ γ'.W C ∧ ¬ γ'.Q C) (hCs : ∀ a, γ'.Cs a → (Γ (i + 1)).Cs a ∧ d'.stage = 7)
    (hcell : ∀ i', i' < jn → b + i' ≠ i → (D (b + i')).stage ≠ 7 → w'.cell? ⟨C, i', none⟩ = w.cell? ⟨C, i', none⟩) (hrl : ∀ k', k' ≠ i + 1 → Rl (Γ k') w w')
    (hown : ∀ i', i' < jn → b + i' = i → (d'.stage ≠ 7 → Has C i' (val i') w' ∧ ∃ r, RelB Wg (t ++ MemOp.ofEvents (i + 1) fn pos es) (b + i' + 1) r) ∧ (d'.stage ≠ 1 → WS P ty Wg C n i' (val i') r' d' γ' g' w')) :
    Prt P ty S b j (upd D i d') (upd R i r') (upd Γ (i + 1) γ') ((gs.map (woken P g g' w')).setIfInBounds (i + 1) g') w' (t ++ MemOp.ofEvents (i + 1) fn pos es) tg' Wg C n K val jn tag bd := by
  obtain ⟨st, sm, hw1, hw2⟩ := hwg
  have hlive : WgLive ty Wg w' := ⟨st, sm, hw1⟩
  have hG0 : upd Γ (i + 1) γ' 0 = Γ 0 := upd_ne Γ _ (by omega)
  refine ⟨h.sW, h.hj, h.hn, h.place, ?_, ⟨st, sm, hw1, hw2⟩, fun e => ?_, fun a ha => ?_, hpay, ⟨by have := h.cC.1; omega, h.cC.2⟩, fun k => ?_, fun k a ha => ?_, fun i' hi' hs => ?_, fun i' hi' hs => ?_, fun x hx => ?_, fun i' hi' hs => ?_⟩
  · rcases htg with rfl | ⟨rfl, rfl⟩
    · exact h.htg
    · rcases h.htg with ⟨e, hne⟩ | ⟨e, _⟩
      · exact absurd e.symm hne
      · exact .inl ⟨e.symm, by rw [e]; simp⟩
  · have := h.bd e
    have := Vc_upd D d' hi
    omega
  · by_cases e : a = i
    · subst e; rw [upd_same]; exact hold ha
    · rw [upd_ne D _ e]; exact h.old a ha
  · by_cases e : k = i + 1
    · subst e; rw [upd_same]; exact hcF
    · rw [upd_ne Γ _ e]; exact h.cF k
  · by_cases e : k = i + 1
    · subst e
      rw [upd_same] at ha
      obtain ⟨h1, h2⟩ := hCs a ha
      rcases h.own _ a h1 with ⟨h0, _⟩ | ⟨i0, h3, h4, h5, h6⟩
      · omega
      · exact .inr ⟨i0, h3, h4, by rw [show b + i0 = i by omega, upd_same]; exact h2, h6⟩
    · rw [upd_ne Γ _ e] at ha
      rcases h.own k a ha with h0 | ⟨i0, h3, h4, h5, h6⟩
      · exact .inl h0
      · exact .inr ⟨i0, h3, h4, by rw [upd_ne D _ (by omega)]; exact h5, h6⟩
  · by_cases e : b + i' = i
    · rw [e, upd_same] at hs; exact ((hown i' hi' e).1 hs).1
    · rw [upd_ne D _ e] at hs
      exact (hcell i' hi' e hs).trans (h.has i' hi' hs)
  · by_cases e : b + i' = i
    · rw [e, upd_same] at hs; exact ((hown i' hi' e).1 hs).2
    · rw [upd_ne D _ e] at hs
      obtain ⟨r, hr⟩ := h.rel i' hi' hs
      exact ⟨r, hr.other (by omega)⟩
  · have := h.kK x hx
    rw [hG0]
    exact ⟨by omega, this.2⟩
  · by_cases e : b + i' = i
    · subst e
      rw [upd_same] at hs
      refine ⟨g', get_map_set_same _ _ _ (by rw [hsize]; omega), ?_⟩
      rw [upd_same, upd_same, upd_same]
      exact (hown i' hi' rfl).2 hs
    · rw [upd_ne D _ e] at hs
      obtain ⟨x, hx, hws⟩ := h.wk i' hi' hs
      refine ⟨x, by rw [get_map_set _ _ _ _ (by omega), hx, Option.map_some, woken_run hws.running], ?_⟩
      rw [upd_ne D _ e, upd_ne R _ e, upd_ne Γ _ (by omega)]
      exact hws.rely (hrl _ (by omega)) hlive hpay (hcell i' hi' e)

theorem sem_of {γ : Gh} {g : Goroutine} {Post : Stp} {Wg C n : Nat} {K : Nat → Prop} {val : Nat → Value} {jn : Nat} (h : XS P ty γ g w Post) (hp : γ.p = .at Wg C n K val jn .w3 0) :
    g.offers = none ∧ ((∃ st, WgAt ty Wg w st 0) → stepG P true g w = .go { g with status := .blocked } w #[]) ∧
      (WgAt ty Wg w 0 1 → ∃ g', stepG P true g w = .go g' (w.setCell (smA Wg) (.int .u32 0)) (semEvents (smA Wg)) ∧ Post (γ.to (.at Wg C n K val jn .w4 0)) g' (w.setCell (smA Wg) (.int .u32 0))) := by
  cases h
  case sem Wg' C' n' K' val' j' e h1 h2 h3 h4 =>
    have := e.symm.trans hp
    simp only [Pt.at.injEq] at this
    obtain ⟨rfl, rfl, rfl, rfl, rfl, rfl, _⟩ := this
    exact ⟨h2, h3, h4⟩
  all_goals (exfalso; simp_all)

theorem MI.stepW (h : MI P ty Stop S b j D R Γ ρ bit tg gs w t) (hSt : ∀ γ g w, Stop γ g w → g.status = .running) {sl : Option (Nat × Nat)} {i : Nat} (hi : i < j) {g g' : Goroutine} {es : Array Event} {γ' : Gh} {r' : WR} {d' : WD}
    (hg : gs[i + 1]? = some g) (hgo : stepG P false g w = .go g' w' es) (hkp : Kp w w') (hrl : ∀ k', k' ≠ i + 1 → Rl (Γ k') w w')
    (htr : Tr S b j w'.heap.size (t ++ MemOp.ofEvents (i + 1) g.frame.fn g.frame.place es)) (hgh : GhI S (upd Γ (i + 1) γ') w' (t ++ MemOp.ofEvents (i + 1) g.frame.fn g.frame.place es))
    (hdf : deafBehind (D i).deaf es = d'.deaf) (hnr : ∀ op ∈ MemOp.ofEvents (i + 1) g.frame.fn g.frame.place es, ∀ a, op.act ≠ .mark (.release a))
    (hlv : d'.stage = 1 → γ' = Gh.nil ∧ ∃ q, QuitsD P q d'.deaf g' ∧ r' = (1, Rk.ofNat q)) (hlt : WRlt r' (R i)) (hq : (Γ 0).p = .no → d'.stage = 1)
    (hmt : ∀ tg', (tg' = tg ∨ (tg = .blk ∧ tg' = .w3)) → (mayWake P g = true → g'.status = .running → tg' ≠ .blk) → ∀ Wg C n K val jn tag bd, (Γ 0).p = .at Wg C n K val jn tag bd →
      Prt P ty S b j D R Γ gs w t tg Wg C n K val jn tag bd →
      Prt P ty S b j (upd D i d') (upd R i r') (upd Γ (i + 1) γ') ((gs.map (woken P g g' w')).setIfInBounds (i + 1) g') w' (t ++ MemOp.ofEvents (i + 1) g.frame.fn g.frame.place es) tg' Wg C n K val jn tag bd) :
    ∃ m₁ ops μ', runT P (crowd gs w sl) (i + 1) = (.next m₁, ops) ∧ MRlt μ' (ρ, (rowR j R, bit)) ∧ Inv P ty Stop μ' m₁ (t ++ ops) := by
  have hrun := runT_crowd_go (P := P) (sl := sl) (i := i + 1) hg (by simpa using hgo)
  have hG0 : upd Γ (i + 1) γ' 0 = Γ 0 := upd_ne Γ _ (by omega)
  have hr0 := hrl 0 (by omega)
  obtain ⟨a, ha, hs0⟩ := h.s0
  have key : ∃ bit' tg', (tg' = tg ∨ (tg = .blk ∧ tg' = .w3)) ∧ (mayWake P g = true → g'.status = .running → tg' ≠ .blk) ∧ ((tg ≠ .blk → tg' ≠ .blk)) ∧
      ((bit' = 1 ∧ tg' ≠ .blk ∧ Gi P true (XS P ty) Stop ρ (Γ 0) (woken P g g' w' a) w') ∨ (bit' = 0 ∧ tg' = .blk ∧ (∃ Wg C n K val jn, (Γ 0).p = .at Wg C n K val jn .w3 0) ∧ ∃ f g1 Post, ρ = .mk f ∧ woken P g g' w' a = { g1 with status := .blocked } ∧ (∀ w₁, Rl (Γ 0) w' w₁ → XS P ty (Γ 0) g1 w₁ Post) ∧
        ∀ γ' g' w', Post γ' g' w' → Gi P true (XS P ty) Stop (f γ' g' w') γ' g' w')) := by
    rcases hs0 with ⟨rfl, hb, hG⟩ | ⟨rfl, hb, ⟨Wg, C, n, K, val, jn, hp⟩, f, g1, Post, rfl, rfl, hX, hP⟩
    · have hr : a.status = .running := hG.running (fun _ _ _ _ x => x.running) hSt
      exact ⟨1, tg, .inl rfl, fun _ _ => hb, id, .inl ⟨rfl, hb, by rw [woken_run hr]; exact hG.rely hr0⟩⟩
    · have hX0 := hX w (Rl.refl _ w)
      have hoff := (sem_of hX0 hp).1
      unfold Go.Conc.woken
      split
      · refine ⟨1, .w3, .inr ⟨hb, rfl⟩, fun _ _ => by simp, fun _ => by simp, .inl ⟨rfl, by simp, ?_⟩⟩
        rw [ConcR.again_blocked hX0.running hoff]
        exact .inr ⟨Post, fun w₁ h₁ => hX w₁ (hr0.trans h₁), hP⟩
      · rename_i hc
        exact ⟨0, tg, .inl rfl, fun h1 h2 => absurd (by simp [h1, h2]) hc, id, .inr ⟨rfl, hb, ⟨Wg, C, n, K, val, jn, hp⟩, f, g1, Post, rfl, rfl, fun w₁ h₁ => hX w₁ (hr0.trans h₁), hP⟩⟩
  obtain ⟨bit', tg', htg, hwk, hnb, hs0'⟩ := key
  refine ⟨_, _, (ρ, (rowR j (upd R i r'), bit')), hrun, Prod.Lex.right _ (Prod.Lex.left _ _ (rowR_upd R hi hlt)), S, b, j, upd D i d', upd R i r', upd Γ (i + 1) γ', ρ, bit', tg', _, w', sl, rfl, ?_, rfl⟩
  refine ⟨by simp [h.size], htr, hgh, fun k hk => by rw [upd_ne Γ _ (by omega)]; exact h.gnil k hk, ⟨woken P g g' w' a, by rw [get_map_set _ _ _ _ (by omega), ha]; rfl, by rw [hG0]; exact hs0'⟩, ?_, fun i' hi' => ?_, fun i' a' ha' => ?_, fun i' hi' hs => ?_, fun e => ?_, fun Wg C n K val jn tag bd hp => ?_, h.kp.trans hkp⟩
  · rw [hG0, Deaf_other t (by omega) _ ConcR.g_of_ofEvents, h.deaf0]
  · by_cases e : i' = i
    · subst e; rw [Deaf_own, h.deafW i' hi', upd_same]; exact hdf
    · rw [Deaf_other t (by omega) _ ConcR.g_of_ofEvents, h.deafW i' hi', upd_ne D _ e]
  · obtain ⟨op, ho, hoa⟩ := Option.map_eq_some_iff.1 ha'
    rcases getElem?_append_cases ho with ⟨_, ho'⟩ | ⟨_, hou⟩
    · exact h.norl i' a' (by rw [act?_of ho', hoa])
    · exact hnr op hou a' hoa
  · by_cases e : i' = i
    · subst e
      rw [upd_same] at hs
      obtain ⟨h1, q, h2, h3⟩ := hlv hs
      rw [upd_same, upd_same, upd_same]
      exact ⟨h1, g', q, get_map_set_same _ _ _ (by rw [h.size]; omega), h2, h3⟩
    · rw [upd_ne D _ e] at hs
      obtain ⟨h1, x, q, hx, hqx, hR⟩ := h.lv i' hi' hs
      rw [upd_ne D _ e, upd_ne R _ e, upd_ne Γ _ (by omega)]
      exact ⟨h1, x, q, by rw [get_map_set _ _ _ _ (by omega), hx, Option.map_some, woken_quitsD hqx], hqx, hR⟩
  · rw [hG0] at e
    obtain ⟨h1, h2, h3⟩ := h.pno e
    refine ⟨h1, fun i' hi' => ?_, hnb h3⟩
    by_cases e' : i' = i
    · subst e'; rw [upd_same]; exact hq e
    · rw [upd_ne D _ e']; exact h2 i' hi'
  · rw [hG0] at hp
    exact hmt tg' htg hwk _ _ _ _ _ _ _ _ hp (h.pat _ _ _ _ _ _ _ _ hp)
end
end Go.Proofs.Ytndfookgkkefnaa
