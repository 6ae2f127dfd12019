/- Many goroutines: every step of the starter's. -/
import Derived.Test.YtndfookgkkefnaaBM7
namespace Go.Proofs.Ytndfookgkkefnaa
set_option linter.unusedSimpArgs false
set_option linter.unusedVariables false
set_option linter.unusedSectionVars false
open Go Go.Conc
open Go.ConcN (upd upd_same upd_ne PermW fork_knows RelBy CTag WD Vc cnt AllQuit OpenSt isOpen isW3 isFin pend WgLive PayAt Has RW WSit AtK1 get_map_set get_map_set_same Vc_upd others_uncounted le_sumTo sumTo allQuit_of sumTo_upd_out)
open Go.ConcR (KK WgAt stA smA rd wr mk Payload DC0 deafBehind_cons deafBehind_one)

section
variable [Payload] [Start] {P : Program} {ty : TypeId} {Stop : Stp} {S : Nat → Prop} {b j : Nat} {D : Nat → WD} {R : Nat → WR} {Γ : Nat → Gh} {ρ : Rk} {bit : Nat} {tg : CTag} {gs : Array Goroutine} {w w' : World} {t : Trace}

theorem stepSpawn (h : MI P ty Stop S b j D R Γ ρ bit tg gs w t) {sl : Option (Nat × Nat)} {a a' child : Goroutine} {ρ' ρc : Rk} {Wg C n : Nat} {K : Nat → Prop} {val : Nat → Value} {jn bd r : Nat} (ha : gs[0]? = some a)
    (hp : (Γ 0).p = .at Wg C n K val jn (.sp r 2) bd) (hb : tg ≠ .blk) (hc : (Γ 0).Cs ⟨C, jn, none⟩) (hgo : stepG P true a w = .spawn a' child w #[]) (hch : Gi P false noPh (StopW P ty Wg C n (jn + 1) (val jn)) ρc ((Γ 0).child Wg C jn) child w)
    (hG : Gi P true (XS P ty) Stop ρ' ((Γ 0).started C jn (.at Wg C n K val (jn + 1) (nextTag r) bd)) a' w) (hlt : Sub ρ' ρ) :
    ∃ m₁ ops μ', runT P (crowd gs w sl) 0 = (.next m₁, ops) ∧ MRlt μ' (ρ, (rowR j R, bit)) ∧ Inv P ty Stop μ' m₁ (t ++ ops) := by
  have hpr := h.pat _ _ _ _ _ _ _ _ hp
  have hrun := runT_crowd_spawn (P := P) (sl := sl) (i := 0) ha (by simpa using hgo)
  rw [h.size] at hrun
  have hx : ({ g := 0, fn := a.frame.fn, pos := a.frame.place, act := .go (j + 1) } : MemOp).g = 0 ∧ ({ g := 0, fn := a.frame.fn, pos := a.frame.place, act := .go (j + 1) } : MemOp).act = .go (j + 1) := ⟨rfl, rfl⟩
  have hy : ({ g := j + 1, fn := child.frame.fn, pos := a.frame.place, act := .start } : MemOp).g = j + 1 ∧ ({ g := j + 1, fn := child.frame.fn, pos := a.frame.place, act := .start } : MemOp).act = .start := ⟨rfl, rfl⟩
  generalize hxx : ({ g := 0, fn := a.frame.fn, pos := a.frame.place, act := .go (j + 1) } : MemOp) = x at hx hrun
  generalize hyy : ({ g := j + 1, fn := child.frame.fn, pos := a.frame.place, act := .start } : MemOp) = y at hy hrun
  have eops : ((MemOp.ofEvents 0 a.frame.fn a.frame.place #[]).push x).push y = #[x, y] := by simp [ofEvents_eq]
  rw [eops] at hrun
  have hm : ∀ op ∈ #[x, y], op = x ∨ op = y := by intro op hop; simpa using hop
  have hst : ∀ op ∈ #[x, y], op.act ≠ .mark .disable ∧ op.act ≠ .mark .enable := by
    intro op hop
    rcases hm op hop with rfl | rfl
    · rw [hx.2]; exact ⟨by simp, by simp⟩
    · rw [hy.2]; exact ⟨by simp, by simp⟩
  have hd0 : Deaf t 0 = 0 := by rw [h.deaf0, hp]; rfl
  have hnil := h.gnil (j + 1) (Nat.lt_succ_self j)
  have htr := h.tr.fork hx hy
  have hgh := h.gh.fork (p := .at Wg C n K val (jn + 1) (nextTag r) bd) h.tr hx hy hd0 hnil hc hpr.sW
  have hG0 : upd (upd Γ 0 ((Γ 0).started C jn (.at Wg C n K val (jn + 1) (nextTag r) bd))) (j + 1) ((Γ 0).child Wg C jn) 0 = (Γ 0).started C jn (.at Wg C n K val (jn + 1) (nextTag r) bd) := by rw [upd_ne _ _ (by omega), upd_same]
  have hGi : ∀ k, k ≠ 0 → k ≠ j + 1 → upd (upd Γ 0 ((Γ 0).started C jn (.at Wg C n K val (jn + 1) (nextTag r) bd))) (j + 1) ((Γ 0).child Wg C jn) k = Γ k := fun k h0 h1 => by rw [upd_ne _ _ h1, upd_ne _ _ h0]
  have hgs0 : ((gs.setIfInBounds 0 a').push child)[0]? = some a' := by
    rw [Array.getElem?_push_lt (by simp [h.size]), ← Array.getElem?_eq_getElem]
    simp [h.size]
  have hgsi : ∀ i, i < j → ((gs.setIfInBounds 0 a').push child)[i + 1]? = gs[i + 1]? := fun i hi => by
    rw [Array.getElem?_push_lt (by simp [h.size]; omega), ← Array.getElem?_eq_getElem, Array.getElem?_setIfInBounds_ne (by omega)]
  have hgsj : ((gs.setIfInBounds 0 a').push child)[j + 1]? = some child := by
    rw [show j + 1 = (gs.setIfInBounds 0 a').size by simp [h.size], Array.getElem?_push_size]
  obtain ⟨st, sm, hwg, hmode⟩ := hpr.wg
  obtain rfl : tg = .sp r 2 := by
    rcases hpr.htg with ⟨e, _⟩ | ⟨e, _⟩
    · exact e
    · cases e
  obtain ⟨ho, rfl, rfl, _⟩ := hmode.open_inv trivial
  have hplace : jn + r + 1 = n := by
    rcases hpr.place with ⟨r', s, e, h1⟩ | ⟨e, _⟩
    · simp only [CTag.sp.injEq] at e
      omega
    · exact absurd rfl (e _ _)
  have hjj := hpr.hj
  refine ⟨_, _, (ρ', (rowR (j + 1) (upd R j (7, ρc)), 1)), hrun, Prod.Lex.left _ _ hlt, S, b, j + 1, upd D j ⟨7, 0, 0⟩, upd R j (7, ρc), upd (upd Γ 0 ((Γ 0).started C jn (.at Wg C n K val (jn + 1) (nextTag r) bd))) (j + 1) ((Γ 0).child Wg C jn), ρ', 1, nextTag r, (gs.setIfInBounds 0 a').push child, w, sl, rfl, ?_, rfl⟩
  refine ⟨by simp [h.size], htr, hgh, fun k hk => by rw [hGi k (by omega) (by omega)]; exact h.gnil k (by omega), ⟨a', hgs0, .inl ⟨rfl, by cases r <;> simp [nextTag], by rw [hG0]; exact hG⟩⟩, ?_, fun i hi => ?_, fun i z hz => ?_, fun i hi hs => ?_, fun e => ?_, fun Wg1 C1 n1 K1 val1 jn1 tag1 bd1 hp1 => ?_, h.kp⟩
  · rw [hG0, ConcN.Deaf_still t 0 _ hst, hd0]
    cases r <;> rfl
  · rw [ConcN.Deaf_still t _ _ hst]
    rcases Nat.lt_or_ge i j with hlt | hge
    · rw [h.deafW i hlt, upd_ne D _ (by omega)]
    · obtain rfl : i = j := by omega
      rw [upd_same]
      exact ConcN.Deaf_absent fun z op hz e => by have := h.tr.gs z op hz; omega
  · obtain ⟨op, ho, hoa⟩ := Option.map_eq_some_iff.1 hz
    rcases getElem?_append_cases ho with ⟨_, ho'⟩ | ⟨_, hou⟩
    · exact h.norl i z (by rw [act?_of ho', hoa])
    · rcases hm op hou with rfl | rfl
      · rw [hx.2] at hoa; cases hoa
      · rw [hy.2] at hoa; cases hoa
  · rcases Nat.lt_or_ge i j with hlt | hge
    · rw [upd_ne D _ (by omega)] at hs
      obtain ⟨h1, z, q, hz, hqz, hR⟩ := h.lv i hlt hs
      rw [hGi _ (by omega) (by omega), hgsi i hlt, upd_ne D _ (by omega), upd_ne R _ (by omega)]
      exact ⟨h1, z, q, hz, hqz, hR⟩
    · obtain rfl : i = j := by omega
      rw [upd_same] at hs
      cases hs
  · rw [hG0] at e
    cases e
  · rw [hG0] at hp1
    have hp1' : Pt.at Wg C n K val (jn + 1) (nextTag r) bd = .at Wg1 C1 n1 K1 val1 jn1 tag1 bd1 := hp1
    simp only [Pt.at.injEq] at hp1'
    obtain ⟨rfl, rfl, rfl, rfl, rfl, rfl, rfl, rfl⟩ := hp1'
    have eV : Vc (j + 1) (upd D j ⟨7, 0, 0⟩) = Vc j D + 1 := by
      simp only [Vc, sumTo, upd_same]
      rw [sumTo_upd_out D _ cnt (Nat.le_refl _)]; rfl
    have ho' : OpenSt (j + 1) (upd D j ⟨7, 0, 0⟩) := fun i hi => by
      by_cases e : i = j
      · subst e; rw [upd_same]; simp
      · rw [upd_ne D _ e]; exact ho i (by omega)
    refine ⟨hpr.sW, by omega, hpr.hn, ?_, .inl ⟨rfl, by cases r <;> simp [nextTag]⟩, ⟨_, _, hwg, ?_⟩, ?_, fun i hi => by rw [upd_ne D _ (by omega)]; exact hpr.old i hi, hpr.pay, hpr.cC, fun k => ?_, fun k z hz => ?_, fun i hi hs => ?_, fun i hi hs => ?_, fun z hz => ?_, fun i hi hs => ?_⟩
    · cases r with
      | zero => exact .inr ⟨by simp [nextTag], by omega⟩
      | succ r => exact .inl ⟨r, 5, rfl, by omega⟩
    · have e : ((Vc j D + pend (.sp r 2) : Nat) : Int) * KK = ((Vc (j + 1) (upd D j ⟨7, 0, 0⟩) + pend (nextTag r) : Nat) : Int) * KK := by
        rw [eV]
        cases r <;> simp [pend, nextTag]
      rw [e]
      exact .opn (by cases r <;> trivial) ho' (by cases r <;> simp [nextTag])
    · cases r <;> simp [nextTag]
    · by_cases e0 : k = 0
      · subst e0; rw [hG0]; exact ⟨(hpr.cF 0).1, id, (hpr.cF 0).2.2⟩
      · by_cases e1 : k = j + 1
        · subst e1; rw [upd_same]; exact ⟨(hpr.cF 0).1, id, id⟩
        · rw [hGi k e0 e1]; exact hpr.cF k
    · by_cases e0 : k = 0
      · subst e0
        rw [hG0] at hz
        rcases hpr.own 0 z hz.1 with ⟨_, i, h1, h2, h3⟩ | ⟨i, _, h2, _⟩
        · refine .inl ⟨rfl, i, ?_, h2, h3⟩
          have : i ≠ jn := fun e => hz.2 (by rw [h3, e])
          omega
        · omega
      · by_cases e1 : k = j + 1
        · subst e1
          rw [upd_same] at hz
          exact .inr ⟨jn, by omega, by omega, by rw [← hjj, upd_same], hz⟩
        · rw [hGi k e0 e1] at hz
          rcases hpr.own k z hz with ⟨h1, _⟩ | ⟨i, h1, h2, h3, h4⟩
          · exact absurd h1 e0
          · exact .inr ⟨i, by omega, h2, by rw [upd_ne D _ (by omega)]; exact h3, h4⟩
    · rcases Nat.lt_or_ge i jn with hlt | hge
      · rw [upd_ne D _ (by omega)] at hs; exact hpr.has i hlt hs
      · obtain rfl : i = jn := by omega
        rw [← hjj, upd_same] at hs
        exact absurd rfl hs
    · rcases Nat.lt_or_ge i jn with hlt | hge
      · rw [upd_ne D _ (by omega)] at hs
        obtain ⟨r1, hr1⟩ := hpr.rel i hlt hs
        refine ⟨r1, hr1.not fun op hop => ?_⟩
        rcases hm op hop with rfl | rfl
        · rw [hx.1]; omega
        · rw [hy.1]; omega
      · obtain rfl : i = jn := by omega
        rw [← hjj, upd_same] at hs
        exact absurd rfl hs
    · rw [hG0]
      exact hpr.kK z hz
    · rcases Nat.lt_or_ge i jn with hlt | hge
      · rw [upd_ne D _ (by omega)] at hs
        obtain ⟨z, hz, hws⟩ := hpr.wk i hlt hs
        refine ⟨z, by rw [hgsi _ (by omega)]; exact hz, ?_⟩
        rw [upd_ne D _ (by omega), upd_ne R _ (by omega), hGi _ (by omega) (by omega)]
        exact hws
      · obtain rfl : i = jn := by omega
        rw [← hjj, upd_same, upd_same, upd_same]
        exact ⟨child, hgsj, .gi hch rfl⟩
end
end Go.Proofs.Ytndfookgkkefnaa
