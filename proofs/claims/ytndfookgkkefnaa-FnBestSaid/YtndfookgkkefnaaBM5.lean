/- Many goroutines: every step of a worker's. -/
import Derived.Test.YtndfookgkkefnaaBM4
namespace Go.Proofs.Ytndfookgkkefnaa
set_option linter.unusedSimpArgs false
set_option linter.unusedVariables false
set_option linter.unusedSectionVars false
open Go Go.Conc
open Go.ConcN (upd upd_same upd_ne PermW fork_knows RelBy CTag WD Vc cnt AllQuit OpenSt isOpen isW3 isFin pend WgLive PayAt Has RW WSit AtK1 get_map_set get_map_set_same Vc_upd others_uncounted le_sumTo sumTo)
open Go.ConcR (KK WgAt stA smA rd wr mk Payload DC0 deafBehind_cons deafBehind_one)

theorem Vc_zero (D : Nat → WD) : ∀ (b : Nat), (∀ i, i < b → (D i).stage = 1) → Vc b D = 0
  | 0, _ => rfl
  | b + 1, h => by
    have h1 := Vc_zero D b fun i hi => h i (by omega)
    have h2 : cnt (D b) = 0 := by simp [cnt, h b (by omega)]
    simp only [Vc, sumTo] at h1 ⊢
    omega
theorem Vc_old (D : Nat → WD) (b : Nat) (h : ∀ i, i < b → (D i).stage = 1) : ∀ jn, Vc (b + jn) D ≤ jn
  | 0 => by rw [Nat.add_zero, Vc_zero D b h]; exact Nat.le_refl _
  | jn + 1 => by
    have h1 := Vc_old D b h jn
    have h2 : cnt (D (b + jn)) ≤ 1 := by simp only [cnt]; split <;> omega
    rw [← Nat.add_assoc]
    simp only [Vc, sumTo] at h1 ⊢
    omega

section
variable [Payload] [Start] {P : Program} {ty : TypeId} {Stop : Stp} {S : Nat → Prop} {b j : Nat} {D : Nat → WD} {R : Nat → WR} {Γ : Nat → Gh} {ρ : Rk} {bit : Nat} {tg : CTag} {gs : Array Goroutine} {w w' : World} {t : Trace}

theorem Prt.bound {Wg C n : Nat} {K : Nat → Prop} {val : Nat → Value} {jn : Nat} {tag : CTag} {bd : Nat} (h : Prt P ty S b j D R Γ gs w t tg Wg C n K val jn tag bd) : Vc j D + pend tg ≤ n := by
  have h1 := Vc_old D b h.old jn
  rw [← h.hj] at h1
  rcases h.htg with ⟨rfl, _⟩ | ⟨_, rfl⟩
  · rcases h.place with ⟨r, s, rfl, h2⟩ | ⟨h2, h3⟩
    · simp only [pend]; split <;> omega
    · have : pend tg = 0 := by cases tg <;> first | rfl | exact absurd rfl (h2 _ _)
      omega
  · rcases h.place with ⟨r, s, rfl, h2⟩ | ⟨h2, h3⟩ <;> simp only [pend] <;> omega

theorem bk_none {e : Event} {Wg : Nat} (m : Mark) (hm : m = .disable ∨ m = .enable ∨ m = .releaseMerge (stA Wg) ∨ m = .acquire (stA Wg)) (he : e = mk m) : BkE Wg e := by
  subst he
  refine .inl ?_
  rw [ConcR.ofEvent_mk]
  rcases hm with rfl | rfl | rfl | rfl
  · exact ⟨rfl, fun _ _ => trivial, by simp⟩
  · exact ⟨rfl, fun _ _ => trivial, by simp⟩
  · exact ⟨rfl, fun _ h => h, by simp⟩
  · exact ⟨rfl, fun _ h => h, by simp⟩
theorem bk_cell' {Wg : Nat} (a : Addr) (wr : Bool) (h : a.block = Wg) : BkE Wg ⟨.cell a, wr, true⟩ := .inr ⟨a, wr, rfl, h⟩
theorem bk_semE {Wg : Nat} : ∀ e ∈ semEvents (smA Wg), BkE Wg e := by
  intro e he
  simp [semEvents] at he
  rcases he with rfl | rfl | rfl | rfl
  · exact bk_none .disable (.inl rfl) rfl
  · exact bk_cell' _ _ rfl
  · exact bk_cell' _ _ rfl
  · exact bk_none .enable (.inr (.inl rfl)) rfl

theorem retag' {D' : Nat → WD} {tg' : CTag} {st sm : Int} (h : ConcN.Mode j D' tg st sm) (ht : tg' = tg ∨ (tg = .blk ∧ tg' = .w3)) : ConcN.Mode j D' tg' st sm := h.retag ht

set_option maxHeartbeats 1600000 in
theorem stepWorker (h : MI P ty Stop S b j D R Γ ρ bit tg gs w t) (hSt : ∀ γ g w, Stop γ g w → g.status = .running) {sl : Option (Nat × Nat)} {i : Nat} (hi : i < j) {g : Goroutine} (hg : gs[i + 1]? = some g) (hrun : g.status = .running) :
    ∃ m₁ ops μ', runT P (crowd gs w sl) (i + 1) = (.next m₁, ops) ∧ MRlt μ' (ρ, (rowR j R, bit)) ∧ Inv P ty Stop μ' m₁ (t ++ ops) := by
  by_cases hst : (D i).stage = 1
  · -- it is leaving
    obtain ⟨hΓ, x, q, hx, hq, hR⟩ := h.lv i hi hst
    obtain rfl : g = x := by rw [hg] at hx; exact Option.some.inj hx
    cases q with
    | zero => rw [hq.1] at hrun; cases hrun
    | succ q =>
      rcases hq with ⟨hf, _⟩ | ⟨_, g', es, hmute, hstep, hq⟩
      · rw [hf] at hrun; cases hrun
      obtain ⟨hok, hnt, hnr⟩ := mute_ok (S := S) (t := t) (k := i + 1) hmute w.heap.size g.frame.fn g.frame.place
      have hgh' : GhI S (upd Γ (i + 1) Gh.nil) w (t ++ MemOp.ofEvents (i + 1) g.frame.fn g.frame.place es) :=
        ((h.gh.less (k := i + 1) (γ' := Gh.nil) (fun _ x => x.elim) (fun _ x => x.elim) (fun _ x => x.elim) (fun _ x => x.elim) (fun _ x => x.elim)).app (fun op hop x hx => by rw [hnt op hop] at hx; cases hx) rfl)
      have hbe : ∀ Wg, ∀ e ∈ es, BkE Wg e := fun Wg e he => by
        refine .inl ⟨touch_mute (hmute e he), fun N _ => low_mute (hmute e he) N, fun a => ?_⟩
        intro hx
        have hl := ConcR.loc_of_ofEvent hx
        have := hmute e he
        obtain ⟨loc, wr, sy⟩ := e
        simp only at hl
        subst hl
        simp [Event.mute] at this
      refine h.stepW hSt (γ' := Gh.nil) (r' := (1, Rk.ofNat q)) (d' := ⟨1, q, deafBehind (D i).deaf es⟩) hi hg (hstep w) (Kp.refl w) (fun k' _ => Rl.refl _ w) (h.tr.app (Nat.le_refl _) (by omega) hok (.inr (.inr hnt))) hgh' rfl hnr (fun _ => ⟨rfl, q, hq, rfl⟩)
        (by rw [hR]; exact Prod.Lex.right _ (ofNat_sub Gh.nil g w q)) (fun _ => rfl) fun tg' ht _ Wg C n K val jn tag bd hp hpr => ?_
      obtain ⟨st, sm, hw1, hw2⟩ := hpr.wg
      refine hpr.stepW h.size hi ht (Nat.le_refl _) ⟨st, sm, hw1, ?_⟩ (by simp [cnt]) (fun _ => rfl) hpr.pay ⟨id, id, id⟩ (fun _ x => x.elim) (fun _ _ _ _ => rfl) (fun k' _ => Rl.refl _ w) fun i' hi' e => ⟨fun _ => ⟨hpr.has i' hi' (by rw [e, hst]; decide), ?_⟩, fun x => absurd rfl x⟩
      · have := (hw2.same (i := i) q (deafBehind (D i).deaf es)).retag ht
        rw [hst] at this
        exact this
      · obtain ⟨r, hr⟩ := hpr.rel i' hi' (by rw [e, hst]; decide)
        refine ⟨r, ?_⟩
        subst e
        exact hr.own (h.deafW _ hi) _ _ (hbe Wg) fun ix e he => .inl (touch_mute (hmute e (Array.mem_of_getElem? he)))
  · -- it works for the group
    have hne : (Γ 0).p ≠ .no := fun e => hst ((h.pno e).2.1 i hi)
    obtain ⟨Wg, C, n, K, val, jn, tag, bd, hp⟩ : ∃ Wg C n K val jn tag bd, (Γ 0).p = .at Wg C n K val jn tag bd := by
      cases hq : (Γ 0).p with
      | no => exact absurd hq hne
      | «at» Wg C n K val jn tag bd => exact ⟨_, _, _, _, _, _, _, _, rfl⟩
    have hpr := h.pat _ _ _ _ _ _ _ _ hp
    have hib : b ≤ i := Nat.le_of_not_lt fun hlt => hst (hpr.old i hlt)
    obtain ⟨i', rfl⟩ : ∃ i', i = b + i' := ⟨i - b, by omega⟩
    have hi' : i' < jn := by have := hpr.hj; omega
    have hbound := hpr.bound
    obtain ⟨st, sm, hwg, hmode⟩ := hpr.wg
    have hlive : WgLive ty Wg w := ⟨st, sm, hwg⟩
    have hCW : C ≠ Wg := fun e => hpr.cC.2 (e ▸ hpr.sW)
    have hWlt : Wg < w.heap.size := h.gh.s _ hpr.sW
    obtain ⟨x, hx, hws⟩ := hpr.wk i' hi' hst
    obtain rfl : g = x := by rw [hg] at hx; exact Option.some.inj hx
    have hpj : ∀ {Wg1 C1 n1 : Nat} {K1 : Nat → Prop} {val1 : Nat → Value} {jn1 : Nat} {tag1 : CTag} {bd1 : Nat}, (Γ 0).p = .at Wg1 C1 n1 K1 val1 jn1 tag1 bd1 → Wg1 = Wg ∧ C1 = C ∧ n1 = n ∧ val1 = val ∧ jn1 = jn := fun e => by
      rw [hp] at e
      simp only [Pt.at.injEq] at e
      obtain ⟨rfl, rfl, rfl, _, rfl, rfl, _⟩ := e
      exact ⟨rfl, rfl, rfl, rfl, rfl⟩
    have hdk : Deaf t (b + i' + 1) = (D (b + i')).deaf := h.deafW _ hi
    -- a step of the library's own
    have book : ∀ {g' : Goroutine} {w' : World} {es : Array Event} {s' m' dd' : Nat} {st' sm' : Int}, stepG P false g w = .go g' w' es → Bks Wg w w' es → WgAt ty Wg w' st' sm' →
        ((D (b + i')).stage ≠ 7 → ∀ ix e, es[ix]? = some e → (MemAct.ofEvent e).touch? = none ∨ 0 < deafBehind (D (b + i')).deaf (es.extract 0 ix)) →
        ((D (b + i')).stage = 7 → (D (b + i')).deaf = 0 ∧ es = #[mk (.releaseMerge (stA Wg))] ∧ Has C i' (val i') w') →
        WSit P ty Wg C n (fun _ _ => False) (fun _ _ => False) 0 (i' + 1) (val i') s' m' dd' g' w' → s' ≤ 6 → deafBehind (D (b + i')).deaf es = dd' →
        (∀ tg', (tg' = tg ∨ (tg = .blk ∧ tg' = .w3)) → (mayWake P g = true → g'.status = .running → tg' ≠ .blk) → ConcN.Mode j (upd D (b + i') ⟨s', m', dd'⟩) tg' st' sm') → WRlt (s', Rk.ofNat m') (R (b + i')) → cnt ⟨s', m', dd'⟩ ≤ cnt (D (b + i')) →
        ∃ m₁ ops μ', runT P (crowd gs w sl) (b + i' + 1) = (.next m₁, ops) ∧ MRlt μ' (ρ, (rowR j R, bit)) ∧ Inv P ty Stop μ' m₁ (t ++ ops) := by
      intro g' w' es s' m' dd' st' sm' hgo hbk hwg' hd h7 hs' h6 hdd hmode' hlt hcnt
      have hgh' : GhI S (upd Γ (b + i' + 1) Gh.nil) w' (t ++ MemOp.ofEvents (b + i' + 1) g.frame.fn g.frame.place es) :=
        ((h.gh.less (k := b + i' + 1) (γ' := Gh.nil) (fun _ x => x.elim) (fun _ x => x.elim) (fun _ x => x.elim) (fun _ x => x.elim) (fun _ x => x.elim)).app (fun op hop x hx => by
          obtain ⟨⟨y, hy, hb⟩, _⟩ := bk_touch hbk.e _ _ op hop x hx
          exact ⟨y, hy, hb ▸ hpr.sW⟩) hbk.size)
      refine h.stepW hSt (γ' := Gh.nil) (r' := (s', Rk.ofNat m')) (d' := ⟨s', m', dd'⟩) hi hg hgo hbk.kp (fun k' _ => hbk.rl h.gh hpr.sW k') (by rw [hbk.size]; exact h.tr.app (Nat.le_refl _) (by omega) (bk_ok hbk.e hpr.sW hWlt _ _) (.inr (.inl (by omega)))) hgh' hdd (bk_norel hbk.e _ _)
        (fun e => ?_) hlt (fun e => absurd e hne) fun tg' ht hwk Wg1 C1 n1 K1 val1 jn1 tag1 bd1 hp1 hpr1 => ?_
      · simp only at e
        subst e
        refine ⟨rfl, m', ?_, rfl⟩
        cases hs' with
        | quit hq => exact hq
      · obtain ⟨rfl, rfl, rfl, rfl, rfl⟩ := hpj hp1
        have hpay : PayAt C1 n1 w' := by obtain ⟨cs, hc1, hc2⟩ := hpr.pay; exact ⟨cs, (hbk.block hCW).trans hc1, hc2⟩
        refine hpr1.stepW h.size hi ht (by rw [hbk.size]; exact Nat.le_refl _) ⟨st', sm', hwg', hmode' tg' ht hwk⟩ hcnt (fun hlt => absurd hlt (by omega)) hpay ⟨id, id, id⟩ (fun _ x => x.elim) (fun _ _ _ _ => cell_of (hbk.block hCW)) (fun k' _ => hbk.rl h.gh hpr.sW k') fun i1 hi1 e => ?_
        obtain rfl : i1 = i' := by omega
        refine ⟨fun _ => ?_, fun hs1 => .lib (by omega) hs1 hs'⟩
        by_cases e7 : (D (b + i1)).stage = 7
        · obtain ⟨hd0, rfl, hhas⟩ := h7 e7
          exact ⟨hhas, t.size, RelB.new (hdk.trans hd0) _ _⟩
        · refine ⟨(cell_of (hbk.block hCW)).trans (hpr.has i1 hi1 e7), ?_⟩
          obtain ⟨r, hr⟩ := hpr.rel i1 hi1 e7
          exact ⟨r, hr.own hdk _ _ hbk.e (hd e7)⟩
    generalize hRr : R (b + i') = r at hws
    generalize hDd : D (b + i') = d at hws
    generalize hGg : Γ (b + i' + 1) = γ at hws
    rw [hRr, hDd] at book
    have hcounted : ∀ (h5 : 5 ≤ d.stage) {s' : Nat} (hs : s' = 6 ∨ s' = 5) (m' dd' : Nat) (tg' : CTag), (tg' = tg ∨ (tg = .blk ∧ tg' = .w3)) → ConcN.Mode j (upd D (b + i') ⟨s', m', dd'⟩) tg' st sm := fun h5 s' hs m' dd' tg' ht =>
      (hmode.counted hi (by rw [hDd]; exact h5) hs m' dd').retag ht
    cases hws with
    | gi hG hpn =>
      rename_i ρ' f
      have hstop : StopW P ty Wg C n (i' + 1) (val i') γ g w → ∃ m₁ ops μ', runT P (crowd gs w sl) (b + i' + 1) = (.next m₁, ops) ∧ MRlt μ' (ρ, (rowR j R, bit)) ∧ Inv P ty Stop μ' m₁ (t ++ ops) := fun hs => by
        obtain ⟨_, hhas, hx⟩ := hs
        obtain ⟨g', hgo, m, hk⟩ := hx hlive
        refine book hgo ⟨.inl rfl, fun e he => by simp at he; subst he; exact bk_none _ (.inr (.inr (.inl rfl))) rfl⟩ hwg (fun x => absurd rfl x) (fun _ => ⟨rfl, rfl, by simpa using hhas⟩) (.k1 hk) (Nat.le_refl _) rfl (fun tg' ht _ => hcounted (by simp) (.inl rfl) _ _ tg' ht) (Prod.Lex.left _ _ (by decide)) (by simp [cnt])
      cases ρ' with
      | leaf => exact hstop (hG w (Rl.refl _ w))
      | mk fx =>
        rcases hG with ⟨_, hstep⟩ | ⟨_, hX, _⟩
        · have hs := hstep w (Rl.refl _ w)
          cases hgo : stepG P false g w with
          | go g' w' es =>
            rw [hgo] at hs
            obtain ⟨γ', hu, hG'⟩ := hs
            subst hGg
            have hrl : ∀ k', k' ≠ b + i' + 1 → Rl (Γ k') w w' := fun k' hk => h.gh.rl hu hk
            have hnr : ∀ op ∈ MemOp.ofEvents (b + i' + 1) g.frame.fn g.frame.place es, ∀ a, op.act ≠ .mark (.release a) := fun op hop a => by
              rcases (ev_cases hop hu.ev).2 with ⟨_, _, h1⟩ | ⟨a', wr, sy, _, ha, _⟩
              · exact h1 a
              · rw [ha]; simp
            have hdis : ∀ e ∈ es, e.loc ≠ .mark .disable ∧ e.loc ≠ .mark .enable := fun e he => by
              rcases hu.ev e he with ⟨a, wr, sy, rfl, _⟩ | ⟨m, rfl, hm⟩
              · simp
              · exact ⟨fun e => hm.ne_disable (Loc.mark.inj e), fun e => hm.ne_enable (Loc.mark.inj e)⟩
            refine h.stepW hSt (γ' := γ') (r' := (7, fx (Γ (b + i' + 1)) g w)) (d' := ⟨7, f, 0⟩) hi hg hgo hu.kp hrl (h.tr.app hu.size (by omega) (h.gh.ok h.tr hu _ _) (.inr (.inl (by omega)))) (h.gh.step h.tr hu _ _) (by rw [hDd]; exact deafBehind_still hdis 0) hnr
              (fun e => absurd e (by simp)) (by rw [hRr]; exact Prod.Lex.right _ (.mk fx _ _ _)) (fun e => absurd e hne) fun tg' ht _ Wg1 C1 n1 K1 val1 jn1 tag1 bd1 hp1 hpr1 => ?_
            obtain ⟨rfl, rfl, rfl, rfl, rfl⟩ := hpj hp1
            have hCk : ¬ (Γ (b + i' + 1)).W C1 := (hpr.cF _).2.1
            have hcell : ∀ (o : Nat), o ≠ i' → w'.cell? ⟨C1, o, none⟩ = w.cell? ⟨C1, o, none⟩ := fun o ho => by
              rcases hu.old with h1 | ⟨y, u, v, hc, _, rfl⟩
              · exact cell_of (h1 _ hpr.cC.1 hCk)
              · refine set_ne' (fun e => ?_) v
                rcases hpr.own _ _ hc with ⟨h0, _⟩ | ⟨i0, _, h4, _, h6⟩
                · omega
                · rw [h6] at e
                  simp only [Addr.mk.injEq] at e
                  omega
            have hpay : PayAt C1 n1 w' := by
              obtain ⟨cs, hc1, hc2⟩ := hpr.pay
              rcases hu.old with h1 | ⟨y, u, v, hc, _, rfl⟩
              · exact ⟨cs, (h1 _ hpr.cC.1 hCk).trans hc1, hc2⟩
              · by_cases e : C1 = y.block
                · subst e
                  rcases hpr.own _ _ hc with ⟨h0, _⟩ | ⟨i0, _, h4, _, h6⟩
                  · omega
                  · refine ⟨cs.setIfInBounds y.off v, ?_, by simpa using hc2⟩
                    have hsp : y.spot = none := by rw [h6]
                    simp only [World.setCell, Array.getElem?_modify, if_true, hc1, Option.map_some, hsp, Option.isSome_none, Bool.false_eq_true, if_false]
                · exact ⟨cs, (set_other e v).trans hc1, hc2⟩
            refine hpr1.stepW h.size hi ht hu.size ⟨st, sm, hwg.of_block (h.gh.sh hu hpr.sW), ?_⟩ (by rw [hDd]; exact Nat.le_refl _) (fun hlt => absurd hlt (by omega)) hpay ?_ (fun a ha => ⟨hu.Cs a ha, rfl⟩) (fun i1 hi1 hne1 hs1 => hcell i1 (by omega)) hrl fun i1 hi1 e => ?_
            · have := (hmode.same (i := b + i') f 0).retag ht
              rw [hDd] at this
              exact this
            · have hc := hpr.cF (b + i' + 1)
              have hl := hpr.cC.1
              refine ⟨fun x => ?_, fun x => ?_, fun x => ?_⟩
              · rcases hu.F _ x with y | y
                · exact hc.1 y
                · omega
              · rcases hu.W _ x with y | y
                · exact hc.2.1 y
                · omega
              · rcases hu.Q _ x with y | y
                · exact hc.2.2 y
                · omega
            · obtain rfl : i1 = i' := by omega
              exact ⟨fun x => absurd rfl x, fun _ => .gi hG' (hu.p.trans hpn)⟩
          | _ => rw [hgo] at hs; exact hs.elim
        · exact (hX w (Rl.refl _ w)).elim
    | lib h7 h1 hs =>
      rename_i s m dd
      have idle : ∀ {g' : Goroutine} {m' : Nat}, stepG P false g w = .go g' w #[] → WSit P ty Wg C n (fun _ _ => False) (fun _ _ => False) 0 (i' + 1) (val i') s m' dd g' w → m' + 1 = m → s ≤ 6 →
          ∃ m₁ ops μ', runT P (crowd gs w sl) (b + i' + 1) = (.next m₁, ops) ∧ MRlt μ' (ρ, (rowR j R, bit)) ∧ Inv P ty Stop μ' m₁ (t ++ ops) := by
        intro g' m' hgo hs' hm h6
        subst hm
        refine book hgo ⟨.inl rfl, by simp⟩ hwg (by simp) (fun e => absurd e h7) hs' h6 rfl (fun tg' ht _ => ?_) (Prod.Lex.right _ (ofNat_sub Gh.nil g w m')) (Nat.le_refl _)
        have := (hmode.same (i := b + i') m' dd).retag ht
        rw [hDd] at this
        exact this
      have bk2 : ∀ e ∈ #[rd (stA Wg), wr (stA Wg)], BkE Wg e := by intro e he; simp at he; rcases he with rfl | rfl <;> exact bk_cell' _ _ rfl
      have df2 : ∀ jx e, (#[rd (stA Wg), wr (stA Wg)] : Array Event)[jx]? = some e → (MemAct.ofEvent e).touch? = none ∨ 0 < deafBehind 1 ((#[rd (stA Wg), wr (stA Wg)] : Array Event).extract 0 jx) := by
        intro jx e he
        match jx, he with
        | 0, _ => exact .inr (by simp [deafBehind])
        | 1, _ => exact .inr (by simp [deafBehind, rd])
        | jx + 2, he => simp at he
      have setB : ∀ (a : Addr) (v : Value) {es : Array Event}, a.block = Wg → (∀ e ∈ es, BkE Wg e) → Bks Wg w (w.setCell a v) es := fun a v es ha he => ⟨.inr ⟨a, v, ha, rfl⟩, he⟩
      cases hs with
      | r0 _ => exact absurd rfl h7
      | k1 hG =>
        rcases Goes.cases hG with hstop | ⟨m', rfl, hstep⟩
        · obtain ⟨_, g', hgo, m₂, hk⟩ := hstop w (RW.refl w)
          exact book hgo ⟨.inl rfl, fun e he => by simp at he; subst he; exact bk_none _ (.inl rfl) rfl⟩ hwg (fun _ jx e he => .inl (by have := Array.mem_of_getElem? he; simp at this; subst this; rfl)) (fun e => absurd e h7) (.d1 hk) (by omega) rfl
            (fun tg' ht _ => hcounted (by simp) (.inr rfl) _ _ tg' ht) (Prod.Lex.left _ _ (by decide)) (by simp [cnt])
        · obtain ⟨g', w', es, hgo, ⟨rfl, rfl⟩, hg'⟩ := hstep w (RW.refl w)
          exact idle hgo (.k1 hg') rfl (by omega)
      | d1 hG =>
        rcases Goes.cases hG with hstop | ⟨m', rfl, hstep⟩
        · obtain ⟨_, hall⟩ := hstop w (RW.refl w)
          have hc1 : cnt (D (b + i')) = 1 := by rw [hDd]; simp [cnt]
          have hV1 : 1 ≤ Vc j D := by have := le_sumTo (f := fun x => cnt (D x)) hi; simp only [Vc]; omega
          have hn := hpr.hn
          have hq0 : ∀ q, cnt (⟨1, q, 1⟩ : WD) = 0 := fun _ => rfl
          have opq : ∀ q, OpenSt j D → OpenSt j (upd D (b + i') ⟨1, q, 1⟩) := fun q h a ha => by
            by_cases e : a = b + i'
            · subst e; rw [upd_same]; simp
            · rw [upd_ne D _ e]; exact h a ha
          cases hmode with
          | opn h1 h2 h3 =>
            obtain ⟨v, hv⟩ : ∃ v, Vc j D + pend tg = v + 1 := ⟨Vc j D + pend tg - 1, by omega⟩
            rw [hv] at hwg
            have hw1 : WgAt ty Wg w (((v : Nat) + 1) * KK + ((0 : Nat) : Int)) 0 := by simpa using hwg
            obtain ⟨g', hgo, _, hq⟩ := hall v 0 (by omega) (by omega) hw1
            obtain ⟨q, hq⟩ := hq (by omega)
            have hv' : Vc j (upd D (b + i') ⟨1, q, 1⟩) + pend tg = v := by have := Vc_upd D (⟨1, q, 1⟩ : WD) hi; have := hq0 q; omega
            refine book hgo (setB (stA Wg) _ rfl bk2) (hwg.setSt _) (fun _ => df2) (fun e => absurd e h7) (.quit hq) (by omega) rfl (fun tg' ht _ => retag' ?_ ht) (Prod.Lex.left _ _ (by decide)) (by simp [cnt])
            have e : ((v : Nat) : Int) * KK + ((0 : Nat) : Int) = ((Vc j (upd D (b + i') ⟨1, q, 1⟩) + pend tg : Nat) : Int) * KK := by rw [hv']; simp
            rw [e]
            exact .opn h1 (opq q h2) (fun vs ev => by have := h3 vs ev; omega)
          | reg h1 h2 h3 =>
            obtain ⟨v, hv⟩ : ∃ v, Vc j D = v + 1 := ⟨Vc j D - 1, by omega⟩
            rw [hv] at hwg
            have hw1 : WgAt ty Wg w (((v : Nat) + 1) * KK + ((1 : Nat) : Int)) 0 := by simpa using hwg
            obtain ⟨g', hgo, hl, hq⟩ := hall v 1 (by omega) (by omega) hw1
            by_cases hv0 : v = 0
            · subst hv0
              obtain ⟨m₂, hk⟩ := hl ⟨rfl, rfl⟩
              refine book hgo (setB (stA Wg) _ rfl bk2) (hwg.setSt _) (fun _ => df2) (fun e => absurd e h7) (.d2 hk) (by omega) rfl (fun tg' ht _ => retag' ?_ ht) (Prod.Lex.left _ _ (by decide)) (by simp [cnt])
              have hoth : ∀ a, a < j → a ≠ b + i' → (D a).stage = 1 := fun a ha e => by
                have c0 := others_uncounted hi hv hc1 a ha e
                have := h2 a ha
                simp only [cnt] at c0
                split at c0 <;> omega
              have := ConcN.Mode.last (j := j) (D := upd D (b + i') ⟨4, m₂, 1⟩) (tag := tg) (b + i') h1 hi (by rw [upd_same]; simp) (fun a ha e => by rw [upd_ne D _ e]; exact hoth a ha e)
              rw [upd_same] at this
              simpa using this
            · obtain ⟨q, hq⟩ := hq (by omega)
              have hv' : Vc j (upd D (b + i') ⟨1, q, 1⟩) = v := by have := Vc_upd D (⟨1, q, 1⟩ : WD) hi; have := hq0 q; omega
              refine book hgo (setB (stA Wg) _ rfl bk2) (hwg.setSt _) (fun _ => df2) (fun e => absurd e h7) (.quit hq) (by omega) rfl (fun tg' ht _ => retag' ?_ ht) (Prod.Lex.left _ _ (by decide)) (by simp [cnt])
              have e : ((v : Nat) : Int) * KK + ((1 : Nat) : Int) = ((Vc j (upd D (b + i') ⟨1, q, 1⟩) : Nat) : Int) * KK + 1 := by rw [hv']; simp
              rw [e]
              exact .reg h1 (opq q h2) (by omega)
          | last L _ h2 h3 h4 =>
            by_cases e : b + i' = L
            · subst e; rw [hDd] at h3; simp at h3
            · have := h4 (b + i') hi e; rw [hDd] at this; simp at this
          | sema h2 => have := h2 (b + i') hi; rw [hDd] at this; simp at this
          | fin _ h2 => have := h2 (b + i') hi; rw [hDd] at this; simp at this
        · obtain ⟨g', w', es, hgo, ⟨rfl, rfl⟩, hg'⟩ := hstep w (RW.refl w)
          exact idle hgo (.d1 hg') rfl (by omega)
      | d2 hG =>
        rcases Goes.cases hG with hstop | ⟨m', rfl, hstep⟩
        · obtain ⟨_, hx⟩ := hstop w (RW.refl w)
          obtain ⟨hW3, hoth, rfl, rfl⟩ := hmode.isLast hi (by rw [hDd]; simp)
          simp only [hDd] at hwg
          obtain ⟨g', hgo, m₂, hk⟩ := hx (by simpa using hwg)
          refine book hgo ⟨.inl rfl, by intro e he; simp at he; subst he; exact bk_cell' _ _ rfl⟩ hwg (fun _ jx e he => by match jx, he with | 0, _ => exact .inr (by simp [deafBehind]) | jx + 1, he => simp at he) (fun e => absurd e h7) (.d3 hk) (by omega) rfl (fun tg' ht _ => retag' ?_ ht) (Prod.Lex.left _ _ (by decide)) (by simp [cnt])
          have := ConcN.Mode.last (j := j) (D := upd D (b + i') ⟨3, m₂, 1⟩) (tag := tg) (b + i') hW3 hi (by rw [upd_same]; simp) (fun a ha e => by rw [upd_ne D _ e]; exact hoth a ha e)
          rw [upd_same] at this
          simpa using this
        · obtain ⟨g', w', es, hgo, ⟨rfl, rfl⟩, hg'⟩ := hstep w (RW.refl w)
          exact idle hgo (.d2 hg') rfl (by omega)
      | d3 hG =>
        rcases Goes.cases hG with hstop | ⟨m', rfl, hstep⟩
        · obtain ⟨_, hx⟩ := hstop w (RW.refl w)
          obtain ⟨hW3, hoth, rfl, rfl⟩ := hmode.isLast hi (by rw [hDd]; simp)
          simp only [hDd] at hwg
          obtain ⟨g', hgo, m₂, hk⟩ := hx (by simpa using hwg)
          refine book hgo (setB (stA Wg) _ rfl (by intro e he; simp at he; subst he; exact bk_cell' _ _ rfl)) (hwg.setSt 0) (fun _ jx e he => by match jx, he with | 0, _ => exact .inr (by simp [deafBehind]) | jx + 1, he => simp at he) (fun e => absurd e h7) (.d4 hk) (by omega) rfl (fun tg' ht _ => retag' ?_ ht) (Prod.Lex.left _ _ (by decide)) (by simp [cnt])
          have := ConcN.Mode.last (j := j) (D := upd D (b + i') ⟨2, m₂, 1⟩) (tag := tg) (b + i') hW3 hi (by rw [upd_same]; simp) (fun a ha e => by rw [upd_ne D _ e]; exact hoth a ha e)
          rw [upd_same] at this
          simpa using this
        · obtain ⟨g', w', es, hgo, ⟨rfl, rfl⟩, hg'⟩ := hstep w (RW.refl w)
          exact idle hgo (.d3 hg') rfl (by omega)
      | d4 hG =>
        rcases Goes.cases hG with hstop | ⟨m', rfl, hstep⟩
        · obtain ⟨_, hmw, hx⟩ := hstop w (RW.refl w)
          obtain ⟨hW3, hoth, rfl, rfl⟩ := hmode.isLast hi (by rw [hDd]; simp)
          simp only [hDd] at hwg
          obtain ⟨g', hgo, q, hq⟩ := hx (by simpa using hwg)
          have hrun' : g'.status = .running := by
            cases q with
            | zero => exact absurd hq.2 (by decide)
            | succ q => exact hq.elim (fun x => absurd x.2 (by decide)) (fun x => x.1)
          refine book hgo (setB (smA Wg) _ rfl bk_semE) (hwg.setSm 1) (fun _ jx e he => ?_) (fun e => absurd e h7) (.quit hq) (by omega) (by simp [deafBehind, semEvents]) (fun tg' ht hw => ?_) (Prod.Lex.left _ _ (by decide)) (by simp [cnt])
          · match jx, he with
            | 0, he => simp [semEvents] at he; subst he; exact .inl rfl
            | 1, _ => exact .inr (by simp [deafBehind, semEvents])
            | 2, _ => exact .inr (by simp [deafBehind, semEvents])
            | 3, he => simp [semEvents] at he; subst he; exact .inl rfl
            | jx + 4, he => simp [semEvents] at he
          · have hnb := hw hmw hrun'
            have e3 : tg' = .w3 := by
              rcases ht with rfl | ⟨_, rfl⟩
              · cases tg' <;> first | rfl | exact hW3.elim | exact absurd rfl hnb
              · rfl
            subst e3
            simp only [hDd, if_true]
            exact .sema fun a ha => by
              by_cases e : a = b + i'
              · subst e; rw [upd_same]
              · rw [upd_ne D _ e]; exact hoth a ha e
        · obtain ⟨g', w', es, hgo, ⟨rfl, rfl⟩, hg'⟩ := hstep w (RW.refl w)
          exact idle hgo (.d4 hg') rfl (by omega)
      | quit _ => exact absurd rfl h1
end
end Go.Proofs.Ytndfookgkkefnaa
