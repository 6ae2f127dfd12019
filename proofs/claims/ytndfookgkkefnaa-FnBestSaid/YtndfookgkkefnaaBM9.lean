/- Many goroutines: every step of the starter's; the run. -/
import Derived.Test.YtndfookgkkefnaaBM8
namespace Go.Proofs.Ytndfookgkkefnaa
set_option linter.unusedSimpArgs false
set_option linter.unusedVariables false
set_option linter.unusedSectionVars false
open Go Go.Conc
open Go.ConcN (upd upd_same upd_ne PermW fork_knows RelBy CTag WD Vc cnt AllQuit OpenSt isOpen isW3 isFin pend WgLive PayAt Has RW WSit AtK1 get_map_set get_map_set_same Vc_upd others_uncounted le_sumTo sumTo allQuit_of exists_counted)
open Go.ConcR (KK WgAt stA smA rd wr mk Payload DC0 deafBehind_cons deafBehind_one)

section
variable [Payload] [Start] {P : Program} {ty : TypeId} {S : Nat → Prop} {b j : Nat} {D : Nat → WD} {R : Nat → WR} {Γ : Nat → Gh} {ρ : Rk} {bit : Nat} {tg : CTag} {gs : Array Goroutine} {w w' : World} {t : Trace} {Post : Value → World → Prop}

theorem said_ok {Wg : Nat} {m : Addr → Mark} {fn : FuncId} {pos : String} (hm : m = .read ∨ m = .write) (sW : S Wg) (hlt : Wg < w.heap.size) :
    OkU S t 0 w.heap.size (MemOp.ofEvents 0 fn pos #[mk (m (smA Wg))]) ∧ (∀ op ∈ MemOp.ofEvents 0 fn pos #[mk (m (smA Wg))], ∀ x, op.act.touch? = some x → ShB S x.loc) ∧ ∀ op ∈ MemOp.ofEvents 0 fn pos #[mk (m (smA Wg))], ∀ a, op.act ≠ .mark (.release a) := by
  have e1 : MemOp.ofEvents 0 fn pos #[mk (m (smA Wg))] = #[{ g := 0, fn, pos, act := .mark (m (smA Wg)) }] := by rw [ofEvents_eq]; simp [ConcR.ofEvent_mk]
  rw [e1]
  have sh : ∀ x, (MemAct.mark (m (smA Wg))).touch? = some x → ShB S x.loc ∧ x.kind = .said := fun x hx => by
    rcases hm with rfl | rfl
    · simp only [MemAct.touch?, Option.some.injEq] at hx; subst hx; exact ⟨⟨_, rfl, sW⟩, rfl⟩
    · simp only [MemAct.touch?, Option.some.injEq] at hx; subst hx; exact ⟨⟨_, rfl, sW⟩, rfl⟩
  refine ⟨⟨fun op hop => ?_, fun op hop x hx => ?_, fun op hop => ?_⟩, fun op hop x hx => ?_, fun op hop a => ?_⟩
  all_goals
    simp only [List.mem_toArray, List.mem_cons, List.not_mem_nil, or_false] at hop
    subst hop
  · rfl
  · exact .inl ⟨(sh x hx).1, by rw [(sh x hx).2]; simp, fun _ => rfl⟩
  · rcases hm with rfl | rfl <;> exact hlt
  · exact (sh x hx).1
  · rcases hm with rfl | rfl <;> simp

theorem stopE_running (γ : Gh) (g : Goroutine) (w : World) (h : StopE P Post γ g w) : g.status = .running := h.1

/-- all but goroutine 0 leave, and nothing is left of their ghosts -/
theorem MI.allNil (h : MI P ty (StopE P Post) S b j D R Γ ρ bit tg gs w t) (hq : AllQuit j D) : ∀ k, k ≠ 0 → Γ k = Gh.nil := fun k hk => by
  rcases Nat.lt_or_ge j k with h1 | h1
  · exact h.gnil k h1
  · obtain ⟨i, rfl⟩ : ∃ i, k = i + 1 := ⟨k - 1, by omega⟩
    exact (h.lv i (by omega) (hq i (by omega))).1

/-- .. and nothing outside the heap has turned -/
def PostK (Post : Value → World → Prop) (v : Value) (w : World) : Prop := Post v w ∧ Kp Start.z w
set_option maxHeartbeats 1600000 in
theorem stepCaller (h : MI P ty (StopE P Post) S b j D R Γ ρ bit tg gs w t) {sl : Option (Nat × Nat)} {a : Goroutine} (ha : gs[0]? = some a) (hrun : a.status = .running) :
    (∃ o w₁ ops, runT P (crowd gs w sl) 0 = (.ended o w₁, ops) ∧ ∀ w₀ sl₀, Good P (PostK Post) (crowd gs w₀ sl₀) o w₁ (t ++ ops)) ∨
    (∃ m₁ ops μ', runT P (crowd gs w sl) 0 = (.next m₁, ops) ∧ MRlt μ' (ρ, (rowR j R, bit)) ∧ Inv P ty (StopE P Post) μ' m₁ (t ++ ops)) := by
  obtain ⟨a0, ha0, hs0⟩ := h.s0
  obtain rfl : a = a0 := by rw [ha] at ha0; exact Option.some.inj ha0
  rcases hs0 with ⟨rfl, hb, hG⟩ | ⟨_, _, _, f, g, Po, _, rfl, _⟩
  case inr => simp at hrun
  cases ρ with
  | leaf =>
    obtain ⟨_, hpn, v, es, hend, hev, hpost⟩ := hG w (Rl.refl _ w)
    obtain ⟨rfl, hq, _⟩ := h.pno hpn
    have hu : Up (Γ 0) w w es (Γ 0) := Up.idle _ _ hev
    have htr := h.tr.app (Nat.le_refl _) (Nat.zero_le _) (h.gh.ok h.tr hu a.frame.fn a.frame.place) (.inl rfl)
    refine .inl ⟨_, _, _, ConcN.runT_crowd_ended ha (by simpa using hend), fun w₀ sl₀ => ⟨v, rfl, ⟨hpost, h.kp⟩, htr.clean, fun i g hg hne hc => ?_, ⟨fun x hx => ?_, rfl⟩, fun k x hx hk => ?_⟩⟩
    · rcases htr.over i g hg hne hc with h1 | h1
      · exact h1
      · obtain ⟨op, ho, rfl⟩ := Option.map_eq_some_iff.1 hg
        have := htr.gs i op ho
        omega
    · obtain ⟨k, hk⟩ := List.mem_iff_getElem?.1 hx
      rw [List.getElem?_drop] at hk
      have hk' : gs[1 + k]? = some x := by simpa [crowd] using hk
      have hlt : k < b := by have := (Array.getElem?_eq_some_iff.1 hk').1; rw [h.size] at this; omega
      obtain ⟨_, y, q, hy, hqy, _⟩ := h.lv k hlt (hq k hlt)
      rw [Nat.add_comm] at hk'
      rw [hk'] at hy
      obtain rfl := Option.some.inj hy
      exact ⟨_, hqy.leaves⟩
    · obtain ⟨i, rfl⟩ : ∃ i, k = i + 1 := ⟨k - 1, by omega⟩
      have hlt : i < b := by have := (Array.getElem?_eq_some_iff.1 hx).1; simp only [crowd] at this; rw [h.size] at this; omega
      obtain ⟨_, y, q, hy, hqy, _⟩ := h.lv i hlt (hq i hlt)
      have hx' : gs[i + 1]? = some x := hx
      rw [hx'] at hy
      obtain rfl := Option.some.inj hy
      refine ⟨q, ?_⟩
      have e : (t ++ MemOp.ofEvents 0 a.frame.fn a.frame.place es).deaf (i + 1) (t ++ MemOp.ofEvents 0 a.frame.fn a.frame.place es).size = (D i).deaf := by
        have := Deaf_other t (g := i + 1) (g' := 0) (by omega) _ (ConcR.g_of_ofEvents (fn := a.frame.fn) (pos := a.frame.place) (es := es))
        rw [h.deafW i hlt] at this
        exact this
      rw [e]
      exact hqy.hears _
  | mk fx =>
    right
    rcases hG with ⟨_, hstep⟩ | ⟨Po, hX, hPo⟩
    · -- a step of its own
      have hs := hstep w (Rl.refl _ w)
      cases hgo : stepG P true a w with
      | go a' w' es =>
        rw [hgo] at hs
        obtain ⟨γ', hu, hG'⟩ := hs
        have hrl : ∀ k', k' ≠ 0 → Rl (Γ k') w w' := fun k' hk => h.gh.rl hu hk
        have hnr : ∀ op ∈ MemOp.ofEvents 0 a.frame.fn a.frame.place es, ∀ a, op.act ≠ .mark (.release a) := fun op hop x => by
          rcases (ev_cases hop hu.ev).2 with ⟨_, _, h1⟩ | ⟨a', wr, sy, _, ha, _⟩
          · exact h1 x
          · rw [ha]; simp
        have hdis : ∀ e ∈ es, e.loc ≠ .mark .disable ∧ e.loc ≠ .mark .enable := fun e he => by
          rcases hu.ev e he with ⟨a, wr, sy, rfl, _⟩ | ⟨m, rfl, hm⟩
          · simp
          · exact ⟨fun e => hm.ne_disable (Loc.mark.inj e), fun e => hm.ne_enable (Loc.mark.inj e)⟩
        refine h.step0 ha hgo hu.kp (h.tr.app hu.size (Nat.zero_le _) (h.gh.ok h.tr hu _ _) (.inl rfl)) (h.gh.step h.tr hu _ _) hnr (by rw [deafBehind_still hdis, hu.p]) (.inl ⟨rfl, hb, hG'⟩) (Prod.Lex.left _ _ (.mk fx _ _ _)) (fun e => h.pno (hu.p ▸ e)) fun Wg C n K val jn tag bd hp => ?_
        have hpr := h.pat Wg C n K val jn tag bd (hu.p ▸ hp)
        obtain ⟨st, sm, hwg, hmode⟩ := hpr.wg
        have hCk : ¬ (Γ 0).W C := (hpr.cF 0).2.1
        have hcell : ∀ (o : Nat), o < jn → w'.cell? ⟨C, o, none⟩ = w.cell? ⟨C, o, none⟩ := fun o ho => by
          rcases hu.old with h1 | ⟨y, u, v, hc, _, rfl⟩
          · exact cell_of (h1 _ hpr.cC.1 hCk)
          · refine set_ne' (fun e => ?_) v
            rcases hpr.own _ _ hc with ⟨_, i0, h4, _, h6⟩ | ⟨i0, _, h4, _, _⟩
            · rw [h6] at e
              simp only [Addr.mk.injEq] at e
              omega
            · omega
        have hpay : PayAt C n w' := by
          obtain ⟨cs, hc1, hc2⟩ := hpr.pay
          rcases hu.old with h1 | ⟨y, u, v, hc, _, rfl⟩
          · exact ⟨cs, (h1 _ hpr.cC.1 hCk).trans hc1, hc2⟩
          · by_cases e : C = y.block
            · subst e
              rcases hpr.own _ _ hc with ⟨_, i0, _, _, h6⟩ | ⟨i0, _, h4, _, _⟩
              · refine ⟨cs.setIfInBounds y.off v, ?_, by simpa using hc2⟩
                have hsp : y.spot = none := by rw [h6]
                simp only [World.setCell, Array.getElem?_modify, if_true, hc1, Option.map_some, hsp, Option.isSome_none, Bool.false_eq_true, if_false]
              · omega
            · exact ⟨cs, (set_other e v).trans hc1, hc2⟩
        refine hpr.step0 hu.size ⟨st, sm, hwg.of_block (h.gh.sh hu hpr.sW), hmode⟩ hpr.place hpr.htg hpr.bd hpay ?_ hu.Cs hcell hrl fun x hx hq => ?_
        · have hc := hpr.cF 0
          have hl := hpr.cC.1
          refine ⟨fun x => ?_, fun x => ?_, fun x => ?_⟩
          · rcases hu.F _ x with y | y
            · exact hc.1 y
            · omega
          · rcases hu.W _ x with y | y
            · exact hc.2.1 y
            · omega
          · rcases hu.Q _ x with y | y
            · exact hc.2.2 y
            · omega
        · have h1 := hpr.kK x hx
          rcases hu.Q _ hq with y | y
          · exact h1.2.2 y
          · omega
      | _ => rw [hgo] at hs; exact hs.elim
    · -- a step that the library makes
      have hx := hX w (Rl.refl _ w)
      have bkm : ∀ (Wg : Nat) (m : Mark), (m = .disable ∨ m = .enable ∨ m = .releaseMerge (stA Wg) ∨ m = .acquire (stA Wg)) → ∀ e ∈ #[mk m], BkE Wg e := fun Wg m hm e he => by simp at he; subst he; exact bk_none m hm rfl
      have book : ∀ {a' : Goroutine} {w' : World} {es : Array Event} {Wg C n : Nat} {K : Nat → Prop} {val : Nat → Value} {jn bd bd' : Nat} {tag tag' tg' : CTag} {st' sm' : Int}, (Γ 0).p = .at Wg C n K val jn tag bd → stepG P true a w = .go a' w' es → Bks Wg w w' es →
          WgAt ty Wg w' st' sm' → ConcN.Mode j D tg' st' sm' → ((∃ r s, tag' = .sp r s ∧ jn + r + 1 = n) ∨ ((∀ r s, tag' ≠ .sp r s) ∧ jn = n)) → (tg' = tag' ∧ tag' ≠ .blk) → (tag' = .w1 → Vc j D ≤ bd') →
          deafBehind (dfOf (.at Wg C n K val jn tag bd)) es = dfOf (.at Wg C n K val jn tag' bd') → Po ((Γ 0).to (.at Wg C n K val jn tag' bd')) a' w' →
          ∃ m₁ ops μ', runT P (crowd gs w sl) 0 = (.next m₁, ops) ∧ MRlt μ' (.mk fx, (rowR j R, 1)) ∧ Inv P ty (StopE P Post) μ' m₁ (t ++ ops) := by
        intro a' w' es Wg C n K val jn bd bd' tag tag' tg' st' sm' hp hgo hbk hwg' hmode' hplace htg hbd hdf hpo
        have hpr := h.pat _ _ _ _ _ _ _ _ hp
        have hCW : C ≠ Wg := fun e => hpr.cC.2 (e ▸ hpr.sW)
        have hgh' : GhI S (upd Γ 0 ((Γ 0).to (.at Wg C n K val jn tag' bd'))) w' (t ++ MemOp.ofEvents 0 a.frame.fn a.frame.place es) :=
          (h.gh.less (k := 0) (γ' := (Γ 0).to (.at Wg C n K val jn tag' bd')) (fun _ x => x) (fun _ x => x) (fun _ x => x) (fun _ x => x) (fun _ x => x)).app (fun op hop x hx => by
            obtain ⟨⟨y, hy, hb⟩, _⟩ := bk_touch hbk.e _ _ op hop x hx
            exact ⟨y, hy, hb ▸ hpr.sW⟩) hbk.size
        refine h.step0 ha hgo hbk.kp (by rw [hbk.size]; exact h.tr.app (Nat.le_refl _) (Nat.zero_le _) (bk_ok hbk.e hpr.sW (h.gh.s _ hpr.sW) _ _) (.inl rfl)) hgh' (bk_norel hbk.e _ _) (by rw [hp]; exact hdf) (tg' := tg') (.inl ⟨rfl, by rw [htg.1]; exact htg.2, hPo _ _ _ hpo⟩) (Prod.Lex.left _ _ (.mk fx _ _ _))
          (fun e => by cases e) fun Wg1 C1 n1 K1 val1 jn1 tag1 bd1 hp1 => ?_
        have hp1' : Pt.at Wg C n K val jn tag' bd' = .at Wg1 C1 n1 K1 val1 jn1 tag1 bd1 := hp1
        simp only [Pt.at.injEq] at hp1'
        obtain ⟨rfl, rfl, rfl, rfl, rfl, rfl, rfl, rfl⟩ := hp1'
        have hpay : PayAt C n w' := by obtain ⟨cs, hc1, hc2⟩ := hpr.pay; exact ⟨cs, (hbk.block hCW).trans hc1, hc2⟩
        exact hpr.step0 (by rw [hbk.size]; exact Nat.le_refl _) ⟨st', sm', hwg', hmode'⟩ hplace (.inl htg) hbd hpay (hpr.cF 0) (fun _ h => h) (fun _ _ => cell_of (hbk.block hCW)) (fun k' _ => hbk.rl h.gh hpr.sW k') fun x hx => (hpr.kK x hx).2.2
      have tgo : ∀ {Wg C n : Nat} {K : Nat → Prop} {val : Nat → Value} {jn bd : Nat} {tag : CTag}, (Γ 0).p = .at Wg C n K val jn tag bd → tg = tag := fun hp => by
        rcases (h.pat _ _ _ _ _ _ _ _ hp).htg with ⟨e, _⟩ | ⟨_, e⟩
        · exact e
        · exact absurd e hb
      have spl : ∀ {Wg C n : Nat} {K : Nat → Prop} {val : Nat → Value} {jn bd r s : Nat}, (Γ 0).p = .at Wg C n K val jn (.sp r s) bd → jn + r + 1 = n := fun hp => by
        rcases (h.pat _ _ _ _ _ _ _ _ hp).place with ⟨r', s', e, h1⟩ | ⟨e, _⟩
        · simp only [CTag.sp.injEq] at e; omega
        · exact absurd rfl (e _ _)
      have nsp : ∀ {Wg C n : Nat} {K : Nat → Prop} {val : Nat → Value} {jn bd : Nat} {tag : CTag}, (Γ 0).p = .at Wg C n K val jn tag bd → (∀ r s, tag ≠ .sp r s) → jn = n := fun hp hn => by
        rcases (h.pat _ _ _ _ _ _ _ _ hp).place with ⟨r', s', e, h1⟩ | ⟨_, e⟩
        · exact absurd e (hn _ _)
        · exact e
      have bk1 : ∀ (Wg : Nat), ∀ e ∈ #[rd (stA Wg)], BkE Wg e := fun Wg e he => by simp at he; subst he; exact bk_cell' _ _ rfl
      have bk2 : ∀ (Wg : Nat), ∀ e ∈ #[rd (stA Wg), wr (stA Wg)], BkE Wg e := fun Wg e he => by simp at he; rcases he with rfl | rfl <;> exact bk_cell' _ _ rfl
      cases hx with
      | opn Wg C n val g' hp hn1 hn2 hQ hwg hW hpay hCs _ hgo hpo =>
        obtain ⟨rfl, hq, _⟩ := h.pno hp
        have hnil := h.allNil hq
        have hCW : C ≠ Wg := fun e => (h.gh.sepQ 0 0 Wg hQ).2 (e ▸ hW)
        have hbe := bkm Wg .disable (.inl rfl)
        have htr := (h.tr.open (Wg := Wg) fun x hx => h.gh.pQ 0 x (hx ▸ hQ))
        have hgh := h.gh.open (n := n) (val := val) hQ hW hCs
        have hWl : Wg < w.heap.size := (h.gh.low 0 Wg (.inr (.inr hQ))).1
        have hok : OkU (fun x => S x ∨ x = Wg) t 0 w.heap.size (MemOp.ofEvents 0 a.frame.fn a.frame.place #[mk .disable]) := bk_ok hbe (.inr rfl) hWl _ _
        refine h.step0 ha hgo (Kp.refl _) (htr.app (Nat.le_refl _) (Nat.zero_le _) hok (.inl rfl)) (hgh.app (fun op hop x hx => by
            obtain ⟨⟨y, hy, hb⟩, _⟩ := bk_touch hbe _ _ op hop x hx
            exact ⟨y, hy, .inr hb⟩) rfl) (bk_norel hbe _ _) (by rw [hp]; simp [deafBehind, mk, dfOf, Gh.opn]) (tg' := .sp (n - 1) 4) (.inl ⟨rfl, by simp, hPo _ _ _ hpo⟩) (Prod.Lex.left _ _ (.mk fx _ _ _)) (fun e => by cases e) fun Wg1 C1 n1 K1 val1 jn1 tag1 bd1 hp1 => ?_
        have hp1' : Pt.at Wg C n (Γ 0).W val 0 (.sp (n - 1) 4) 0 = .at Wg1 C1 n1 K1 val1 jn1 tag1 bd1 := hp1
        simp only [Pt.at.injEq] at hp1'
        obtain ⟨rfl, rfl, rfl, rfl, rfl, rfl, rfl, rfl⟩ := hp1'
        have e0 : ∀ k, k ≠ 0 → upd Γ 0 ((Γ 0).opn Wg C n val) k = Gh.nil := fun k hk => by rw [upd_ne Γ _ hk]; exact hnil k hk
        have hV : Vc b D = 0 := Vc_zero D b hq
        refine ⟨.inr rfl, rfl, hn2, .inl ⟨n - 1, 4, rfl, by omega⟩, .inl ⟨rfl, by simp⟩, ⟨0, 0, hwg, ?_⟩, by simp, hq, hpay, ⟨(h.gh.low 0 C (.inr (.inl hW))).1, fun hs => hs.elim (h.gh.low 0 C (.inr (.inl hW))).2 hCW⟩, fun k => ?_, fun k x hx => ?_, fun i hi => by omega, fun i hi => by omega, fun x hx => ?_, fun i hi => by omega⟩
        · have := ConcN.Mode.opn (j := b) (D := D) (tag := .sp (n - 1) 4) trivial (fun i hi => .inr (.inr (.inr (hq i hi)))) (by simp)
          simpa [hV, pend] using this
        · by_cases e : k = 0
          · subst e; rw [upd_same]; exact ⟨fun x => x.2 rfl, fun x => x.2 rfl, fun x => (h.gh.sepQ 0 0 C x.1).2 hW⟩
          · rw [e0 k e]; exact ⟨id, id, id⟩
        · by_cases e : k = 0
          · subst e; rw [upd_same] at hx; obtain ⟨i, h1, h2⟩ := hx; exact .inl ⟨rfl, i, Nat.zero_le _, h1, h2⟩
          · rw [e0 k e] at hx; exact hx.elim
        · rw [upd_same]
          have h1 := h.gh.low 0 x (.inr (.inl hx))
          exact ⟨h1.1, fun hs => hs.elim h1.2 fun e => (h.gh.sepQ 0 0 Wg hQ).2 (e ▸ hx), fun hq => (h.gh.sepQ 0 0 x hq.1).2 hx⟩
      | dis Wg C n K val jn bd r g' hp _ hgo hpo =>
        obtain ⟨st, sm, hwg, hmode⟩ := (h.pat _ _ _ _ _ _ _ _ hp).wg
        rw [tgo hp] at hmode
        exact book hp hgo ⟨.inl rfl, bkm Wg _ (.inl rfl)⟩ hwg (hmode.reopen (tag' := .sp r 4) trivial trivial rfl (by simp)) (.inl ⟨r, 4, rfl, spl hp⟩) ⟨rfl, by simp⟩ (by simp) (by simp [deafBehind, mk, dfOf]) hpo
      | add Wg C n K val jn bd r hp _ hx =>
        have hpr := h.pat _ _ _ _ _ _ _ _ hp
        obtain ⟨st, sm, hwg, hmode⟩ := hpr.wg
        have hbo := hpr.bound
        have hn := hpr.hn
        have hpl := spl hp
        have hV := Vc_old D b hpr.old jn
        rw [← hpr.hj] at hV
        rw [tgo hp] at hmode
        obtain ⟨ho, rfl, rfl, _⟩ := hmode.open_inv trivial
        obtain ⟨a', hgo, hpo⟩ := hx (Vc j D) (by omega) (by simpa [pend] using hwg)
        refine book hp hgo ⟨.inr ⟨_, _, rfl, rfl⟩, bk2 Wg⟩ (hwg.setSt _) (tg' := .sp r 3) ?_ (.inl ⟨r, 3, rfl, hpl⟩) ⟨rfl, by simp⟩ (by simp) (by simp [deafBehind, rd, wr, dfOf]) hpo
        have e : (((Vc j D : Nat) : Int) + 1) * KK = ((Vc j D + pend (.sp r 3) : Nat) : Int) * KK := by simp [pend]
        rw [e]
        exact .opn trivial ho (by simp)
      | ena Wg C n K val jn bd r g' hp _ hgo hpo =>
        obtain ⟨st, sm, hwg, hmode⟩ := (h.pat _ _ _ _ _ _ _ _ hp).wg
        rw [tgo hp] at hmode
        exact book hp hgo ⟨.inl rfl, bkm Wg _ (.inr (.inl rfl))⟩ hwg (hmode.reopen (tag' := .sp r 2) trivial trivial rfl (by simp)) (.inl ⟨r, 2, rfl, spl hp⟩) ⟨rfl, by simp⟩ (by simp) (by simp [deafBehind, mk, dfOf]) hpo
      | spawn Wg C n K val jn bd r g' child hp hc _ hgo hch hpo =>
        obtain ⟨ρc, hch⟩ := hch
        exact stepSpawn h ha hp hb hc hgo hch (hPo _ _ _ hpo) (.mk fx _ _ _)
      | kd Wg C n K val jn bd g' hp _ hgo hpo =>
        have hpr := h.pat _ _ _ _ _ _ _ _ hp
        obtain ⟨st, sm, hwg, hmode⟩ := hpr.wg
        have hbo := hpr.bound
        rw [tgo hp] at hmode
        exact book hp hgo ⟨.inl rfl, bkm Wg _ (.inl rfl)⟩ hwg (hmode.reopen (tag' := .w1) trivial trivial rfl (by simp)) (.inr ⟨by simp, nsp hp (by simp)⟩) ⟨rfl, by simp⟩ (fun _ => by omega) (by simp [deafBehind, mk, dfOf]) hpo
      | load Wg C n K val jn bd hp _ hx =>
        have hpr := h.pat _ _ _ _ _ _ _ _ hp
        obtain ⟨st, sm, hwg, hmode⟩ := hpr.wg
        have hbo := hpr.bound
        have hn := hpr.hn
        rw [tgo hp] at hmode
        obtain ⟨ho, rfl, rfl, _⟩ := hmode.open_inv trivial
        obtain ⟨a', hgo, h0, hne⟩ := hx (Vc j D) (hpr.bd rfl) (by omega) (by simpa [pend] using hwg)
        by_cases hv : Vc j D = 0
        · refine book hp hgo ⟨.inl rfl, bk1 Wg⟩ hwg (tg' := .ke) ?_ (.inr ⟨by simp, nsp hp (by simp)⟩) ⟨rfl, by simp⟩ (by simp) (by simp [deafBehind, rd, dfOf]) (h0 hv)
          have e : ((Vc j D + pend .w1 : Nat) : Int) * KK = 0 := by rw [hv]; simp [pend]
          rw [e]
          exact .fin trivial (allQuit_of ho hv)
        · exact book hp hgo ⟨.inl rfl, bk1 Wg⟩ hwg (hmode.reopen (tag' := .w2 (Vc j D)) trivial trivial rfl (fun vs e => by cases e; omega)) (.inr ⟨by simp, nsp hp (by simp)⟩) ⟨rfl, by simp⟩ (by simp) (by simp [deafBehind, rd, dfOf]) (hne hv)
      | cas Wg C n K val jn bd vs hp _ hx =>
        have hpr := h.pat _ _ _ _ _ _ _ _ hp
        obtain ⟨st, sm, hwg, hmode⟩ := hpr.wg
        have hbo := hpr.bound
        have hn := hpr.hn
        rw [tgo hp] at hmode
        obtain ⟨ho, rfl, rfl, hw2⟩ := hmode.open_inv trivial
        obtain ⟨hle, h1⟩ := hw2 vs rfl
        obtain ⟨hhit, hmiss⟩ := hx (Vc j D) hle (by omega) (by simpa [pend] using hwg)
        by_cases e : Vc j D = vs
        · obtain ⟨a', hgo, hpo⟩ := hhit e
          exact book hp hgo ⟨.inr ⟨_, _, rfl, rfl⟩, bk2 Wg⟩ (hwg.setSt _) (tg' := .w3) (.reg trivial ho (by omega)) (.inr ⟨by simp, nsp hp (by simp)⟩) ⟨rfl, by simp⟩ (by simp) (by simp [deafBehind, rd, wr, dfOf]) hpo
        · obtain ⟨a', hgo, hpo⟩ := hmiss e
          exact book hp hgo ⟨.inl rfl, bk1 Wg⟩ hwg (hmode.reopen (tag' := .w1) trivial trivial rfl (by simp)) (.inr ⟨by simp, nsp hp (by simp)⟩) ⟨rfl, by simp⟩ (fun _ => Nat.le_refl _) (by simp [deafBehind, rd, dfOf]) hpo
      | said Wg C n K val jn bd r g' m hp hm _ hgo hpo =>
        have hpr := h.pat _ _ _ _ _ _ _ _ hp
        obtain ⟨hok, hsh, hnr⟩ := said_ok (t := t) (Wg := Wg) (S := S) (fn := a.frame.fn) (pos := a.frame.place) hm hpr.sW (h.gh.s _ hpr.sW)
        obtain ⟨st, sm, hwg, hmode⟩ := hpr.wg
        have eΓ : upd Γ 0 (Γ 0) = Γ := by funext k; by_cases e : k = 0 <;> simp [upd, e]
        refine h.step0 ha hgo (Kp.refl _) (γ' := Γ 0) (tg' := tg) (h.tr.app (Nat.le_refl _) (Nat.zero_le _) hok (.inl rfl)) (by rw [eΓ]; exact h.gh.app hsh rfl) hnr (by rcases hm with rfl | rfl <;> simp [deafBehind, mk]) (.inl ⟨rfl, hb, hPo _ _ _ hpo⟩) (Prod.Lex.left _ _ (.mk fx _ _ _)) (fun e => by rw [hp] at e; cases e) fun Wg1 C1 n1 K1 val1 jn1 tag1 bd1 hp1 => ?_
        have hp1' := hp.symm.trans hp1
        simp only [Pt.at.injEq] at hp1'
        obtain ⟨rfl, rfl, rfl, rfl, rfl, rfl, rfl, rfl⟩ := hp1'
        exact hpr.step0 (Nat.le_refl _) ⟨st, sm, hwg, hmode⟩ hpr.place hpr.htg hpr.bd hpr.pay (hpr.cF 0) (fun _ h => h) (fun _ _ => rfl) (fun k' _ => Rl.refl _ w) fun x hx => (hpr.kK x hx).2.2
      | said3 Wg C n K val jn g' m hp hm _ hgo hpo =>
        have hpr := h.pat _ _ _ _ _ _ _ _ hp
        obtain ⟨hok, hsh, hnr⟩ := said_ok (t := t) (Wg := Wg) (S := S) (fn := a.frame.fn) (pos := a.frame.place) hm hpr.sW (h.gh.s _ hpr.sW)
        obtain ⟨st, sm, hwg, hmode⟩ := hpr.wg
        refine h.step0 ha hgo (Kp.refl _) (γ' := (Γ 0).to (.at Wg C n K val jn .w3 0)) (tg' := tg) (h.tr.app (Nat.le_refl _) (Nat.zero_le _) hok (.inl rfl)) ((h.gh.less (k := 0) (γ' := (Γ 0).to (.at Wg C n K val jn .w3 0)) (fun _ x => x) (fun _ x => x) (fun _ x => x) (fun _ x => x) (fun _ x => x)).app hsh rfl) hnr (by rw [hp]; rcases hm with rfl | rfl <;> simp [deafBehind, mk, dfOf, Gh.to]) (.inl ⟨rfl, hb, hPo _ _ _ hpo⟩) (Prod.Lex.left _ _ (.mk fx _ _ _)) (fun e => by cases e) fun Wg1 C1 n1 K1 val1 jn1 tag1 bd1 hp1 => ?_
        have hp1' : Pt.at Wg C n K val jn .w3 0 = .at Wg1 C1 n1 K1 val1 jn1 tag1 bd1 := hp1
        simp only [Pt.at.injEq] at hp1'
        obtain ⟨rfl, rfl, rfl, rfl, rfl, rfl, rfl, rfl⟩ := hp1'
        exact hpr.step0 (Nat.le_refl _) ⟨st, sm, hwg, hmode⟩ hpr.place hpr.htg (by simp) hpr.pay (hpr.cF 0) (fun _ h => h) (fun _ _ => rfl) (fun k' _ => Rl.refl _ w) fun x hx => (hpr.kK x hx).2.2
      | sem Wg C n K val jn hp _ hoff hblk htake =>
        have hpr := h.pat _ _ _ _ _ _ _ _ hp
        obtain ⟨st, sm, hwg, hmode⟩ := hpr.wg
        have etg := tgo hp
        have blocks : sm = 0 → (ConcN.Mode j D .w3 st sm → ConcN.Mode j D .blk st sm) → ∃ m₁ ops μ', runT P (crowd gs w sl) 0 = (.next m₁, ops) ∧ MRlt μ' (.mk fx, (rowR j R, 1)) ∧ Inv P ty (StopE P Post) μ' m₁ (t ++ ops) := fun e0 hm => by
          subst e0
          have hgo := hblk ⟨st, hwg⟩
          have e1 : MemOp.ofEvents 0 a.frame.fn a.frame.place #[] = #[] := by simp [ofEvents_eq]
          have hgh' : upd Γ 0 (Γ 0) = Γ := by funext k; by_cases e : k = 0 <;> simp [upd, e]
          refine h.step0 ha hgo (Kp.refl _) (γ' := Γ 0) (bit' := 0) (tg' := .blk) (ρ' := .mk fx) (by rw [e1]; simpa using h.tr) (by rw [e1, hgh']; simpa using h.gh) (by rw [e1]; simp) rfl (.inr ⟨rfl, rfl, ⟨_, _, _, _, _, _, hp⟩, fx, a, Po, rfl, rfl, hX, hPo⟩) (Prod.Lex.right _ (Prod.Lex.right _ Nat.zero_lt_one))
            (fun e => by rw [hp] at e; cases e) fun Wg1 C1 n1 K1 val1 jn1 tag1 bd1 hp1 => ?_
          have hp1' := hp.symm.trans hp1
          simp only [Pt.at.injEq] at hp1'
          obtain ⟨rfl, rfl, rfl, rfl, rfl, rfl, rfl, rfl⟩ := hp1'
          rw [etg] at hmode
          exact hpr.step0 (Nat.le_refl _) ⟨st, 0, hwg, hm hmode⟩ hpr.place (.inr ⟨rfl, rfl⟩) (by simp) hpr.pay (hpr.cF 0) (fun _ h => h) (fun _ _ => rfl) (fun k' _ => Rl.refl _ w) fun x hx => (hpr.kK x hx).2.2
        have hmode' := hmode
        rw [etg] at hmode'
        cases hmode' with
        | opn h1 _ _ => exact h1.elim
        | reg h1 h2 h3 => exact blocks rfl fun _ => .reg trivial h2 h3
        | last L h1 h2 h3 h4 => exact blocks rfl fun _ => .last L trivial h2 h3 h4
        | sema h2 =>
          obtain ⟨a', hgo, hpo⟩ := htake hwg
          exact book hp hgo ⟨.inr ⟨_, _, rfl, rfl⟩, bk_semE⟩ (hwg.setSm 0) (tg' := .w4) (.fin trivial h2) (.inr ⟨by simp, nsp hp (by simp)⟩) ⟨rfl, by simp⟩ (by simp) (by simp [deafBehind, semEvents, dfOf]) hpo
        | fin h1 _ => exact h1.elim
      | look Wg C n K val jn bd hp _ hx =>
        obtain ⟨st, sm, hwg, hmode⟩ := (h.pat _ _ _ _ _ _ _ _ hp).wg
        rw [tgo hp] at hmode
        obtain ⟨hq, rfl, rfl⟩ := hmode.fin_inv trivial
        obtain ⟨a', hgo, hpo⟩ := hx hwg
        exact book hp hgo ⟨.inl rfl, bk1 Wg⟩ hwg (tg' := .ke) (.fin trivial hq) (.inr ⟨by simp, nsp hp (by simp)⟩) ⟨rfl, by simp⟩ (by simp) (by simp [deafBehind, rd, dfOf]) hpo
      | ena2 Wg C n K val jn bd g' hp _ hgo hpo =>
        obtain ⟨st, sm, hwg, hmode⟩ := (h.pat _ _ _ _ _ _ _ _ hp).wg
        rw [tgo hp] at hmode
        obtain ⟨hq, rfl, rfl⟩ := hmode.fin_inv trivial
        exact book hp hgo ⟨.inl rfl, bkm Wg _ (.inr (.inl rfl))⟩ hwg (tg' := .acq) (.fin trivial hq) (.inr ⟨by simp, nsp hp (by simp)⟩) ⟨rfl, by simp⟩ (by simp) (by simp [deafBehind, mk, dfOf]) hpo
      | acq Wg C n K val jn bd g' hp _ hgo hpo =>
        have hpr := h.pat _ _ _ _ _ _ _ _ hp
        obtain ⟨st, sm, hwg, hmode⟩ := hpr.wg
        rw [tgo hp] at hmode
        obtain ⟨hq, rfl, rfl⟩ := hmode.fin_inv trivial
        have hnil := h.allNil hq
        have hjn := nsp hp (by simp)
        have hhj := hpr.hj
        have hWl := h.gh.s _ hpr.sW
        have hbe := bkm Wg (.acquire (stA Wg)) (.inr (.inr (.inr rfl)))
        have hd0 : Deaf t 0 = 0 := by rw [h.deaf0, hp]; rfl
        have htr := h.tr.join hpr.sW hWl hd0 h.norl (fun g hg1 hg2 => by
          obtain ⟨i, rfl⟩ : ∃ i, g = b + i + 1 := ⟨g - b - 1, by omega⟩
          exact hpr.rel i (by omega) (by rw [hq _ (by omega)]; decide)) a.frame.fn a.frame.place
        have hgh : GhI S Γ w (t ++ MemOp.ofEvents 0 a.frame.fn a.frame.place #[mk (.acquire (stA Wg))]) := h.gh.app (fun op hop x hx => by
            obtain ⟨⟨y, hy, hb⟩, _⟩ := bk_touch hbe _ _ op hop x hx
            exact ⟨y, hy, hb ▸ hpr.sW⟩) rfl
        exact h.step0 ha hgo (Kp.refl _) htr (hgh.join htr hnil ⟨hpr.cC.1, hpr.cC.2, (hpr.cF 0).2.2⟩ hpr.kK) (bk_norel hbe _ _) (by rw [hp]; simp [deafBehind, mk, dfOf, Gh.joined]) (tg' := tg) (.inl ⟨rfl, hb, hPo _ _ _ (hpo hpr.pay fun i hi => hpr.has i (by omega) (by rw [hq _ (by omega)]; decide))⟩)
          (Prod.Lex.left _ _ (.mk fx _ _ _)) (fun _ => ⟨rfl, hq, hb⟩) fun Wg1 C1 n1 K1 val1 jn1 tag1 bd1 hp1 => by cases hp1
end
end Go.Proofs.Ytndfookgkkefnaa
