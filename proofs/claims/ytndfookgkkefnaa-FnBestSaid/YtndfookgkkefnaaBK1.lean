/- A worker's way through Done to its release, among others. -/
import Derived.Test.YtndfookgkkefnaaBM10
import Derived.Conc.WgGenN3
namespace Go.Proofs.Ytndfookgkkefnaa
set_option linter.unusedSimpArgs false
set_option linter.unusedVariables false
set_option linter.unusedSectionVars false
open Go Go.Conc Go.RowKit Go.Conc.Lib Go.ConcR.Gen
open Go.ConcN (WgLive PayAt Has RW AtR0 AtK1 DWs EvW)
open Go.ConcN.Gen (WgLive.cell0)
open Go.ConcR (KK WgAt stA smA rd wr mk Payload DC0)

section
variable [Payload] {P : Program} {ty : TypeId} {Wg C n k : Nat} {v : Value} {γ : Gh} {w : World}

/-- the library's own contract, wherever the group's block stands -/
def DnG (P : Program) (ty : TypeId) (Wg C n k : Nat) (v : Value) (m : Nat) (g : Goroutine) : Prop :=
  ∀ w, WgLive ty Wg w ∧ Has C (k - 1) v w → Goes P false (RW ty Wg C n 0 (k - 1)) (DWs Wg (fun _ _ => False) (fun _ _ => False) C n k) (AtR0 P ty Wg C n 0 k v) m g w

/-- a step that lists nothing is no stop -/
theorem goes_on {m : Nat} {g g1 : Goroutine} {w : World} (h : Goes P false (RW ty Wg C n 0 (k - 1)) (DWs Wg (fun _ _ => False) (fun _ _ => False) C n k) (AtR0 P ty Wg C n 0 k v) m g w) (hs : stepG P false g w = .go g1 w #[]) :
    ∃ m', m = m' + 1 ∧ Goes P false (RW ty Wg C n 0 (k - 1)) (DWs Wg (fun _ _ => False) (fun _ _ => False) C n k) (AtR0 P ty Wg C n 0 k v) m' g1 w := by
  rcases Goes.cases h with hstop | ⟨m', rfl, hstep⟩
  · obtain ⟨_, _, g', hgo, _⟩ := hstop w (ConcN.RW.refl w)
    rw [hs] at hgo
    injection hgo with _ _ h3
    simp at h3
  · obtain ⟨g', w', es, hgo, _, hg⟩ := hstep w (ConcN.RW.refl w)
    rw [hs] at hgo
    injection hgo with h1 h2 h3
    subst h1 h2
    exact ⟨m', rfl, hg⟩
theorem DnG.step {m : Nat} {g g1 : Goroutine} (h : DnG P ty Wg C n k v (m + 1) g) (he : ∀ w, WgLive ty Wg w → stepG P false g w = .go g1 w #[]) : DnG P ty Wg C n k v m g1 := fun w hw => by
  obtain ⟨m', e, hg⟩ := goes_on (h w hw) (he w hw.1)
  obtain rfl : m = m' := by omega
  exact hg
/-- both walks at once -/
theorem GI.both {Stop : Stp} {m : Nat} {g g1 : Goroutine} (hG : γ.G Wg) (hx : ∃ u, w.cell? ⟨Wg, 0, none⟩ = some u) (hs : g.status = .running) (he : ∀ w, (∃ u, w.cell? ⟨Wg, 0, none⟩ = some u) → stepG P false g w = .go g1 w #[])
    (hD : DnG P ty Wg C n k v (m + 1) g) (hn : DnG P ty Wg C n k v m g1 → GI P false noPh Stop γ g1 w) : GI P false noPh Stop γ g w :=
  GI.step hs fun w₁ hR => by
    obtain ⟨u, hu⟩ := hx
    rw [he w₁ (hR.ex _ u hG hu)]
    exact ⟨γ, Up.idle0 γ w₁, (hn (hD.step fun w' hw' => he w' (WgLive.cell0 hw'))).rely hR⟩
theorem call_nil {main : Bool} {b : Frame} {a : Act} {kk : List Item} {cs : List Frame} {ops : Array Oper} {i : Nat} {rest : List Nat} {o : Oper} {f : FuncId} {fu : Func} {c : Code} {args : Array Operand} {ats : Array TypeId} (ho : ops[i]? = some o) (hw : Region.wanted o (yielded ops a.tmps) = true) (hk : b.kind ≠ .early)
    (hop : o.op = .call { callee := .value (.func f), args, argTypes := ats }) (hf : P.funcs[f]? = some fu) (hname : (fu.name == "runtime.NumGoroutine") = false) (hb : fu.body = some c) :
    stepG P main (G (b.at a (.inRegion ops (i :: rest) :: kk)) cs) w = .go (G ((base f).at { tmps := args.map a.eval ++ Array.replicate (fu.ntmps - (args.map a.eval).size) undef, defers := [] } [.code c]) (b.at a (.inRegion ops (i :: rest) :: kk) :: cs)) w #[] := by
  have hb' : fu.body.isNone = false := by rw [hb]; rfl
  rw [stepG_enter ho hw hk (run_call_body hop hf hname hb'), listed_call hop hf hname hb', enter_at _ hf hb]
theorem val_nil {main : Bool} {b : Frame} {a : Act} {kk : List Item} {cs : List Frame} {ops : Array Oper} {i : Nat} {rest : List Nat} {o : Oper} {v : Value} (ho : ops[i]? = some o) (hw : Region.wanted o (yielded ops a.tmps) = true) (hk : b.kind ≠ .early)
    (hr : (execOp a.eval o).run P w = .ok (.value v) w) (he : (execOp a.eval o).events P w #[] = #[]) :
    stepG P main (G (b.at a (.inRegion ops (i :: rest) :: kk)) cs) w = .go (G (b.at (a.put o.dst v) (.inRegion ops rest :: kk)) cs) w #[] := by
  rw [stepG_value ho hw hk hr]
  unfold listed
  rw [he, seen_none]
end

section
variable [Payload] {L : WgLink} {P : Program} {Wg C n k : Nat} {val : Value} {γ : Gh} {w : World}
set_option maxRecDepth 100000 in
set_option maxHeartbeats 4000000 in
theorem doneI (H : WgLib P L) {c : Frame} {cs : List Frame} {qt : Nat} (hcm : c.mode = .returning) (hT : QuitsD P qt 0 (G c cs)) (hG : γ.G Wg) (hx : ∃ u, w.cell? ⟨Wg, 0, none⟩ = some u) (hC : γ.Cs ⟨C, k - 1, none⟩) (hh : Has C (k - 1) val w) :
    GI P false noPh (StopW P L.tWg Wg C n k val) γ (G ((baseD L.done).at ⟨#[.pointer (some ⟨Wg, 0, none⟩), undef, undef, undef], []⟩ [.code (body_done L)]) (c :: cs)) w := by
  have hD : DnG P L.tWg Wg C n k val 23 (G ((baseD L.done).at ⟨#[.pointer (some ⟨Wg, 0, none⟩), undef, undef, undef], []⟩ [.code (body_done L)]) (c :: cs)) := fun w hw => ConcN.Gen.doneN H hcm hT w hw
  lib_facts
  simp only [body_done, doneFn, Option.getD_some] at hD ⊢
  (refine GI.both hG hx rfl (fun _ _ => stepG_region) hD ?_; clear hD; intro hD; (try simp only [Act.put, Act.eval, List.map_toArray, List.map_cons, List.map_nil, Array.getD_eq_getD_getElem?, List.getElem?_toArray, List.getElem?_cons_succ, List.getElem?_cons_zero, Option.getD_some, Option.bind_some, List.size_toArray, List.length_cons, List.length_nil, Nat.reduceAdd, Nat.reduceSub, Nat.zero_add, List.range, List.range.loop, Array.replicate_succ, Array.replicate_zero, List.push_toArray, List.append_toArray, List.nil_append, List.cons_append, List.setIfInBounds_toArray, List.set_cons_succ, List.set_cons_zero, List.getElem_toArray, List.getElem_cons_succ, List.getElem_cons_zero, if_true, if_false, Bool.false_eq_true, reduceIte] at hD ⊢))
  (refine GI.both hG hx rfl (fun w hw => val_nil (v := .pointer (some ⟨Wg, 0, none⟩)) rfl rfl (by k_ne) (by go_simp) (by simp [go_sem, *])) hD ?_; clear hD; intro hD; (try simp only [Act.put, Act.eval, List.map_toArray, List.map_cons, List.map_nil, Array.getD_eq_getD_getElem?, List.getElem?_toArray, List.getElem?_cons_succ, List.getElem?_cons_zero, Option.getD_some, Option.bind_some, List.size_toArray, List.length_cons, List.length_nil, Nat.reduceAdd, Nat.reduceSub, Nat.zero_add, List.range, List.range.loop, Array.replicate_succ, Array.replicate_zero, List.push_toArray, List.append_toArray, List.nil_append, List.cons_append, List.setIfInBounds_toArray, List.set_cons_succ, List.set_cons_zero, List.getElem_toArray, List.getElem_cons_succ, List.getElem_cons_zero, if_true, if_false, Bool.false_eq_true, reduceIte] at hD ⊢))
  refine GI.both hG hx rfl (fun _ _ => call_nil rfl rfl (by k_ne) rfl H.f_add (nm_add L) rfl) hD ?_
  clear hD
  intro hD
  simp only [addFn, Option.getD_some] at hD ⊢
  (try simp only [Act.put, Act.eval, List.map_toArray, List.map_cons, List.map_nil, Array.getD_eq_getD_getElem?, List.getElem?_toArray, List.getElem?_cons_succ, List.getElem?_cons_zero, Option.getD_some, Option.bind_some, List.size_toArray, List.length_cons, List.length_nil, Nat.reduceAdd, Nat.reduceSub, Nat.zero_add, List.range, List.range.loop, Array.replicate_succ, Array.replicate_zero, List.push_toArray, List.append_toArray, List.nil_append, List.cons_append, List.setIfInBounds_toArray, List.set_cons_succ, List.set_cons_zero, List.getElem_toArray, List.getElem_cons_succ, List.getElem_cons_zero, if_true, if_false, Bool.false_eq_true, reduceIte] at hD ⊢)
  (refine GI.both hG hx rfl (fun _ _ => stepG_seq) hD ?_; clear hD; intro hD; (try simp only [Act.put, Act.eval, List.map_toArray, List.map_cons, List.map_nil, Array.getD_eq_getD_getElem?, List.getElem?_toArray, List.getElem?_cons_succ, List.getElem?_cons_zero, Option.getD_some, Option.bind_some, List.size_toArray, List.length_cons, List.length_nil, Nat.reduceAdd, Nat.reduceSub, Nat.zero_add, List.range, List.range.loop, Array.replicate_succ, Array.replicate_zero, List.push_toArray, List.append_toArray, List.nil_append, List.cons_append, List.setIfInBounds_toArray, List.set_cons_succ, List.set_cons_zero, List.getElem_toArray, List.getElem_cons_succ, List.getElem_cons_zero, if_true, if_false, Bool.false_eq_true, reduceIte] at hD ⊢))
  (refine GI.both hG hx rfl (fun _ _ => stepG_cond (t := true) rfl) hD ?_; clear hD; intro hD; (try simp only [Act.put, Act.eval, List.map_toArray, List.map_cons, List.map_nil, Array.getD_eq_getD_getElem?, List.getElem?_toArray, List.getElem?_cons_succ, List.getElem?_cons_zero, Option.getD_some, Option.bind_some, List.size_toArray, List.length_cons, List.length_nil, Nat.reduceAdd, Nat.reduceSub, Nat.zero_add, List.range, List.range.loop, Array.replicate_succ, Array.replicate_zero, List.push_toArray, List.append_toArray, List.nil_append, List.cons_append, List.setIfInBounds_toArray, List.set_cons_succ, List.set_cons_zero, List.getElem_toArray, List.getElem_cons_succ, List.getElem_cons_zero, if_true, if_false, Bool.false_eq_true, reduceIte] at hD ⊢))
  (refine GI.both hG hx rfl (fun _ _ => stepG_seq) hD ?_; clear hD; intro hD; (try simp only [Act.put, Act.eval, List.map_toArray, List.map_cons, List.map_nil, Array.getD_eq_getD_getElem?, List.getElem?_toArray, List.getElem?_cons_succ, List.getElem?_cons_zero, Option.getD_some, Option.bind_some, List.size_toArray, List.length_cons, List.length_nil, Nat.reduceAdd, Nat.reduceSub, Nat.zero_add, List.range, List.range.loop, Array.replicate_succ, Array.replicate_zero, List.push_toArray, List.append_toArray, List.nil_append, List.cons_append, List.setIfInBounds_toArray, List.set_cons_succ, List.set_cons_zero, List.getElem_toArray, List.getElem_cons_succ, List.getElem_cons_zero, if_true, if_false, Bool.false_eq_true, reduceIte] at hD ⊢))
  (refine GI.both hG hx rfl (fun _ _ => stepG_seq) hD ?_; clear hD; intro hD; (try simp only [Act.put, Act.eval, List.map_toArray, List.map_cons, List.map_nil, Array.getD_eq_getD_getElem?, List.getElem?_toArray, List.getElem?_cons_succ, List.getElem?_cons_zero, Option.getD_some, Option.bind_some, List.size_toArray, List.length_cons, List.length_nil, Nat.reduceAdd, Nat.reduceSub, Nat.zero_add, List.range, List.range.loop, Array.replicate_succ, Array.replicate_zero, List.push_toArray, List.append_toArray, List.nil_append, List.cons_append, List.setIfInBounds_toArray, List.set_cons_succ, List.set_cons_zero, List.getElem_toArray, List.getElem_cons_succ, List.getElem_cons_zero, if_true, if_false, Bool.false_eq_true, reduceIte] at hD ⊢))
  (refine GI.both hG hx rfl (fun _ _ => stepG_region) hD ?_; clear hD; intro hD; (try simp only [Act.put, Act.eval, List.map_toArray, List.map_cons, List.map_nil, Array.getD_eq_getD_getElem?, List.getElem?_toArray, List.getElem?_cons_succ, List.getElem?_cons_zero, Option.getD_some, Option.bind_some, List.size_toArray, List.length_cons, List.length_nil, Nat.reduceAdd, Nat.reduceSub, Nat.zero_add, List.range, List.range.loop, Array.replicate_succ, Array.replicate_zero, List.push_toArray, List.append_toArray, List.nil_append, List.cons_append, List.setIfInBounds_toArray, List.set_cons_succ, List.set_cons_zero, List.getElem_toArray, List.getElem_cons_succ, List.getElem_cons_zero, if_true, if_false, Bool.false_eq_true, reduceIte] at hD ⊢))
  (refine GI.both hG hx rfl (fun w hw => val_nil (v := .int .i64 (-1)) rfl rfl (by k_ne) (by go_simp) (by simp [go_sem, *])) hD ?_; clear hD; intro hD; (try simp only [Act.put, Act.eval, List.map_toArray, List.map_cons, List.map_nil, Array.getD_eq_getD_getElem?, List.getElem?_toArray, List.getElem?_cons_succ, List.getElem?_cons_zero, Option.getD_some, Option.bind_some, List.size_toArray, List.length_cons, List.length_nil, Nat.reduceAdd, Nat.reduceSub, Nat.zero_add, List.range, List.range.loop, Array.replicate_succ, Array.replicate_zero, List.push_toArray, List.append_toArray, List.nil_append, List.cons_append, List.setIfInBounds_toArray, List.set_cons_succ, List.set_cons_zero, List.getElem_toArray, List.getElem_cons_succ, List.getElem_cons_zero, if_true, if_false, Bool.false_eq_true, reduceIte] at hD ⊢))
  (refine GI.both hG hx rfl (fun w hw => val_nil (v := .bool true) rfl rfl (by k_ne) (by go_simp) (by simp [go_sem, *])) hD ?_; clear hD; intro hD; (try simp only [Act.put, Act.eval, List.map_toArray, List.map_cons, List.map_nil, Array.getD_eq_getD_getElem?, List.getElem?_toArray, List.getElem?_cons_succ, List.getElem?_cons_zero, Option.getD_some, Option.bind_some, List.size_toArray, List.length_cons, List.length_nil, Nat.reduceAdd, Nat.reduceSub, Nat.zero_add, List.range, List.range.loop, Array.replicate_succ, Array.replicate_zero, List.push_toArray, List.append_toArray, List.nil_append, List.cons_append, List.setIfInBounds_toArray, List.set_cons_succ, List.set_cons_zero, List.getElem_toArray, List.getElem_cons_succ, List.getElem_cons_zero, if_true, if_false, Bool.false_eq_true, reduceIte] at hD ⊢))
  (refine GI.both hG hx rfl (fun _ _ => stepG_region_end) hD ?_; clear hD; intro hD; (try simp only [Act.put, Act.eval, List.map_toArray, List.map_cons, List.map_nil, Array.getD_eq_getD_getElem?, List.getElem?_toArray, List.getElem?_cons_succ, List.getElem?_cons_zero, Option.getD_some, Option.bind_some, List.size_toArray, List.length_cons, List.length_nil, Nat.reduceAdd, Nat.reduceSub, Nat.zero_add, List.range, List.range.loop, Array.replicate_succ, Array.replicate_zero, List.push_toArray, List.append_toArray, List.nil_append, List.cons_append, List.setIfInBounds_toArray, List.set_cons_succ, List.set_cons_zero, List.getElem_toArray, List.getElem_cons_succ, List.getElem_cons_zero, if_true, if_false, Bool.false_eq_true, reduceIte] at hD ⊢))
  (refine GI.both hG hx rfl (fun _ _ => stepG_cond (t := true) rfl) hD ?_; clear hD; intro hD; (try simp only [Act.put, Act.eval, List.map_toArray, List.map_cons, List.map_nil, Array.getD_eq_getD_getElem?, List.getElem?_toArray, List.getElem?_cons_succ, List.getElem?_cons_zero, Option.getD_some, Option.bind_some, List.size_toArray, List.length_cons, List.length_nil, Nat.reduceAdd, Nat.reduceSub, Nat.zero_add, List.range, List.range.loop, Array.replicate_succ, Array.replicate_zero, List.push_toArray, List.append_toArray, List.nil_append, List.cons_append, List.setIfInBounds_toArray, List.set_cons_succ, List.set_cons_zero, List.getElem_toArray, List.getElem_cons_succ, List.getElem_cons_zero, if_true, if_false, Bool.false_eq_true, reduceIte] at hD ⊢))
  (refine GI.both hG hx rfl (fun _ _ => stepG_region) hD ?_; clear hD; intro hD; (try simp only [Act.put, Act.eval, List.map_toArray, List.map_cons, List.map_nil, Array.getD_eq_getD_getElem?, List.getElem?_toArray, List.getElem?_cons_succ, List.getElem?_cons_zero, Option.getD_some, Option.bind_some, List.size_toArray, List.length_cons, List.length_nil, Nat.reduceAdd, Nat.reduceSub, Nat.zero_add, List.range, List.range.loop, Array.replicate_succ, Array.replicate_zero, List.push_toArray, List.append_toArray, List.nil_append, List.cons_append, List.setIfInBounds_toArray, List.set_cons_succ, List.set_cons_zero, List.getElem_toArray, List.getElem_cons_succ, List.getElem_cons_zero, if_true, if_false, Bool.false_eq_true, reduceIte] at hD ⊢))
  (refine GI.both hG hx rfl (fun w hw => val_nil (v := .pointer (some ⟨Wg, 0, none⟩)) rfl rfl (by k_ne) (by go_simp) (by simp [go_sem, *])) hD ?_; clear hD; intro hD; (try simp only [Act.put, Act.eval, List.map_toArray, List.map_cons, List.map_nil, Array.getD_eq_getD_getElem?, List.getElem?_toArray, List.getElem?_cons_succ, List.getElem?_cons_zero, Option.getD_some, Option.bind_some, List.size_toArray, List.length_cons, List.length_nil, Nat.reduceAdd, Nat.reduceSub, Nat.zero_add, List.range, List.range.loop, Array.replicate_succ, Array.replicate_zero, List.push_toArray, List.append_toArray, List.nil_append, List.cons_append, List.setIfInBounds_toArray, List.set_cons_succ, List.set_cons_zero, List.getElem_toArray, List.getElem_cons_succ, List.getElem_cons_zero, if_true, if_false, Bool.false_eq_true, reduceIte] at hD ⊢))
  refine GI.both hG hx rfl (fun w hw => val_nil (v := .pointer (some ⟨Wg, 0, none⟩)) rfl rfl (by k_ne) (by
    obtain ⟨u, hu⟩ := hw
    have hcv := run_convert_to_unsafe (P := P) H.underlying_tWgP H.underlying_tUP H.room_tWg hu
    go_simp) (by
    obtain ⟨u, hu⟩ := hw
    have hce := fun es => events_convert_to_unsafe (P := P) H.underlying_tWgP H.underlying_tUP H.room_tWg hu es
    simp [go_sem, hce, *])) hD ?_
  clear hD
  intro hD
  (try simp only [Act.put, Act.eval, List.map_toArray, List.map_cons, List.map_nil, Array.getD_eq_getD_getElem?, List.getElem?_toArray, List.getElem?_cons_succ, List.getElem?_cons_zero, Option.getD_some, Option.bind_some, List.size_toArray, List.length_cons, List.length_nil, Nat.reduceAdd, Nat.reduceSub, Nat.zero_add, List.range, List.range.loop, Array.replicate_succ, Array.replicate_zero, List.push_toArray, List.append_toArray, List.nil_append, List.cons_append, List.setIfInBounds_toArray, List.set_cons_succ, List.set_cons_zero, List.getElem_toArray, List.getElem_cons_succ, List.getElem_cons_zero, if_true, if_false, Bool.false_eq_true, reduceIte] at hD ⊢)
  refine GI.stop fun w₁ hR => ⟨rfl, (hR.cell _ hC).trans hh, fun hl => ?_⟩
  have hg := hD w₁ ⟨hl, (hR.cell _ hC).trans hh⟩
  rcases Goes.cases hg with hstop | ⟨m', _, hstep⟩
  · obtain ⟨_, _, g', hgo, m, hk⟩ := hstop w₁ (ConcN.RW.refl _)
    exact ⟨g', hgo, m, hk⟩
  · exfalso
    obtain ⟨g', w', es, hgo, _, hg1⟩ := hstep w₁ (ConcN.RW.refl _)
    rw [stepG_markAt .releaseMerge (by simp) rfl rfl (by k_ne) rfl H.f_relMerge (x_relMerge_n L) (x_relMerge_b L) (x_relMerge_x L) (x_relMerge_f L) (ad := ⟨Wg, 0, none⟩) (by simp [Act.eval])] at hgo
    injection hgo with h1 h2 h3
    subst h1 h2
    obtain ⟨_, _, hg2⟩ := goes_on hg1 stepG_region_end
    obtain ⟨_, _, hg3⟩ := goes_on hg2 stepG_seq
    obtain ⟨_, _, hg4⟩ := goes_on hg3 stepG_region
    clear hg1 hg2 hg3 hD hg hstep
    simp only [List.size_toArray, List.length_cons, List.length_nil, Nat.reduceAdd, Nat.zero_add, List.range, List.range.loop] at hg4
    rcases Goes.cases hg4 with hstop | ⟨m', _, hstep⟩
    · obtain ⟨_, _, g', hgo, _⟩ := hstop _ (ConcN.RW.refl _)
      rw [stepG_mark0 .disable (by simp) rfl rfl (by k_ne) rfl H.f_disable (x_disable_n L) (x_disable_b L) (x_disable_x L) (x_disable_f L)] at hgo
      injection hgo with _ _ h5
      simp [mk] at h5
    · obtain ⟨g', w', es, hgo, hdw, _⟩ := hstep _ (ConcN.RW.refl _)
      rw [stepG_mark0 .disable (by simp) rfl rfl (by k_ne) rfl H.f_disable (x_disable_n L) (x_disable_b L) (x_disable_x L) (x_disable_f L)] at hgo
      injection hgo with _ _ h5
      subst h5
      exact (hdw.2 ⟨.mark .disable, false, true⟩ (by simp)).2.1 rfl
end
end Go.Proofs.Ytndfookgkkefnaa
