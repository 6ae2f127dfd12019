/- From a law's walk among many goroutines to its row. -/
import Derived.Test.YtndfookgkkefnaaRows
import Derived.Test.YtndfookgkkefnaaBS1
import Derived.Test.YtndfookgkkefnaaBK7
import Derived.Test.YtndfookgkkefnaaBM10
import Derived.WalkKit
import Derived.ProofKit
import Derived.OpenShut
import Derived.Deep.Grids
import Derived.ChangeSame
import Derived.JoinedOf
import Derived.Carry
import Derived.Conc.LeavingOf
import Derived.Conc.Holds
import Derived.KernelRfl
namespace Go.Proofs.Ytndfookgkkefnaa
set_option linter.unusedSimpArgs false
set_option linter.unusedVariables false
set_option linter.unusedSectionVars false
open Go Go.Conc Go.RowKit Go.ChangeShapes Go.WideShapes Go.ChangeAt Go.Deep

theorem cut_strip (ws : List (List Char)) : stripLifts liftWords ("cut".toList :: ws) = ([], "cut".toList :: ws) := by kernel_rfl
theorem cut_ne1 : ("cut".toList == "gc".toList) = false := by kernel_rfl
theorem cut_ne2 : ("cut".toList == "spec".toList) = false := by kernel_rfl
theorem cut_ne3 : ("cut".toList == "carried".toList) = false := by kernel_rfl
theorem mayEnter_of {P : Program} {ws : List (List Char)} (h : behindMainWord (wordsSigns P.initOrder.toList) = "cut".toList :: ws) (h1 : P.laysLater = false) (h2 : P.bearsReflect = false) (h3 : P.doorFits [] = true) : P.mayEnter = true := by
  unfold Program.mayEnter
  rw [h]
  simp only [cut_strip, cut_ne1, cut_ne2, cut_ne3, h1, h2, h3, List.head?_cons, List.contains_nil, Bool.false_and, Bool.false_or, Bool.not_false, Bool.and_true, beq_self_eq_true]
theorem headLifts_of {P : Program} {ws : List (List Char)} (h : behindMainWord (wordsSigns P.initOrder.toList) = "cut".toList :: ws) : P.headLifts = [] := by
  unfold Program.headLifts
  rw [h]
  simp only [cut_strip, List.head?_cons, beq_self_eq_true, if_true]
theorem liftsFinal_of {P : Program} {ws : List (List Char)} (h : behindMainWord (wordsSigns P.initOrder.toList) = "cut".toList :: ws) : P.liftsFinal = false := by
  unfold Program.liftsFinal
  simp only [h, headLifts_of h, List.head?_cons, List.contains_nil, Bool.or_false]
  rw [show (some "cut".toList == some "carried".toList) = false from by kernel_rfl]
  rfl
theorem make_of {P : Program} {ws : List (List Char)} (h : behindMainWord (wordsSigns P.initOrder.toList) = "cut".toList :: ws) : P.make = some .cut := by
  unfold Program.make
  rw [h]
  simp only [cut_ne1, cut_ne2, Bool.or_false, beq_self_eq_true, Bool.true_or, if_true, Bool.false_eq_true, if_false]
/-- the head of the translation, word by word (as numbers) -/
def headW0 : List Char := ([104, 97, 114, 110, 101, 115, 115] : List Nat).map Char.ofNat
def headW1 : List Char := ([49, 52, 50, 51, 51, 52, 54, 56, 51, 48, 98, 50, 97, 53, 99, 50, 48, 48, 52, 50, 101, 55, 100, 99, 49, 98, 102, 53, 48, 100, 99, 98, 99, 102, 49, 99, 53, 53, 50, 49, 52, 50, 53, 102, 99, 51, 98, 102, 51, 98, 97, 99, 57, 99, 100, 99, 102, 55, 48, 53, 101, 52, 55, 52] : List Nat).map Char.ofNat
def headW2 : List Char := ([99, 117, 116] : List Nat).map Char.ofNat
def headW3 : List Char := ([97, 116, 32, 108, 111, 111, 112, 46, 101, 120, 97, 109, 112, 108, 101, 47, 109, 105, 120, 114, 101, 108, 97, 121, 47, 108, 97, 119, 115, 46, 70, 110, 67, 101, 114, 116, 97, 105, 110, 79, 110, 101, 32, 108, 111, 111, 112, 46, 101, 120, 97, 109, 112, 108, 101, 47, 109, 105, 120, 114, 101, 108, 97, 121, 47, 108, 97, 119, 115, 46, 70, 110, 66, 101, 115, 116, 32, 108, 111, 111, 112, 46, 101, 120, 97, 109, 112, 108, 101, 47, 109, 105, 120, 114, 101, 108, 97, 121, 47, 108, 97, 119, 115, 46, 70, 110, 66, 101, 115, 116, 72, 97, 108, 102, 32, 108, 111, 111, 112, 46, 101, 120, 97, 109, 112, 108, 101, 47, 109, 105, 120, 114, 101, 108, 97, 121, 47, 108, 97, 119, 115, 46, 70, 110, 69, 120, 97, 99, 116, 65, 115, 115, 105, 103, 110, 66, 101, 115, 116, 32, 108, 111, 111, 112, 46, 101, 120, 97, 109, 112, 108, 101, 47, 109, 105, 120, 114, 101, 108, 97, 121, 47, 108, 97, 119, 115, 46, 70, 110, 69, 120, 97, 99, 116, 65, 115, 115, 105, 103, 110, 67, 104, 97, 110, 99, 101, 32, 108, 111, 111, 112, 46, 101, 120, 97, 109, 112, 108, 101, 47, 109, 105, 120, 114, 101, 108, 97, 121, 47, 108, 97, 119, 115, 46, 70, 110, 67, 101, 114, 116, 97, 105, 110, 32, 108, 111, 111, 112, 46, 101, 120, 97, 109, 112, 108, 101, 47, 109, 105, 120, 114, 101, 108, 97, 121, 47, 108, 97, 119, 115, 46, 70, 110, 69, 120, 97, 99, 116, 65, 115, 115, 105, 103, 110, 67, 101, 114, 116, 97, 105, 110] : List Nat).map Char.ofNat
def headAll : List Char := headW0 ++ Char.ofNat 32 :: (headW1 ++ Char.ofNat 32 :: (headW2 ++ Char.ofNat 32 :: headW3))
theorem head_eq : Try.prog.initOrder = String.ofList headAll := by dsimp only [Try.prog, Try.progTables]; kernel_rfl
theorem head_cut : headAll = headW0 ++ Char.ofNat 32 :: (headW1 ++ Char.ofNat 32 :: (headW2 ++ Char.ofNat 32 :: headW3)) := rfl
theorem words_cons (w : List Char) (hw : w.all (fun c => c != Char.ofNat 32) = true) (r : List Char) : wordsSigns (w ++ Char.ofNat 32 :: r) = w :: wordsSigns r := by
  induction w with
  | nil => rfl
  | cons c w ih =>
    simp only [List.all_cons, Bool.and_eq_true, bne_iff_ne, ne_eq] at hw
    have h := ih hw.2
    rw [List.cons_append, wordsSigns.eq_3 _ _ (fun e => hw.1 e), h]
theorem head_words : behindMainWord (wordsSigns Try.prog.initOrder.toList) = "cut".toList :: wordsSigns headW3 := by
  rw [head_eq, String.toList_ofList, head_cut, words_cons headW0 (by kernel_rfl), words_cons headW1 (by kernel_rfl), words_cons headW2 (by kernel_rfl)]
  generalize wordsSigns headW3 = ws
  kernel_rfl
theorem fact_enter : Try.prog.mayEnter = true := mayEnter_of head_words (by kernel_rfl) (by kernel_rfl) (by kernel_rfl)
theorem fact_final : Try.prog.liftsFinal = false := liftsFinal_of head_words
theorem fact_make : Try.prog.make = some .cut := make_of head_words
theorem own_knob : ownKnob Try.prog.godebug = none := by kernel_rfl
theorem laid_out : laidOutB Try.prog = true := by kernel_rfl


section
variable {P : Program} {b : Frame} {a : Act} {w : World}
theorem stepG_done {fn : Func} {todo : List Item} {v : Value} (hn : b.kind = .normal) (hd : a.defers = []) (hf : P.funcs[b.fn]? = some fn) (hin : P.inits.idxOf? b.fn = none)
    (hr : (results fn a.tmps).run P w = .ok v w) (he : (results fn a.tmps).events P w #[] = #[]) :
    stepG P true (G { b.at a todo with mode := .returning } []) w = .ended (.done v) w #[] := by
  simp [G, stepG, unwind, doReturn, Frame.at, hn, hd, hf, hr, he, hin, seen, GStep.after]
end
/-- a whole run of a call, alone at its beginning -/
theorem whole {P : Program} {X : Pha} {f : FuncId} {args : Array Value} {γ : Gh} {w : World} {Post : Gh → Value → World → Prop} {Fin : Value → World → Prop} (hcall : CallsI P true X f args γ w Post) (hin : P.inits.idxOf? f = none)
    (hfin : ∀ γ' v w', Post γ' v w' → γ'.p = .no ∧ ∀ w₁, Rl γ' w' w₁ → Fin v w₁) : GI P true X (StopE P Fin) γ (G (Frame.enter P f args .normal) []) w := by
  obtain ⟨fn, c, hf, hname, hbody, hwp⟩ := hcall
  have hleave : ∀ (γ' : Gh) (a' : Act) (w' : World) (todo : List Item), (a'.defers = [] ∧ ∃ v, ResultsC P fn a'.tmps v ∧ Post γ' v w') →
      GI P true X (StopE P Fin) γ' (G { (base f).at a' todo with mode := .returning } []) w' := by
    rintro γ' a' w' todo ⟨hd, v, hr, hp⟩
    obtain ⟨hp1, hp2⟩ := hfin γ' v w' hp
    exact ⟨.leaf, fun w₁ h₁ => ⟨rfl, hp1, v, #[], stepG_done (b := base f) rfl hd hf hin (hr w₁).1 (hr w₁).2, by simp, hp2 w₁ h₁⟩⟩
  rw [enter_at _ hf hbody]
  refine hwp (base f) [] _ (StopE P Fin) rfl (by simp [base]) fun e γ' a' w' q => ?_
  cases e with
  | normal => exact GI.ctl rfl (fun _ => stepG_end) (hleave γ' a' w' [] q)
  | ret => exact fun todo => hleave γ' a' w' todo q
  | exit id => exact q.elim
  | goto l => exact q.elim
  | panic ch => exact q.elim
  | outgrown => exact q.elim
/-- a law's run -/
theorem law_run {W : World} {f : FuncId} {args : Array Value} (hin : Try.prog.inits.idxOf? f = none) (h : CallsI Try.prog true XB f args (Gh.start W) W fun γ' r w' => Ext (Gh.start W) W γ' w' ∧ r = .bool true) :
    ∃ M last o w' t', runNT Try.prog (M + 1) (solo (G (Frame.enter Try.prog f args .normal) []) W) #[] = (.ended o w', t') ∧ runN Try.prog M (solo (G (Frame.enter Try.prog f args .normal) []) W) = .next last ∧
      step Try.prog last = .ended o w' ∧ Conc.Good Try.prog (fun v w' => (v = .bool true ∧ ∀ b, b < W.heap.size → w'.heap[b]? = W.heap[b]?) ∧ Kp W w') last o w' t' :=
  run_good (P := Try.prog) (ty := tWG) (whole h hin fun γ' v w' hp => ⟨hp.1.p, fun w₁ hr => ⟨hp.2, fun b hb => (hp.1.rely hr).rl.blk b hb⟩⟩)
theorem lies_start (W : World) : Lies (Gh.start W) W := ⟨fun _ h => h, fun _ h => h.elim, fun _ h => (h.elim id id : False).elim, fun _ h => h⟩
theorem spot_none {w : World} {a : Addr} {u : Value} (h : w.cell? (a.add 0) = some u) : a.spot = none ∧ a.block < w.heap.size := by
  obtain ⟨b, o, s⟩ := a
  refine ⟨?_, by have := World.block_lt_of_cell? w _ h; simpa [Addr.add] using this⟩
  cases s with
  | none => rfl
  | some s => simp [Addr.add, World.cell?] at h; split at h <;> simp at h
theorem range_map {α : Type} {n i : Nat} {f : Nat → α} {x : α} (h : ((List.range n).map f)[i]? = some x) : i < n ∧ x = f i := by
  rw [List.getElem?_map] at h
  obtain ⟨r, hr, rfl⟩ := Option.map_eq_some_iff.1 h
  obtain ⟨h1, h2⟩ := List.getElem?_eq_some_iff.1 hr
  simp at h1 h2
  subst h2
  exact ⟨h1, rfl⟩
set_option maxRecDepth 100000 in
theorem opn_grid {H : Type} {enc : TypeId × Value → H} {W : World} {base : Nat} {v : Value} {d : DataW H} {p : List MemPlace}
    (hv : Value.okWide Try.prog W .any base 23 v) (h : DataW.Trod enc Try.prog W 0 (fun _ => true) true 23 v d p) :
    ∃ xs, TabV (Gh.start W) W v xs ∧ xs.length < 9223372036854775808 ∧ ∀ bs ∈ xs, bs.length < 9223372036854775808 := by
  obtain ⟨a, l, c, rfl⟩ := okWide_slice Try.underlying23 hv
  obtain ⟨fuel, hf⟩ := h
  have hml : maxLen < 9223372036854775808 := by simp only [maxLen]; omega
  rcases open_bool_rows Try.underlying23 Try.underlying28 Try.underlying4 (by kernel_rfl) (by kernel_rfl) hf with ⟨hcs, _⟩ | ⟨a', len, cap, A, L, C, B, hcs, _, hlc, hcm, _, hrow⟩
  · simp [Value.cells] at hcs
    obtain ⟨rfl, rfl, rfl⟩ := hcs
    exact ⟨[], .inl ⟨⟨_, _, rfl⟩, rfl⟩, by simp, by simp⟩
  · simp [Value.cells] at hcs
    obtain ⟨rfl, rfl, rfl⟩ := hcs
    refine ⟨(List.range l).map fun r => (List.range (L r)).map (B r), ?_, by simp; omega, fun bs hb => ?_⟩
    · by_cases h0 : l = 0
      · subst h0; exact .inl ⟨⟨_, _, rfl⟩, by simp⟩
      · obtain ⟨hs, hb⟩ := spot_none (hrow 0 (by omega)).1
        obtain ⟨b, o, s⟩ := a'
        obtain rfl : s = none := hs
        refine .inr ⟨b, o, c, by simp, hb, fun i bs hi => ?_⟩
        obtain ⟨hil, rfl⟩ := range_map hi
        obtain ⟨h1, h2, h3, h4, h5⟩ := hrow i (by omega)
        refine ⟨.slice (A i) (L i) (C i), by rw [← Addr.add_lit]; exact h1, ?_⟩
        by_cases hL0 : L i = 0
        · rw [hL0]; exact .inl ⟨⟨_, _, rfl⟩, by simp⟩
        · cases hA : A i with
          | none => have := h4 hA; omega
          | some x =>
            obtain ⟨_, h6⟩ := h5 x hA
            obtain ⟨hs', hb'⟩ := spot_none (h6 0 (by omega))
            obtain ⟨b', o', s'⟩ := x
            obtain rfl : s' = none := hs'
            refine .inr ⟨b', o', C i, by simp, hb', fun k y hk => ?_⟩
            obtain ⟨hkl, rfl⟩ := range_map hk
            rw [← Addr.add_lit]
            exact h6 k (by omega)
    · obtain ⟨r, hr, rfl⟩ := List.mem_map.1 hb
      obtain ⟨_, h2, h3, _⟩ := hrow r (by have := List.mem_range.1 hr; omega)
      simp
      omega
theorem kept {W w' : World} (bel : ∀ b, b < W.heap.size → w'.heap[b]? = W.heap[b]?) (kp : Kp W w') (may : MemPlace → Prop) : W.keptBut w' may := by
  refine ⟨kp.1, kp.2, fun i hi => ?_⟩
  rw [bel i hi]
  split <;> simp_all
theorem same_at {W w' : World} (bel : ∀ b, b < W.heap.size → w'.heap[b]? = W.heap[b]?) {p : MemPlace} (hp : p.block < W.heap.size) : W.sameAt w' p := by
  cases p with
  | cell b o => exact World.cell?_of_block (w := W) (bel b hp)
  | map b => exact bel b hp
theorem stays {H : Type} {enc : TypeId × Value → H} {t : TypeId} (hr : Try.prog.readableRec t = true) (hrow : t < Try.prog.types.size) {W w' : World} {v : Value} {d : DataW H} {ps : List MemPlace}
    (h : DataW.Trod enc Try.prog W 0 (fun _ => true) true t v d ps) (bel : ∀ b, b < W.heap.size → w'.heap[b]? = W.heap[b]?) (hlt : ∀ x ∈ ps, x.block < W.heap.size) :
    DataW.Trod enc Try.prog w' 0 (fun b => decide (b < W.heap.size)) true t v d ps :=
  WideElems.Trod_stays laid_out hr hrow h (fun x hx => same_at bel (hlt x hx)) (fun x hx => by simpa using hlt x hx)
end Go.Proofs.Ytndfookgkkefnaa
