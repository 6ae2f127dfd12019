/- Texts that the last file leans on (part 37). -/
import Derived.ChangeSame
import Derived.ChangeVars
import Derived.Deep.Slices
import Derived.JoinedOf
import Derived.KernelRfl
import Derived.LaidByTextLater
import Derived.LaidHandle
import Derived.LaidLaws
import Derived.LaidOnce
import Derived.LaidSub
import Derived.Lay
import Derived.Lib.LaidTab
import Derived.OpenShut
import Derived.ProofKit
import Derived.RowKitTokens
import Derived.SevenTiedAt
import Derived.Stop.Joined
import Derived.Stop.LaidErr
import Derived.Test.YtfaeojmndaplcaaGreatDoorCards
import Derived.Test.YtfaeojmndaplcaaGreatDoorM0
import Derived.Test.YtfaeojmndaplcaaGreatDoorM24
import Derived.Test.YtfaeojmndaplcaaGreatDoorM31
import Derived.Test.YtfaeojmndaplcaaGreatDoorRows
import Derived.WalkKit
set_option linter.unusedVariables false
set_option linter.unusedSimpArgs false
set_option maxHeartbeats 4000000
set_option maxRecDepth 100000
namespace Go.Proofs.YtfaeojmndaplcaaGreatDoor
open Go Go.RowKit
section
open Go.ChangeShapes Go.WideShapes Go.ChangeAt Go.Deep
theorem oz (ws : List (List Char)) : stripLifts liftWords ("cut".toList :: ws) = ([], "cut".toList :: ws) := by kernel_rfl
theorem sQ : ("cut".toList == "gc".toList) = false := by kernel_rfl
theorem sR : ("cut".toList == "spec".toList) = false := by kernel_rfl
theorem xr : ("cut".toList == "carried".toList) = false := by kernel_rfl
theorem qD {P : Program} {ws : List (List Char)} (h : behindMainWord (wordsSigns P.initOrder.toList) = "cut".toList :: ws) (h1 : P.laysLater = false) (h2 : P.bearsReflect = false) (h3 : P.doorFits [] = true) : P.mayEnter = true := by
 unfold Program.mayEnter
 rw [h]
 simp only [oz, sQ, sR, xr, h1, h2, h3, List.head?_cons, List.contains_nil, Bool.false_and, Bool.false_or, Bool.not_false, Bool.and_true, beq_self_eq_true]
theorem pg {P : Program} {ws : List (List Char)} (h : behindMainWord (wordsSigns P.initOrder.toList) = "cut".toList :: ws) : P.headLifts = [] := by
 unfold Program.headLifts
 rw [h]
 simp only [oz, List.head?_cons, beq_self_eq_true, if_true]
theorem nU {P : Program} {ws : List (List Char)} (h : behindMainWord (wordsSigns P.initOrder.toList) = "cut".toList :: ws) : P.liftsFinal = false := by
 unfold Program.liftsFinal
 simp only [h, pg h, List.head?_cons, List.contains_nil, Bool.or_false]
 rw [show (some "cut".toList == some "carried".toList) = false from by kernel_rfl]
 rfl
theorem xC {P : Program} {ws : List (List Char)} (h : behindMainWord (wordsSigns P.initOrder.toList) = "cut".toList :: ws) : P.make = some .cut := by
 unfold Program.make
 rw [h]
 simp only [sQ, sR, Bool.or_false, beq_self_eq_true, Bool.true_or, if_true, Bool.false_eq_true, if_false]
def dY : List Char := ([104, 97, 114, 110, 101, 115, 115] : List Nat).map Char.ofNat
def dZ : List Char := ([99, 101, 52, 98, 52, 48, 50, 97, 97, 49, 57, 57, 97, 101, 55, 97, 100, 101, 51, 98, 101, 97, 51, 100, 100, 54, 50, 101, 55, 98, 57, 57, 57, 56, 54, 102, 50, 57, 99, 52, 102, 54, 57, 101, 56, 55, 101, 52, 51, 100, 56, 54, 52, 49, 56, 101, 102, 102, 53, 48, 102, 57, 53, 54] : List Nat).map Char.ofNat
def d7 : List Char := ([99, 117, 116] : List Nat).map Char.ofNat
def dQ : List Char := ([97, 116, 32, 108, 111, 111, 112, 46, 101, 120, 97, 109, 112, 108, 101, 47, 109, 105, 120, 114, 101, 108, 97, 121, 47, 108, 97, 119, 115, 46, 70, 110, 69, 120, 101, 99, 117, 116, 101, 76, 105, 110, 101, 115, 32, 108, 111, 111, 112, 46, 101, 120, 97, 109, 112, 108, 101, 47, 109, 105, 120, 114, 101, 108, 97, 121, 47, 108, 97, 119, 115, 46, 70, 110, 69, 120, 101, 99, 117, 116, 101, 81, 117, 101, 114, 105, 101, 115, 32, 108, 111, 111, 112, 46, 101, 120, 97, 109, 112, 108, 101, 47, 109, 105, 120, 114, 101, 108, 97, 121, 47, 108, 97, 119, 115, 46, 70, 110, 69, 120, 101, 99, 117, 116, 101, 85, 110, 107, 110, 111, 119, 110, 32, 108, 111, 111, 112, 46, 101, 120, 97, 109, 112, 108, 101, 47, 109, 105, 120, 114, 101, 108, 97, 121, 47, 108, 97, 119, 115, 46, 70, 110, 69, 120, 97, 99, 116, 69, 120, 101, 99, 117, 116, 101, 32, 108, 111, 111, 112, 46, 101, 120, 97, 109, 112, 108, 101, 47, 109, 105, 120, 114, 101, 108, 97, 121, 47, 108, 97, 119, 115, 46, 70, 110, 69, 120, 101, 99, 117, 116, 101, 66, 97, 116, 99, 104, 32, 108, 111, 111, 112, 46, 101, 120, 97, 109, 112, 108, 101, 47, 109, 105, 120, 114, 101, 108, 97, 121, 47, 108, 97, 119, 115, 46, 70, 110, 69, 120, 101, 99, 117, 116, 101, 67, 104, 97, 110, 103, 101, 32, 108, 111, 111, 112, 46, 101, 120, 97, 109, 112, 108, 101, 47, 109, 105, 120, 114, 101, 108, 97, 121, 47, 108, 97, 119, 115, 46, 70, 110, 69, 120, 101, 99, 117, 116, 101, 69, 109, 112, 116, 121, 32, 108, 111, 111, 112, 46, 101, 120, 97, 109, 112, 108, 101, 47, 109, 105, 120, 114, 101, 108, 97, 121, 47, 108, 97, 119, 115, 46, 70, 110, 69, 120, 101, 99, 117, 116, 101, 76, 111, 115, 101, 32, 108, 111, 111, 112, 46, 101, 120, 97, 109, 112, 108, 101, 47, 109, 105, 120, 114, 101, 108, 97, 121, 47, 108, 97, 119, 115, 46, 70, 110, 69, 120, 101, 99, 117, 116, 101, 79, 110, 101, 32, 108, 111, 111, 112, 46, 101, 120, 97, 109, 112, 108, 101, 47, 109, 105, 120, 114, 101, 108, 97, 121, 47, 108, 97, 119, 115, 46, 70, 110, 69, 120, 101, 99, 117, 116, 101, 84, 119, 105, 99, 101, 32, 108, 111, 111, 112, 46, 101, 120, 97, 109, 112, 108, 101, 47, 109, 105, 120, 114, 101, 108, 97, 121, 47, 108, 97, 119, 115, 46, 70, 110, 69, 120, 101, 99, 117, 116, 101, 73, 110, 99, 111, 109, 112, 108, 101, 116, 101, 32, 108, 111, 111, 112, 46, 101, 120, 97, 109, 112, 108, 101, 47, 109, 105, 120, 114, 101, 108, 97, 121, 47, 108, 97, 119, 115, 46, 70, 110, 87, 111, 114, 108, 100, 80, 108, 97, 121] : List Nat).map Char.ofNat
def sV : List Char := dY ++ Char.ofNat 32 :: (dZ ++ Char.ofNat 32 :: (d7 ++ Char.ofNat 32 :: dQ))
theorem dP : Tryz.prog.initOrder = String.ofList sV := by dsimp only [Tryz.prog, Tryz.progTables]; kernel_rfl
theorem cY : sV = dY ++ Char.ofNat 32 :: (dZ ++ Char.ofNat 32 :: (d7 ++ Char.ofNat 32 :: dQ)) := rfl
theorem am (w : List Char) (hw : w.all (fun c => c != Char.ofNat 32) = true) (r : List Char) : wordsSigns (w ++ Char.ofNat 32 :: r) = w :: wordsSigns r := by
 induction w with
 | nil => rfl
 | cons c w ih =>
  simp only [List.all_cons, Bool.and_eq_true, bne_iff_ne, ne_eq] at hw
  have h := ih hw.2
  rw [List.cons_append, wordsSigns.eq_3 _ _ (fun e => hw.1 e), h]
theorem ke : behindMainWord (wordsSigns Tryz.prog.initOrder.toList) = "cut".toList :: wordsSigns dQ := by
 rw [dP, String.toList_ofList, cY, am dY (by kernel_rfl), am dZ (by kernel_rfl), am d7 (by kernel_rfl)]
 generalize wordsSigns dQ = ws
 kernel_rfl
theorem ci : Tryz.prog.mayEnter = true := qD ke (by kernel_rfl) (by kernel_rfl) (by kernel_rfl)
theorem cj : Tryz.prog.liftsFinal = false := nU ke
theorem cM : Tryz.prog.make = some .cut := xC ke
theorem dl : ownKnob Tryz.prog.godebug = none := by kernel_rfl
theorem dj : laidOutB Tryz.prog = true := by kernel_rfl
def pP {α : Type} (P : Program) (T : Ty α) (t : TypeId) (fit : α → Prop) : Prop :=
 ∀ {H : Type} (enc : TypeId × Value → H) (w : World) (spare : Nat → Bool) (held : Bool) (fuel : Nat) (cs : List Value) (x : DataW H × List MemPlace),
  DataW.trod enc P w 0 spare held fuel t cs = some x → ∃ d F, T.E w cs d F ∧ fit d
section
variable {α : Type} {P : Program}
theorem uN {k : IntKind} {t : TypeId} (T : Ty Int) (hT : ∀ w n, T.E w [.int k n] n []) (ht : P.underlying t = some (.int k)) : pP P T t (fun n => (Lit.int k n).wf = true) := by
 intro H enc w spare held fuel cs x h
 obtain ⟨n, rfl, _, hn⟩ := DataW.trod_int ht h
 exact ⟨n, [], hT w n, hn⟩
theorem qN {T : Ty α} {t e : TypeId} {fit : α → Prop} (ho : pP P T e fit) (ht : P.underlying t = some (.slice e)) (hc : P.cellsOf e = T.k) (hk : 0 < T.k) : pP P T.sl t (fun xs => ∀ x ∈ xs, fit x) := by
 intro H enc w spare held fuel cs x h
 rcases open_slice ht h with ⟨rfl, _⟩ | ⟨a, len, cap, m, n, D, Pl, rfl, _, hlc, hcm, hm, _, hi⟩
 ·exact ⟨[], [], ⟨_, rfl, Sl.nil _ _ (by simp [maxLen])⟩, fun x hx => by cases hx⟩
 ·have hlm : len ≤ m := by rw [hm]; split <;> omega
  rw [hc] at hi
  have key : ∀ l, l ≤ len → ∃ (xs : List α) (F : List Nat) (css : List Value), xs.length = l ∧ T.els w css xs F ∧ (∀ x ∈ xs, fit x) ∧ ∀ j u, css[j]? = some u → w.cell? (a.add j) = some u := by
   intro l
   induction l with
   | zero => intro _; exact ⟨[], [], [], rfl, Ty.els_nil, (fun x hx => by cases hx), (fun j u hj => by cases hj)⟩
   | succ l ih =>
    intro hl
    obtain ⟨xs, F, css, h1, h2, h3, h4⟩ := ih (by omega)
    obtain ⟨cs', hcs, htr⟩ := hi l (by omega)
    obtain ⟨d, G, hE, hfit⟩ := ho enc w spare held n cs' _ htr
    obtain ⟨_, hcl, hat⟩ := World.cells?_some hcs
    refine ⟨xs ++ [d], F ++ G, css ++ cs', by simp [h1], Ty.els_append h2 (Ty.els_one hE), fun x hx => ?_, fun j u hj => ?_⟩
    ·rcases List.mem_append.1 hx with hx | hx
     ·exact h3 x hx
     ·rw [List.mem_singleton.1 hx]; exact hfit
    ·have hcl' := Ty.els_len h2
     rw [h1] at hcl'
     by_cases hjl : j < css.length
     ·rw [List.getElem?_append_left hjl] at hj; exact h4 j u hj
     ·rw [List.getElem?_append_right (by omega)] at hj
      have hj2 := (List.getElem?_eq_some_iff.1 hj).1
      have := hat (j - css.length) (by omega)
      rw [hj] at this
      rw [Deep.add_add] at this
      rw [show l * T.k + (j - css.length) = j from by omega] at this
      exact this
  obtain ⟨xs, F, css, h1, h2, h3, h4⟩ := key len (Nat.le_refl _)
  subst h1
  by_cases hx : xs = []
  ·subst hx
   exact ⟨[], [], ⟨_, rfl, Sl.nil _ _ hcm⟩, h3⟩
  ·have hl0 : 0 < css.length := by rw [Ty.els_len h2]; exact Nat.mul_pos (List.length_pos_iff.2 hx) hk
   have hc0 := h4 0 _ (List.getElem?_eq_getElem hl0)
   obtain ⟨b, o, s⟩ := a
   have hs : s = none := by
    cases s with
    | none => rfl
    | some s => simp [Addr.add, World.cell?] at hc0; split at hc0 <;> simp at hc0
   subst hs
   have hb : b < w.heap.size := by
    have := World.block_lt_of_cell? w _ hc0
    simpa [Addr.add] using this
   refine ⟨xs, b :: F, ⟨_, rfl, ⟨_, cap, css, rfl, hlc, hcm, .inr ⟨b, o, F, rfl, rfl, hx, hb, h2, fun j u hj => ?_⟩⟩⟩, h3⟩
   have := h4 j u hj
   rcases Nat.eq_zero_or_pos j with h | h
   ·subst h; simpa [Addr.add] using this
   ·simpa [Addr.add, Nat.ne_of_gt h] using this
end
theorem dc {α : Type} {T : Ty α} {t e : TypeId} {fit : List α → Prop} (ho : pP Tryz.prog T.sl t fit) (ht : Tryz.prog.underlying t = some (.slice e)) {H : Type} {enc : TypeId × Value → H} {W : World} {base : Nat} {spare : Nat → Bool} {held : Bool} {v : Value} {d : DataW H} {p : List MemPlace}
  (hv : Value.okWide Tryz.prog W .any base t v) (h : DataW.Trod enc Tryz.prog W 0 spare held t v d p) : ∃ xs, SlB T W.heap.size W v xs ∧ fit xs := by
 obtain ⟨a, l, c, rfl⟩ := okWide_slice ht hv
 obtain ⟨fuel, hf⟩ := h
 obtain ⟨xs, F, ⟨v', hv', hs⟩, hfit⟩ := ho enc W spare held fuel _ _ hf
 simp [Value.cells] at hv'
 subst hv'
 exact ⟨xs, ⟨F, hs, hs.lt⟩, hfit⟩
theorem b7 : pP Tryz.prog du.sl 22 (fun xs => ∀ x ∈ xs, (Lit.int .u8 x).wf = true) :=
 qN (uN du (fun _ _ => ⟨rfl, rfl⟩) Tryz.underlying5) Tryz.underlying22 (by kernel_rfl) (by decide)
end
section
open Go.ChangeShapes Go.WideShapes Go.ChangeAt Go.Deep
theorem bg {H : Type} {enc : TypeId × Value → H} {a : Assume} {C : Checked} {os : Os} {f : FuncId} {fn : Func} {s : ChangeSpec} {conds : List PathCond} {apart fresh handsOn again : Bool} {X : World → Array Value → Prop}
  (hX : ∀ (w w' : World) (args : Array Value), w.heap = w'.heap → X w args → X w' args)
  (own : ownKnob C.prog.godebug = none) (started : os.Started) (noInit : C.prog.inits.idxOf? f = none) (hfn : C.prog.funcs[f]? = some fn)
  (witness : ∃ (w : World) (tape : Tape) (i : Input), w.os = os ∧ (w.forCall tape i).Shaped C.prog ∧ i.vars = [] ∧ Input.okWide C.prog (w.forCall tape i) .any w.heap.size f i ∧
   ((s.pre enc C.prog fn conds apart (w.forCall tape i).memory i.args ∧ X (w.forCall tape i).memory i.args) ∧ sizedMet enc C.prog fn (OpenSpec.ofChange s) apart (w.forCall tape i).memory i.args) ∧ a.holds C.prog (lone (Frame.enter C.prog f i.args .normal) [] (w.forCall tape i)))
  (contract : ∀ (W : World) (base : Nat) (args : Array Value) (ds gs : List (DataW H)) (before : List MemPlace),
   (∀ (j : Nat) t v, fn.params[j]? = some t → args[j]? = some v → Value.okWide C.prog W .any base t v) →
   DataW.Whole enc C.prog fn.params.toList s.vars apart W args.toList ds gs before →
   conds.all (PathCond.test C.prog ⟨fn.params.toList, ds, s.plain.varTypes C.prog, gs⟩) = true →
   (DataW.weightsEach C.prog (fn.params.toList ++ s.plain.varTypes C.prog) (ds ++ gs)).all (· ≤ reachBytes) = true → X W args →
   W.ShapedOpen C.prog →
   Calls C.prog f args W fun e W' => ∃ v, e = .returned v ∧ s.post enc C.prog fn apart fresh handsOn again W args v W') :
  ReturnsInHanded a C os f .any (fun w args => (s.pre enc C.prog fn conds apart w args ∧ X w args) ∧ sizedMet enc C.prog fn (OpenSpec.ofChange s) apart w args) (s.post enc C.prog fn apart fresh handsOn again) := by
 refine returnsInHanded_of_calls own started noInit witness ?_
 intro w tape i _ hsh _ hok hpre _
 obtain ⟨_, _, _, fn', hfn', _, _, _, _, hval⟩ := hok
 have e : fn' = fn := Option.some.inj (hfn'.symm.trans hfn)
 subst e
 obtain ⟨⟨⟨ds, gs, before, hw, hc⟩, hx⟩, hz⟩ := hpre
 have hw' := DataW.Whole.of_heap (w' := w.forCall tape i) (by rfl) hw
 refine (contract (w.forCall tape i) w.heap.size i.args ds gs before hval hw' hc (hz.weights hw) (hX _ _ _ (by rfl) hx) hsh).mono fun e W' ⟨v, he, hp⟩ => ?_
 subst he
 exact ChangeSpec.post_blind hp
def tb : List (String × DataW Unit) := [("math/bits.deBruijn32tab", Rows.laid_math_bits_deBruijn32tab), ("math/bits.deBruijn64tab", Rows.laid_math_bits_deBruijn64tab), ("internal/strconv.uint64pow10", Rows.laid_internal_strconv_uint64pow10), ("unicode/utf8.acceptRanges", Rows.laid_unicode_utf8_acceptRanges), ("unicode/utf8.first", Rows.laid_unicode_utf8_first)]
def bM : List (String × DataW Unit) := [("math/bits.deBruijn32tab", Rows.laid_math_bits_deBruijn32tab), ("math/bits.deBruijn64tab", Rows.laid_math_bits_deBruijn64tab), ("internal/strconv.uint64pow10", Rows.laid_internal_strconv_uint64pow10), ("unicode/utf8.acceptRanges", Rows.laid_unicode_utf8_acceptRanges), ("errors.errorType", Rows.laid_errors_errorType), ("unicode/utf8.first", Rows.laid_unicode_utf8_first)]
def yX : List (String × DataW Unit) := [("math/bits.deBruijn32tab", Rows.laid_math_bits_deBruijn32tab), ("math/bits.deBruijn64tab", Rows.laid_math_bits_deBruijn64tab), ("internal/strconv.uint64pow10", Rows.laid_internal_strconv_uint64pow10), ("unicode/utf8.acceptRanges", Rows.laid_unicode_utf8_acceptRanges), ("errors.errorType", Rows.laid_errors_errorType)]
theorem jn : Tryz.prog.laidByTextLater yX [.data, .data, .data, .data, .handle] true :=
 Program.laidByTextLater_by_one 41 8 65 (by kernel_rfl) (by kernel_rfl) (by kernel_rfl) (by kernel_rfl) (by kernel_rfl) (by kernel_rfl) (fun _ _ => by kernel_rfl)
theorem jm : Tryz.pinned.checked.prog.pinnedFits "unicode/utf8.first" = true := by kernel_rfl
theorem yL : Tryz.pinned.checked.prog.headLifts.contains "ownunsafe" = false := by kernel_rfl
theorem fy : Tryz.pinned.checked.prog.listedFits bM = true := by
 unfold Program.listedFits
 rw [yL]
 kernel_rfl
theorem oE : (bM.filter fun x => x.2.handleName?.isNone) = tb := by kernel_rfl
theorem oF : (bM.filter fun x => x.2.handleName?.isSome) = [("errors.errorType", Rows.laid_errors_errorType)] := by kernel_rfl
theorem g_et : Tryz.prog.globalNamed "errors.errorType" = some 0 := by kernel_rfl
theorem g_rt : (Tryz.prog.cutTypes.find? (·.1 == "internal/reflectlite.rtype")).map (·.2) = some 225 := by kernel_rfl
theorem vN : ((List.range 279).filter fun t => Tryz.prog.rowNamed t [101, 114, 114, 111, 114]) = [130] := by kernel_rfl
theorem yp : Tryz.prog.types.size = 279 := by kernel_rfl
theorem jU {x : Int} (h : (Lit.int .u8 x).wf = true) : 0 ≤ x ∧ x ≤ 255 := by simpa [Lit.wf, IntKind.min, IntKind.max, IntKind.signed, IntKind.bits] using h
def gW (W : World) : Prop := bx W ∧ LbW W.heap.size W
theorem xu {W : World} (h' : handlesMet Tryz.prog [("errors.errorType", Rows.laid_errors_errorType)] W) : bx W := by
 obtain ⟨name, u, ty, e1, e2, e3, e4, e5⟩ := h' _ (List.mem_singleton.2 rfl)
 have en : name = [101, 114, 114, 111, 114] := (Option.some.inj e1).symm
 subst en
 obtain rfl := Option.some.inj (g_rt.symm.trans e2)
 have hm : ty ∈ (List.range 279).filter fun t => Tryz.prog.rowNamed t [101, 114, 114, 111, 114] := List.mem_filter.2 ⟨List.mem_range.2 (by rw [← yp]; exact e3), e4⟩
 rw [vN] at hm
 obtain rfl := List.mem_singleton.1 hm
 have hh : typeHandle Tryz.prog 130 = .pointer (some ⟨7, 130, none⟩) := by kernel_rfl
 rw [hh] at e5
 have := World.var?_cell g_et e5 0
 unfold bx
 simpa using this
theorem yI {W : World} (h : laidMet Tryz.prog tb W) : Lib.TabIs Tryz.prog W "internal/strconv.uint64pow10" .u64 Lib.pow10Tab :=
 Lib.tabIs_of_head (g := 2) (t := 216) (e := 170) (n := 20) (by kernel_rfl) (by kernel_rfl) (by kernel_rfl) (by kernel_rfl) (by kernel_rfl) (by kernel_rfl) h.tail.tail
theorem bf {W : World} (h : laidMetH Tryz.prog bM W) (hs : W.ShapedOpen Tryz.prog) : gW W := by
 have h' : laidMet Tryz.prog tb W ∧ handlesMet Tryz.prog [("errors.errorType", Rows.laid_errors_errorType)] W := by
  unfold laidMetH at h
  rw [oF, oE] at h
  exact h
 obtain ⟨m, hm⟩ := Tryz.laysM146.s1_3 W hs
 exact ⟨xu h'.2, Lib.tabBelow_of_tabIs (yI h'.1), World.block_lt_of_cell? _ _ hm, m, hm⟩
noncomputable def b9 (os : Os) : World :=
 let w0 := World.laidAll Tryz.prog os tb
 { w0 with heap := w0.heap.modify 0 fun
   | .cells _ t frozen => .cells #[.iface 225 (.agg #[.pointer (some ⟨7, 130, none⟩)])] t frozen
   | o => o }
theorem bH (os : Os) : (b9 os).os = os := World.laidAll_os _ _ _
theorem bm (os : Os) (args : Array Value) : laidMetH Tryz.prog bM ((b9 os).forCall (fun _ _ => 0) ⟨#[], args, []⟩).memory :=
 laidMetH_of_parts (by rw [oE]; exact laidMet_of_run' 8 (by kernel_rfl) (by kernel_rfl)) (by rw [oF]; kernel_rfl)
end
end Go.Proofs.YtfaeojmndaplcaaGreatDoor
