/- Texts that the last file leans on (part 35). -/
import Derived.ChangeSame
import Derived.ChangeVars
import Derived.Deep.Slices
import Derived.JoinedOf
import Derived.KernelRfl
import Derived.LaidHandle
import Derived.LaidLaws
import Derived.OpenShut
import Derived.ProofKit
import Derived.RowKitTokens
import Derived.Stop.Joined
import Derived.Test.YtolgbefghbddeaaGreatDoorCards
import Derived.Test.YtolgbefghbddeaaGreatDoorM0
import Derived.Test.YtolgbefghbddeaaGreatDoorM28
import Derived.Test.YtolgbefghbddeaaGreatDoorM5
import Derived.Test.YtolgbefghbddeaaGreatDoorM6
import Derived.Test.YtolgbefghbddeaaGreatDoorRows
import Derived.Test.YtolgbefghbddeaaGreatDoorTie
import Derived.WalkKit
set_option linter.unusedVariables false
set_option linter.unusedSimpArgs false
set_option maxHeartbeats 4000000
set_option maxRecDepth 100000
namespace Go.Proofs.YtolgbefghbddeaaGreatDoor
open Go Go.RowKit
theorem gZ {x : Int} (h : (Lit.int .u8 x).wf = true) : 0 ≤ x ∧ x ≤ 255 := by simpa [Lit.wf, IntKind.min, IntKind.max, IntKind.signed, IntKind.bits] using h
theorem WdB.parts {B : Nat} {w : World} {x : Wd} {vm vs vn vg a b : Value} (h : WdB B w (.agg #[vm, vs, vn, vg, a, b]) x) : SlB tMx B w vm x.mixes ∧ SlB tLt B w vs x.sent ∧ SlB tTr B w vn x.net ∧ SlB tLt B w vg x.got := by
 obtain ⟨um, us, un, ug, e, h1, h2, h3, h4⟩ := h
 simp at e
 obtain ⟨rfl, rfl, rfl, rfl, _, _⟩ := e
 exact ⟨h1, h2, h3, h4⟩
section
open Go.ChangeShapes Go.WideShapes Go.ChangeAt Go.Deep
theorem mZ (ws : List (List Char)) : stripLifts liftWords ("cut".toList :: ws) = ([], "cut".toList :: ws) := by kernel_rfl
theorem qZ : ("cut".toList == "gc".toList) = false := by kernel_rfl
theorem rd : ("cut".toList == "spec".toList) = false := by kernel_rfl
theorem uF : ("cut".toList == "carried".toList) = false := by kernel_rfl
theorem pE {P : Program} {ws : List (List Char)} (h : behindMainWord (wordsSigns P.initOrder.toList) = "cut".toList :: ws) (h1 : P.laysLater = false) (h2 : P.bearsReflect = false) (h3 : P.doorFits [] = true) : P.mayEnter = true := by
 unfold Program.mayEnter
 rw [h]
 simp only [mZ, qZ, rd, uF, h1, h2, h3, List.head?_cons, List.contains_nil, Bool.false_and, Bool.false_or, Bool.not_false, Bool.and_true, beq_self_eq_true]
theorem nX {P : Program} {ws : List (List Char)} (h : behindMainWord (wordsSigns P.initOrder.toList) = "cut".toList :: ws) : P.headLifts = [] := by
 unfold Program.headLifts
 rw [h]
 simp only [mZ, List.head?_cons, beq_self_eq_true, if_true]
theorem mM {P : Program} {ws : List (List Char)} (h : behindMainWord (wordsSigns P.initOrder.toList) = "cut".toList :: ws) : P.liftsFinal = false := by
 unfold Program.liftsFinal
 simp only [h, nX h, List.head?_cons, List.contains_nil, Bool.or_false]
 rw [show (some "cut".toList == some "carried".toList) = false from by kernel_rfl]
 rfl
theorem uP {P : Program} {ws : List (List Char)} (h : behindMainWord (wordsSigns P.initOrder.toList) = "cut".toList :: ws) : P.make = some .cut := by
 unfold Program.make
 rw [h]
 simp only [qZ, rd, Bool.or_false, beq_self_eq_true, Bool.true_or, if_true, Bool.false_eq_true, if_false]
def dY : List Char := ([104, 97, 114, 110, 101, 115, 115] : List Nat).map Char.ofNat
def dZ : List Char := ([48, 98, 56, 56, 53, 55, 52, 101, 51, 57, 54, 54, 102, 50, 57, 97, 53, 55, 48, 48, 102, 100, 101, 53, 51, 49, 48, 98, 52, 97, 57, 100, 55, 51, 50, 53, 53, 99, 56, 54, 48, 101, 51, 99, 102, 98, 101, 49, 50, 51, 55, 48, 54, 98, 50, 51, 48, 98, 54, 98, 53, 54, 99, 51] : List Nat).map Char.ofNat
def d7 : List Char := ([99, 117, 116] : List Nat).map Char.ofNat
def dN : List Char := ([97, 116, 32, 108, 111, 111, 112, 46, 101, 120, 97, 109, 112, 108, 101, 47, 109, 105, 120, 114, 101, 108, 97, 121, 47, 108, 97, 119, 115, 46, 70, 110, 87, 111, 114, 108, 100, 75, 101, 101, 112, 115, 32, 108, 111, 111, 112, 46, 101, 120, 97, 109, 112, 108, 101, 47, 109, 105, 120, 114, 101, 108, 97, 121, 47, 108, 97, 119, 115, 46, 70, 110, 87, 111, 114, 108, 100, 75, 101, 112, 116, 32, 108, 111, 111, 112, 46, 101, 120, 97, 109, 112, 108, 101, 47, 109, 105, 120, 114, 101, 108, 97, 121, 47, 108, 97, 119, 115, 46, 70, 110, 87, 111, 114, 108, 100, 83, 101, 110, 100, 32, 108, 111, 111, 112, 46, 101, 120, 97, 109, 112, 108, 101, 47, 109, 105, 120, 114, 101, 108, 97, 121, 47, 108, 97, 119, 115, 46, 70, 110, 87, 111, 114, 108, 100, 70, 108, 117, 115, 104, 32, 108, 111, 111, 112, 46, 101, 120, 97, 109, 112, 108, 101, 47, 109, 105, 120, 114, 101, 108, 97, 121, 47, 108, 97, 119, 115, 46, 70, 110, 87, 111, 114, 108, 100, 68, 101, 108, 105, 118, 101, 114, 32, 108, 111, 111, 112, 46, 101, 120, 97, 109, 112, 108, 101, 47, 109, 105, 120, 114, 101, 108, 97, 121, 47, 108, 97, 119, 115, 46, 70, 110, 87, 111, 114, 108, 100, 76, 111, 115, 101, 32, 108, 111, 111, 112, 46, 101, 120, 97, 109, 112, 108, 101, 47, 109, 105, 120, 114, 101, 108, 97, 121, 47, 108, 97, 119, 115, 46, 70, 110, 87, 111, 114, 108, 100, 67, 104, 97, 110, 103, 101, 32, 108, 111, 111, 112, 46, 101, 120, 97, 109, 112, 108, 101, 47, 109, 105, 120, 114, 101, 108, 97, 121, 47, 108, 97, 119, 115, 46, 70, 110, 87, 111, 114, 108, 100, 85, 110, 107, 110, 111, 119, 110, 32, 108, 111, 111, 112, 46, 101, 120, 97, 109, 112, 108, 101, 47, 109, 105, 120, 114, 101, 108, 97, 121, 47, 108, 97, 119, 115, 46, 70, 110, 87, 111, 114, 108, 100, 84, 119, 105, 99, 101, 32, 108, 111, 111, 112, 46, 101, 120, 97, 109, 112, 108, 101, 47, 109, 105, 120, 114, 101, 108, 97, 121, 47, 108, 97, 119, 115, 46, 70, 110, 87, 111, 114, 108, 100, 80, 108, 97, 121, 32, 108, 111, 111, 112, 46, 101, 120, 97, 109, 112, 108, 101, 47, 109, 105, 120, 114, 101, 108, 97, 121, 47, 108, 97, 119, 115, 46, 70, 110, 67, 97, 108, 109, 86, 97, 108, 105, 100, 32, 108, 111, 111, 112, 46, 101, 120, 97, 109, 112, 108, 101, 47, 109, 105, 120, 114, 101, 108, 97, 121, 47, 108, 97, 119, 115, 46, 70, 110, 87, 111, 114, 108, 100, 73, 110, 118, 97, 108, 105, 100] : List Nat).map Char.ofNat
def rj : List Char := dY ++ Char.ofNat 32 :: (dZ ++ Char.ofNat 32 :: (d7 ++ Char.ofNat 32 :: dN))
theorem dL : Tryz.prog.initOrder = String.ofList rj := by dsimp only [Tryz.prog, Tryz.progTables]; kernel_rfl
theorem cY : rj = dY ++ Char.ofNat 32 :: (dZ ++ Char.ofNat 32 :: (d7 ++ Char.ofNat 32 :: dN)) := rfl
theorem ax (w : List Char) (hw : w.all (fun c => c != Char.ofNat 32) = true) (r : List Char) : wordsSigns (w ++ Char.ofNat 32 :: r) = w :: wordsSigns r := by
 induction w with
 | nil => rfl
 | cons c w ih =>
  simp only [List.all_cons, Bool.and_eq_true, bne_iff_ne, ne_eq] at hw
  have h := ih hw.2
  rw [List.cons_append, wordsSigns.eq_3 _ _ (fun e => hw.1 e), h]
theorem iZ : behindMainWord (wordsSigns Tryz.prog.initOrder.toList) = "cut".toList :: wordsSigns dN := by
 rw [dL, String.toList_ofList, cY, ax dY (by kernel_rfl), ax dZ (by kernel_rfl), ax d7 (by kernel_rfl)]
 generalize wordsSigns dN = ws
 kernel_rfl
theorem ci : Tryz.prog.mayEnter = true := pE iZ (by kernel_rfl) (by kernel_rfl) (by kernel_rfl)
theorem cj : Tryz.prog.liftsFinal = false := mM iZ
theorem cM : Tryz.prog.make = some .cut := uP iZ
theorem du : ownKnob Tryz.prog.godebug = none := by kernel_rfl
theorem bS : laidOutB Tryz.prog = true := by kernel_rfl
def oU {α : Type} (P : Program) (T : Ty α) (t : TypeId) (fit : α → Prop) : Prop :=
 ∀ {H : Type} (enc : TypeId × Value → H) (w : World) (spare : Nat → Bool) (held : Bool) (fuel : Nat) (cs : List Value) (x : DataW H × List MemPlace),
  DataW.trod enc P w 0 spare held fuel t cs = some x → ∃ d F, T.E w cs d F ∧ fit d
section
variable {α : Type} {P : Program}
theorem sH {k : IntKind} {t : TypeId} (T : Ty Int) (hT : ∀ w n, T.E w [.int k n] n []) (ht : P.underlying t = some (.int k)) : oU P T t (fun n => (Lit.int k n).wf = true) := by
 intro H enc w spare held fuel cs x h
 obtain ⟨n, rfl, _, hn⟩ := DataW.trod_int ht h
 exact ⟨n, [], hT w n, hn⟩
theorem pK {T : Ty α} {t e : TypeId} {fit : α → Prop} (ho : oU P T e fit) (ht : P.underlying t = some (.slice e)) (hc : P.cellsOf e = T.k) (hk : 0 < T.k) : oU P T.sl t (fun xs => ∀ x ∈ xs, fit x) := by
 intro H enc w spare held fuel cs x h
 rcases open_slice ht h with ⟨rfl, _⟩ | ⟨a, len, cap, m, n, D, Pl, rfl, _, hlc, hcm, hm, _, hi⟩
 ·exact ⟨[], [], ⟨_, rfl, Sl.nil _ _ (by simp [maxLen])⟩, fun x hx => by cases hx⟩
 ·have hlm : len ≤ m := by rw [hm]; split <;> omega
  rw [hc] at hi
  have key : ∀ l, l ≤ len → ∃ (xs : List α) (F : List Nat) (css : List Value), xs.length = l ∧ T.els w css xs F ∧ (∀ x ∈ xs, fit x) ∧ ∀ j u, css[j]? = some u → w.cell? (a.add j) = some u := by
   intro l
   induction l with
   | zero => intro _; exact ⟨[], [], [], rfl, Ty.els_nil, (fun x hx => by cases hx), (fun j u hj => by cases hj)⟩
   | succ l ih =>
    intro hl
    obtain ⟨xs, F, css, h1, h2, h3, h4⟩ := ih (by omega)
    obtain ⟨cs', hcs, htr⟩ := hi l (by omega)
    obtain ⟨d, G, hE, hfit⟩ := ho enc w spare held n cs' _ htr
    obtain ⟨_, hcl, hat⟩ := World.cells?_some hcs
    refine ⟨xs ++ [d], F ++ G, css ++ cs', by simp [h1], Ty.els_append h2 (Ty.els_one hE), fun x hx => ?_, fun j u hj => ?_⟩
    ·rcases List.mem_append.1 hx with hx | hx
     ·exact h3 x hx
     ·rw [List.mem_singleton.1 hx]; exact hfit
    ·have hcl' := Ty.els_len h2
     rw [h1] at hcl'
     by_cases hjl : j < css.length
     ·rw [List.getElem?_append_left hjl] at hj; exact h4 j u hj
     ·rw [List.getElem?_append_right (by omega)] at hj
      have hj2 := (List.getElem?_eq_some_iff.1 hj).1
      have := hat (j - css.length) (by omega)
      rw [hj] at this
      rw [Deep.add_add] at this
      rw [show l * T.k + (j - css.length) = j from by omega] at this
      exact this
  obtain ⟨xs, F, css, h1, h2, h3, h4⟩ := key len (Nat.le_refl _)
  subst h1
  by_cases hx : xs = []
  ·subst hx
   exact ⟨[], [], ⟨_, rfl, Sl.nil _ _ hcm⟩, h3⟩
  ·have hl0 : 0 < css.length := by rw [Ty.els_len h2]; exact Nat.mul_pos (List.length_pos_iff.2 hx) hk
   have hc0 := h4 0 _ (List.getElem?_eq_getElem hl0)
   obtain ⟨b, o, s⟩ := a
   have hs : s = none := by
    cases s with
    | none => rfl
    | some s => simp [Addr.add, World.cell?] at hc0; split at hc0 <;> simp at hc0
   subst hs
   have hb : b < w.heap.size := by
    have := World.block_lt_of_cell? w _ hc0
    simpa [Addr.add] using this
   refine ⟨xs, b :: F, ⟨_, rfl, ⟨_, cap, css, rfl, hlc, hcm, .inr ⟨b, o, F, rfl, rfl, hx, hb, h2, fun j u hj => ?_⟩⟩⟩, h3⟩
   have := h4 j u hj
   rcases Nat.eq_zero_or_pos j with h | h
   ·subst h; simpa [Addr.add] using this
   ·simpa [Addr.add, Nat.ne_of_gt h] using this
end
theorem bG {α : Type} {T : Ty α} {t e : TypeId} {fit : List α → Prop} (ho : oU Tryz.prog T.sl t fit) (ht : Tryz.prog.underlying t = some (.slice e)) {H : Type} {enc : TypeId × Value → H} {W : World} {base : Nat} {spare : Nat → Bool} {held : Bool} {v : Value} {d : DataW H} {p : List MemPlace}
  (hv : Value.okWide Tryz.prog W .any base t v) (h : DataW.Trod enc Tryz.prog W 0 spare held t v d p) : ∃ xs, SlB T W.heap.size W v xs ∧ fit xs := by
 obtain ⟨a, l, c, rfl⟩ := okWide_slice ht hv
 obtain ⟨fuel, hf⟩ := h
 obtain ⟨xs, F, ⟨v', hv', hs⟩, hfit⟩ := ho enc W spare held fuel _ _ hf
 simp [Value.cells] at hv'
 subst hv'
 exact ⟨xs, ⟨F, hs, hs.lt⟩, hfit⟩
theorem aZ : oU Tryz.prog cR.sl 22 (fun xs => ∀ x ∈ xs, (Lit.int .u8 x).wf = true) :=
 pK (sH cR (fun _ _ => ⟨rfl, rfl⟩) Tryz.underlying5) Tryz.underlying22 (by kernel_rfl) (by decide)
end
section
open Go.ChangeShapes Go.WideShapes Go.ChangeAt Go.Deep
def bN : List (String × DataW Unit) := [("errors.errorType", Rows.laid_errors_errorType)]
theorem g_et : Tryz.prog.globalNamed "errors.errorType" = some 0 := by kernel_rfl
theorem g_rt : (Tryz.prog.cutTypes.find? (·.1 == "internal/reflectlite.rtype")).map (·.2) = some 165 := by kernel_rfl
theorem tC : ((List.range 218).filter fun t => Tryz.prog.rowNamed t [101, 114, 114, 111, 114]) = [110] := by kernel_rfl
theorem vS : Tryz.prog.types.size = 218 := by kernel_rfl
def kG (W : World) : Prop := W.cell? ⟨0, 0, none⟩ = some (.iface 165 (.agg #[.pointer (some ⟨1, 110, none⟩)]))
theorem bi {W : World} (h : laidMetH Tryz.prog bN W) : kG W := by
 have h' : laidMet Tryz.prog [] W ∧ handlesMet Tryz.prog bN W := h
 obtain ⟨name, u, ty, e1, e2, e3, e4, e5⟩ := h'.2 _ (List.mem_singleton.2 rfl)
 have en : name = [101, 114, 114, 111, 114] := (Option.some.inj e1).symm
 subst en
 obtain rfl := Option.some.inj (g_rt.symm.trans e2)
 have hm : ty ∈ (List.range 218).filter fun t => Tryz.prog.rowNamed t [101, 114, 114, 111, 114] := List.mem_filter.2 ⟨List.mem_range.2 (by rw [← vS]; exact e3), e4⟩
 rw [tC] at hm
 obtain rfl := List.mem_singleton.1 hm
 have hh : typeHandle Tryz.prog 110 = .pointer (some ⟨1, 110, none⟩) := by kernel_rfl
 rw [hh] at e5
 have := World.var?_cell g_et e5 0
 unfold kG
 simpa using this
noncomputable def cG (os : Os) : World :=
 let w0 := World.holding Tryz.prog os ⟨#[], #[], []⟩
 { w0 with heap := w0.heap.modify 0 fun
   | .cells _ t frozen => .cells #[.iface 165 (.agg #[.pointer (some ⟨1, 110, none⟩)])] t frozen
   | o => o }
theorem bx (os : Os) (args : Array Value) : laidMetH Tryz.prog bN ((cG os).forCall (fun _ _ => 0) ⟨#[], args, []⟩).memory :=
 laidMetH_of_parts (laidMet_nil _ _) (by kernel_rfl)
end
end Go.Proofs.YtolgbefghbddeaaGreatDoor
