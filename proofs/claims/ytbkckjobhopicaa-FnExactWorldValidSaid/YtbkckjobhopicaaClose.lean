/- From a law's arguments, as the row reads them, to the words of this seat's walks. -/
import Derived.Test.YtbkckjobhopicaaRows
import Derived.Test.YtbkckjobhopicaaMem
import Derived.WalkKit
import Derived.ProofKit
import Derived.OpenShut
import Derived.Deep.Slices
import Derived.ChangeSame
import Derived.JoinedOf
import Derived.KernelRfl
namespace Go.Proofs.Ytbkckjobhopicaa
open Go Go.RowKit Go.ChangeShapes Go.WideShapes Go.ChangeAt Go.Deep

theorem cut_strip (ws : List (List Char)) : stripLifts liftWords ("cut".toList :: ws) = ([], "cut".toList :: ws) := by kernel_rfl
theorem cut_ne1 : ("cut".toList == "gc".toList) = false := by kernel_rfl
theorem cut_ne2 : ("cut".toList == "spec".toList) = false := by kernel_rfl
theorem cut_ne3 : ("cut".toList == "carried".toList) = false := by kernel_rfl
theorem mayEnter_of {P : Program} {ws : List (List Char)} (h : behindMainWord (wordsSigns P.initOrder.toList) = "cut".toList :: ws) (h1 : P.laysLater = false) (h2 : P.bearsReflect = false) (h3 : P.doorFits [] = true) : P.mayEnter = true := by
  unfold Program.mayEnter
  rw [h]
  simp only [cut_strip, cut_ne1, cut_ne2, cut_ne3, h1, h2, h3, List.head?_cons, List.contains_nil, Bool.false_and, Bool.false_or, Bool.not_false, Bool.and_true, beq_self_eq_true]
theorem headLifts_of {P : Program} {ws : List (List Char)} (h : behindMainWord (wordsSigns P.initOrder.toList) = "cut".toList :: ws) : P.headLifts = [] := by
  unfold Program.headLifts
  rw [h]
  simp only [cut_strip, List.head?_cons, beq_self_eq_true, if_true]
theorem liftsFinal_of {P : Program} {ws : List (List Char)} (h : behindMainWord (wordsSigns P.initOrder.toList) = "cut".toList :: ws) : P.liftsFinal = false := by
  unfold Program.liftsFinal
  simp only [h, headLifts_of h, List.head?_cons, List.contains_nil, Bool.or_false]
  rw [show (some "cut".toList == some "carried".toList) = false from by kernel_rfl]
  rfl
theorem make_of {P : Program} {ws : List (List Char)} (h : behindMainWord (wordsSigns P.initOrder.toList) = "cut".toList :: ws) : P.make = some .cut := by
  unfold Program.make
  rw [h]
  simp only [cut_ne1, cut_ne2, Bool.or_false, beq_self_eq_true, Bool.true_or, if_true, Bool.false_eq_true, if_false]
/-- the head of the translation, word by word (as numbers) -/
def headW0 : List Char := ([104, 97, 114, 110, 101, 115, 115] : List Nat).map Char.ofNat
def headW1 : List Char := ([98, 56, 54, 52, 52, 99, 97, 98, 48, 52, 101, 100, 97, 97, 102, 97, 48, 99, 97, 49, 48, 50, 55, 100, 52, 100, 49, 52, 54, 99, 101, 56, 49, 101, 49, 52, 100, 50, 49, 53, 52, 52, 52, 49, 98, 51, 97, 49, 49, 97, 100, 99, 52, 52, 102, 55, 49, 56, 55, 50, 101, 98, 98, 55] : List Nat).map Char.ofNat
def headW2 : List Char := ([99, 117, 116] : List Nat).map Char.ofNat
def headW3 : List Char := ([97, 116, 32, 108, 111, 111, 112, 46, 101, 120, 97, 109, 112, 108, 101, 47, 109, 105, 120, 114, 101, 108, 97, 121, 47, 108, 97, 119, 115, 46, 70, 110, 87, 111, 114, 108, 100, 78, 101, 119, 32, 108, 111, 111, 112, 46, 101, 120, 97, 109, 112, 108, 101, 47, 109, 105, 120, 114, 101, 108, 97, 121, 47, 108, 97, 119, 115, 46, 70, 110, 69, 120, 97, 99, 116, 87, 111, 114, 108, 100, 78, 101, 119, 32, 108, 111, 111, 112, 46, 101, 120, 97, 109, 112, 108, 101, 47, 109, 105, 120, 114, 101, 108, 97, 121, 47, 108, 97, 119, 115, 46, 70, 110, 69, 120, 97, 99, 116, 87, 111, 114, 108, 100, 86, 97, 108, 105, 100] : List Nat).map Char.ofNat
def headAll : List Char := ([104, 97, 114, 110, 101, 115, 115, 32, 98, 56, 54, 52, 52, 99, 97, 98, 48, 52, 101, 100, 97, 97, 102, 97, 48, 99, 97, 49, 48, 50, 55, 100, 52, 100, 49, 52, 54, 99, 101, 56, 49, 101, 49, 52, 100, 50, 49, 53, 52, 52, 52, 49, 98, 51, 97, 49, 49, 97, 100, 99, 52, 52, 102, 55, 49, 56, 55, 50, 101, 98, 98, 55, 32, 99, 117, 116, 32, 97, 116, 32, 108, 111, 111, 112, 46, 101, 120, 97, 109, 112, 108, 101, 47, 109, 105, 120, 114, 101, 108, 97, 121, 47, 108, 97, 119, 115, 46, 70, 110, 87, 111, 114, 108, 100, 78, 101, 119, 32, 108, 111, 111, 112, 46, 101, 120, 97, 109, 112, 108, 101, 47, 109, 105, 120, 114, 101, 108, 97, 121, 47, 108, 97, 119, 115, 46, 70, 110, 69, 120, 97, 99, 116, 87, 111, 114, 108, 100, 78, 101, 119, 32, 108, 111, 111, 112, 46, 101, 120, 97, 109, 112, 108, 101, 47, 109, 105, 120, 114, 101, 108, 97, 121, 47, 108, 97, 119, 115, 46, 70, 110, 69, 120, 97, 99, 116, 87, 111, 114, 108, 100, 86, 97, 108, 105, 100] : List Nat).map Char.ofNat
theorem head_eq : Try.prog.initOrder = String.ofList headAll := by dsimp only [Try.prog, Try.progTables]; kernel_rfl
theorem head_cut : headAll = headW0 ++ Char.ofNat 32 :: (headW1 ++ Char.ofNat 32 :: (headW2 ++ Char.ofNat 32 :: headW3)) := by kernel_rfl
theorem words_cons (w : List Char) (hw : w.all (fun c => c != Char.ofNat 32) = true) (r : List Char) : wordsSigns (w ++ Char.ofNat 32 :: r) = w :: wordsSigns r := by
  induction w with
  | nil => rfl
  | cons c w ih =>
    simp only [List.all_cons, Bool.and_eq_true, bne_iff_ne, ne_eq] at hw
    have h := ih hw.2
    rw [List.cons_append, wordsSigns.eq_3 _ _ (fun e => hw.1 e), h]
theorem head_words : behindMainWord (wordsSigns Try.prog.initOrder.toList) = "cut".toList :: wordsSigns headW3 := by
  rw [head_eq, String.toList_ofList, head_cut, words_cons headW0 (by kernel_rfl), words_cons headW1 (by kernel_rfl), words_cons headW2 (by kernel_rfl)]
  generalize wordsSigns headW3 = ws
  kernel_rfl
theorem fact_enter : Try.prog.mayEnter = true := mayEnter_of head_words (by kernel_rfl) (by kernel_rfl) (by kernel_rfl)
theorem fact_final : Try.prog.liftsFinal = false := liftsFinal_of head_words
theorem fact_make : Try.prog.make = some .cut := make_of head_words
theorem own_knob : ownKnob Try.prog.godebug = none := by kernel_rfl
theorem laid_out : laidOutB Try.prog = true := by kernel_rfl

/-- whatever reads at type t has cells of the type T, and its datum is fit -/
def Opens {α : Type} (P : Program) (T : Ty α) (t : TypeId) (fit : α → Prop) : Prop :=
  ∀ {H : Type} (enc : TypeId × Value → H) (w : World) (spare : Nat → Bool) (held : Bool) (fuel : Nat) (cs : List Value) (x : DataW H × List MemPlace),
    DataW.trod enc P w 0 spare held fuel t cs = some x → ∃ d F, T.E w cs d F ∧ fit d

section
variable {α : Type} {P : Program}
theorem opens_int {k : IntKind} {t : TypeId} (T : Ty Int) (hT : ∀ w n, T.E w [.int k n] n []) (ht : P.underlying t = some (.int k)) : Opens P T t (fun n => (Lit.int k n).wf = true) := by
  intro H enc w spare held fuel cs x h
  obtain ⟨n, rfl, _, hn⟩ := DataW.trod_int ht h
  exact ⟨n, [], hT w n, hn⟩
theorem opens_bool {t : TypeId} (ht : P.underlying t = some .bool) : Opens P tBool t (fun _ => True) := by
  intro H enc w spare held fuel cs x h
  obtain ⟨n, rfl, _⟩ := DataW.trod_bool ht h
  exact ⟨n, [], ⟨rfl, rfl⟩, trivial⟩
theorem opens_two {t e : TypeId} {f0 f1 : Field} (ht : P.underlying t = some (.struct #[f0, f1])) (h0 : f0.type = e) (h1 : f1.type = e) (o0 : f0.offset = 0) (o1 : f1.offset = 1) (hc : P.cellsOf e = 1) (h2 : P.cellsOf t = 2) (he : P.underlying e = some (.int .i64)) :
    Opens P tTwo t (fun x => (Lit.int .i64 x.1).wf = true ∧ (Lit.int .i64 x.2).wf = true) := by
  intro H enc w spare held fuel cs x h
  obtain ⟨xs, n, _, _, hl, hxl, hf⟩ := DataW.trod_struct ht h
  rw [h2] at hl
  match cs, hl with
  | [c0, c1], _ =>
    have a0 := hf 0 f0 rfl
    have a1 := hf 1 f1 rfl
    rw [h0, o0, hc] at a0
    rw [h1, o1, hc] at a1
    match xs, hxl with
    | [x0, x1], _ =>
      obtain ⟨m0, e0, _, w0⟩ := DataW.trod_int he a0
      obtain ⟨m1, e1, _, w1⟩ := DataW.trod_int he a1
      simp at e0 e1
      subst e0 e1
      exact ⟨(m0, m1), [], ⟨rfl, rfl⟩, w0, w1⟩
theorem opens_slice {T : Ty α} {t e : TypeId} {fit : α → Prop} (ho : Opens P T e fit) (ht : P.underlying t = some (.slice e)) (hc : P.cellsOf e = T.k) (hk : 0 < T.k) : Opens P T.sl t (fun xs => ∀ x ∈ xs, fit x) := by
  intro H enc w spare held fuel cs x h
  rcases open_slice ht h with ⟨rfl, _⟩ | ⟨a, len, cap, m, n, D, Pl, rfl, _, hlc, hcm, hm, _, hi⟩
  · exact ⟨[], [], ⟨_, rfl, Sl.nil _ _ (by simp [maxLen])⟩, fun x hx => by cases hx⟩
  · have hlm : len ≤ m := by rw [hm]; split <;> omega
    rw [hc] at hi
    have key : ∀ l, l ≤ len → ∃ (xs : List α) (F : List Nat) (css : List Value), xs.length = l ∧ T.els w css xs F ∧ (∀ x ∈ xs, fit x) ∧ ∀ j u, css[j]? = some u → w.cell? (a.add j) = some u := by
      intro l
      induction l with
      | zero => intro _; exact ⟨[], [], [], rfl, Ty.els_nil, (fun x hx => by cases hx), (fun j u hj => by cases hj)⟩
      | succ l ih =>
        intro hl
        obtain ⟨xs, F, css, h1, h2, h3, h4⟩ := ih (by omega)
        obtain ⟨cs', hcs, htr⟩ := hi l (by omega)
        obtain ⟨d, G, hE, hfit⟩ := ho enc w spare held n cs' _ htr
        obtain ⟨_, hcl, hat⟩ := World.cells?_some hcs
        refine ⟨xs ++ [d], F ++ G, css ++ cs', by simp [h1], Ty.els_append h2 (Ty.els_one hE), fun x hx => ?_, fun j u hj => ?_⟩
        · rcases List.mem_append.1 hx with hx | hx
          · exact h3 x hx
          · rw [List.mem_singleton.1 hx]; exact hfit
        · have hcl' := Ty.els_len h2
          rw [h1] at hcl'
          by_cases hjl : j < css.length
          · rw [List.getElem?_append_left hjl] at hj; exact h4 j u hj
          · rw [List.getElem?_append_right (by omega)] at hj
            have hj2 := (List.getElem?_eq_some_iff.1 hj).1
            have := hat (j - css.length) (by omega)
            rw [hj] at this
            rw [Deep.add_add] at this
            rw [show l * T.k + (j - css.length) = j from by omega] at this
            exact this
    obtain ⟨xs, F, css, h1, h2, h3, h4⟩ := key len (Nat.le_refl _)
    subst h1
    by_cases hx : xs = []
    · subst hx
      exact ⟨[], [], ⟨_, rfl, Sl.nil _ _ hcm⟩, h3⟩
    · have hl0 : 0 < css.length := by rw [Ty.els_len h2]; exact Nat.mul_pos (List.length_pos_iff.2 hx) hk
      have hc0 := h4 0 _ (List.getElem?_eq_getElem hl0)
      obtain ⟨b, o, s⟩ := a
      have hs : s = none := by
        cases s with
        | none => rfl
        | some s => simp [Addr.add, World.cell?] at hc0; split at hc0 <;> simp at hc0
      subst hs
      have hb : b < w.heap.size := by
        have := World.block_lt_of_cell? w _ hc0
        simpa [Addr.add] using this
      refine ⟨xs, b :: F, ⟨_, rfl, ⟨_, cap, css, rfl, hlc, hcm, .inr ⟨b, o, F, rfl, rfl, hx, hb, h2, fun j u hj => ?_⟩⟩⟩, h3⟩
      have := h4 j u hj
      rcases Nat.eq_zero_or_pos j with h | h
      · subst h; simpa [Addr.add] using this
      · simpa [Addr.add, Nat.ne_of_gt h] using this
end

set_option maxRecDepth 100000 in
theorem opn_slice {α : Type} {T : Ty α} {t e : TypeId} {fit : List α → Prop} (ho : Opens Try.prog T.sl t fit) (ht : Try.prog.underlying t = some (.slice e)) {H : Type} {enc : TypeId × Value → H} {W : World} {base : Nat} {spare : Nat → Bool} {held : Bool} {v : Value} {d : DataW H} {p : List MemPlace}
    (hv : Value.okWide Try.prog W .any base t v) (h : DataW.Trod enc Try.prog W 0 spare held t v d p) : ∃ xs, SlB T W.heap.size W v xs ∧ fit xs := by
  obtain ⟨a, l, c, rfl⟩ := okWide_slice ht hv
  obtain ⟨fuel, hf⟩ := h
  obtain ⟨xs, F, ⟨v', hv', hs⟩, hfit⟩ := ho enc W spare held fuel _ _ hf
  simp [Value.cells] at hv'
  subst hv'
  exact ⟨xs, ⟨F, hs, hs.lt⟩, hfit⟩
theorem opens_ints : Opens Try.prog tInt.sl 43 (fun xs => ∀ x ∈ xs, (Lit.int .i64 x).wf = true) :=
  opens_slice (opens_int tInt (fun _ _ => ⟨rfl, rfl⟩) Try.underlying3) Try.underlying43 (by kernel_rfl) (by decide)
theorem opens_bytes : Opens Try.prog tByte.sl 22 (fun xs => ∀ x ∈ xs, (Lit.int .u8 x).wf = true) :=
  opens_slice (opens_int tByte (fun _ _ => ⟨rfl, rfl⟩) Try.underlying5) Try.underlying22 (by kernel_rfl) (by decide)
end Go.Proofs.Ytbkckjobhopicaa
