/- Slices of records that a call makes and fills one by one. -/
import Derived.Test.YtbkckjobhopicaaWTy
namespace Go.Proofs.Ytbkckjobhopicaa
open Go Go.RowKit
/-- cells written one behind the other -/
def setMany (w : World) (g : Nat) : Nat → List Value → World
  | _, [] => w
  | o, u :: us => setMany (w.setCell ⟨g, o, none⟩ u) g (o + 1) us
def setAt : List Value → Nat → List Value → List Value
  | cs, _, [] => cs
  | cs, o, u :: us => setAt (cs.set o u) (o + 1) us
theorem setAt_mid (c1 c2 c3 cx : List Value) (h : c2.length = cx.length) : setAt (c1 ++ (c2 ++ c3)) c1.length cx = c1 ++ (cx ++ c3) := by
  induction cx generalizing c1 c2 with
  | nil =>
    obtain rfl : c2 = [] := List.eq_nil_of_length_eq_zero h
    rfl
  | cons u us ih =>
    cases c2 with
    | nil => simp at h
    | cons y ys =>
      have e : (c1 ++ (y :: ys ++ c3)).set c1.length u = (c1 ++ [u]) ++ (ys ++ c3) := by
        rw [List.set_append_right _ _ (Nat.le_refl _), Nat.sub_self]; simp
      have := ih (c1 ++ [u]) ys (by simpa using h)
      rw [setAt, e]
      rw [show (c1 ++ [u]).length = c1.length + 1 from by simp] at this
      rw [this]; simp
theorem ownsRow_setMany {w : World} {e B k g n c : Nat} {cs : List Value} (o : Nat) (us : List Value) (h : w.ownsRow B e k (.slice (some ⟨g, 0, none⟩) n c) n cs) : (setMany w g o us).ownsRow B e k (.slice (some ⟨g, 0, none⟩) n c) n (setAt cs o us) := by
  induction us generalizing w cs o with
  | nil => exact h
  | cons u us ih => exact ih (o + 1) (ownsRow_set h o u)
theorem setMany_block (w : World) (g o : Nat) (us : List Value) (b : Nat) (h : b ≠ g) : (setMany w g o us).heap[b]? = w.heap[b]? := by
  induction us generalizing w o with
  | nil => rfl
  | cons u us ih => exact (ih _ _).trans (Below.heap_setCell _ _ _ _ (fun e => h (by rw [e])))
theorem setMany_below {B : Nat} {w w' : World} (h : Below B w w') (g o : Nat) (us : List Value) (hg : B ≤ g) : Below B w (setMany w' g o us) := by
  induction us generalizing w' o with
  | nil => exact h
  | cons u us ih => exact ih (h.setCell hg _) _
section
variable {α : Type} {T : Ty α}
theorem els_append_inv {w : World} {cs : List Value} {xs ys : List α} {F : List Nat} (h : T.els w cs (xs ++ ys) F) : ∃ c1 c2 F1 F2, cs = c1 ++ c2 ∧ F = F1 ++ F2 ∧ T.els w c1 xs F1 ∧ T.els w c2 ys F2 := by
  induction xs generalizing cs F with
  | nil => exact ⟨[], cs, [], F, rfl, rfl, ⟨rfl, rfl⟩, h⟩
  | cons x xs ih =>
    obtain ⟨c1, c2, F1, F2, rfl, rfl, h1, h2⟩ := h
    obtain ⟨d1, d2, G1, G2, rfl, rfl, k1, k2⟩ := ih h2
    exact ⟨c1 ++ d1, d2, F1 ++ G1, G2, by simp, by simp, ⟨c1, d1, F1, G1, rfl, rfl, h1, k1⟩, k2⟩
/-- the zero datum z names no block -/
theorem els_zeros {z : α} (hz : ∀ {w cs F}, T.E w cs z F → F = []) {w : World} {cs : List Value} {m : Nat} {F : List Nat} (h : T.els w cs (List.replicate m z) F) : F = [] := by
  induction m generalizing cs F with
  | zero => exact h.2
  | succ m ih =>
    rw [List.replicate_succ] at h
    obtain ⟨c1, c2, F1, F2, rfl, rfl, h1, h2⟩ := h
    rw [hz h1, ih h2]; rfl
theorem Own.fill {z : α} (hz : ∀ {w cs F}, T.E w cs z F → F = []) {e B g n c j : Nat} {w : World} {xs : List α} {G F : List Nat} {x : α} {cx : List Value}
    (h : Own T e B w (.slice (some ⟨g, 0, none⟩) n c) (xs.take j ++ List.replicate (xs.length - j) z) G) (hx : xs[j]? = some x) (hE : T.E w cx x F) (hg : g ∉ F) :
    Own T e B (setMany w g (j * T.k) cx) (.slice (some ⟨g, 0, none⟩) n c) (xs.take (j + 1) ++ List.replicate (xs.length - (j + 1)) z) (G ++ F) := by
  have hj : j < xs.length := (List.getElem?_eq_some_iff.1 hx).1
  have hn := h.len
  have hl1 : (xs.take j ++ List.replicate (xs.length - j) z).length = xs.length := by simp; omega
  have hl2 : (xs.take (j + 1) ++ List.replicate (xs.length - (j + 1)) z).length = xs.length := by simp; omega
  rw [hl1] at hn
  subst hn
  obtain ⟨cs, h1, h2, h3⟩ := h
  rw [hl1] at h1
  rw [show xs.length - j = (xs.length - (j + 1)) + 1 from by omega, List.replicate_succ] at h2
  obtain ⟨c1, c2, F1, F2, rfl, rfl, k1, k2⟩ := els_append_inv h2
  obtain ⟨cz, c3, Fz, F3, rfl, rfl, kz, k3⟩ := k2
  obtain rfl := hz kz
  obtain rfl := els_zeros hz k3
  have hc1 : c1.length = j * T.k := by rw [Ty.els_len k1, List.length_take, Nat.min_eq_left (by omega)]
  have hcz : cz.length = cx.length := by rw [T.len kz, T.len hE]
  have hgF1 : g ∉ F1 := fun hm => h3 g rfl (by simp [hm])
  refine ⟨c1 ++ (cx ++ c3), ?_, ?_, ?_⟩
  · have := ownsRow_setMany (j * T.k) cx h1
    rw [← hc1, setAt_mid c1 cz c3 cx hcz, hc1] at this
    rw [hl2]; exact this
  · have e1 := T.els_keep k1 (w' := setMany w g (j * T.k) cx) (fun b hb => setMany_block _ _ _ _ _ (fun e => hgF1 (e ▸ hb)))
    have e2 := T.keep hE (w' := setMany w g (j * T.k) cx) (fun b hb => setMany_block _ _ _ _ _ (fun e => hg (e ▸ hb)))
    have e3 := T.els_keep k3 (w' := setMany w g (j * T.k) cx) (fun b hb => by cases hb)
    have := Ty.els_append (Ty.els_append e1 (Ty.els_one e2)) e3
    rw [take_ex hx]
    simpa using this
  · intro b hb hm
    injection hb with hb
    subst hb
    rcases List.mem_append.1 hm with hm | hm
    · exact hgF1 (by simpa using hm)
    · exact hg hm
end
end Go.Proofs.Ytbkckjobhopicaa
