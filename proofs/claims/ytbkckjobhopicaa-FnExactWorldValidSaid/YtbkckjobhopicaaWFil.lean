/- A row of records that is being filled: made with empty places, filled one by one with new data. -/
import Derived.Test.YtbkckjobhopicaaWTo
namespace Go.Proofs.Ytbkckjobhopicaa
open Go Go.RowKit
section
variable {α : Type} {T : Ty α}
/-- the first places of a row of n are filled, the others are as 'make' laid them; its blocks are younger than the row -/
def Fil (T : Ty α) (e B : Nat) (z : Array Value) (n : Nat) (w : World) (g : Nat) (xs : List α) : Prop :=
  ∃ c1 G, w.ownsRow B e T.k (.slice (some ⟨g, 0, none⟩) n n) n (c1 ++ (madeCells z (n * T.k)).toList.drop (xs.length * T.k)) ∧ T.els w c1 xs G ∧ (∀ b ∈ G, g < b) ∧ G.Nodup
theorem made_get (z : Array Value) (k n i d : Nat) (hz : z.size = k) (hi : i < n) (hd : d < k) : (madeCells z (n * k)).toList[i * k + d]? = z[d]? := by
  have h1 : i * k + d < n * k := by
    have : (i + 1) * k ≤ n * k := Nat.mul_le_mul_right k hi
    rw [Nat.succ_mul] at this; omega
  subst hz
  simp [madeCells, h1, Nat.mod_eq_of_lt hd, Nat.mul_add_mod_self_right, hd]
theorem Fil.start {e B : Nat} {z : Array Value} {n g : Nat} {w : World} (h : w.ownsRow B e T.k (.slice (some ⟨g, 0, none⟩) n n) n (madeCells z (n * T.k)).toList) : Fil T e B z n w g [] :=
  ⟨[], [], by simpa using h, ⟨rfl, rfl⟩, (fun b hb => by cases hb), List.nodup_nil⟩
theorem Fil.at_ {e B : Nat} {z : Array Value} {n g : Nat} {w : World} {xs : List α} (h : Fil T e B z n w g xs) (hz : z.size = T.k) (hn : xs.length < n) (d : Nat) (u : Value) (hu : z[d]? = some u) :
    w.cell? ⟨g, xs.length * T.k + d, none⟩ = some u := by
  obtain ⟨c1, G, h1, h2, h3, h4⟩ := h
  have hd : d < T.k := by rw [← hz]; exact (Array.getElem?_eq_some_iff.1 hu).1
  have hl := Ty.els_len h2
  have hlt : xs.length * T.k + d < n * T.k := by
    have : (xs.length + 1) * T.k ≤ n * T.k := Nat.mul_le_mul_right _ hn
    rw [Nat.succ_mul] at this; omega
  rw [h1.cellAt _ hlt, List.getElem?_append_right (by omega), hl, List.getElem?_drop, Nat.add_sub_cancel_left, made_get z T.k n xs.length d hz hn hd]; exact hu
theorem Fil.top {e B : Nat} {z : Array Value} {n g : Nat} {w : World} {xs : List α} (h : Fil T e B z n w g xs) : B ≤ g ∧ g < w.heap.size := by
  obtain ⟨c1, G, h1, h2, h3, h4⟩ := h
  exact h1.lt g rfl
theorem Fil.frozen {e B : Nat} {z : Array Value} {n g : Nat} {w : World} {xs : List α} (h : Fil T e B z n w g xs) (j : Nat) : w.frozen? ⟨g, j, none⟩ = false := by
  obtain ⟨c1, G, h1, h2, h3, h4⟩ := h
  exact h1.frozenAt j
theorem Fil.go {e B : Nat} {z : Array Value} {n g : Nat} {w w' : World} {xs : List α} (h : Fil T e B z n w g xs) (hb : Below w.heap.size w w') : Fil T e B z n w' g xs := by
  have ht := h.top
  obtain ⟨c1, G, h1, h2, h3, h4⟩ := h
  exact ⟨c1, G, ownsRow_keep h1 (fun b hb' => by injection hb' with hb'; subst hb'; exact hb.block _ ht.2), T.els_keep h2 (fun b hb' => hb.block b (Ty.els_lt h2 b hb')), h3, h4⟩
/-- one round: whatever was made meanwhile, then the place is filled -/
theorem Fil.round {e B : Nat} {z : Array Value} {n g : Nat} {w w' : World} {xs : List α} {x : α} {cx : List Value} (h : Fil T e B z n w g xs) (hn : xs.length < n) (hb : Below w.heap.size w w') (hx : NewA T w.heap.size w' cx x) :
    Fil T e B z n (setMany w' g (xs.length * T.k) cx) g (xs ++ [x]) := by
  have ht := h.top
  obtain ⟨c1, G, h1, h2, h3, h4⟩ := h
  have hG := Ty.els_lt h2
  replace h1 := ownsRow_keep (w' := w') h1 (fun b hb' => by injection hb' with hb'; subst hb'; exact hb.block _ ht.2)
  replace h2 := T.els_keep (w' := w') h2 (fun b hb' => hb.block b (hG b hb'))
  have hg := ht.2
  obtain ⟨F, f1, f2, f3⟩ := hx
  have hl := Ty.els_len h2
  have hk := T.len f1
  have hgG : g ∉ G := fun hm => Nat.lt_irrefl _ (h3 g hm)
  have hgF : g ∉ F := fun hm => by have := f3 g hm; omega
  have hlt : (xs.length + 1) * T.k ≤ n * T.k := Nat.mul_le_mul_right _ hn
  rw [Nat.succ_mul] at hlt
  have hsz : (madeCells z (n * T.k)).toList.length = n * T.k := by simp [size_madeCells]
  refine ⟨c1 ++ cx, G ++ F, ?_, ?_, ?_, ?_⟩
  · have e1 : (madeCells z (n * T.k)).toList.drop (xs.length * T.k) = ((madeCells z (n * T.k)).toList.drop (xs.length * T.k)).take T.k ++ (madeCells z (n * T.k)).toList.drop ((xs ++ [x]).length * T.k) := by
      have := (List.take_append_drop T.k ((madeCells z (n * T.k)).toList.drop (xs.length * T.k))).symm
      rw [List.drop_drop] at this
      rw [List.length_append, List.length_singleton, Nat.succ_mul]; exact this
    rw [e1] at h1
    have := ownsRow_setMany (xs.length * T.k) cx h1
    rw [← hl, setAt_mid c1 _ _ cx (by rw [List.length_take, List.length_drop, hsz, hk]; omega), hl] at this
    rw [List.append_assoc]; exact this
  · have k1 := T.els_keep h2 (w' := setMany w' g (xs.length * T.k) cx) (fun b hb => setMany_block _ _ _ _ _ (fun e => hgG (e ▸ hb)))
    have k2 := T.keep f1 (w' := setMany w' g (xs.length * T.k) cx) (fun b hb => setMany_block _ _ _ _ _ (fun e => hgF (e ▸ hb)))
    exact Ty.els_append k1 (Ty.els_one k2)
  · intro b hb
    rcases List.mem_append.1 hb with hb | hb
    · exact h3 b hb
    · have := f3 b hb; omega
  · rw [List.nodup_append]
    exact ⟨h4, f2, fun a ha b hb e => by have := hG a ha; have := f3 b hb; omega⟩
theorem Fil.done {e B : Nat} {z : Array Value} {n g : Nat} {w : World} {xs : List α} (h : Fil T e B z n w g xs) (hn : xs.length = n) : NewS T e B w (.slice (some ⟨g, 0, none⟩) n n) xs := by
  have ht := h.top
  obtain ⟨c1, G, h1, h2, h3, h4⟩ := h
  subst hn
  have hsz : (madeCells z (xs.length * T.k)).toList.length = xs.length * T.k := by simp [size_madeCells]
  rw [List.drop_of_length_le (by omega), List.append_nil] at h1
  exact ⟨G, ⟨c1, h1, h2, fun b hb => by injection hb with hb; subst hb; exact fun hm => Nat.lt_irrefl _ (h3 _ hm)⟩, h4, fun b hb => by have := h3 b hb; omega⟩
end
end Go.Proofs.Ytbkckjobhopicaa
