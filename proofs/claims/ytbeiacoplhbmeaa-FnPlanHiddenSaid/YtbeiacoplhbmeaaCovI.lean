/- Small facts for the laws over the interface of packets. -/
import Derived.Test.YtbeiacoplhbmeaaClose
import Derived.Test.YtbeiacoplhbmeaaCovH
namespace Go.Proofs.Ytbeiacoplhbmeaa
open Go Go.RowKit
theorem eqIntS_t (v1 v2 : Value) (xs : List Int) (w : World) (h1 : SlB tInt w.heap.size w v1 xs) (h2 : SlB tInt w.heap.size w v2 xs) :
    Calls Try.prog 23 #[v1, v2] w (ok true w.heap.size w) := by
  have := eqIntS_c v1 v2 xs xs w h1 h2
  rwa [decide_eq_true rfl] at this
theorem sameInts_t (v1 v2 : Value) (xs : List Int) (w : World) (h1 : SlB tInt w.heap.size w v1 xs) (h2 : SlB tInt w.heap.size w v2 xs) :
    Calls Try.prog 27 #[v1, v2] w (ok true w.heap.size w) := by
  have := sameInts_c v1 v2 xs xs w h1 h2
  rwa [decide_eq_true rfl] at this
theorem SlB.lay {W : World} {b c : Nat} {xs : List Int} (hc : xs.length ≤ c) (hm : c ≤ maxLen) (h : ∀ i x, xs[i]? = some x → W.cell? ⟨b, i, none⟩ = some (.int .i64 x)) : SlB tInt W.heap.size W (.slice (some ⟨b, 0, none⟩) xs.length c) xs := by
  by_cases hx : xs = []
  · subst hx
    exact ⟨[], Sl.nil _ _ hm, fun b hb => by cases hb⟩
  · have h0 : 0 < xs.length := List.length_pos_iff.2 hx
    have hb : b < W.heap.size := World.block_lt_of_cell? W ⟨b, 0, none⟩ (h 0 xs[0] (List.getElem?_eq_getElem h0))
    refine ⟨[b], ⟨_, c, xs.flatMap (fun n => [.int .i64 n]), rfl, hc, hm, .inr ⟨b, 0, [], rfl, rfl, hx, hb, els_flat.2 ⟨rfl, rfl⟩, fun j u hj => ?_⟩⟩, fun b' hb' => by simp at hb'; omega⟩
    rw [flatMap_single, List.getElem?_map] at hj
    cases hxj : xs[j]? with
    | none => rw [hxj] at hj; cases hj
    | some x => rw [hxj] at hj; cases hj; rw [Nat.zero_add]; exact h j x hxj
/-- a literal list, laid in a block of its own -/
theorem lit_own (w : World) (e : Nat) (xs : List Int) (h : xs.length ≤ 100) : SlB tInt (w.alloc (.cells (xs.map (Value.int .i64)).toArray e)).heap.size (w.alloc (.cells (xs.map (Value.int .i64)).toArray e)) (.slice (some ⟨w.heap.size, 0, none⟩) xs.length xs.length) xs :=
  SlB.lay (Nat.le_refl _) (by unfold maxLen; omega) (fun i x hx => by
    rw [cell_of_row _ _ i _ e (0, 0) (heap_alloc_new w _)]
    simp [hx])
theorem lit_below (w : World) (o : Obj) : Below w.heap.size w (w.alloc o) := (Below.refl _ _).alloc (Nat.le_refl _) _
theorem szOf_neg {n : Nat} (h : 1048576 < n) : szOf n 1048576 = -1 := if_pos (by omega)
theorem szOf_pos {n : Nat} (h : ¬ 1048576 < n) : szOf n 1048576 = 1048576 - n := if_neg (by omega)
theorem SlB.go {α : Type} {T : Ty α} {w w' : World} {v : Value} {xs : List α} (h : SlB T w.heap.size w v xs) (hb : Below w.heap.size w w') : SlB T w'.heap.size w' v xs := (h.below hb (Nat.le_refl _)).mono hb.size
theorem bt {a b c : World} (h : Below a.heap.size a b) (k : Below b.heap.size b c) : Below a.heap.size a c := h.trans (k.mono h.size)
theorem Own.go {α : Type} {T : Ty α} {e B : Nat} {w w' : World} {v : Value} {xs : List α} {G : List Nat} (h : Own T e B w v xs G) (hb : Below w.heap.size w w') : Own T e B w' v xs G := h.below hb (Nat.le_refl _)
end Go.Proofs.Ytbeiacoplhbmeaa
