/- Small facts for the laws over the interface of packets. -/
import Derived.Test.YtbeiacoplhbmeaaClose
import Derived.Test.YtbeiacoplhbmeaaCovH
namespace Go.Proofs.Ytbeiacoplhbmeaa
open Go Go.RowKit
theorem eqIntS_t (v1 v2 : Value) (xs : List Int) (w : World) (h1 : SlB tInt w.heap.size w v1 xs) (h2 : SlB tInt w.heap.size w v2 xs) :
    Calls Try.prog 23 #[v1, v2] w (ok true w.heap.size w) := by
  have := eqIntS_c v1 v2 xs xs w h1 h2
  rwa [decide_eq_true rfl] at this
theorem sameInts_t (v1 v2 : Value) (xs : List Int) (w : World) (h1 : SlB tInt w.heap.size w v1 xs) (h2 : SlB tInt w.heap.size w v2 xs) :
    Calls Try.prog 27 #[v1, v2] w (ok true w.heap.size w) := by
  have := sameInts_c v1 v2 xs xs w h1 h2
  rwa [decide_eq_true rfl] at this
theorem szOf_neg {n : Nat} (h : 1048576 < n) : szOf n 1048576 = -1 := if_pos (by omega)
theorem szOf_pos {n : Nat} (h : ¬ 1048576 < n) : szOf n 1048576 = 1048576 - n := if_neg (by omega)
theorem SlB.go {α : Type} {T : Ty α} {w w' : World} {v : Value} {xs : List α} (h : SlB T w.heap.size w v xs) (hb : Below w.heap.size w w') : SlB T w'.heap.size w' v xs := (h.below hb (Nat.le_refl _)).mono hb.size
theorem bt {a b c : World} (h : Below a.heap.size a b) (k : Below b.heap.size b c) : Below a.heap.size a c := h.trans (k.mono h.size)
theorem Own.go {α : Type} {T : Ty α} {e B : Nat} {w w' : World} {v : Value} {xs : List α} {G : List Nat} (h : Own T e B w v xs G) (hb : Below w.heap.size w w') : Own T e B w' v xs G := h.below hb (Nat.le_refl _)
end Go.Proofs.Ytbeiacoplhbmeaa
