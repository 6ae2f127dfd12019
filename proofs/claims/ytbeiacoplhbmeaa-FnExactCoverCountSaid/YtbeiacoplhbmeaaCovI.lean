/- Small facts for the laws over the interface of packets. -/
import Derived.Test.YtbeiacoplhbmeaaClose
import Derived.Test.YtbeiacoplhbmeaaPath
import Derived.Test.YtbeiacoplhbmeaaCovH
namespace Go.Proofs.Ytbeiacoplhbmeaa
open Go Go.RowKit
theorem szOf_neg {n : Nat} (h : 1048576 < n) : szOf n 1048576 = -1 := if_pos (by omega)
theorem szOf_pos {n : Nat} (h : ¬ 1048576 < n) : szOf n 1048576 = 1048576 - n := if_neg (by omega)
theorem SlB.go {α : Type} {T : Ty α} {w w' : World} {v : Value} {xs : List α} (h : SlB T w.heap.size w v xs) (hb : Below w.heap.size w w') : SlB T w'.heap.size w' v xs := (h.below hb (Nat.le_refl _)).mono hb.size
theorem bt {a b c : World} (h : Below a.heap.size a b) (k : Below b.heap.size b c) : Below a.heap.size a c := h.trans (k.mono h.size)
theorem Own.go {α : Type} {T : Ty α} {e B : Nat} {w w' : World} {v : Value} {xs : List α} {G : List Nat} (h : Own T e B w v xs G) (hb : Below w.heap.size w w') : Own T e B w' v xs G := h.below hb (Nat.le_refl _)
end Go.Proofs.Ytbeiacoplhbmeaa
