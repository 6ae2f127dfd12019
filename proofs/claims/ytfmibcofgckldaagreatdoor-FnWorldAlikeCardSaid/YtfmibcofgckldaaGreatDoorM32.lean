/- Texts that the last file leans on (part 32). -/
import Derived.Test.YtfmibcofgckldaaGreatDoorM12
import Derived.Test.YtfmibcofgckldaaGreatDoorM30
import Derived.Test.YtfmibcofgckldaaGreatDoorM9
set_option linter.unusedVariables false
set_option linter.unusedSimpArgs false
set_option maxHeartbeats 4000000
set_option maxRecDepth 100000
namespace Go.Proofs.YtfmibcofgckldaaGreatDoor
open Go Go.RowKit
def Bx (R : Nat → Prop) (g : Nat) (w : World) (x : Wd) : Prop :=
 ∃ a1 e1 a2 e2 a3 e3 a4 e4, w.heap[g]? = some (.cells #[.slice a1 x.mixes.length e1, .slice a2 x.sent.length e2, .slice a3 x.net.length e3, .slice a4 x.got.length e4, .int .i64 x.made, .int .i64 x.lost] 29 (0, 0)) ∧ WdR R w (.agg #[.slice a1 x.mixes.length e1, .slice a2 x.sent.length e2, .slice a3 x.net.length e3, .slice a4 x.got.length e4, .int .i64 x.made, .int .i64 x.lost]) x
section
variable {R : Nat → Prop} {g : Nat} {w w5 : World} {x y : Wd} {a1 a2 a3 a4 : Option Addr} {e1 e2 e3 e4 : Nat}
theorem Bx.put (h : Bx R g w x) (hb : Below w.heap.size w w5) (hR : ¬ R g) (h5 : WdR R w5 (.agg #[.slice a1 y.mixes.length e1, .slice a2 y.sent.length e2, .slice a3 y.net.length e3, .slice a4 y.got.length e4, .int .i64 y.made, .int .i64 y.lost]) y) :
  Bx R g ((((((w5.setCell ⟨g, 0, none⟩ (.slice a1 y.mixes.length e1)).setCell ⟨g, 1, none⟩ (.slice a2 y.sent.length e2)).setCell ⟨g, 2, none⟩ (.slice a3 y.net.length e3)).setCell ⟨g, 3, none⟩ (.slice a4 y.got.length e4)).setCell ⟨g, 4, none⟩ (.int .i64 y.made)).setCell ⟨g, 5, none⟩ (.int .i64 y.lost)) y := by
 obtain ⟨_, _, _, _, _, _, _, _, r0, _⟩ := h
 refine ⟨a1, e1, a2, e2, a3, e3, a4, e4, dy _ _ _ _ _ _ (heap_go hb r0), ?_⟩
 repeat (refine WdR.set ?_ hR)
 exact h5
theorem Bx.row (h : Bx R g w x) : g < w.heap.size := by
 obtain ⟨a1, e1, a2, e2, a3, e3, a4, e4, r0, _⟩ := h
 exact (Array.getElem?_eq_some_iff.1 r0).1
theorem Bx.go (h : Bx R g w x) (hb : Below w.heap.size w w5) : Bx R g w5 x := by
 obtain ⟨a1, e1, a2, e2, a3, e3, a4, e4, r0, r1⟩ := h
 exact ⟨a1, e1, a2, e2, a3, e3, a4, e4, heap_go hb r0, r1.go hb⟩
theorem Bx.new {W : World} (n : WdB w.heap.size w (.agg #[.slice a1 x.mixes.length e1, .slice a2 x.sent.length e2, .slice a3 x.net.length e3, .slice a4 x.got.length e4, .int .i64 x.made, .int .i64 x.lost]) x) (hg : g = w.heap.size)
  (h : w.alloc (.cells #[.slice a1 x.mixes.length e1, .slice a2 x.sent.length e2, .slice a3 x.net.length e3, .slice a4 x.got.length e4, .int .i64 x.made, .int .i64 x.lost] 29) = W) :
  Bx (bi (fun _ => True) g (g + 1)) g W x ∧ Below w.heap.size w W ∧ g < W.heap.size := by
 subst hg
 subst h
 refine ⟨⟨a1, e1, a2, e2, a3, e3, a4, e4, heap_alloc_new _ _, ?_⟩, lit_below _ _, by simp only [World.size_alloc]; omega⟩
 exact (WdR.of_wdB n (fun b hb => ⟨trivial, .inl hb⟩)).go (lit_below _ _)
end
def clmW (x : Wd) : Wd := if wdB x = true then calmW x else zWd
def nlB (g : Nat) (w : World) : Nat := match w.cell? ⟨g, 2, none⟩ with | some (.slice _ n _) => n | _ => 0
theorem calm_tr {x : Wd} (h : 0 < x.net.length) : (eE x ⟨2, 0, 0, 0⟩).net.length = x.net.length - 1 := by
 rw [calm_ev]
 cases hn : x.net with
 | nil => rw [hn] at h; simp at h
 | cons t ts => simp only [hear_net]; simp [ba]
def flN : Nat → Wd → Wd
 | 0, u => u
 | n + 1, u => cG (flN n u) n true
theorem VD.ps {x : Wd} (h : VD 0 x) : (x.net.length : Int) + aY x.mixes ≤ 4611686018427387904 := by
 have h1 := h.cnt; have h2 := h.md; have h3 := h.l0
 unfold dl at h1
 omega
end Go.Proofs.YtfmibcofgckldaaGreatDoor
