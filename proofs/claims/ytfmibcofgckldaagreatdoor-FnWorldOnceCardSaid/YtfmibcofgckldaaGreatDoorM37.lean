/- Texts that the last file leans on (part 37). -/
import Derived.Test.YtfmibcofgckldaaGreatDoorM31
import Derived.Test.YtfmibcofgckldaaGreatDoorM35
import Derived.Test.YtfmibcofgckldaaGreatDoorM6
set_option linter.unusedVariables false
set_option linter.unusedSimpArgs false
set_option maxHeartbeats 4000000
set_option maxRecDepth 100000
namespace Go.Proofs.YtfmibcofgckldaaGreatDoor
open Go Go.RowKit
theorem g9 {evs : List Ev} (h : decide (evs.length ≤ 80) = true) : plW evs = b6 evs := by
 unfold plW; rw [if_pos (of_decide_eq_true h)]
theorem yB {x y : Lt} (h1 : x.fr = y.fr) (h2 : x.to = y.to) (h3 : x.num = y.num) : x = y := by
 cases x; cases y; cases h1; cases h2; cases h3; rfl
theorem WdB.parts {B : Nat} {w : World} {x : Wd} {vm vs vn vg a b : Value} (h : WdB B w (.agg #[vm, vs, vn, vg, a, b]) x) : SlB tMx B w vm x.mixes ∧ SlB tLt B w vs x.sent ∧ SlB tTr B w vn x.net ∧ SlB tLt B w vg x.got := by
 obtain ⟨um, us, un, ug, e, h1, h2, h3, h4⟩ := h
 simp at e
 obtain ⟨rfl, rfl, rfl, rfl, _, _⟩ := e
 exact ⟨h1, h2, h3, h4⟩
theorem xE {α : Type} {l : List α} (h : l.Nodup) {k : Nat} {z : α} (hz : l[k]? = some z) : z ∉ l.take k := by
 intro hm
 obtain ⟨i, hi⟩ := List.getElem?_of_mem hm
 have hik : i < k := by
  have := (List.getElem?_eq_some_iff.1 hi).1
  simp at this; omega
 rw [List.getElem?_take_of_lt hik] at hi
 obtain ⟨h1, h2⟩ := List.getElem?_eq_some_iff.1 hi
 obtain ⟨h3, h4⟩ := List.getElem?_eq_some_iff.1 hz
 exact (List.pairwise_iff_getElem.1 h) i k h1 h3 hik (h2.trans h4.symm)
theorem xi {x : Int} (h : (Lit.int .u8 x).wf = true) : 0 ≤ x ∧ x ≤ 255 := by simpa [Lit.wf, IntKind.min, IntKind.max, IntKind.signed, IntKind.bits] using h
theorem lit1 {w W : World} {a : Obj} (h : w.alloc a = W) : W.heap[w.heap.size]? = some a ∧ Below w.heap.size w W ∧ W.heap.size = w.heap.size + 1 := by
 subst h
 exact ⟨heap_alloc_new w a, lit_below _ _, by simp⟩
theorem xf (v : Value) (xs : List Lt) (x : Lt) (w : World) (h : SlB tLt w.heap.size w v xs) :
  Calls Tryz.prog 16 #[v, .agg #[.int .i64 x.fr, .int .i64 x.to, .int .i64 x.num]] w fun e w' => ∃ r, e = .returned (.bool r) ∧ (r = true ↔ x ∈ xs) ∧ Below w.heap.size w w' := by
 obtain ⟨A, c, rfl, _, _, _⟩ := h.form
 have H := hid (fun (wx : World) (hb : Below w.heap.size w wx) => h.go hb)
 clear h
 go_enter Tryz.func16, Tryz.ntmps16
 go_upto_region 1 with fail
 generalize hgw : World.alloc w _ = W1
 obtain ⟨e1, hb1, s1⟩ := lit1 hgw
 have E1 := hid e1; have Hb1 := hid hb1
 clear hgw e1 hb1
 go_wp2_with fail
 go_loopw [5] (fun i wr => ∃ k : Nat, k ≤ xs.length ∧ i = .int .i64 k ∧ x ∉ xs.take k ∧ Below W1.heap.size W1 wr) (fun i _ => xs.length - (intOf i).toNat)
 case atStart => exact ⟨0, by omega, rfl, by simp, Below.refl _ _⟩
 case round =>
  obtain ⟨k, hk, rfl, hnot, hb⟩ := hrel
  have Hn := hid hnot
  have Hb := hid hb
  have Hc := hid (bt Hb1.out hb)
  obtain ⟨q0, q1, q2, _⟩ := aE (heap_go hb E1.out)
  have zr : w.heap.size < wr.heap.size := by have := hb.size; omega
  clear hnot hb
  by_cases hlt : k < xs.length
  ·obtain ⟨z, hz⟩ := ah hlt
   obtain ⟨b, o, rfl, _, _, p0, p1, p2⟩ := (H.out _ Hc.out).lt3 hz
   have Hz := hid hz
   clear hz
   by_cases hzx : z = x
   ·subst hzx
    go_wp2
    go_quiet (fail)
    go_wp2
    go_ret
    exact ⟨_, rfl, iff_of_true rfl (List.mem_of_getElem? Hz.out), below_drewN Hc.out _⟩
   ·have Hne := hid hzx
    by_cases h1 : z.fr = x.fr
    ·by_cases h2 : z.to = x.to
     ·have h3 : ¬ z.num = x.num := fun e => hzx (yB h1 h2 e)
      clear hzx
      rw [h1] at p0
      rw [h2] at p1
      have hb : (z.num == x.num) = false := by simpa using h3
      have hc : (x.num == z.num) = false := by simpa using fun e => h3 (Eq.symm e)
      go_wp2
      go_quiet (fail)
      go_wp2
      go_roundw
      case rel => exact ⟨k + 1, by omega, by go_num, by rw [ax Hz.out]; simp; exact ⟨Hn.out, fun e => Hne.out e.symm⟩, below_drewN Hb.out _⟩
      case measure => simp [intOf]; omega
     ·clear hzx
      rw [h1] at p0
      have hb : (z.to == x.to) = false := by simpa using h2
      have hc : (x.to == z.to) = false := by simpa using fun e => h2 (Eq.symm e)
      go_wp2
      go_quiet (fail)
      go_wp2
      go_roundw
      case rel => exact ⟨k + 1, by omega, by go_num, by rw [ax Hz.out]; simp; exact ⟨Hn.out, fun e => Hne.out e.symm⟩, below_drewN Hb.out _⟩
      case measure => simp [intOf]; omega
    ·clear hzx
     have hb : (z.fr == x.fr) = false := by simpa using h1
     have hc : (x.fr == z.fr) = false := by simpa using fun e => h1 (Eq.symm e)
     go_wp2
     go_quiet (fail)
     go_wp2
     go_roundw
     case rel => exact ⟨k + 1, by omega, by go_num, by rw [ax Hz.out]; simp; exact ⟨Hn.out, fun e => Hne.out e.symm⟩, below_drewN Hb.out _⟩
     case measure => simp [intOf]; omega
  ·have ht := aI hk hlt
   rw [ht] at Hn
   go_wp2
   go_ret
   exact ⟨_, rfl, iff_of_false (by simp) Hn.out, Hc.out⟩
end Go.Proofs.YtfmibcofgckldaaGreatDoor
