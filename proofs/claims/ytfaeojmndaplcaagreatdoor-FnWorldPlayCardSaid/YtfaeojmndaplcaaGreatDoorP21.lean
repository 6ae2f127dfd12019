/- Texts that the last file leans on (part 21). -/
import Derived.Test.YtfaeojmndaplcaaGreatDoorP1
import Derived.Test.YtfaeojmndaplcaaGreatDoorP20
import Derived.Test.YtfaeojmndaplcaaGreatDoorP3
import Derived.Test.YtfaeojmndaplcaaGreatDoorP5
import Derived.Test.YtfaeojmndaplcaaGreatDoorP6
import Derived.Test.YtfaeojmndaplcaaGreatDoorP7
import Derived.Test.YtfaeojmndaplcaaGreatDoorP8
import Derived.Test.YtfaeojmndaplcaaGreatDoorP9
set_option linter.unusedVariables false
set_option linter.unusedSimpArgs false
set_option maxHeartbeats 4000000
set_option maxRecDepth 100000
namespace Go.Proofs.YtfaeojmndaplcaaGreatDoor
open Go Go.RowKit
def Bx (R : Nat → Prop) (g : Nat) (w : World) (x : Wd) : Prop :=
 ∃ a1 e1 a2 e2 a3 e3 a4 e4, w.heap[g]? = some (.cells #[.slice a1 x.mixes.length e1, .slice a2 x.sent.length e2, .slice a3 x.net.length e3, .slice a4 x.got.length e4, .int .i64 x.made, .int .i64 x.lost] 33 (0, 0)) ∧ WdR R w (.agg #[.slice a1 x.mixes.length e1, .slice a2 x.sent.length e2, .slice a3 x.net.length e3, .slice a4 x.got.length e4, .int .i64 x.made, .int .i64 x.lost]) x
section
variable {R : Nat → Prop} {g : Nat} {w w5 : World} {x y : Wd} {a1 a2 a3 a4 : Option Addr} {e1 e2 e3 e4 : Nat}
theorem Bx.put (h : Bx R g w x) (hb : Below w.heap.size w w5) (hR : ¬ R g) (h5 : WdR R w5 (.agg #[.slice a1 y.mixes.length e1, .slice a2 y.sent.length e2, .slice a3 y.net.length e3, .slice a4 y.got.length e4, .int .i64 y.made, .int .i64 y.lost]) y) :
  Bx R g ((((((w5.setCell ⟨g, 0, none⟩ (.slice a1 y.mixes.length e1)).setCell ⟨g, 1, none⟩ (.slice a2 y.sent.length e2)).setCell ⟨g, 2, none⟩ (.slice a3 y.net.length e3)).setCell ⟨g, 3, none⟩ (.slice a4 y.got.length e4)).setCell ⟨g, 4, none⟩ (.int .i64 y.made)).setCell ⟨g, 5, none⟩ (.int .i64 y.lost)) y := by
 obtain ⟨_, _, _, _, _, _, _, _, r0, _⟩ := h
 refine ⟨a1, e1, a2, e2, a3, e3, a4, e4, bZ _ _ _ _ _ _ (ac hb r0), ?_⟩
 repeat (refine WdR.set ?_ hR)
 exact h5
theorem Bx.go (h : Bx R g w x) (hb : Below w.heap.size w w5) : Bx R g w5 x := by
 obtain ⟨a1, e1, a2, e2, a3, e3, a4, e4, r0, r1⟩ := h
 exact ⟨a1, e1, a2, e2, a3, e3, a4, e4, ac hb r0, r1.go hb⟩
theorem Bx.new {W : World} (n : WdB w.heap.size w (.agg #[.slice a1 x.mixes.length e1, .slice a2 x.sent.length e2, .slice a3 x.net.length e3, .slice a4 x.got.length e4, .int .i64 x.made, .int .i64 x.lost]) x) (hg : g = w.heap.size)
  (h : w.alloc (.cells #[.slice a1 x.mixes.length e1, .slice a2 x.sent.length e2, .slice a3 x.net.length e3, .slice a4 x.got.length e4, .int .i64 x.made, .int .i64 x.lost] 33) = W) :
  Bx (be (fun _ => True) g (g + 1)) g W x ∧ Below w.heap.size w W ∧ g < W.heap.size := by
 subst hg
 subst h
 refine ⟨⟨a1, e1, a2, e2, a3, e3, a4, e4, heap_alloc_new _ _, ?_⟩, ab _ _, by simp only [World.size_alloc]; omega⟩
 exact (WdR.of_wdB n (fun b hb => ⟨trivial, .inl hb⟩)).go (ab _ _)
end
theorem jD (w : World) : Calls Tryz.prog 35 #[] w fun e w' => ∃ v, e = .returned v ∧ WdR (fun b => w.heap.size ≤ b) w' v dT ∧ Below w.heap.size w w' := by
 obtain ⟨i0, hi, hz0, hz1, hz2⟩ := info_parts gy
 go_enter Tryz.func35, Tryz.ntmps35
 go_wp2_with fail
 have hB : Below w.heap.size w (((((w.alloc (Obj.cells #[Value.slice none 0 0, Value.slice none 0 0, Value.slice none 0 0, Value.slice none 0 0, Value.int IntKind.i64 0, Value.int IntKind.i64 0] 33)).alloc (Obj.cells #[] 56)).alloc (Obj.cells #[] 74)).alloc (Obj.cells #[] 56)).alloc (Obj.cells #[Value.slice none 0 0, (Value.slice (some ⟨w.heap.size + 1, 0, none⟩) 0 0), (Value.slice (some ⟨w.heap.size + 1 + 1, 0, none⟩) 0 0), (Value.slice (some ⟨w.heap.size + 1 + 1 + 1, 0, none⟩) 0 0), Value.int IntKind.i64 0, Value.int IntKind.i64 0] 33)) := by (repeat (first | exact ah | refine ae ?_ | refine Below.alloc ?_ (by simp <;> omega) _))
 have kn : (((((w.alloc (Obj.cells #[Value.slice none 0 0, Value.slice none 0 0, Value.slice none 0 0, Value.slice none 0 0, Value.int IntKind.i64 0, Value.int IntKind.i64 0] 33)).alloc (Obj.cells #[] 56)).alloc (Obj.cells #[] 74)).alloc (Obj.cells #[] 56)).alloc (Obj.cells #[Value.slice none 0 0, (Value.slice (some ⟨w.heap.size + 1, 0, none⟩) 0 0), (Value.slice (some ⟨w.heap.size + 1 + 1, 0, none⟩) 0 0), (Value.slice (some ⟨w.heap.size + 1 + 1 + 1, 0, none⟩) 0 0), Value.int IntKind.i64 0, Value.int IntKind.i64 0] 33)).heap[w.heap.size + 1 + 1 + 1 + 1]? = some (.cells #[Value.slice none 0 0, (Value.slice (some ⟨w.heap.size + 1, 0, none⟩) 0 0), (Value.slice (some ⟨w.heap.size + 1 + 1, 0, none⟩) 0 0), (Value.slice (some ⟨w.heap.size + 1 + 1 + 1, 0, none⟩) 0 0), Value.int IntKind.i64 0, Value.int IntKind.i64 0] 33 (0, 0)) := by have := heap_alloc_new ((((w.alloc (Obj.cells #[Value.slice none 0 0, Value.slice none 0 0, Value.slice none 0 0, Value.slice none 0 0, Value.int IntKind.i64 0, Value.int IntKind.i64 0] 33)).alloc (Obj.cells #[] 56)).alloc (Obj.cells #[] 74)).alloc (Obj.cells #[] 56)) (.cells #[Value.slice none 0 0, (Value.slice (some ⟨w.heap.size + 1, 0, none⟩) 0 0), (Value.slice (some ⟨w.heap.size + 1 + 1, 0, none⟩) 0 0), (Value.slice (some ⟨w.heap.size + 1 + 1 + 1, 0, none⟩) 0 0), Value.int IntKind.i64 0, Value.int IntKind.i64 0] 33 (0, 0)); simpa using this
 have km : (((((w.alloc (Obj.cells #[Value.slice none 0 0, Value.slice none 0 0, Value.slice none 0 0, Value.slice none 0 0, Value.int IntKind.i64 0, Value.int IntKind.i64 0] 33)).alloc (Obj.cells #[] 56)).alloc (Obj.cells #[] 74)).alloc (Obj.cells #[] 56)).alloc (Obj.cells #[Value.slice none 0 0, (Value.slice (some ⟨w.heap.size + 1, 0, none⟩) 0 0), (Value.slice (some ⟨w.heap.size + 1 + 1, 0, none⟩) 0 0), (Value.slice (some ⟨w.heap.size + 1 + 1 + 1, 0, none⟩) 0 0), Value.int IntKind.i64 0, Value.int IntKind.i64 0] 33)).heap[w.heap.size]? = some (.cells #[Value.slice none 0 0, Value.slice none 0 0, Value.slice none 0 0, Value.slice none 0 0, Value.int IntKind.i64 0, Value.int IntKind.i64 0] 33 (0, 0)) := (show Below (w.heap.size + 1) (w.alloc _) (((((w.alloc (Obj.cells #[Value.slice none 0 0, Value.slice none 0 0, Value.slice none 0 0, Value.slice none 0 0, Value.int IntKind.i64 0, Value.int IntKind.i64 0] 33)).alloc (Obj.cells #[] 56)).alloc (Obj.cells #[] 74)).alloc (Obj.cells #[] 56)).alloc (Obj.cells #[Value.slice none 0 0, (Value.slice (some ⟨w.heap.size + 1, 0, none⟩) 0 0), (Value.slice (some ⟨w.heap.size + 1 + 1, 0, none⟩) 0 0), (Value.slice (some ⟨w.heap.size + 1 + 1 + 1, 0, none⟩) 0 0), Value.int IntKind.i64 0, Value.int IntKind.i64 0] 33)) from by (repeat (first | exact ah | refine Below.alloc ?_ (by simp <;> omega) _))).block _ (by omega) |>.trans (heap_alloc_new w _)
 have hz : w.heap.size + 1 + 1 + 1 + 1 < (((((w.alloc (Obj.cells #[Value.slice none 0 0, Value.slice none 0 0, Value.slice none 0 0, Value.slice none 0 0, Value.int IntKind.i64 0, Value.int IntKind.i64 0] 33)).alloc (Obj.cells #[] 56)).alloc (Obj.cells #[] 74)).alloc (Obj.cells #[] 56)).alloc (Obj.cells #[Value.slice none 0 0, (Value.slice (some ⟨w.heap.size + 1, 0, none⟩) 0 0), (Value.slice (some ⟨w.heap.size + 1 + 1, 0, none⟩) 0 0), (Value.slice (some ⟨w.heap.size + 1 + 1 + 1, 0, none⟩) 0 0), Value.int IntKind.i64 0, Value.int IntKind.i64 0] 33)).heap.size := by simp
 generalize (((((w.alloc (Obj.cells #[Value.slice none 0 0, Value.slice none 0 0, Value.slice none 0 0, Value.slice none 0 0, Value.int IntKind.i64 0, Value.int IntKind.i64 0] 33)).alloc (Obj.cells #[] 56)).alloc (Obj.cells #[] 74)).alloc (Obj.cells #[] 56)).alloc (Obj.cells #[Value.slice none 0 0, (Value.slice (some ⟨w.heap.size + 1, 0, none⟩) 0 0), (Value.slice (some ⟨w.heap.size + 1 + 1, 0, none⟩) 0 0), (Value.slice (some ⟨w.heap.size + 1 + 1 + 1, 0, none⟩) 0 0), Value.int IntKind.i64 0, Value.int IntKind.i64 0] 33)) = W at *
 have HB := hid hB
 have K : FrW tMx (Value.slice (some ⟨w.heap.size + 1, 0, none⟩) 0 0) (Value.slice (some ⟨w.heap.size + 1 + 1, 0, none⟩) 0 0) (Value.slice (some ⟨w.heap.size + 1 + 1 + 1, 0, none⟩) 0 0) W W w.heap.size (w.heap.size + 1 + 1 + 1 + 1) 0 := ⟨_, kn, km, Own.nil _ _, by omega, hz, Nat.le_refl _⟩
 clear kn km hB
 go_loopw [2] (fun i wr => ∃ k : Nat, k ≤ 3 ∧ i = .int .i64 k ∧ FrW tMx (Value.slice (some ⟨w.heap.size + 1, 0, none⟩) 0 0) (Value.slice (some ⟨w.heap.size + 1 + 1, 0, none⟩) 0 0) (Value.slice (some ⟨w.heap.size + 1 + 1 + 1, 0, none⟩) 0 0) W wr w.heap.size (w.heap.size + 1 + 1 + 1 + 1) k ∧ Below w.heap.size w wr) (fun i _ => 3 - (intOf i).toNat)
 case atStart => exact ⟨0, by omega, rfl, K, HB.out⟩
 case round =>
  obtain ⟨k, hk, rfl, ⟨vm, hn, hm, ho, _, _, hWr⟩, hb⟩ := hrel
  have Ho := hid ho; have Hb := hid hb; have HN := hid hn; have HM := hid hm
  obtain ⟨A, c, rfl, _, _, _⟩ := ho.form
  have hzr := Nat.lt_of_lt_of_le hz hWr
  obtain ⟨q0, q1, q2, q3, q4, q5, qf⟩ := ex hn
  have qf0 := qf 0
  clear ho hb K hn hm
  by_cases hlt : k < 3
  ·clear qf
   go_wp2_with (first | (go_at_call 60; refine (il _ ?_ _).mono ?_; omega; rintro e w' ⟨rfl, rfl⟩) | (go_at_call 59; refine (gR _ ?_ _).mono ?_; exact gM hlt; rintro e w5 ⟨aa, bb, rfl, hb5⟩; have p0 := (hb5.cell (p := ⟨w.heap.size + 1 + 1 + 1 + 1, 0, none⟩) hzr).trans q0; have pf := (hb5.frozen (p := ⟨w.heap.size + 1 + 1 + 1 + 1, 0, none⟩) hzr).trans qf0; have hz5 := Nat.lt_of_lt_of_le hzr hb5.size; have Ho5 := hid (Ho.out.go hb5); have hW5 := Nat.le_trans hWr hb5.size) | (at_builtin; go_loud (refine cW rfl (.tmp 20) (.tmp 22) 29 rfl tMx Tryz.underlying29 hi hz0 hz1 hz2 rfl (by decide) (v := .slice A (ba k).length c) (B := W.heap.size) rfl (Ho5.out.below ?_ (Nat.le_refl _)) _ 1 1 rfl (Sl.boxn _ ?_ (mu _ k _ _)) ?_ ?_ ?_ ?_ ?_); go_loud (((repeat (first | exact ah | refine ae ?_ | refine Below.alloc ?_ (by simp <;> omega) _))); (simp); (intro b _ h; cases h); (rw [cL]; simp; omega); (rw [cL]; simp [maxLen]; omega); (simp; omega); intro v2 w6 ho2 hg2 hv2; obtain ⟨A2, c2, rfl, _, _, _⟩ := ho2.form; have hbG := (show Below W.heap.size w5 w6 from ((show Below W.heap.size w5 _ from (((Below.refl W.heap.size w5).alloc hW5 _).alloc (by simp; omega) _)).trans (Below.of_grown hg2 (by simp; omega) (fun q hq => (Ho5.out.top q hq).1)))); have p06 := (hbG.cell (p := ⟨w.heap.size + 1 + 1 + 1 + 1, 0, none⟩) hz).trans p0; have pf6 := (hbG.frozen (p := ⟨w.heap.size + 1 + 1 + 1 + 1, 0, none⟩) hz).trans pf)))
   go_roundw
   case rel => exact ⟨k + 1, by omega, by go_num, FrW.step HN.out HM.out (by simpa using ho2) ((hb5.mono hWr).trans hbG) (by omega) hz hWr, (Hb.out.trans (((hb5.mono hWr).trans hbG).mono (by omega))).setCell (by simp <;> omega) _⟩
   case measure => simp [intOf]; omega
  ·have hk3 : k = 3 := by omega
   subst hk3
   have mc := ex HM.out
   obtain ⟨r0, r1, r2, r3, r4, r5, rf⟩ := mc
   have rf0 := rf 0; have rf1 := rf 1; have rf2 := rf 2; have rf3 := rf 3; have rf4 := rf 4; have rf5 := rf 5
   clear qf rf
   go_wp2
   refine bodyPost_ret (v := .agg #[.slice A (ba 3).length c, (Value.slice (some ⟨w.heap.size + 1, 0, none⟩) 0 0), (Value.slice (some ⟨w.heap.size + 1 + 1, 0, none⟩) 0 0), (Value.slice (some ⟨w.heap.size + 1 + 1 + 1, 0, none⟩) 0 0), .int .i64 0, .int .i64 0]) (by simp [results, go_sem, r0, r1, r2, r3, r4, r5]) rfl ⟨_, rfl, ?_, ?_⟩
   ·have ne : (Value.slice A (ba 3).length c).ownBlock ≠ some w.heap.size := fun e => by have := (Ho.out.top _ e).1; omega
    exact ⟨_, _, _, _, rfl, SlR.of_own (bC (bC (bC (bC (bC (bC Ho.out ne (by simp)) ne (by simp)) ne (by simp)) ne (by simp)) ne (by simp)) ne (by simp)) (fun b hb => by omega) (fun _ h => by cases h), SlR.nil _ _ (by simp [maxLen]), SlR.nil _ _ (by simp [maxLen]), SlR.nil _ _ (by simp [maxLen])⟩
   ·exact ((((((Hb.out.setCell (by simp) _).setCell (by simp) _).setCell (by simp) _).setCell (by simp) _).setCell (by simp) _).setCell (by simp) _)
def sq (B g p n : Nat) (P : Int → Prop) (w : World) (e : Ending) (w' : World) : Prop :=
 ∃ (s : Int) (q : Nat), e = .returned (.int .i64 s) ∧ P s ∧ q ≤ p + n ∧ Rdr B w' g q ∧ Tch [g] w w'
theorem bP {g : Nat} {w w' : World} (hg : w.grownBy w' (some g)) : Tch [g] w w' := Tch.grown hg (fun k hk _ => by injection hk with hk; subst hk; exact List.mem_cons_self)
theorem Rdr.go {B : Nat} {w w' : World} {g p : Nat} (h : Rdr B w g p) (hb : Below w.heap.size w w') : Rdr B w' g p := h.below hb h.lt.2 (Nat.le_trans h.lt.1 (Nat.le_of_lt h.lt.2))
section
variable {w : World}
theorem mM {g t : Nat} {a0 a1 a2 a3 : Value} (b0 b1 b2 b3 : Value) (h : w.heap[g]? = some (.cells #[a0, a1, a2, a3] t (0, 0))) :
  ((((w.setCell ⟨g, 0, none⟩ b0).setCell ⟨g, 1, none⟩ b1).setCell ⟨g, 2, none⟩ b2).setCell ⟨g, 3, none⟩ b3).heap[g]? = some (.cells #[b0, b1, b2, b3] t (0, 0)) :=
 aB 3 b3 (aB 2 b2 (aB 1 b1 (aB 0 b0 h)))
theorem dS {g : Nat} {b0 b1 b2 b3 : Value} (b : Nat) (hb : b ≠ g) : ((((w.setCell ⟨g, 0, none⟩ b0).setCell ⟨g, 1, none⟩ b1).setCell ⟨g, 2, none⟩ b2).setCell ⟨g, 3, none⟩ b3).heap[b]? = w.heap[b]? := by
 repeat rw [Below.heap_setCell _ _ _ _ hb]
end
theorem g8 (B : Nat) (w : World) (g p : Nat) (h : Rdr B w g p) (hp : p ≤ 900000000) : Calls Tryz.prog 120 #[.pointer (some ⟨g, 0, none⟩)] w (sq B g p 2 (fun s => win s 1 996 = true) w) := by
 go_enter Tryz.func120, Tryz.ntmps120
 go_wp2_with fail
 refine (ay B _ g _ _ h (by omega)).mono ?_
 rintro e w1 ⟨m, rfl, m0, m1, _, hr, hg⟩
 have m1 := m1 (by omega)
 have e1 : IntKind.i64.wrap (10 * m) = 10 * m := aZ (by omega) (by omega)
 have e2 : IntKind.i64.wrap (1 + 10 * m) = 1 + 10 * m := aZ (by omega) (by omega)
 have ht := hid (bP hg)
 clear hg
 go_wp2_with fail
 refine (ay B _ g _ _ hr (by omega)).mono ?_
 rintro e w2 ⟨m2, rfl, m20, m21, _, hr, hg⟩
 have m21 := m21 (by omega)
 have e3 : IntKind.i64.wrap (1 + 10 * m + m2) = 1 + 10 * m + m2 := aZ (by omega) (by omega)
 have ht := hid (ht.out.trans (bP hg))
 clear hg
 go_wp2_with fail
 go_ret
 exact ⟨_, _, rfl, aK.2 ⟨by omega, by omega⟩, by omega, hr, ht.out⟩
theorem lw (B : Nat) (w : World) (g p : Nat) (h : Rdr B w g p) (hp : p ≤ 900000000) : Calls Tryz.prog 122 #[.pointer (some ⟨g, 0, none⟩)] w (sq B g p 3 (fun _ => True) w) := by
 have hgw := h.lt
 go_enter Tryz.func122, Tryz.ntmps122
 go_wp2_with fail
 refine (ay B _ g _ _ h (by omega)).mono ?_
 rintro e w1 ⟨m, rfl, m0, m1, _, hr, hg⟩
 have m1 := m1 (by omega)
 have hs1 := hg.size
 have ht := hid (bP hg)
 clear hg
 by_cases hm : m = 0
 ·subst hm
  go_wp2_with fail
  generalize hgw : World.alloc w1 _ = W
  obtain ⟨e1, hb, s1⟩ := al hgw
  have hr := hr.go hb
  have ht := hid (ht.out.trans (Tch.of hb))
  clear hgw hb
  refine (ay B _ g _ _ hr (by omega)).mono ?_
  rintro e w2 ⟨m2, rfl, m20, m21, _, hr, hg⟩
  have m21 := m21 (by omega)
  obtain ⟨v0, v1, v2, v3, _⟩ := aN (au hg e1 (by simp; omega))
  have ht := hid (ht.out.trans (bP hg))
  clear hg e1
  have hc : m2 = 0 ∨ m2 = 1 ∨ m2 = 2 ∨ m2 = 3 := by omega
  rcases hc with rfl | rfl | rfl | rfl
  all_goals
   go_wp2_with fail
   go_ret
   exact ⟨_, _, rfl, trivial, by omega, hr, ht.out⟩
 ·have hm : (m == 0) = false := by simpa using hm
  go_wp2_with fail
  refine (ay B _ g _ _ hr (by omega)).mono ?_
  rintro e w2 ⟨m3, rfl, m30, m31, _, hr, hg⟩
  have m31 := m31 (by omega)
  have e1 : IntKind.i64.wrap (10 * m3) = 10 * m3 := aZ (by omega) (by omega)
  have e2 : IntKind.i64.wrap (1 + 10 * m3) = 1 + 10 * m3 := aZ (by omega) (by omega)
  have ht := hid (ht.out.trans (bP hg))
  clear hg
  go_wp2_with fail
  refine (ay B _ g _ _ hr (by omega)).mono ?_
  rintro e w3 ⟨m2, rfl, m20, m21, _, hr, hg⟩
  have m21 := m21 (by omega)
  have e3 : IntKind.i64.wrap (1 + 10 * m3 + m2) = 1 + 10 * m3 + m2 := aZ (by omega) (by omega)
  have ht := hid (ht.out.trans (bP hg))
  clear hg
  go_wp2_with fail
  go_ret
  exact ⟨_, _, rfl, trivial, by omega, hr, ht.out⟩
theorem fi (B : Nat) (w : World) (g p : Nat) (h : Rdr B w g p) (hp : p ≤ 900000000) : Calls Tryz.prog 123 #[.pointer (some ⟨g, 0, none⟩)] w (sq B g p 3 (fun _ => True) w) := by
 have hgw := h.lt
 go_enter Tryz.func123, Tryz.ntmps123
 go_wp2_with fail
 refine (ay B _ g _ _ h (by omega)).mono ?_
 rintro e w1 ⟨m, rfl, m0, m1, _, hr, hg⟩
 have m1 := m1 (by omega)
 have hs1 := hg.size
 have ht := hid (bP hg)
 clear hg
 by_cases hm : m = 0
 ·subst hm
  go_wp2_with fail
  generalize hgw : World.alloc w1 _ = W
  obtain ⟨e1, hb, s1⟩ := al hgw
  have hr := hr.go hb
  have ht := hid (ht.out.trans (Tch.of hb))
  clear hgw hb
  refine (ay B _ g _ _ hr (by omega)).mono ?_
  rintro e w2 ⟨m2, rfl, m20, m21, _, hr, hg⟩
  have m21 := m21 (by omega)
  obtain ⟨v0, v1, v2, _⟩ := aE (au hg e1 (by simp; omega))
  have ht := hid (ht.out.trans (bP hg))
  clear hg e1
  have hc : m2 = 0 ∨ m2 = 1 ∨ m2 = 2 := by omega
  rcases hc with rfl | rfl | rfl
  all_goals
   go_wp2_with fail
   go_ret
   exact ⟨_, _, rfl, trivial, by omega, hr, ht.out⟩
 ·have hm : (m == 0) = false := by simpa using hm
  go_wp2_with fail
  refine (ay B _ g _ _ hr (by omega)).mono ?_
  rintro e w2 ⟨m3, rfl, m30, m31, _, hr, hg⟩
  have m31 := m31 (by omega)
  have e1 : IntKind.i64.wrap (10 * m3) = 10 * m3 := aZ (by omega) (by omega)
  have ht := hid (ht.out.trans (bP hg))
  clear hg
  go_wp2_with fail
  refine (ay B _ g _ _ hr (by omega)).mono ?_
  rintro e w3 ⟨m2, rfl, m20, m21, _, hr, hg⟩
  have m21 := m21 (by omega)
  have e3 : IntKind.i64.wrap (10 * m3 + m2) = 10 * m3 + m2 := aZ (by omega) (by omega)
  have ht := hid (ht.out.trans (bP hg))
  clear hg
  go_wp2_with fail
  go_ret
  exact ⟨_, _, rfl, trivial, by omega, hr, ht.out⟩
theorem ox (s : Int) (p : Pk) (vh vb : Value) (w : World) (h1 : SlB af w.heap.size w vh p.hd) (h2 : SlB af w.heap.size w vb p.bd) (hs : win s 1 996 = true) (hp : pkB p = true) :
  Calls Tryz.prog 124 #[.int .i64 s, .agg #[.int .i64 p.el, vh, .int .i64 p.tag, vb]] w (gx w (aW s p)) := by
 have H1 := hid (fun (wx : World) (hb : Below w.heap.size w wx) => h1.go hb)
 have H2 := hid (fun (wx : World) (hb : Below w.heap.size w wx) => h2.go hb)
 obtain ⟨Ah, ch, rfl, _, _, _⟩ := h1.form
 obtain ⟨Ab, cb, rfl, _, _, _⟩ := h2.form
 clear h1 h2
 go_enter Tryz.func124, Tryz.ntmps124
 go_upto_region 1 with fail
 generalize hgw : World.alloc (World.alloc w _) _ = W
 obtain ⟨e0, e1, hb, sW⟩ := iB hgw
 have E1 := hid e1; have Hb := hid hb
 obtain ⟨k0, k1, k2, k3, _⟩ := aN e0
 have z0 : w.heap.size < W.heap.size := by omega
 clear hgw e1 hb
 go_wp2_with (first | (go_at_call 106; refine (cd _ _).mono ?_; rw [hs]; rintro e w' ⟨rfl, rfl⟩) | (go_at_call 154; refine (fB p _ _ _ (H1.out _ Hb.out) (H2.out _ Hb.out)).mono ?_; rw [hp]; rintro e w1 ⟨rfl, hb1⟩; have Hb1 := hid (bt Hb.out hb1); have E1' := hid (ac hb1 E1.out); obtain ⟨k0, k1, k2, k3, _⟩ := aN (ac hb1 e0); have z1 : w.heap.size < w1.heap.size := by have := hb1.size; omega) | (go_at_call 164; refine (jb s p _ _ _ (H1.out _ Hb1.out) (H2.out _ Hb1.out) hs hp).mono ?_; rintro e w2 ⟨uh, ub, rfl, n2, hb2⟩; obtain ⟨Bh, dh, Bb, db, rfl, rfl⟩ := cj n2; obtain ⟨q0, q1, q2, q3, q4, q5, qf, qf0, qf1, qf2, qf3, qf4, qf5⟩ := bj (ac hb2 E1'.out); have Hb2 := hid (bt Hb1.out hb2); have N2 := hid n2; have z2 : w.heap.size + 1 < w2.heap.size := (Array.getElem?_eq_some_iff.1 (ac hb2 E1'.out)).1; clear n2 hb2 qf))
 have s1 := hb1.size
 refine bodyPost_ret (v := .tuple #[.agg #[.int .i64 ((aW s p).getD fb).kind, .int .i64 ((aW s p).getD fb).next, .int .i64 ((aW s p).getD fb).pk.el, .slice Bh ((aW s p).getD fb).pk.hd.length dh, .int .i64 ((aW s p).getD fb).pk.tag, .slice Bb ((aW s p).getD fb).pk.bd.length db], .bool (aW s p).isSome]) (by simp [results, Tryz.results124, go_sem, q0, q1, q2, q3, q4, q5]) rfl ⟨_, _, rfl, aC.base (B := w1.heap.size) ?_ (by omega), ?_⟩
 ·repeat (refine aC.set ?_ (by dsimp only; omega))
  exact N2.out
 ·repeat (refine Below.setCell ?_ (by dsimp only; omega) _)
  exact Hb2.out
def RwDr (B g p n : Nat) (w : World) (e : Ending) (w' : World) : Prop :=
 ∃ (v : Value) (x : Wd) (q : Nat), e = .returned v ∧ VD 0 x ∧ q ≤ p + n ∧ Rdr B w' g q ∧ Tch [g] w w' ∧ WdR (fun b => w.heap.size ≤ b) w' v x
theorem WdR.kept {R : Nat → Prop} {w w' : World} {v : Value} {x : Wd} (h : WdR R w v x) (hs : w.heap.size ≤ w'.heap.size) (hk : ∀ b, R b → b < w.heap.size → w'.heap[b]? = w.heap[b]?) : WdR R w' v x := by
 obtain ⟨vm, vs, vn, vg, rfl, h1, h2, h3, h4⟩ := h
 exact ⟨_, _, _, _, rfl, h1.keep hs hk, h2.keep hs hk, h3.keep hs hk, h4.keep hs hk⟩
def rgR (b2 b3 b : Nat) : Prop := b2 < b ∧ b ≠ b3
theorem jc (B : Nat) (w : World) (g p : Nat) (h : Rdr B w g p) (hp : p ≤ 900000) : Calls Tryz.prog 45 #[.pointer (some ⟨g, 0, none⟩)] w (RwDr B g p 500 w) := by
 have hgw := h.lt.2
 go_enter Tryz.func45, Tryz.ntmps45
 go_upto_region 1 with fail
 generalize hgw' : World.alloc w _ = W0
 obtain ⟨e0, hb0, s0⟩ := al hgw'
 have hr := h.go hb0
 have E0 := hid e0; have HT := hid (Tch.of (S := [g]) hb0)
 have hg0 := hr.lt.2
 clear hgw' e0 hb0 h
 go_wp2_with fail
 refine (jD _).mono ?_
 rintro e w2 ⟨v2, rfl, hw2, hb2⟩
 obtain ⟨a1, c1, a2, c2, a3, c3, a4, c4, rfl⟩ := hw2.form
 replace hr := hr.go hb2
 replace HT := hid (HT.out.trans (Tch.of hb2))
 replace E0 := hid (ac hb2 E0.out)
 have hg2 := hr.lt.2
 have s2 := hb2.size
 have Hw2 := hid hw2; have Hr := hid hr
 clear hw2 hb2 hr
 go_upto_region 2 with fail
 generalize hgw' : World.alloc w2 _ = W3
 obtain ⟨e3, hb3, s3⟩ := al hgw'
 have hbx : Bx (rgR w.heap.size w2.heap.size) w2.heap.size W3 dT := ⟨_, _, _, _, _, _, _, _, e3, (Hw2.out.mono (R' := rgR w.heap.size w2.heap.size) (fun b hlt hb => ⟨by omega, by omega⟩)).go hb3⟩
 have Hbx := hid hbx
 replace Hr := hid (Hr.out.go hb3)
 replace HT := hid (HT.out.trans (Tch.of hb3))
 replace E0 := hid (ac hb3 E0.out)
 clear hgw' e3 hb3 hbx Hw2
 go_wp2_with fail
 refine (ay _ _ _ _ _ Hr.out (by omega)).mono ?_
 rintro e w4 ⟨N, rfl, n0, n1, _, hr, hg⟩
 have n1 := n1 (by omega)
 replace HT := hid (HT.out.trans (bP hg))
 have Hr4 := hid hr
 have Hbx4 : Hid (Bx (rgR w.heap.size w2.heap.size) w2.heap.size w4 dT) := by
  obtain ⟨a1, e1, a2, e2, a3, e3, a4, e4, r0, r1⟩ := Hbx.out
  exact hid ⟨a1, e1, a2, e2, a3, e3, a4, e4, au hg r0 (by simp; omega), r1.kept hg.size (fun b hb hlt => hg.block b hlt (fun e => by have h1 := hb.1; have h2 := Option.some.inj e; omega))⟩
 replace E0 := hid (au hg E0.out (by simp; omega))
 clear hg hr Hr Hbx
 go_wp2_with fail
 go_loopw [5] (fun i wr => ∃ (k : Nat) (y : Wd) (q : Nat), (k ≤ 60 ∧ (k : Int) ≤ N) ∧ i = .int .i64 k ∧ q ≤ p + 1 + 8 * k ∧ VD 0 y ∧ Rdr B wr g q ∧ Bx (rgR w.heap.size w2.heap.size) w2.heap.size wr y ∧ wr.heap[w.heap.size]? = some (.cells #[.slice none 0 0, .slice none 0 0, .slice none 0 0, .slice none 0 0, .int .i64 0, .int .i64 0] 33 (0, 0)) ∧ Tch [g] w wr) (fun i _ => N.toNat - (intOf i).toNat)
 case atStart => exact ⟨0, dT, _, ⟨by omega, by omega⟩, rfl, by omega, jq, Hr4.out, Hbx4.out, E0.out, HT.out⟩
 case round =>
  obtain ⟨k, y, q, ⟨hk, hk2⟩, rfl, hq, hv, hr, hbx, he, ht⟩ := hrel
  have Hr := hid hr; have Hv := hid hv; have Hbx := hid hbx; have He := hid he; have HT := hid ht
  obtain ⟨a1, e1, a2, e2, a3, e3, a4, e4, r0, rw⟩ := hbx
  have Rw := hid rw
  have h3r := (aL r0)
  have hgr := hr.lt.2
  obtain ⟨k0, k1, k2, k3, k4, k5, kf⟩ := az r0
  clear hr hv he ht rw Hr4 Hbx4 E0
  by_cases hlt : (k : Int) < N
  ·have HS := hid (fun (wx : World) (hT : Tch [g] wr wx) => And.intro (az (hT.row r0 (by simp; omega))) (show w2.heap.size < wx.heap.size by have := hT.size; omega))
   clear k0 k1 k2 k3 k4 k5 kf
   go_wp2_with fail
   refine rgN [g] 6 (by kernel_rfl) rfl (fun | none, _, _, _, _ => id | some _, _, _, _, _ => id) fun wd hH hbwd swd => ?_
   simp only [pw]
   refine ag [0, 1, 2] ?_
   iterate 3 (refine ra HS.out rfl (by kernel_rfl) rfl (fun _ f => by go_simp; try with_reducible rfl) ?_; try simp only [pw])
   refine rq 3 (by kernel_rfl) rfl fun K hK => ?_
   have fC := HS.out _ hH
   go_simp
   clear fC
   (go_at_call 39; refine (fY _ y _ _ _ _ (Hr.out.go hbwd) (by omega) ⟨_, _, _, _, _, _, _, _, rfl⟩).mono ?_; rintro e w5 ⟨ev, q2, rfl, hq2, hr5, hT5⟩; have hbT := hH.trans hT5; have Hr5 := hid hr5; clear hr5 hT5)
   refine hK.out _ _ (hbT) (fun hH => ?_)
   clear hK K
   refine rq 4 (by kernel_rfl) rfl fun K hK => ?_
   go_simp
   (go_at_call 40; refine (lr _ y _ ev _ (fun b hb => ⟨by have := hH.size; omega, by have := hH.size; omega⟩) (Rw.out.kept hH.size (fun b hb hlt => hH.block b hlt (by have h1 := hb.1; simp; omega))) Hv.out).mono ?_; rintro e w6 ⟨v6, rfl, hw6, hbC⟩; obtain ⟨b1, f1, b2, f2, b3, f3, b4, f4, rfl⟩ := hw6.form; have r6 := (hH.trans (Tch.of hbC)).row r0 (by simp; omega); have h36 := (aL r6); obtain ⟨q0, q1, q2', q3, q4, q5, qf⟩ := az r6; have qf0 := qf 0; have qf1 := qf 1; have qf2 := qf 2; have qf3 := qf 3; have qf4 := qf 4; have qf5 := qf 5; have Hr6 := hid (Hr5.out.go hbC); have Hw6 := hid hw6; clear hw6)
   refine hK.out _ _ (hH.trans (Tch.of hbC)) (fun hH => ?_)
   clear hK K
   refine rz 5 (by kernel_rfl) rfl fun K hK => ?_
   have fC := HS.out _ hH
   go_simp
   clear fC
   refine hK.out _ _ ?_
   clear hK K
   have hF := hid hH
   clear hH hbwd hbC hbT q0 q1 q2' q3 q4 q5 qf qf0 qf1 qf2 qf3 qf4 qf5
   go_wp2_with fail
   go_roundw
   case rel =>
    refine ⟨k + 1, _, q2, ⟨by omega, by omega⟩, by go_num, by omega, Hv.out.do_ ev, ?_, ⟨b1, f1, b2, f2, b3, f3, b4, f4, bZ _ _ _ _ _ _ r6, ?_⟩, ?_, ?_⟩
    ·refine Hr6.out.below (n := g + 1) ?_ (by omega) (by have := Hr6.out.lt.1; omega)
     repeat (refine Below.setCell ?_ (by dsimp only; omega) _)
     exact ah
    ·repeat (refine WdR.set ?_ (fun h => h.2 rfl))
     exact Hw6.out
    ·rw [bs _ (by omega)]
     exact hF.out.row He.out (by simp; omega)
    ·repeat (refine Tch.setCell ?_ (.inr (by dsimp only; omega)) _)
     exact HT.out.trans hF.out
   case measure => simp [intOf]; omega
  ·obtain ⟨z0, z1, z2, z3, z4, z5, zf⟩ := az He.out
   have zf0 := zf 0; have zf1 := zf 1; have zf2 := zf 2; have zf3 := zf 3; have zf4 := zf 4; have zf5 := zf 5
   have hwr : w.heap.size < wr.heap.size := (aL He.out)
   clear zf kf
   go_wp2_with fail
   refine bodyPost_ret (v := .agg #[.slice a1 y.mixes.length e1, .slice a2 y.sent.length e2, .slice a3 y.net.length e3, .slice a4 y.got.length e4, .int .i64 y.made, .int .i64 y.lost]) (by simp [results, Tryz.results45, go_sem, z0, z1, z2, z3, z4, z5]) rfl ⟨_, y, q, rfl, Hv.out, by omega, ?_, ?_, ?_⟩
   ·refine Hr.out.below (n := g + 1) ?_ (by omega) (by have := Hr.out.lt.1; omega)
    repeat (refine Below.setCell ?_ (by dsimp only; omega) _)
    exact ah
   ·repeat (refine Tch.setCell ?_ (.inr (by dsimp only; omega)) _)
    exact HT.out
   ·refine WdR.mono (R := rgR w.heap.size w2.heap.size) ?_ (fun b _ hb => Nat.le_of_lt hb.1)
    repeat (refine WdR.set ?_ (fun h => absurd h.1 (Nat.lt_irrefl _)))
    exact Rw.out
end Go.Proofs.YtfaeojmndaplcaaGreatDoor
