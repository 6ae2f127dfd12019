/- Texts that the last file leans on (part 36). -/
import Derived.Test.YtfmibcofgckldaaGreatDoorM10
import Derived.Test.YtfmibcofgckldaaGreatDoorM11
import Derived.Test.YtfmibcofgckldaaGreatDoorM2
import Derived.Test.YtfmibcofgckldaaGreatDoorM30
import Derived.Test.YtfmibcofgckldaaGreatDoorM32
import Derived.Test.YtfmibcofgckldaaGreatDoorM9
set_option linter.unusedVariables false
set_option linter.unusedSimpArgs false
set_option maxHeartbeats 4000000
set_option maxRecDepth 100000
namespace Go.Proofs.YtfmibcofgckldaaGreatDoor
open Go Go.RowKit
theorem x5 (w : World) : Calls Tryz.prog 23 #[] w fun e w' => ∃ v, e = .returned v ∧ WdR (fun b => w.heap.size ≤ b) w' v vG ∧ Below w.heap.size w w' := by
 obtain ⟨i0, hi, hz0, hz1, hz2⟩ := info_parts lP
 go_enter Tryz.func23, Tryz.ntmps23
 go_wp2_with fail
 have hB : Below w.heap.size w (((((w.alloc (Obj.cells #[Value.slice none 0 0, Value.slice none 0 0, Value.slice none 0 0, Value.slice none 0 0, Value.int IntKind.i64 0, Value.int IntKind.i64 0] 29)).alloc (Obj.cells #[] 35)).alloc (Obj.cells #[] 42)).alloc (Obj.cells #[] 35)).alloc (Obj.cells #[Value.slice none 0 0, (Value.slice (some ⟨w.heap.size + 1, 0, none⟩) 0 0), (Value.slice (some ⟨w.heap.size + 1 + 1, 0, none⟩) 0 0), (Value.slice (some ⟨w.heap.size + 1 + 1 + 1, 0, none⟩) 0 0), Value.int IntKind.i64 0, Value.int IntKind.i64 0] 29)) := by (repeat (first | exact Below.refl _ _ | refine ab ?_ | refine Below.alloc ?_ (by simp <;> omega) _))
 have kn : (((((w.alloc (Obj.cells #[Value.slice none 0 0, Value.slice none 0 0, Value.slice none 0 0, Value.slice none 0 0, Value.int IntKind.i64 0, Value.int IntKind.i64 0] 29)).alloc (Obj.cells #[] 35)).alloc (Obj.cells #[] 42)).alloc (Obj.cells #[] 35)).alloc (Obj.cells #[Value.slice none 0 0, (Value.slice (some ⟨w.heap.size + 1, 0, none⟩) 0 0), (Value.slice (some ⟨w.heap.size + 1 + 1, 0, none⟩) 0 0), (Value.slice (some ⟨w.heap.size + 1 + 1 + 1, 0, none⟩) 0 0), Value.int IntKind.i64 0, Value.int IntKind.i64 0] 29)).heap[w.heap.size + 1 + 1 + 1 + 1]? = some (.cells #[Value.slice none 0 0, (Value.slice (some ⟨w.heap.size + 1, 0, none⟩) 0 0), (Value.slice (some ⟨w.heap.size + 1 + 1, 0, none⟩) 0 0), (Value.slice (some ⟨w.heap.size + 1 + 1 + 1, 0, none⟩) 0 0), Value.int IntKind.i64 0, Value.int IntKind.i64 0] 29 (0, 0)) := by have := heap_alloc_new ((((w.alloc (Obj.cells #[Value.slice none 0 0, Value.slice none 0 0, Value.slice none 0 0, Value.slice none 0 0, Value.int IntKind.i64 0, Value.int IntKind.i64 0] 29)).alloc (Obj.cells #[] 35)).alloc (Obj.cells #[] 42)).alloc (Obj.cells #[] 35)) (.cells #[Value.slice none 0 0, (Value.slice (some ⟨w.heap.size + 1, 0, none⟩) 0 0), (Value.slice (some ⟨w.heap.size + 1 + 1, 0, none⟩) 0 0), (Value.slice (some ⟨w.heap.size + 1 + 1 + 1, 0, none⟩) 0 0), Value.int IntKind.i64 0, Value.int IntKind.i64 0] 29 (0, 0)); simpa using this
 have km : (((((w.alloc (Obj.cells #[Value.slice none 0 0, Value.slice none 0 0, Value.slice none 0 0, Value.slice none 0 0, Value.int IntKind.i64 0, Value.int IntKind.i64 0] 29)).alloc (Obj.cells #[] 35)).alloc (Obj.cells #[] 42)).alloc (Obj.cells #[] 35)).alloc (Obj.cells #[Value.slice none 0 0, (Value.slice (some ⟨w.heap.size + 1, 0, none⟩) 0 0), (Value.slice (some ⟨w.heap.size + 1 + 1, 0, none⟩) 0 0), (Value.slice (some ⟨w.heap.size + 1 + 1 + 1, 0, none⟩) 0 0), Value.int IntKind.i64 0, Value.int IntKind.i64 0] 29)).heap[w.heap.size]? = some (.cells #[Value.slice none 0 0, Value.slice none 0 0, Value.slice none 0 0, Value.slice none 0 0, Value.int IntKind.i64 0, Value.int IntKind.i64 0] 29 (0, 0)) := (show Below (w.heap.size + 1) (w.alloc _) (((((w.alloc (Obj.cells #[Value.slice none 0 0, Value.slice none 0 0, Value.slice none 0 0, Value.slice none 0 0, Value.int IntKind.i64 0, Value.int IntKind.i64 0] 29)).alloc (Obj.cells #[] 35)).alloc (Obj.cells #[] 42)).alloc (Obj.cells #[] 35)).alloc (Obj.cells #[Value.slice none 0 0, (Value.slice (some ⟨w.heap.size + 1, 0, none⟩) 0 0), (Value.slice (some ⟨w.heap.size + 1 + 1, 0, none⟩) 0 0), (Value.slice (some ⟨w.heap.size + 1 + 1 + 1, 0, none⟩) 0 0), Value.int IntKind.i64 0, Value.int IntKind.i64 0] 29)) from by (repeat (first | exact Below.refl _ _ | refine Below.alloc ?_ (by simp <;> omega) _))).block _ (by omega) |>.trans (heap_alloc_new w _)
 have hz : w.heap.size + 1 + 1 + 1 + 1 < (((((w.alloc (Obj.cells #[Value.slice none 0 0, Value.slice none 0 0, Value.slice none 0 0, Value.slice none 0 0, Value.int IntKind.i64 0, Value.int IntKind.i64 0] 29)).alloc (Obj.cells #[] 35)).alloc (Obj.cells #[] 42)).alloc (Obj.cells #[] 35)).alloc (Obj.cells #[Value.slice none 0 0, (Value.slice (some ⟨w.heap.size + 1, 0, none⟩) 0 0), (Value.slice (some ⟨w.heap.size + 1 + 1, 0, none⟩) 0 0), (Value.slice (some ⟨w.heap.size + 1 + 1 + 1, 0, none⟩) 0 0), Value.int IntKind.i64 0, Value.int IntKind.i64 0] 29)).heap.size := by simp
 generalize (((((w.alloc (Obj.cells #[Value.slice none 0 0, Value.slice none 0 0, Value.slice none 0 0, Value.slice none 0 0, Value.int IntKind.i64 0, Value.int IntKind.i64 0] 29)).alloc (Obj.cells #[] 35)).alloc (Obj.cells #[] 42)).alloc (Obj.cells #[] 35)).alloc (Obj.cells #[Value.slice none 0 0, (Value.slice (some ⟨w.heap.size + 1, 0, none⟩) 0 0), (Value.slice (some ⟨w.heap.size + 1 + 1, 0, none⟩) 0 0), (Value.slice (some ⟨w.heap.size + 1 + 1 + 1, 0, none⟩) 0 0), Value.int IntKind.i64 0, Value.int IntKind.i64 0] 29)) = W at *
 have HB := hid hB
 have K : FrW tMx (Value.slice (some ⟨w.heap.size + 1, 0, none⟩) 0 0) (Value.slice (some ⟨w.heap.size + 1 + 1, 0, none⟩) 0 0) (Value.slice (some ⟨w.heap.size + 1 + 1 + 1, 0, none⟩) 0 0) W W w.heap.size (w.heap.size + 1 + 1 + 1 + 1) 0 := ⟨_, kn, km, Own.nil _ _, by omega, hz, Nat.le_refl _⟩
 clear kn km hB
 go_loopw [2] (fun i wr => ∃ k : Nat, k ≤ 3 ∧ i = .int .i64 k ∧ FrW tMx (Value.slice (some ⟨w.heap.size + 1, 0, none⟩) 0 0) (Value.slice (some ⟨w.heap.size + 1 + 1, 0, none⟩) 0 0) (Value.slice (some ⟨w.heap.size + 1 + 1 + 1, 0, none⟩) 0 0) W wr w.heap.size (w.heap.size + 1 + 1 + 1 + 1) k ∧ Below w.heap.size w wr) (fun i _ => 3 - (intOf i).toNat)
 case atStart => exact ⟨0, by omega, rfl, K, HB.out⟩
 case round =>
  obtain ⟨k, hk, rfl, ⟨vm, hn, hm, ho, _, _, hWr⟩, hb⟩ := hrel
  have Ho := hid ho; have Hb := hid hb; have HN := hid hn; have HM := hid hm
  obtain ⟨A, c, rfl, _, _, _⟩ := ho.form
  have hzr := Nat.lt_of_lt_of_le hz hWr
  obtain ⟨q0, q1, q2, q3, q4, q5, qf⟩ := vD hn
  have qf0 := qf 0
  clear ho hb K hn hm
  by_cases hlt : k < 3
  ·clear qf
   go_wp2_with (first | (go_at_call 42; refine (iN _ ?_ _).mono ?_; omega; rintro e w' ⟨rfl, rfl⟩) | (go_at_call 41; refine (vN _ ?_ _).mono ?_; exact pR hlt; rintro e w5 ⟨aa, bb, rfl, hb5⟩; have p0 := (hb5.cell (p := ⟨w.heap.size + 1 + 1 + 1 + 1, 0, none⟩) hzr).trans q0; have pf := (hb5.frozen (p := ⟨w.heap.size + 1 + 1 + 1 + 1, 0, none⟩) hzr).trans qf0; have hz5 := Nat.lt_of_lt_of_le hzr hb5.size; have Ho5 := hid (Ho.out.go hb5); have hW5 := Nat.le_trans hWr hb5.size) | (at_builtin; go_loud (refine fq rfl (.tmp 20) (.tmp 22) 25 rfl tMx Tryz.underlying25 hi hz0 hz1 hz2 rfl (by decide) (v := .slice A (fP k).length c) (B := W.heap.size) rfl (Ho5.out.below ?_ (Nat.le_refl _)) _ 1 1 rfl (Sl.boxn _ ?_ (vY _ k _ _)) ?_ ?_ ?_ ?_ ?_); go_loud (((repeat (first | exact Below.refl _ _ | refine ab ?_ | refine Below.alloc ?_ (by simp <;> omega) _))); (simp); (intro b _ h; cases h); (rw [mixesNew_len]; simp; omega); (rw [mixesNew_len]; simp [maxLen]; omega); (simp; omega); intro v2 w6 ho2 hg2 hv2; obtain ⟨A2, c2, rfl, _, _, _⟩ := ho2.form; have hbG := (show Below W.heap.size w5 w6 from ((show Below W.heap.size w5 _ from (((Below.refl W.heap.size w5).alloc hW5 _).alloc (by simp; omega) _)).trans (Below.of_grown hg2 (by simp; omega) (fun q hq => (Ho5.out.top q hq).1)))); have p06 := (hbG.cell (p := ⟨w.heap.size + 1 + 1 + 1 + 1, 0, none⟩) hz).trans p0; have pf6 := (hbG.frozen (p := ⟨w.heap.size + 1 + 1 + 1 + 1, 0, none⟩) hz).trans pf)))
   go_roundw
   case rel => exact ⟨k + 1, by omega, by go_num, FrW.step HN.out HM.out (by simpa using ho2) ((hb5.mono hWr).trans hbG) (by omega) hz hWr, (Hb.out.trans (((hb5.mono hWr).trans hbG).mono (by omega))).setCell (by simp <;> omega) _⟩
   case measure => simp [intOf]; omega
  ·have hk3 : k = 3 := by omega
   subst hk3
   have mc := vD HM.out
   obtain ⟨r0, r1, r2, r3, r4, r5, rf⟩ := mc
   have rf0 := rf 0; have rf1 := rf 1; have rf2 := rf 2; have rf3 := rf 3; have rf4 := rf 4; have rf5 := rf 5
   clear qf rf
   go_wp2
   refine bodyPost_ret (v := .agg #[.slice A (fP 3).length c, (Value.slice (some ⟨w.heap.size + 1, 0, none⟩) 0 0), (Value.slice (some ⟨w.heap.size + 1 + 1, 0, none⟩) 0 0), (Value.slice (some ⟨w.heap.size + 1 + 1 + 1, 0, none⟩) 0 0), .int .i64 0, .int .i64 0]) (by simp [results, go_sem, r0, r1, r2, r3, r4, r5]) rfl ⟨_, rfl, ?_, ?_⟩
   ·have ne : (Value.slice A (fP 3).length c).ownBlock ≠ some w.heap.size := fun e => by have := (Ho.out.top _ e).1; omega
    exact ⟨_, _, _, _, rfl, SlR.of_own (cE (cE (cE (cE (cE (cE Ho.out ne (by simp)) ne (by simp)) ne (by simp)) ne (by simp)) ne (by simp)) ne (by simp)) (fun b hb => by omega) (fun _ h => by cases h), SlR.nil _ _ (by simp [maxLen]), SlR.nil _ _ (by simp [maxLen]), SlR.nil _ _ (by simp [maxLen])⟩
   ·exact ((((((Hb.out.setCell (by simp) _).setCell (by simp) _).setCell (by simp) _).setCell (by simp) _).setCell (by simp) _).setCell (by simp) _)
theorem yp : (Tryz.prog.info? 45).map (fun i => (i.zero, i.size, i.bytes)) = some (some (.agg #[.int .i64 0, .int .i64 0, .int .i64 0, .int .i64 0]), 4, 32) := by kernel_rfl
def yD (w : World) (e : Ending) (w' : World) : Prop := ∃ v evs, e = .returned v ∧ be tEv 45 w.heap.size w' v evs ∧ Below w.heap.size w w'
def okR (g b4 : Nat) (ov : Value) (b : Nat) : Prop := b ≠ g ∧ b ≠ b4 ∧ ov.ownBlock ≠ some b
theorem WdR.keep {R : Nat → Prop} {w w' : World} {v : Value} {x : Wd} (h : WdR R w v x) (hs : w.heap.size ≤ w'.heap.size) (hk : ∀ b, R b → b < w.heap.size → w'.heap[b]? = w.heap[b]?) : WdR R w' v x := by
 obtain ⟨vm, vs, vn, vg, rfl, h1, h2, h3, h4⟩ := h
 exact ⟨_, _, _, _, rfl, h1.keep hs hk, h2.keep hs hk, h3.keep hs hk, h4.keep hs hk⟩
def PlI (B b4 q : Nat) (w : World) (ov : Value) (evs : List Ev) (y : Wd) : Prop :=
 Rdr B w B q ∧ Own tEv 45 (B + 1) w ov evs [] ∧ Bx (okR B b4 ov) b4 w y ∧ B + 1 ≤ b4 ∧ ov.ownBlock ≠ some b4 ∧ VD 0 y
section
variable {B b4 q q' : Nat} {w w' : World} {ov v' : Value} {evs : List Ev} {y z : Wd} {ev : Ev}
theorem PlI.tch (h : PlI B b4 q w ov evs y) (hr : Rdr B w' B q') (ht : Tch [B] w w') : PlI B b4 q' w' ov evs y := by
 obtain ⟨h1, h2, ⟨a1, e1, a2, e2, a3, e3, a4, e4, r0, r1⟩, h4, h5, h6⟩ := h
 refine ⟨hr, h2.keep (fun b hb => ht.block b (h2.top b hb).2 (fun hm => ?_)) (fun _ h => by cases h), ⟨a1, e1, a2, e2, a3, e3, a4, e4, ht.row r0 (fun hm => ?_), r1.keep ht.size (fun b hb hlt => ht.block b hlt (fun hm => ?_))⟩, h4, h5, h6⟩
 ·have := (h2.top b hb).1; simp at hm; omega
 ·simp at hm; omega
 ·simp at hm; exact hb.1 hm
theorem PlI.pick (h : PlI B b4 q w ov evs y) (hr : Rdr B w' B q') (hg : w.grownBy w' (some B)) : PlI B b4 q' w' ov evs y :=
 h.tch hr (Tch.grown hg (fun k hk _ => by injection hk with hk; subst hk; exact List.mem_cons_self))
theorem PlI.go (h : PlI B b4 q w ov evs y) (hb : Below w.heap.size w w') : PlI B b4 q w' ov evs y :=
 h.tch (h.1.below hb h.1.lt.2 (Nat.le_of_lt h.1.lt.2)) (Tch.of hb)
theorem PlI.app (h : PlI B b4 q w ov evs y) (ho : Own tEv 45 (B + 1) w' v' (evs ++ [ev]) []) (hg : w.grownBy w' ov.ownBlock) (hv : v'.ownBlock = ov.ownBlock ∨ v'.ownBlock = some w.heap.size) : PlI B b4 q w' v' (evs ++ [ev]) y := by
 obtain ⟨h1, h2, ⟨a1, e1, a2, e2, a3, e3, a4, e4, r0, r1⟩, h4, h5, h6⟩ := h
 have hgw := h1.lt
 have hn : ov.ownBlock ≠ some B := fun e => by have := (h2.top _ e).1; omega
 have h4w := (Array.getElem?_eq_some_iff.1 r0).1
 have hB : Below (B + 1) w w' := (Below.refl _ _).grown hg (by omega) (fun k hk => (h2.top k hk).1)
 refine ⟨h1.below hB (by omega) (by omega), ho, ⟨a1, e1, a2, e2, a3, e3, a4, e4, aJ hg r0 h5, ((r1.mono (R' := fun b => okR B b4 ov b ∧ okR B b4 v' b) (fun b hlt hb => ⟨hb, hb.1, hb.2.1, ?_⟩)).keep hg.size (fun b hb hlt => hg.block b hlt (fun e => hb.1.2.2 e.symm))).mono (fun b _ hb => hb.2)⟩, h4, ?_, h6⟩
 ·rcases hv with hv | hv
  ·rw [hv]; exact hb.2.2
  ·rw [hv]; intro e; injection e with e; omega
 ·rcases hv with hv | hv
  ·rw [hv]; exact h5
  ·rw [hv]; intro e; injection e with e; omega
theorem PlI.put {a1 a2 a3 a4 : Option Addr} {e1 e2 e3 e4 : Nat} (h : PlI B b4 q w ov evs y) (hb : Below w.heap.size w w') (hz : WdR (okR B b4 ov) w' (.agg #[.slice a1 z.mixes.length e1, .slice a2 z.sent.length e2, .slice a3 z.net.length e3, .slice a4 z.got.length e4, .int .i64 z.made, .int .i64 z.lost]) z) (hv : VD 0 z) :
  PlI B b4 q ((((((w'.setCell ⟨b4, 0, none⟩ (.slice a1 z.mixes.length e1)).setCell ⟨b4, 1, none⟩ (.slice a2 z.sent.length e2)).setCell ⟨b4, 2, none⟩ (.slice a3 z.net.length e3)).setCell ⟨b4, 3, none⟩ (.slice a4 z.got.length e4)).setCell ⟨b4, 4, none⟩ (.int .i64 z.made)).setCell ⟨b4, 5, none⟩ (.int .i64 z.lost)) ov evs z := by
 obtain ⟨h1, h2, h3, h4, h5, h6⟩ := h
 have h1' := h1.below hb h1.lt.2 (Nat.le_of_lt h1.lt.2)
 refine ⟨h1'.below (n := B + 1) ?_ (by omega) (by omega), Own.keep (w := w) h2 (fun b hb' => ?_) (fun _ h => by cases h), h3.put hb (fun h => h.2.1 rfl) hz, h4, h5, hv⟩
 ·repeat (refine Below.setCell ?_ (by dsimp only; omega) _)
  exact Below.refl _ _
 ·have hne : b ≠ b4 := fun e => h5 (by rw [hb', e])
  rw [bS b hne]
  exact hb.block b (h2.top b hb').2
end
theorem b9 (v : Value) (xs : List Int) (w : World) (h : SlB g8 w.heap.size w v xs) (hx : ∀ x ∈ xs, 0 ≤ x ∧ x ≤ 255) : Calls Tryz.prog 12 #[v] w (yD w) := by
 obtain ⟨i0, hi, hz0, hz1, hz2⟩ := info_parts yp
 go_enter Tryz.func12, Tryz.ntmps12
 go_wp2_with fail
 refine (yC v xs _ h hx).mono ?_
 rintro e w1 ⟨rfl, hr, hb1⟩
 clear h hx
 have hgr := hr.lt.2
 go_wp2_with fail
 refine (x5 _).mono ?_
 rintro e w2 ⟨v2, rfl, hw2, hb2⟩
 obtain ⟨a1, c1, a2, c2, a3, c3, a4, c4, rfl⟩ := hw2.form
 replace hr := hr.below hb2 hgr (Nat.le_of_lt hgr)
 have Hb2 := hid (hb1.trans (hb2.mono (Nat.le_of_lt hgr)))
 have hg2 := hr.lt.2
 have Hw2 := hid (hw2.mono (R' := fun b => b ≠ w.heap.size) (fun b _ hb => by omega))
 clear hb1 hb2 hw2
 go_upto_region 3 with fail
 generalize hgw : World.alloc w2 _ = W3
 obtain ⟨e3, hb3, s3⟩ := aA hgw
 have s3' := hb3.size
 have HE3 := hid e3; have Hb3 := hid hb3; have Hr2 := hid hr
 clear hgw e3 hb3 hr
 go_upto_region 4 with fail
 generalize hgw : World.alloc W3 _ = W4
 obtain ⟨e4, hb4, s4⟩ := aA hgw
 have s4' := hb4.size
 have hpl : PlI w.heap.size w2.heap.size 0 W4 (.slice (some ⟨W3.heap.size, 0, none⟩) 0 0) [] vG := by
  have hr3 := Hr2.out.below Hb3.out hg2 (Nat.le_of_lt hg2)
  refine ⟨hr3.below hb4 hr3.lt.2 (Nat.le_of_lt hr3.lt.2), dG e4 (by omega), ⟨_, _, _, _, _, _, _, _, heap_go hb4 HE3.out, ((Hw2.out.mono (R' := okR w.heap.size w2.heap.size (.slice (some ⟨W3.heap.size, 0, none⟩) 0 0)) (fun b hlt hb => ⟨hb, ?_, ?_⟩)).go Hb3.out).go hb4⟩, by omega, ?_, vK⟩
  ·omega
  ·intro e; simp [Value.ownBlock] at e; omega
  ·intro e; simp [Value.ownBlock] at e; omega
 have Hb4 := hid (bt (bt Hb2.out Hb3.out) hb4)
 have Hpl := hid hpl
 have h42 : w.heap.size + 1 ≤ w2.heap.size := by omega
 clear hgw e4 hb4 hpl HE3 Hb3 Hr2 Hw2
 go_wp2_with fail
 refine (d7 _ _ _ _ _ Hpl.out.1 (by omega)).mono ?_
 rintro e wa ⟨m, rfl, m0, m1, _, hr, hg⟩
 have m1 := m1 (by omega)
 replace Hpl := hid (Hpl.out.pick hr hg)
 replace Hb4 := hid (Hb4.out.trans (Below.of_grown hg Hb4.out.size (fun k hk => by injection hk with hk; omega)))
 clear hr hg
 go_upto_region 5 with fail
 go_cut [17] (fun s17 wx => ∃ m2 : Int, s17 = .bool (m2 == 0) ∧ PlI w.heap.size w2.heap.size 2 wx (.slice (some ⟨W3.heap.size, 0, none⟩) 0 0) [] vG ∧ Below w.heap.size w wx)
 case first =>
  go_wp2_with fail
  refine (d7 _ _ _ _ _ Hpl.out.1 (by omega)).mono ?_
  rintro e wb ⟨m2, rfl, m20, m21, _, hr, hg⟩
  have Hp2 := hid (Hpl.out.pick hr hg)
  have Hb5 := hid (Hb4.out.trans (Below.of_grown hg Hb4.out.size (fun k hk => by injection hk with hk; omega)))
  clear hr hg m21
  go_wp2_with fail
  go_meet
  exact ⟨m2, rfl, Hp2.out, Hb5.out⟩
 case rest =>
  obtain ⟨m2, rfl, hpl2, hb5⟩ := hcut
  rename_i hK
  refine hK _ _ ?_
  have Hp2 := hid hpl2; have Hb5 := hid hb5
  clear hpl2 hb5 Hpl Hb4
  go_cut [6] (fun s6 wx => ∃ (N : Int) (q0 : Nat), s6 = .int .i64 N ∧ N ≤ 81 ∧ q0 ≤ 3 ∧ PlI w.heap.size w2.heap.size q0 wx (.slice (some ⟨W3.heap.size, 0, none⟩) 0 0) [] vG ∧ Below w.heap.size w wx)
  case first =>
   by_cases hm : m2 = 0
   ·subst hm
    go_wp2_with fail
    refine (d7 _ _ _ _ _ Hp2.out.1 (by omega)).mono ?_
    rintro e wb ⟨m3, rfl, m30, m31, _, hr, hg⟩
    have m31 := m31 (by omega)
    have Hp3 := hid (Hp2.out.pick hr hg)
    have Hb6 := hid (Hb5.out.trans (Below.of_grown hg Hb5.out.size (fun k hk => by injection hk with hk; omega)))
    have e1 : IntKind.i64.wrap (79 + m3) = 79 + m3 := d9 (by omega) (by omega)
    clear hr hg
    go_wp2_with fail
    go_meet
    exact ⟨_, _, rfl, by omega, by omega, Hp3.out, Hb6.out⟩
   ·have hm : (m2 == 0) = false := by simpa using hm
    go_wp2_with fail
    go_meet
    exact ⟨_, _, rfl, by omega, by omega, Hp2.out, Hb5.out⟩
  case rest =>
   obtain ⟨N, q0, rfl, hN, hq0, hpl3, hb6⟩ := hcut
   have Hp3 := hid hpl3; have Hb6 := hid hb6
   clear hpl3 hb6 Hp2 Hb5 s3 s4 s3' s4' m0 m1
   go_wp2_with fail
   go_loopw [5, 7] (fun ov i wr => ∃ (k : Nat) (y : Wd) (evs : List Ev) (q : Nat), (k ≤ 81 ∧ (0 < k → (k : Int) ≤ N)) ∧ i = .int .i64 k ∧ evs.length = k ∧ q ≤ 3 + 8 * k ∧ PlI w.heap.size w2.heap.size q wr ov evs y ∧ Below w.heap.size w wr) (fun _ i _ => N.toNat - (intOf i).toNat)
   case atStart => exact ⟨0, vG, [], q0, ⟨by omega, fun h => by omega⟩, rfl, rfl, by omega, Hp3.out, Hb6.out⟩
   case round =>
    obtain ⟨k, y, evs, q, ⟨hk, hk2⟩, rfl, hel, hq, hpl, hb⟩ := hrel
    have Hpl := hid hpl; have Hb := hid hb; have Hel := hid hel; have Hk2 := hid hk2
    obtain ⟨a1, e1, a2, e2, a3, e3, a4, e4, r0, rw⟩ := hpl.2.2.1
    obtain ⟨k0, k1, k2, k3, k4, k5, _⟩ := al r0
    clear hpl hb hel r0 rw Hp3 Hb6 hk2
    by_cases hlt : (k : Int) < N
    ·go_wp2_with fail
     refine (xU _ y _ _ _ _ Hpl.out.1 (by omega) ⟨_, _, _, _, _, _, _, _, rfl⟩).mono ?_
     rintro e wa ⟨ev, q2, rfl, hq2, hr, hT⟩
     replace Hpl := hid (Hpl.out.tch hr hT)
     replace Hb := hid (Hb.out.trans (hT.below Hb.out.size (by simp)))
     have HtA := hid Hpl.out.2.1.top
     clear hr hT k0 k1 k2 k3 k4 k5
     go_upto_region 11 with fail
     generalize hgw : World.alloc wa _ = wb
     obtain ⟨e8, hb8, s8⟩ := aA hgw
     replace Hpl := hid (Hpl.out.go hb8)
     replace Hb := hid (bt Hb.out hb8)
     obtain ⟨v0, v1, v2, v3, _⟩ := aQ e8
     have E8 := hid e8
     have hbb := Hb.out.size
     clear hgw e8 hb8
     go_upto_region 12 with (at_builtin; go_loud (refine aD rfl (.tmp 29) (.tmp 31) 23 rfl tEv kY (B := w.heap.size + 1) (v := u5) (xs := evs) (ys := [ev]) Tryz.underlying23 hi hz0 hz1 hz2 rfl (by decide) (by decide) rfl (Hpl.out.2.1.go (lit_below _ _)) _ 1 1 rfl (Sl.box' (T := tEv) (x := ev) _ ?_ ⟨rfl, rfl⟩) ?_ ?_ ?_; rfl; (have := Hel.out; simp; omega); (simp; omega); intro v5 w5 ho5 hg5 hv5))
     have E8' := hid (aJ hg5 (heap_go (lit_below _ _) E8.out) (fun e => by have := (HtA.out _ e).2; omega))
     replace Hb := hid ((bt Hb.out (lit_below _ _)).trans (Below.of_grown hg5 (bt Hb.out (lit_below _ _)).size (fun k hk => by have := (HtA.out _ hk).1; omega)))
     replace Hpl := hid ((Hpl.out.go (lit_below _ _)).app ho5 hg5 hv5)
     clear ho5 hg5 hv5 E8 v0 v1 v2 v3 HtA s8
     obtain ⟨b1, f1, b2, f2, b3, f3, b4, f4, r0, rw⟩ := Hpl.out.2.2.1
     obtain ⟨k0, k1, k2, k3, k4, k5, kf⟩ := al r0
     obtain ⟨v0, v1, v2, v3, _⟩ := aQ E8'.out
     have ht5 := Hpl.out.2.1.top
     have hr5 := Hpl.out.1.lt.2
     have h45 := (Array.getElem?_eq_some_iff.1 r0).1
     go_wp2_with fail
     refine (tD _ y _ ev _ (fun b hb => ⟨by omega, by omega, fun e => by have := (ht5 _ e).2; omega⟩) rw Hpl.out.2.2.2.2.2).mono ?_
     rintro e w6 ⟨v6, rfl, hw6, hb6⟩
     obtain ⟨g1, j1, g2, j2, g3, j3, g4, j4, rfl⟩ := hw6.form
     obtain ⟨q0', q1, q2', q3, q4, q5, qf⟩ := al (heap_go hb6 r0)
     have qf0 := qf 0; have qf1 := qf 1; have qf2 := qf 2; have qf3 := qf 3; have qf4 := qf 4; have qf5 := qf 5
     have hpl := hid (Hpl.out.put hb6 hw6 (Hpl.out.2.2.2.2.2.do_ ev))
     have hb := hid (bt Hb.out hb6)
     clear k0 k1 k2 k3 k4 k5 kf v0 v1 v2 v3 r0 rw hw6 hb6 qf Hpl Hb E8'
     go_wp2_with fail
     go_roundw
     case rel => exact ⟨k + 1, _, evs ++ [ev], q2, ⟨by omega, fun _ => by omega⟩, by go_num, (by have := Hel.out; simp [this]), by omega, hpl.out, (by (repeat (refine Below.setCell ?_ (by dsimp only; omega) _)); exact hb.out)⟩
     case measure => simp [intOf]; omega
    ·have Ho := hid Hpl.out.2.1
     go_wp2
     go_ret
     exact ⟨_, evs, rfl, ⟨[], Ho.out.base (by omega), List.nodup_nil, fun _ h => by cases h⟩, Hb.out⟩
end Go.Proofs.YtfmibcofgckldaaGreatDoor
