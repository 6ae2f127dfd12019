/- Texts that the last file leans on (part 28). -/
import Derived.Test.YtfaeojmndaplcaaGreatDoorM10
import Derived.Test.YtfaeojmndaplcaaGreatDoorM2
import Derived.Test.YtfaeojmndaplcaaGreatDoorM27
import Derived.Test.YtfaeojmndaplcaaGreatDoorM7
set_option linter.unusedVariables false
set_option linter.unusedSimpArgs false
set_option maxHeartbeats 4000000
set_option maxRecDepth 100000
namespace Go.Proofs.YtfaeojmndaplcaaGreatDoor
open Go Go.RowKit
def Bx (R : Nat → Prop) (g : Nat) (w : World) (x : Wd) : Prop :=
 ∃ a1 e1 a2 e2 a3 e3 a4 e4, w.heap[g]? = some (.cells #[.slice a1 x.mixes.length e1, .slice a2 x.sent.length e2, .slice a3 x.net.length e3, .slice a4 x.got.length e4, .int .i64 x.made, .int .i64 x.lost] 33 (0, 0)) ∧ WdR R w (.agg #[.slice a1 x.mixes.length e1, .slice a2 x.sent.length e2, .slice a3 x.net.length e3, .slice a4 x.got.length e4, .int .i64 x.made, .int .i64 x.lost]) x
section
variable {R : Nat → Prop} {g : Nat} {w w5 : World} {x y : Wd} {a1 a2 a3 a4 : Option Addr} {e1 e2 e3 e4 : Nat}
theorem Bx.put (h : Bx R g w x) (hb : Below w.heap.size w w5) (hR : ¬ R g) (h5 : WdR R w5 (.agg #[.slice a1 y.mixes.length e1, .slice a2 y.sent.length e2, .slice a3 y.net.length e3, .slice a4 y.got.length e4, .int .i64 y.made, .int .i64 y.lost]) y) :
  Bx R g ((((((w5.setCell ⟨g, 0, none⟩ (.slice a1 y.mixes.length e1)).setCell ⟨g, 1, none⟩ (.slice a2 y.sent.length e2)).setCell ⟨g, 2, none⟩ (.slice a3 y.net.length e3)).setCell ⟨g, 3, none⟩ (.slice a4 y.got.length e4)).setCell ⟨g, 4, none⟩ (.int .i64 y.made)).setCell ⟨g, 5, none⟩ (.int .i64 y.lost)) y := by
 obtain ⟨_, _, _, _, _, _, _, _, r0, _⟩ := h
 refine ⟨a1, e1, a2, e2, a3, e3, a4, e4, eh _ _ _ _ _ _ (ac hb r0), ?_⟩
 repeat (refine WdR.set ?_ hR)
 exact h5
theorem Bx.go (h : Bx R g w x) (hb : Below w.heap.size w w5) : Bx R g w5 x := by
 obtain ⟨a1, e1, a2, e2, a3, e3, a4, e4, r0, r1⟩ := h
 exact ⟨a1, e1, a2, e2, a3, e3, a4, e4, ac hb r0, r1.go hb⟩
theorem Bx.new {W : World} (n : WdB w.heap.size w (.agg #[.slice a1 x.mixes.length e1, .slice a2 x.sent.length e2, .slice a3 x.net.length e3, .slice a4 x.got.length e4, .int .i64 x.made, .int .i64 x.lost]) x) (hg : g = w.heap.size)
  (h : w.alloc (.cells #[.slice a1 x.mixes.length e1, .slice a2 x.sent.length e2, .slice a3 x.net.length e3, .slice a4 x.got.length e4, .int .i64 x.made, .int .i64 x.lost] 33) = W) :
  Bx (be (fun _ => True) g (g + 1)) g W x ∧ Below w.heap.size w W ∧ g < W.heap.size := by
 subst hg
 subst h
 refine ⟨⟨a1, e1, a2, e2, a3, e3, a4, e4, heap_alloc_new _ _, ?_⟩, ab _ _, by simp only [World.size_alloc]; omega⟩
 exact (WdR.of_wdB n (fun b hb => ⟨trivial, .inl hb⟩)).go (ab _ _)
end
theorem sA (w : World) : Calls Tryz.prog 35 #[] w fun e w' => ∃ v, e = .returned v ∧ WdR (fun b => w.heap.size ≤ b) w' v nz ∧ Below w.heap.size w w' := by
 obtain ⟨i0, hi, hz0, hz1, hz2⟩ := info_parts lT
 go_enter Tryz.func35, Tryz.ntmps35
 go_wp2_with fail
 have hB : Below w.heap.size w (((((w.alloc (Obj.cells #[Value.slice none 0 0, Value.slice none 0 0, Value.slice none 0 0, Value.slice none 0 0, Value.int IntKind.i64 0, Value.int IntKind.i64 0] 33)).alloc (Obj.cells #[] 56)).alloc (Obj.cells #[] 74)).alloc (Obj.cells #[] 56)).alloc (Obj.cells #[Value.slice none 0 0, (Value.slice (some ⟨w.heap.size + 1, 0, none⟩) 0 0), (Value.slice (some ⟨w.heap.size + 1 + 1, 0, none⟩) 0 0), (Value.slice (some ⟨w.heap.size + 1 + 1 + 1, 0, none⟩) 0 0), Value.int IntKind.i64 0, Value.int IntKind.i64 0] 33)) := by (repeat (first | exact zm | refine ae ?_ | refine Below.alloc ?_ (by simp <;> omega) _))
 have kn : (((((w.alloc (Obj.cells #[Value.slice none 0 0, Value.slice none 0 0, Value.slice none 0 0, Value.slice none 0 0, Value.int IntKind.i64 0, Value.int IntKind.i64 0] 33)).alloc (Obj.cells #[] 56)).alloc (Obj.cells #[] 74)).alloc (Obj.cells #[] 56)).alloc (Obj.cells #[Value.slice none 0 0, (Value.slice (some ⟨w.heap.size + 1, 0, none⟩) 0 0), (Value.slice (some ⟨w.heap.size + 1 + 1, 0, none⟩) 0 0), (Value.slice (some ⟨w.heap.size + 1 + 1 + 1, 0, none⟩) 0 0), Value.int IntKind.i64 0, Value.int IntKind.i64 0] 33)).heap[w.heap.size + 1 + 1 + 1 + 1]? = some (.cells #[Value.slice none 0 0, (Value.slice (some ⟨w.heap.size + 1, 0, none⟩) 0 0), (Value.slice (some ⟨w.heap.size + 1 + 1, 0, none⟩) 0 0), (Value.slice (some ⟨w.heap.size + 1 + 1 + 1, 0, none⟩) 0 0), Value.int IntKind.i64 0, Value.int IntKind.i64 0] 33 (0, 0)) := by have := heap_alloc_new ((((w.alloc (Obj.cells #[Value.slice none 0 0, Value.slice none 0 0, Value.slice none 0 0, Value.slice none 0 0, Value.int IntKind.i64 0, Value.int IntKind.i64 0] 33)).alloc (Obj.cells #[] 56)).alloc (Obj.cells #[] 74)).alloc (Obj.cells #[] 56)) (.cells #[Value.slice none 0 0, (Value.slice (some ⟨w.heap.size + 1, 0, none⟩) 0 0), (Value.slice (some ⟨w.heap.size + 1 + 1, 0, none⟩) 0 0), (Value.slice (some ⟨w.heap.size + 1 + 1 + 1, 0, none⟩) 0 0), Value.int IntKind.i64 0, Value.int IntKind.i64 0] 33 (0, 0)); simpa using this
 have km : (((((w.alloc (Obj.cells #[Value.slice none 0 0, Value.slice none 0 0, Value.slice none 0 0, Value.slice none 0 0, Value.int IntKind.i64 0, Value.int IntKind.i64 0] 33)).alloc (Obj.cells #[] 56)).alloc (Obj.cells #[] 74)).alloc (Obj.cells #[] 56)).alloc (Obj.cells #[Value.slice none 0 0, (Value.slice (some ⟨w.heap.size + 1, 0, none⟩) 0 0), (Value.slice (some ⟨w.heap.size + 1 + 1, 0, none⟩) 0 0), (Value.slice (some ⟨w.heap.size + 1 + 1 + 1, 0, none⟩) 0 0), Value.int IntKind.i64 0, Value.int IntKind.i64 0] 33)).heap[w.heap.size]? = some (.cells #[Value.slice none 0 0, Value.slice none 0 0, Value.slice none 0 0, Value.slice none 0 0, Value.int IntKind.i64 0, Value.int IntKind.i64 0] 33 (0, 0)) := (show Below (w.heap.size + 1) (w.alloc _) (((((w.alloc (Obj.cells #[Value.slice none 0 0, Value.slice none 0 0, Value.slice none 0 0, Value.slice none 0 0, Value.int IntKind.i64 0, Value.int IntKind.i64 0] 33)).alloc (Obj.cells #[] 56)).alloc (Obj.cells #[] 74)).alloc (Obj.cells #[] 56)).alloc (Obj.cells #[Value.slice none 0 0, (Value.slice (some ⟨w.heap.size + 1, 0, none⟩) 0 0), (Value.slice (some ⟨w.heap.size + 1 + 1, 0, none⟩) 0 0), (Value.slice (some ⟨w.heap.size + 1 + 1 + 1, 0, none⟩) 0 0), Value.int IntKind.i64 0, Value.int IntKind.i64 0] 33)) from by (repeat (first | exact zm | refine Below.alloc ?_ (by simp <;> omega) _))).block _ (by omega) |>.trans (heap_alloc_new w _)
 have hz : w.heap.size + 1 + 1 + 1 + 1 < (((((w.alloc (Obj.cells #[Value.slice none 0 0, Value.slice none 0 0, Value.slice none 0 0, Value.slice none 0 0, Value.int IntKind.i64 0, Value.int IntKind.i64 0] 33)).alloc (Obj.cells #[] 56)).alloc (Obj.cells #[] 74)).alloc (Obj.cells #[] 56)).alloc (Obj.cells #[Value.slice none 0 0, (Value.slice (some ⟨w.heap.size + 1, 0, none⟩) 0 0), (Value.slice (some ⟨w.heap.size + 1 + 1, 0, none⟩) 0 0), (Value.slice (some ⟨w.heap.size + 1 + 1 + 1, 0, none⟩) 0 0), Value.int IntKind.i64 0, Value.int IntKind.i64 0] 33)).heap.size := by simp
 generalize (((((w.alloc (Obj.cells #[Value.slice none 0 0, Value.slice none 0 0, Value.slice none 0 0, Value.slice none 0 0, Value.int IntKind.i64 0, Value.int IntKind.i64 0] 33)).alloc (Obj.cells #[] 56)).alloc (Obj.cells #[] 74)).alloc (Obj.cells #[] 56)).alloc (Obj.cells #[Value.slice none 0 0, (Value.slice (some ⟨w.heap.size + 1, 0, none⟩) 0 0), (Value.slice (some ⟨w.heap.size + 1 + 1, 0, none⟩) 0 0), (Value.slice (some ⟨w.heap.size + 1 + 1 + 1, 0, none⟩) 0 0), Value.int IntKind.i64 0, Value.int IntKind.i64 0] 33)) = W at *
 have HB := hid hB
 have K : FrW tMx (Value.slice (some ⟨w.heap.size + 1, 0, none⟩) 0 0) (Value.slice (some ⟨w.heap.size + 1 + 1, 0, none⟩) 0 0) (Value.slice (some ⟨w.heap.size + 1 + 1 + 1, 0, none⟩) 0 0) W W w.heap.size (w.heap.size + 1 + 1 + 1 + 1) 0 := ⟨_, kn, km, Own.nil _ _, by omega, hz, Nat.le_refl _⟩
 clear kn km hB
 go_loopw [2] (fun i wr => ∃ k : Nat, k ≤ 3 ∧ i = .int .i64 k ∧ FrW tMx (Value.slice (some ⟨w.heap.size + 1, 0, none⟩) 0 0) (Value.slice (some ⟨w.heap.size + 1 + 1, 0, none⟩) 0 0) (Value.slice (some ⟨w.heap.size + 1 + 1 + 1, 0, none⟩) 0 0) W wr w.heap.size (w.heap.size + 1 + 1 + 1 + 1) k ∧ Below w.heap.size w wr) (fun i _ => 3 - (intOf i).toNat)
 case atStart => exact ⟨0, by omega, rfl, K, HB.out⟩
 case round =>
  obtain ⟨k, hk, rfl, ⟨vm, hn, hm, ho, _, _, hWr⟩, hb⟩ := hrel
  have Ho := hid ho; have Hb := hid hb; have HN := hid hn; have HM := hid hm
  obtain ⟨A, c, rfl, _, _, _⟩ := ho.form
  have hzr := Nat.lt_of_lt_of_le hz hWr
  obtain ⟨q0, q1, q2, q3, q4, q5, qf⟩ := kM hn
  have qf0 := qf 0
  clear ho hb K hn hm
  by_cases hlt : k < 3
  ·clear qf
   go_wp2_with (first | (go_at_call 60; refine (jw _ ?_ _).mono ?_; omega; rintro e w' ⟨rfl, rfl⟩) | (go_at_call 59; refine (pJ _ ?_ _).mono ?_; exact lY hlt; rintro e w5 ⟨aa, bb, rfl, hb5⟩; have p0 := (hb5.cell (p := ⟨w.heap.size + 1 + 1 + 1 + 1, 0, none⟩) hzr).trans q0; have pf := (hb5.frozen (p := ⟨w.heap.size + 1 + 1 + 1 + 1, 0, none⟩) hzr).trans qf0; have hz5 := Nat.lt_of_lt_of_le hzr hb5.size; have Ho5 := hid (Ho.out.go hb5); have hW5 := Nat.le_trans hWr hb5.size) | (at_builtin; go_loud (refine eH rfl (.tmp 20) (.tmp 22) 29 rfl tMx Tryz.underlying29 hi hz0 hz1 hz2 rfl (by decide) (v := .slice A (bB k).length c) (B := W.heap.size) rfl (Ho5.out.below ?_ (Nat.le_refl _)) _ 1 1 rfl (Sl.boxn _ ?_ (wF _ k _ _)) ?_ ?_ ?_ ?_ ?_); go_loud (((repeat (first | exact zm | refine ae ?_ | refine Below.alloc ?_ (by simp <;> omega) _))); (simp); (intro b _ h; cases h); (rw [eZ]; simp; omega); (rw [eZ]; simp [maxLen]; omega); (simp; omega); intro v2 w6 ho2 hg2 hv2; obtain ⟨A2, c2, rfl, _, _, _⟩ := ho2.form; have hbG := (show Below W.heap.size w5 w6 from ((show Below W.heap.size w5 _ from (((Below.refl W.heap.size w5).alloc hW5 _).alloc (by simp; omega) _)).trans (Below.of_grown hg2 (by simp; omega) (fun q hq => (Ho5.out.top q hq).1)))); have p06 := (hbG.cell (p := ⟨w.heap.size + 1 + 1 + 1 + 1, 0, none⟩) hz).trans p0; have pf6 := (hbG.frozen (p := ⟨w.heap.size + 1 + 1 + 1 + 1, 0, none⟩) hz).trans pf)))
   go_roundw
   case rel => exact ⟨k + 1, by omega, by go_num, FrW.step HN.out HM.out (by simpa using ho2) ((hb5.mono hWr).trans hbG) (by omega) hz hWr, (Hb.out.trans (((hb5.mono hWr).trans hbG).mono (by omega))).setCell (by simp <;> omega) _⟩
   case measure => simp [intOf]; omega
  ·have hk3 : k = 3 := by omega
   subst hk3
   have mc := kM HM.out
   obtain ⟨r0, r1, r2, r3, r4, r5, rf⟩ := mc
   have rf0 := rf 0; have rf1 := rf 1; have rf2 := rf 2; have rf3 := rf 3; have rf4 := rf 4; have rf5 := rf 5
   clear qf rf
   go_wp2
   refine bodyPost_ret (v := .agg #[.slice A (bB 3).length c, (Value.slice (some ⟨w.heap.size + 1, 0, none⟩) 0 0), (Value.slice (some ⟨w.heap.size + 1 + 1, 0, none⟩) 0 0), (Value.slice (some ⟨w.heap.size + 1 + 1 + 1, 0, none⟩) 0 0), .int .i64 0, .int .i64 0]) (by simp [results, go_sem, r0, r1, r2, r3, r4, r5]) rfl ⟨_, rfl, ?_, ?_⟩
   ·have ne : (Value.slice A (bB 3).length c).ownBlock ≠ some w.heap.size := fun e => by have := (Ho.out.top _ e).1; omega
    exact ⟨_, _, _, _, rfl, SlR.of_own (df (df (df (df (df (df Ho.out ne (by simp)) ne (by simp)) ne (by simp)) ne (by simp)) ne (by simp)) ne (by simp)) (fun b hb => by omega) (fun _ h => by cases h), SlR.nil _ _ (by simp [maxLen]), SlR.nil _ _ (by simp [maxLen]), SlR.nil _ _ (by simp [maxLen])⟩
   ·exact ((((((Hb.out.setCell (by simp) _).setCell (by simp) _).setCell (by simp) _).setCell (by simp) _).setCell (by simp) _).setCell (by simp) _)
theorem qS {w : World} {cs : List Value} {xs : List Mx} {F : List Nat} (h : nMx.els w cs xs F) (hp : ∀ x ∈ xs, x.seen = [] ∧ x.pool = []) : oMx.els w cs xs F := by
 induction xs generalizing cs F with
 | nil => exact h
 | cons x xs ih =>
  obtain ⟨c1, c2, F1, F2, rfl, rfl, ⟨rfl, rfl⟩, h2⟩ := h
  obtain ⟨e1, e2⟩ := hp x List.mem_cons_self
  obtain ⟨sec, seen, pool⟩ := x
  dsimp only at e1 e2
  subst e1 e2
  exact ⟨_, _, [], _, rfl, rfl, ⟨[_], [_, _], [], [], rfl, rfl, ⟨rfl, rfl⟩, [_], [_], [], [], rfl, rfl, ⟨_, [], rfl, Own.nil _ _, rfl⟩, ⟨_, [], rfl, Own.nil _ _, rfl⟩⟩, ih h2 (fun y hy => hp y (List.mem_cons_of_mem _ hy))⟩
theorem yz {B : Nat} {w : World} {vm : Value} (h : bF nMx 70 B w vm (bB 3)) : pQ B w.heap.size w vm (.slice none 0 0) (.slice none 0 0) (.slice none 0 0) nz := by
 obtain ⟨G, hO, hnd, hlo⟩ := h
 have ht := hO.top
 obtain ⟨cs, h1, h2, h3⟩ := hO
 have hO' : Own oMx 70 0 w vm (bB 3) G := ⟨cs, gR h1 (fun _ _ => Nat.zero_le _), qS h2 (mP 3), h3⟩
 refine ⟨vm.ownBlock.toList ++ G, [], [], [], ⟨⟨vm, G, rfl, hO', rfl⟩, ⟨_, [], rfl, Own.nil _ _, rfl⟩, ⟨_, [], rfl, Own.nil _ _, rfl⟩, ⟨_, [], rfl, Own.nil _ _, rfl⟩⟩, ?_, fun c hc => ?_⟩
 ·simp only [List.append_nil]
  exact List.nodup_append.2 ⟨dD _, hnd, fun a ha b hb e => h3 a (aW.1 ha) (e ▸ hb)⟩
 ·simp only [List.append_nil, List.mem_append] at hc
  rcases hc with hc | hc
  ·exact ht c (aW.1 hc)
  ·exact ⟨hlo c hc, Ty.els_lt h2 c hc⟩
def jP (x : Wd) : Wd := if wdB x = true then cK x else zWd
def nlB (g : Nat) (w : World) : Nat := match w.cell? ⟨g, 2, none⟩ with | some (.slice _ n _) => n | _ => 0
theorem wM {R : Nat → Prop} {g : Nat} {w : World} {x : Wd} (h : Bx R g w x) : nlB g w = x.net.length := by
 obtain ⟨a1, e1, a2, e2, a3, e3, a4, e4, r0, _⟩ := h
 unfold nlB
 rw [(aC r0).2.2.1]
theorem oZ {x : Wd} (h : 0 < x.net.length) : (eS x ⟨2, 0, 0, 0⟩).net.length = x.net.length - 1 := by
 rw [xi]
 cases hn : x.net with
 | nil => rw [hn] at h; simp at h
 | cons t ts => simp only [vR]; simp [bS]
def flN : Nat → Wd → Wd
 | 0, u => u
 | n + 1, u => cJ (flN n u) n true
theorem VD.ps {x : Wd} (h : VD 0 x) : (x.net.length : Int) + aO x.mixes ≤ 4611686018427387904 := by
 have h1 := h.cnt; have h2 := h.md; have h3 := h.l0
 unfold dH at h1
 omega
theorem sy (x : Wd) (v : Value) (w : World) (h : WdB w.heap.size w v x) (hgl : x.got.length ≤ 1073741824) :
  Calls Tryz.prog 63 #[v] w (uY w (jP x)) := by
 have H := hid (fun (wx : World) (hb : Below w.heap.size w wx) => h.go hb)
 obtain ⟨A1, c1, A2, c2, A3, c3, A4, c4, rfl⟩ := (WdR.of_wdB (R := fun _ => True) h (fun _ _ => trivial)).form
 clear h
 obtain ⟨z, hz⟩ : ∃ z, z = jP x := ⟨_, rfl⟩
 rw [← hz]
 have Hz := hid hz
 clear hz
 go_enter Tryz.func63, Tryz.ntmps63
 go_wp2_with fail
 refine (wW x _ _ (H.out _ (by repeat (first | exact zm | apply ae | refine bA ?_ (by omega) | refine Below.setCell ?_ (by first | omega | simp <;> omega) _))) hgl).mono ?_
 rintro e' w1 ⟨rfl, hb1⟩
 obtain ⟨e0, e1⟩ := dJ hb1
 have hc1 : Below w.heap.size w w1 := bt (by repeat (first | exact zm | apply ae | refine bA ?_ (by omega) | refine Below.setCell ?_ (by first | omega | simp <;> omega) _)) hb1
 obtain ⟨k0, k1, k2, k3, k4, k5, _⟩ := aC e0
 have z1 : w.heap.size + 1 < w1.heap.size := (zn e1)
 have z0 : w.heap.size < w1.heap.size := by omega
 cases hv : wdB x with
 | false =>
  obtain rfl := Hz.out.trans (show jP x = zWd by unfold jP; rw [hv]; rfl)
  obtain ⟨q0, q1, q2, q3, q4, q5, qf, qf0, qf1, qf2, qf3, qf4, qf5⟩ := bs e1
  have Hc1 := hid hc1
  clear Hz hb1 hc1 e0 e1 qf hv
  go_wp2_with fail
  refine bodyPost_ret (v := .agg #[.slice none 0 0, .slice none 0 0, .slice none 0 0, .slice none 0 0, .int .i64 0, .int .i64 0]) (by simp [results, Tryz.results63, go_sem, q0, q1, q2, q3, q4, q5]) rfl ⟨_, _, _, _, rfl, pN _ _, ?_⟩
  repeat (refine Below.setCell ?_ (by dsimp only; omega) _)
  exact Hc1.out
 | true =>
  have hx := gV.1 hv
  obtain rfl := Hz.out.trans (show jP x = cK x by unfold jP; rw [hv]; rfl)
  have Hx := hid hx; have Hc1 := hid hc1; have E1 := hid e1
  clear Hz hb1 hc1 e0 e1 hv hx
  go_wp2_with fail
  refine (fe x _ _ (H.out _ Hc1.out) Hx.out.sm).mono ?_
  rintro e' w2 ⟨um, us, un, ug, rfl, n1, hb2⟩
  obtain ⟨B1, d1, B2, d2, B3, d3, B4, d4, rfl, rfl, rfl, rfl⟩ := cQ n1
  have N1 := hid (qH n1); have Hc2 := hid (bt Hc1.out hb2); have E2 := hid (ac hb2 E1.out)
  have z2 : w.heap.size + 1 < w2.heap.size := (zn E2.out)
  clear n1 hb2 k0 k1 k2 k3 k4 k5 E1 z0 z1 Hc1
  go_upto_region 4 with fail
  generalize hgw : World.alloc w2 _ = W1
  obtain ⟨g, hg⟩ : ∃ g, g = w2.heap.size := ⟨_, rfl⟩
  rw [← hg]
  obtain ⟨hbx, hbW, hgW⟩ := Bx.new N1.out hg hgw
  have Hbx := hid hbx; have HbW := hid (bt Hc2.out hbW); have EW := hid (ac hbW E2.out)
  have zg : w.heap.size + 2 ≤ g := by omega
  clear hbx hbW hgw hg N1 Hc2 E2 z2
  have hnR : ¬ be (fun _ => True) g (g + 1) g := aE (Nat.le_refl _) (by omega)
  have hRR : ∀ wx : World, g < wx.heap.size → ∀ b, wx.heap.size ≤ b → be (fun _ => True) g (g + 1) b := fun wx h b hb => ⟨trivial, .inr (by omega)⟩
  have HnR := hid hnR; have HRR := hid hRR
  clear hnR hRR
  go_wp2_with fail
  go_loopw [4] (fun i wr => ∃ (j : Nat) (y : Wd), j ≤ 60 ∧ i = .int .i64 j ∧ gZ (60 - j) y = cK x ∧ VD 0 y ∧ Bx (be (fun _ => True) g (g + 1)) g wr y ∧ Below (w.heap.size + 2) W1 wr) (fun i _ => 60 - (intOf i).toNat)
  case atStart => exact ⟨0, x, by omega, rfl, rfl, Hx.out, Hbx.out, zm⟩
  case round =>
   obtain ⟨j, y, hj, rfl, hcy, hvy, hby, hb⟩ := hrel
   have Hby := hid hby; have Hb := hid hb; have Hvy := hid hvy
   obtain ⟨a1, e1, a2, e2, a3, e3, a4, e4, r0, rw⟩ := hby
   obtain ⟨k0, k1, k2, k3, k4, k5, _⟩ := aC r0
   have hgr := (zn r0)
   have Rw := hid rw
   clear r0 rw
   clear hb hvy Hbx Hx
   by_cases hlt : j < 60
   ·cases hz : gY y with
    | false =>
     obtain rfl : y = cK x := by rw [← hcy, mg _ hz]
     clear hcy
     go_wp2_with fail
     refine (mC (cK x) _ _ Rw.out.wdB Hvy.out.ps).mono ?_
     rw [show (!gY (cK x)) = true by rw [hz]; rfl]
     rintro e w3 ⟨rfl, hb3⟩
     have hb3' := hid (bt (HbW.out.trans (Hb.out.mono (by omega))) hb3)
     have E3 := hid (ac hb3 ((Hb.out.block (w.heap.size + 1) (by omega)).trans EW.out))
     have hby := Hby.out.go hb3
     clear hb3 k0 k1 k2 k3 k4 k5 hgr Rw hz Hb HbW EW Hby
     obtain ⟨a1, e1, a2, e2, a3, e3, a4, e4, r0, rw⟩ := hby
     obtain ⟨k0, k1, k2, k3, k4, k5, _⟩ := aC r0
     have hgr := (zn r0)
     have Rw := hid rw
     clear r0 rw
     go_wp2_with fail
     generalize cK x = y at *
     refine (fe y _ _ Rw.out.wdB Hvy.out.sm).mono ?_
     rintro e' w10 ⟨um, us, un, ug, rfl, n1, hb10⟩
     obtain ⟨B1, d1, B2, d2, B3, d3, B4, d4, rfl, rfl, rfl, rfl⟩ := cQ n1
     have z29 := (zn E3.out)
     obtain ⟨q0, q1, q2, q3, q4, q5, qf, qf0, qf1, qf2, qf3, qf4, qf5⟩ := bs (ac hb10 E3.out)
     have z2' : w.heap.size + 1 < w10.heap.size := by have := hb10.size; omega
     have N1 := hid n1; have Hc10 := hid (bt hb3'.out hb10)
     clear n1 hb10 qf hb3' k0 k1 k2 k3 k4 k5
     go_wp2_with fail
     refine bodyPost_ret (v := .agg #[.slice B1 y.mixes.length d1, .slice B2 y.sent.length d2, .slice B3 y.net.length d3, .slice B4 y.got.length d4, .int .i64 y.made, .int .i64 y.lost]) (by simp [results, Tryz.results63, go_sem, q0, q1, q2, q3, q4, q5]) rfl ⟨_, _, _, _, rfl, aJ.base (B := w3.heap.size) ?_ (by omega), ?_⟩
     ·repeat (refine aJ.set ?_ (by dsimp only; omega))
      exact N1.out
     ·repeat (refine Below.setCell ?_ (by dsimp only; omega) _)
      exact Hc10.out
    | true =>
     have hc1 : gZ (60 - (j + 1)) (pI y) = cK x := by rw [← hcy, show 60 - j = (60 - (j + 1)) + 1 by omega]; simp only [gZ, hz, if_pos]
     have Hc := hid hc1
     clear hc1 hcy
     go_wp2_with fail
     refine (mC y _ _ Rw.out.wdB Hvy.out.ps).mono ?_
     rw [show (!gY y) = false by rw [hz]; rfl]
     rintro e w3 ⟨rfl, hb3⟩
     have Hb3 := hid (Hb.out.trans (hb3.mono (by have := Hb.out.size; omega)))
     have Hby3 := hid (Hby.out.go hb3)
     clear hb3 k0 k1 k2 k3 k4 k5 hgr Rw hz Hb Hby
     obtain ⟨wo, rfl⟩ : ∃ wo : World, wo = wr := ⟨_, rfl⟩
     go_wp2_with fail
     go_loopw [25] (fun _ wr => ∃ z : Wd, d9 z.net.length z = d9 y.net.length y ∧ VD 0 z ∧ Bx (be (fun _ => True) g (g + 1)) g wr z ∧ Below (w.heap.size + 2) W1 wr) (fun _ wr => nlB g wr)
     case atStart => exact ⟨y, rfl, Hvy.out, Hby3.out, Hb3.out⟩
     case round =>
      obtain ⟨z, hh, hvz, hbz, hb⟩ := hrel
      have Hbz := hid hbz; have Hb := hid hb; have Hvz := hid hvz; have Hh := hid hh
      obtain ⟨a1, e1, a2, e2, a3, e3, a4, e4, r0, rw⟩ := hbz
      obtain ⟨k0, k1, k2, k3, k4, k5, _⟩ := aC r0
      have hgr := (zn r0)
      have Rw := hid rw
      clear r0 rw
      clear hb hvz hh
      by_cases hp : 0 < z.net.length
      ·have i1 : decide ((0 : Int) < (z.net.length : Int)) = true := decide_eq_true (by omega)
       go_wp2_with fail
       refine (iR _ z _ ⟨2, 0, 0, 0⟩ _ (HRR.out _ hgr) Rw.out Hvz.out).mono ?_
       rintro e w5 ⟨v5, rfl, hw5, hb5⟩
       obtain ⟨b1', f1, b2', f2, b3', f3, b4', f4, rfl⟩ := hw5.form
       have hz1 := oZ hp
       have hz2 : d9 (z.net.length - 1) (eS z ⟨2, 0, 0, 0⟩) = d9 y.net.length y := by rw [← Hh.out, show z.net.length = (z.net.length - 1) + 1 by omega]; rfl
       have hz3 := Hvz.out.pkt ⟨2, 0, 0, 0⟩
       generalize eS z ⟨2, 0, 0, 0⟩ = z' at *
       rw [← hz1] at hz2
       have Hz1 := hid hz1; have Hz2 := hid hz2; have Hz3 := hid hz3
       obtain ⟨_, _, _, _, _, _, _, _, r5, _⟩ := Hbz.out.go hb5
       have hg5 := (zn r5)
       obtain ⟨q0, q1, q2, q3, q4, q5, qf, qf0, qf1, qf2, qf3, qf4, qf5⟩ := bs r5
       have Hb5 := hid (Hb.out.trans (hb5.mono (by have := Hb.out.size; omega))); have HW5 := hid hw5; have HB5 := hid hb5
       clear r5 hb5 hw5 qf k0 k1 k2 k3 k4 k5
       clear hz1 hz2 hz3
       go_wp2_with fail
       go_roundw
       case rel => exact ⟨z', Hz2.out, Hz3.out, Hbz.out.put HB5.out HnR.out HW5.out, (by (repeat (refine Below.setCell ?_ (by dsimp only; omega) _)); exact Hb5.out)⟩
       case measure => rw [wM (Hbz.out.put HB5.out HnR.out HW5.out), wM Hbz.out, Hz1.out]; omega
      ·have i1 : decide ((0 : Int) < (z.net.length : Int)) = false := decide_eq_false (by omega)
       have Hu := hid (show d9 y.net.length y = z by rw [← Hh.out, show z.net.length = 0 by omega]; rfl)
       obtain ⟨wi, rfl⟩ : ∃ wi : World, wi = wr := ⟨_, rfl⟩
       go_wp2_with fail
       go_loopw [5] (fun i wr => ∃ (q : Nat) (u : Wd), q ≤ 3 ∧ i = .int .i64 q ∧ u = flN q z ∧ VD 0 u ∧ Bx (be (fun _ => True) g (g + 1)) g wr u ∧ Below (w.heap.size + 2) W1 wr) (fun i _ => 3 - (intOf i).toNat)
       case atStart => exact ⟨0, z, by omega, rfl, rfl, Hvz.out, Hbz.out, Hb.out⟩
       case round =>
        obtain ⟨q, u, hq, rfl, hu, hvu, hbu, hb⟩ := hrel
        have Hbu := hid hbu; have Hb := hid hb; have Hvu := hid hvu; have Hu4 := hid hu
        clear k0 k1 k2 k3 k4 k5
        obtain ⟨a1, e1, a2, e2, a3, e3, a4, e4, r0, rw⟩ := hbu
        obtain ⟨k0, k1, k2, k3, k4, k5, _⟩ := aC r0
        have hgr := (zn r0)
        have Rw := hid rw
        clear r0 rw
        clear hb hvu hu
        by_cases hq3 : q < 3
        ·go_wp2_with fail
         refine (mD _ u _ q true _ (HRR.out _ hgr) Rw.out Hvu.out hq3).mono ?_
         rintro e w5 ⟨v5, rfl, hw5, hb5⟩
         obtain ⟨b1', f1, b2', f2, b3', f3, b4', f4, rfl⟩ := hw5.form
         have hz3 := Hvu.out.flush hq3 true
         have hz2 : cJ u q true = flN (q + 1) z := by rw [Hu4.out]; rfl
         generalize cJ u q true = z' at *
         have Hz2 := hid hz2; have Hz3 := hid hz3
         obtain ⟨_, _, _, _, _, _, _, _, r5, _⟩ := Hbu.out.go hb5
         have hg5 := (zn r5)
         obtain ⟨q0, q1, q2, q3, q4, q5, qf, qf0, qf1, qf2, qf3, qf4, qf5⟩ := bs r5
         have Hb5 := hid (Hb.out.trans (hb5.mono (by have := Hb.out.size; omega))); have HW5 := hid hw5; have HB5 := hid hb5
         clear r5 hb5 hw5 qf k0 k1 k2 k3 k4 k5
         clear hz2 hz3
         go_wp2_with fail
         go_roundw
         case rel => exact ⟨q + 1, z', by omega, by go_num, Hz2.out, Hz3.out, Hbu.out.put HB5.out HnR.out HW5.out, (by (repeat (refine Below.setCell ?_ (by dsimp only; omega) _)); exact Hb5.out)⟩
         case measure => simp [intOf]; omega
        ·obtain rfl : q = 3 := by omega
         go_wp2_with fail
         go_roundw
         case rel => exact ⟨j + 1, u, by omega, by go_num, by rw [← Hc.out, Hu4.out, ← Hu.out]; rfl, Hvu.out, Hbu.out, Hb.out⟩
         case measure => simp [intOf]; omega
   ·obtain rfl : y = cK x := by rw [← hcy, show 60 - j = 0 by omega]; rfl
    have hb3' := hid (HbW.out.trans (Hb.out.mono (by omega)))
    have E3 := hid ((Hb.out.block (w.heap.size + 1) (by omega)).trans EW.out)
    clear hcy Hb HbW EW Hby
    go_wp2_with fail
    generalize cK x = y at *
    refine (fe y _ _ Rw.out.wdB Hvy.out.sm).mono ?_
    rintro e' w10 ⟨um, us, un, ug, rfl, n1, hb10⟩
    obtain ⟨B1, d1, B2, d2, B3, d3, B4, d4, rfl, rfl, rfl, rfl⟩ := cQ n1
    have z29 := (zn E3.out)
    obtain ⟨q0, q1, q2, q3, q4, q5, qf, qf0, qf1, qf2, qf3, qf4, qf5⟩ := bs (ac hb10 E3.out)
    have z2' : w.heap.size + 1 < w10.heap.size := by have := hb10.size; omega
    have N1 := hid n1; have Hc10 := hid (bt hb3'.out hb10)
    clear n1 hb10 qf hb3' k0 k1 k2 k3 k4 k5
    go_wp2_with fail
    refine bodyPost_ret (v := .agg #[.slice B1 y.mixes.length d1, .slice B2 y.sent.length d2, .slice B3 y.net.length d3, .slice B4 y.got.length d4, .int .i64 y.made, .int .i64 y.lost]) (by simp [results, Tryz.results63, go_sem, q0, q1, q2, q3, q4, q5]) rfl ⟨_, _, _, _, rfl, aJ.base (B := wr.heap.size) ?_ (by omega), ?_⟩
    ·repeat (refine aJ.set ?_ (by dsimp only; omega))
     exact N1.out
    ·repeat (refine Below.setCell ?_ (by dsimp only; omega) _)
     exact Hc10.out
end Go.Proofs.YtfaeojmndaplcaaGreatDoor
