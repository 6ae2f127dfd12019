/- Texts that the last file leans on (part 19). -/
import Derived.Deep.DeepCutAuto
import Derived.Test.YtfaeojmndaplcaaGreatDoorP13
import Derived.Test.YtfaeojmndaplcaaGreatDoorP14
import Derived.Test.YtfaeojmndaplcaaGreatDoorP18
import Derived.Test.YtfaeojmndaplcaaGreatDoorP6
set_option linter.unusedVariables false
set_option linter.unusedSimpArgs false
set_option maxHeartbeats 4000000
set_option maxRecDepth 100000
namespace Go.Proofs.YtfaeojmndaplcaaGreatDoor
open Go Go.RowKit
section
open Go.MuLone
theorem Run.setLo {B b o j : Nat} {w : World} {x : Wd} {vm vs vn vg : Value} {Fm Fs Fn Fg : List Nat} (h : Run B w b o x vm vs vn vg Fm Fs Fn Fg) (hj : j < o) (u : Value) : Run B (w.setCell ⟨b, j, none⟩ u) b o x vm vs vn vg Fm Fs Fn Fg := by
 obtain ⟨n1, n2, n3, n4⟩ := h.nb
 refine ⟨?_, ?_, ?_, ?_, ?_, ?_, fun j => (cG _ _ _ _).trans (h.fz j), dU.keep h.em ?_, bT.keep h.es ?_, dV.keep h.en ?_, bT.keep h.eg ?_, h.nd, h.lo⟩
 ·rw [an _ _ _ _ _ (by omega)]; exact h.c0
 ·rw [an _ _ _ _ _ (by omega)]; exact h.c1
 ·rw [an _ _ _ _ _ (by omega)]; exact h.c2
 ·rw [an _ _ _ _ _ (by omega)]; exact h.c3
 ·rw [an _ _ _ _ _ (by omega)]; exact h.c4
 ·rw [an _ _ _ _ _ (by omega)]; exact h.c5
 ·exact fun c hc => Below.heap_setCell _ _ _ _ (fun e => n1 ((show c = b from e) ▸ hc))
 ·exact fun c hc => Below.heap_setCell _ _ _ _ (fun e => n2 ((show c = b from e) ▸ hc))
 ·exact fun c hc => Below.heap_setCell _ _ _ _ (fun e => n3 ((show c = b from e) ▸ hc))
 ·exact fun c hc => Below.heap_setCell _ _ _ _ (fun e => n4 ((show c = b from e) ▸ hc))
theorem Rn.setLo {B b o j : Nat} {w : World} {x : Wd} {F : List Nat} (h : Rn B w b o x F) (hj : j < o) (u : Value) : Rn B (w.setCell ⟨b, j, none⟩ u) b o x F := by
 obtain ⟨_, _, _, _, _, _, _, _, hr, e⟩ := h
 exact ⟨_, _, _, _, _, _, _, _, hr.setLo hj u, e⟩
theorem Rn.fz {B b o : Nat} {w : World} {x : Wd} {F : List Nat} (h : Rn B w b o x F) (j : Nat) : w.frozen? ⟨b, j, none⟩ = false := by
 obtain ⟨_, _, _, _, _, _, _, _, hr, rfl⟩ := h
 exact hr.fz j
theorem fk {P : Program} {fn : Func} {R : Ending → World → Prop} {t t' : Array Value} (hr : ∀ w v, (results fn t).run P w = .ok v w → (results fn t').run P w = .ok v w) : ∀ (ds : List Deferred) (u : FrameMode) (w : World), Leaves P fn t R ds u w → Leaves P fn t' R ds u w
 | [], .returning, w, h => by
  obtain ⟨v, h1, h2⟩ := h
  exact ⟨v, hr w v h1, h2⟩
 | [], .panicking chain, w, h => h
 | [], .run, _, h => h
 | d :: ds, u, w, h => by
  obtain ⟨hu, fv, cap, f, args, h1, h2, h3⟩ := h
  refine ⟨hu, fv, cap, f, args, h1, h2, h3.mono fun e u' w' h => ?_⟩
  cases e with
  | returned v => exact fk hr ds _ _ h
  | panicked c => exact fk hr ds _ _ h
  | outgrown => exact h
theorem mW {R : Ending → World → Prop} {c : List PanicEntry} {a : Act} {d : Option Tmp} {v : Value} {w : World} (h : bodyPostD Tryz.prog Tryz.f49 R (.panic c) (a.put d v) w) : bodyPostD Tryz.prog Tryz.f49 R (.panic c) a w := by
 have hd : (a.put d v).defers = a.defers := by cases d <;> rfl
 have h' : Leaves Tryz.prog Tryz.f49 (a.put d v).tmps R (a.put d v).defers (.panicking c) w := h
 rw [hd] at h'
 exact fk (fun w v h => by rw [results_none rfl] at h ⊢; exact h) _ _ _ h'
def te (B : Nat) (w : World) (b : Nat) (F : List Nat) (y : Wd) (e : Ending) (w' : World) : Prop :=
 e = .returned (.tuple #[]) ∧ ∃ F', Rn B w' b 2 y F' ∧ (∀ c ∈ F', c ∈ F ∨ w.heap.size ≤ c) ∧ Tch F w w'
def lR (B : Nat) (W2 : World) (b : Nat) (w : World) (y : Wd) (F5 : List Nat) (w5 : World) (F : List Nat) : Prop := w5.cell? ⟨b, 0, none⟩ = some (.int .i32 1) ∧ Rn B w5 b 2 y F5 ∧ (∀ q ∈ F5, q ∈ F ∨ w.heap.size ≤ q) ∧ Tch F w w5
set_option maxHeartbeats 40000000 in
theorem ri (B b : Nat) (x : Wd) (F : List Nat) (ev : Ev) (w : World) (h : Rn B w b 2 x F) (hx : VD 0 x) (hB : B ≤ w.heap.size) (hB1 : 1 ≤ B) (hg : dW w) (hl : w.cell? ⟨b, 0, none⟩ = some (.int .i32 0)) :
  Calls Tryz.prog 49 #[.pointer (some ⟨b, 0, none⟩), .agg #[.int .i64 ev.kind, .int .i64 ev.a, .int .i64 ev.b, .int .i64 ev.c]] w (te B w b F (doW x ev)) := by
 obtain ⟨kd, a, b1, c⟩ := ev
 dsimp only
 obtain ⟨y, hy⟩ : ∃ y, y = doW x ⟨kd, a, b1, c⟩ := ⟨_, rfl⟩
 rw [← hy]
 have Hy := hid hy
 obtain ⟨vm, vs, vn, vg, Fm, Fs, Fn, Fg, hr, rfl⟩ := h
 have hrbw := hr.blk
 have HTW := hid (ab w (.cells #[.int .i64 kd, .int .i64 a, .int .i64 b1, .int .i64 c] 38))
 have eb := heap_alloc_new w (.cells #[.int .i64 kd, .int .i64 a, .int .i64 b1, .int .i64 c] 38)
 have hr1 := hr.go HTW.out
 have g0 := (HTW.out.cell (p := ⟨b, 0, none⟩) hrbw).trans hl
 have gf := hr1.fz 0
 have s1 : (w.alloc (.cells #[.int .i64 kd, .int .i64 a, .int .i64 b1, .int .i64 c] 38)).heap.size = w.heap.size + 1 := by simp
 have hg1 : dW (w.alloc (.cells #[.int .i64 kd, .int .i64 a, .int .i64 b1, .int .i64 c] 38)) := hg.go HTW.out
 have Hmem := hid (show b ∈ b :: (Fm ++ (Fs ++ (Fn ++ Fg))) from List.mem_cons_self)
 have hr2 := hr1.setLo (j := 0) (by omega) (.int .i32 1)
 have hg2 : dW ((w.alloc (.cells #[.int .i64 kd, .int .i64 a, .int .i64 b1, .int .i64 c] 38)).setCell ⟨b, 0, none⟩ (.int .i32 1)) := (World.cell?_of_block (w := w.alloc (.cells #[.int .i64 kd, .int .i64 a, .int .i64 b1, .int .i64 c] 38)) (a := ⟨0, 0, none⟩) (Below.heap_setCell _ _ _ _ (by dsimp only; have := hr.lo b List.mem_cons_self; omega))).trans hg1
 have eb2 := (Below.heap_setCell (w.alloc (.cells #[.int .i64 kd, .int .i64 a, .int .i64 b1, .int .i64 c] 38)) ⟨b, 0, none⟩ (.int .i32 1) w.heap.size (by dsimp only; omega)).trans eb
 have gl := World.cell?_setCell_same (w.alloc (.cells #[.int .i64 kd, .int .i64 a, .int .i64 b1, .int .i64 c] 38)) ⟨b, 0, none⟩ (.int .i32 1) g0
 have hT2 := (Tch.of (S := b :: (Fm ++ (Fs ++ (Fn ++ Fg)))) HTW.out).setCell (p := ⟨b, 0, none⟩) (.inl List.mem_cons_self) (.int .i32 1)
 have s2 : ((w.alloc (.cells #[.int .i64 kd, .int .i64 a, .int .i64 b1, .int .i64 c] 38)).setCell ⟨b, 0, none⟩ (.int .i32 1)).heap.size = w.heap.size + 1 := by rw [ao]; exact s1
 have Hrn := hid (show Rn B _ b 2 x _ from ⟨_, _, _, _, _, _, _, _, hr2, rfl⟩); have Hg2 := hid hg2; have Eb2 := hid eb2; have Gl := hid gl; have HT2 := hid hT2; have Hx := hid hx
 clear hr hr1 hr2 eb eb2 hg1 hg2 gl hT2 hg hl hx hy s1
 go_enter_defers Tryz.func49, Tryz.ntmps49
 go_wp2_with fail
 refine (lock_free kM ⟨b, 0, none⟩ _ g0 gf).mono ?_
 rintro e w' ⟨rfl, rfl⟩
 generalize (w.alloc (.cells #[.int .i64 kd, .int .i64 a, .int .i64 b1, .int .i64 c] 38)).setCell ⟨b, 0, none⟩ (.int .i32 1) = W2 at *
 obtain ⟨v0, v1, v2, v3, _⟩ := aN Eb2.out
 have hw2 : w.heap.size < W2.heap.size := by omega
 have HS := hid (fun (wx : World) (hT : Tch [] W2 wx) => And.intro (aN (hT.row Eb2.out (by simp))) (show w.heap.size < wx.heap.size ∧ b < wx.heap.size by have := hT.size; omega))
 clear g0 gf
 by_cases hk : kd = 1
 ·obtain rfl := Hy.out.trans (show doW x ⟨kd, a, b1, c⟩ = cY x a b1 c by rw [hk]; rfl)
  have i1 : (kd == 1) = true := by simp [hk]
  clear hk
  go_wp2_with fail
  clear v0 v1 v2 v3
  refine rgN [] 10 (by kernel_rfl) rfl (fun _ _ _ _ _ h => mW h) fun wd hH hbwd swd => ?_
  simp only [pw]
  refine ag [0, 1, 2, 3, 4, 5, 6, 7, 8] ?_
  iterate 9 (refine ra HS.out rfl (by kernel_rfl) rfl (fun _ f => by go_simp; try with_reducible rfl) ?_; try simp only [pw])
  refine rz 9 (by kernel_rfl) rfl fun K hK => ?_
  go_simp
  (have swd2 := hH.size; go_at_call 87; refine (sU B b 2 x _ a b1 c _ (Hrn.out.go hH.nil) Hx.out (by omega)).mono ?_; rintro e w5 ⟨rfl, F5, hr5, hF5, hT5, hk5⟩)
  refine hK.out _ _ ?_
  clear hK K
  have HD := hid (show lR B W2 b w _ F5 w5 (b :: (Fm ++ (Fs ++ (Fn ++ Fg)))) from ⟨(hk5 0 (by omega)).trans (hH.cell Gl.out (by simp)), hr5, fun q hq => by
   rcases hF5 q hq with h | h | h
   ·exact .inl h
   ·cases h
   ·exact .inr (by omega), (HT2.out.trans (Tch.of hH.nil)).seq hT5 (fun c hc => .inl hc)⟩)
  clear hr5 hF5 hT5 hk5 hH
  go_wp2_with fail
  (refine leaves_cons (f := 86) (args := #[.pointer (some ⟨b, 0, none⟩)]) (by simp) (by simp [go_sem]) ?_); (refine (unlock_deferred kM ⟨b, 0, none⟩ .returning _ HD.out.1 (HD.out.2.1.fz 0)).mono ?_); (rintro e u' w'' ⟨rfl, rfl, rfl⟩); (exact ⟨_, results_none rfl _ _ _, rfl, _, HD.out.2.1.setLo (by omega) _, HD.out.2.2.1, HD.out.2.2.2.setCell (p := ⟨b, 0, none⟩) (.inl Hmem.out) _⟩)
 by_cases hk' : kd = 2 ∨ kd = 3 ∨ kd = 4 ∨ kd = 5
 ·obtain rfl := Hy.out.trans (show doW x ⟨kd, a, b1, c⟩ = eI x ⟨kd, a, b1, c⟩ by unfold doW; simp only; rw [if_neg hk, if_pos hk'])
  clear hk
  rcases hk' with hk | hk | hk | hk
  all_goals
   first | have i1 : (kd == 1) = true := beq_iff_eq.2 hk | have i1 : (kd == 1) = false := beq_false_of_ne (by rw [hk]; decide)
   first | have i2 : (kd == 2) = true := beq_iff_eq.2 hk | have i2 : (kd == 2) = false := beq_false_of_ne (by rw [hk]; decide)
   first | have i3 : (kd == 3) = true := beq_iff_eq.2 hk | have i3 : (kd == 3) = false := beq_false_of_ne (by rw [hk]; decide)
   first | have i4 : (kd == 4) = true := beq_iff_eq.2 hk | have i4 : (kd == 4) = false := beq_false_of_ne (by rw [hk]; decide)
   first | have i5 : (kd == 5) = true := beq_iff_eq.2 hk | have i5 : (kd == 5) = false := beq_false_of_ne (by rw [hk]; decide)
   clear hk
   go_wp2_with fail
   clear v0 v1 v2 v3
   refine rgN [] 5 (by kernel_rfl) rfl (fun _ _ _ _ _ h => mW h) fun wd hH hbwd swd => ?_
   simp only [pw]
   refine ag [0, 1, 2, 3] ?_
   iterate 4 (refine ra HS.out rfl (by kernel_rfl) rfl (fun _ f => by go_simp; try with_reducible rfl) ?_; try simp only [pw])
   refine rz 4 (by kernel_rfl) rfl fun K hK => ?_
   go_simp
   (have swd2 := hH.size; go_at_call 88; refine (nZ B b 2 x _ ⟨kd, a, b1, c⟩ _ (Hrn.out.go hH.nil) Hx.out (by omega) hB1 (Hg2.out.go hH.nil)).mono ?_; rintro e w5 ⟨rfl, F5, hr5, hF5, hT5, hk5⟩)
   refine hK.out _ _ ?_
   clear hK K
   have HD := hid (show lR B W2 b w _ F5 w5 (b :: (Fm ++ (Fs ++ (Fn ++ Fg)))) from ⟨(hk5 0 (by omega)).trans (hH.cell Gl.out (by simp)), hr5, fun q hq => by
    rcases hF5 q hq with h | h | h
    ·exact .inl h
    ·cases h
    ·exact .inr (by omega), (HT2.out.trans (Tch.of hH.nil)).seq hT5 (fun c hc => .inl hc)⟩)
   clear hr5 hF5 hT5 hk5 hH
   go_wp2_with fail
   (refine leaves_cons (f := 86) (args := #[.pointer (some ⟨b, 0, none⟩)]) (by simp) (by simp [go_sem]) ?_); (refine (unlock_deferred kM ⟨b, 0, none⟩ .returning _ HD.out.1 (HD.out.2.1.fz 0)).mono ?_); (rintro e u' w'' ⟨rfl, rfl, rfl⟩); (exact ⟨_, results_none rfl _ _ _, rfl, _, HD.out.2.1.setLo (by omega) _, HD.out.2.2.1, HD.out.2.2.2.setCell (p := ⟨b, 0, none⟩) (.inl Hmem.out) _⟩)
 have i1 : (kd == 1) = false := by simp [hk]
 simp only [not_or] at hk'
 obtain ⟨h2, h3, h4, h5⟩ := hk'
 have i2 : (kd == 2) = false := by simp [h2]
 have i3 : (kd == 3) = false := by simp [h3]
 have i4 : (kd == 4) = false := by simp [h4]
 have i5 : (kd == 5) = false := by simp [h5]
 by_cases h6 : kd = 6
 ·have i6 : (kd == 6) = true := by simp [h6]
  cases hw : win a 0 2 with
  | true =>
   obtain ⟨k, hka⟩ : ∃ k : Nat, a = (k : Int) := ⟨a.toNat, by have := aK.1 hw; omega⟩
   have hk3 : k < 3 := by have := aK.1 hw; omega
   obtain rfl := Hy.out.trans (show doW x ⟨kd, a, b1, c⟩ = cT x k false by have hv := hw; rw [hka] at hv; unfold doW; simp [h2, h3, h4, h5, h6, hv, hka])
   have Hka := hid hka
   clear hk h2 h3 h4 h5 h6 hka
   go_wp2_with (go_at_call 80; refine (eQ _ _).mono ?_; rw [hw]; rintro e w' ⟨rfl, rfl⟩)
   obtain rfl := Hka.out
   clear v0 v1 v2 v3
   refine rgN [] 6 (by kernel_rfl) rfl (fun _ _ _ _ _ h => mW h) fun wd hH hbwd swd => ?_
   simp only [pw]
   refine ag [0, 1, 2, 3, 4] ?_
   iterate 5 (refine ra HS.out rfl (by kernel_rfl) rfl (fun _ f => by go_simp; try with_reducible rfl) ?_; try simp only [pw])
   refine rz 5 (by kernel_rfl) rfl fun K hK => ?_
   go_simp
   (have swd2 := hH.size; go_at_call 89; refine (ry B b 2 x _ k false _ (Hrn.out.go hH.nil) Hx.out hk3 (by omega)).mono ?_; rintro e w5 ⟨rfl, F5, hr5, hF5, hT5, hk5⟩)
   refine hK.out _ _ ?_
   clear hK K
   have HD := hid (show lR B W2 b w _ F5 w5 (b :: (Fm ++ (Fs ++ (Fn ++ Fg)))) from ⟨(hk5 0 (by omega)).trans (hH.cell Gl.out (by simp)), hr5, fun q hq => by
    rcases hF5 q hq with h | h | h
    ·exact .inl h
    ·cases h
    ·exact .inr (by omega), (HT2.out.trans (Tch.of hH.nil)).seq hT5 (fun c hc => .inl hc)⟩)
   clear hr5 hF5 hT5 hk5 hH
   go_wp2_with fail
   (refine leaves_cons (f := 86) (args := #[.pointer (some ⟨b, 0, none⟩)]) (by simp) (by simp [go_sem]) ?_); (refine (unlock_deferred kM ⟨b, 0, none⟩ .returning _ HD.out.1 (HD.out.2.1.fz 0)).mono ?_); (rintro e u' w'' ⟨rfl, rfl, rfl⟩); (exact ⟨_, results_none rfl _ _ _, rfl, _, HD.out.2.1.setLo (by omega) _, HD.out.2.2.1, HD.out.2.2.2.setCell (p := ⟨b, 0, none⟩) (.inl Hmem.out) _⟩)
  | false =>
   obtain rfl := Hy.out.trans (show doW x ⟨kd, a, b1, c⟩ = x by unfold doW; simp [h2, h3, h4, h5, h6, hw])
   clear hk h2 h3 h4 h5 h6
   go_wp2_with (go_at_call 80; refine (eQ _ _).mono ?_; rw [hw]; rintro e w' ⟨rfl, rfl⟩)
   have HD := hid (show lR B W2 b w _ _ W2 (b :: (Fm ++ (Fs ++ (Fn ++ Fg)))) from ⟨Gl.out, Hrn.out, fun q hq => .inl hq, HT2.out⟩)
   (refine leaves_cons (f := 86) (args := #[.pointer (some ⟨b, 0, none⟩)]) (by simp) (by simp [go_sem]) ?_); (refine (unlock_deferred kM ⟨b, 0, none⟩ .returning _ HD.out.1 (HD.out.2.1.fz 0)).mono ?_); (rintro e u' w'' ⟨rfl, rfl, rfl⟩); (exact ⟨_, results_none rfl _ _ _, rfl, _, HD.out.2.1.setLo (by omega) _, HD.out.2.2.1, HD.out.2.2.2.setCell (p := ⟨b, 0, none⟩) (.inl Hmem.out) _⟩)
 ·have i6 : (kd == 6) = false := by simp [h6]
  obtain rfl := Hy.out.trans (show doW x ⟨kd, a, b1, c⟩ = x by unfold doW; simp [hk, h2, h3, h4, h5, h6])
  clear hk h2 h3 h4 h5 h6
  go_wp2_with fail
  have HD := hid (show lR B W2 b w _ _ W2 (b :: (Fm ++ (Fs ++ (Fn ++ Fg)))) from ⟨Gl.out, Hrn.out, fun q hq => .inl hq, HT2.out⟩)
  (refine leaves_cons (f := 86) (args := #[.pointer (some ⟨b, 0, none⟩)]) (by simp) (by simp [go_sem]) ?_); (refine (unlock_deferred kM ⟨b, 0, none⟩ .returning _ HD.out.1 (HD.out.2.1.fz 0)).mono ?_); (rintro e u' w'' ⟨rfl, rfl, rfl⟩); (exact ⟨_, results_none rfl _ _ _, rfl, _, HD.out.2.1.setLo (by omega) _, HD.out.2.2.1, HD.out.2.2.2.setCell (p := ⟨b, 0, none⟩) (.inl Hmem.out) _⟩)
end
theorem oe {B t g e : Nat} {w : World} {x : Wd} {z0 z1 z2 z3 z4 z5 v3 v8 : Value} (e14 : w.heap[g]? = some (.cells #[z0, z1, z2, z3, z4, z5] t (0, 0))) (h3 : Own tLt 56 0 w v3 x.sent []) (h8 : Own tLt 56 0 w v8 x.got [])
  (d3 : ∀ b, v3.ownBlock = some b → b ≠ g ∧ B ≤ b ∧ v8.ownBlock ≠ some b) (d8 : ∀ b, v8.ownBlock = some b → b ≠ g ∧ B ≤ b) (hg : B ≤ g) :
  Run B ((((((w.setCell ⟨g, 0, none⟩ (.slice none 0 0)).setCell ⟨g, 1, none⟩ v3).setCell ⟨g, 2, none⟩ (.slice none 0 0)).setCell ⟨g, 3, none⟩ v8).setCell ⟨g, 4, none⟩ (.int .i64 x.made)).setCell ⟨g, 5, none⟩ (.int .i64 x.lost)) g 0 ⟨[], x.sent, [], x.got, x.made, x.lost⟩ (.slice none 0 0) v3 (.slice none 0 0) v8 [] v3.ownBlock.toList [] v8.ownBlock.toList := by
 obtain ⟨q0, q1, q2, q3, q4, q5, qf⟩ := az (bZ (.slice none 0 0) v3 (.slice none 0 0) v8 (.int .i64 x.made) (.int .i64 x.lost) e14)
 have kb : ∀ b, b ≠ g → ((((((w.setCell ⟨g, 0, none⟩ (.slice none 0 0)).setCell ⟨g, 1, none⟩ v3).setCell ⟨g, 2, none⟩ (.slice none 0 0)).setCell ⟨g, 3, none⟩ v8).setCell ⟨g, 4, none⟩ (.int .i64 x.made)).setCell ⟨g, 5, none⟩ (.int .i64 x.lost)).heap[b]? = w.heap[b]? := fun b hb => bs b hb
 generalize ((((((w.setCell ⟨g, 0, none⟩ (.slice none 0 0)).setCell ⟨g, 1, none⟩ v3).setCell ⟨g, 2, none⟩ (.slice none 0 0)).setCell ⟨g, 3, none⟩ v8).setCell ⟨g, 4, none⟩ (.int .i64 x.made)).setCell ⟨g, 5, none⟩ (.int .i64 x.lost)) = W at *
 have k3 : Own tLt 56 0 W v3 x.sent [] := h3.keep (fun b hb => kb _ (d3 b hb).1) (fun _ h => by cases h)
 have k8 : Own tLt 56 0 W v8 x.got [] := h8.keep (fun b hb => kb _ (d8 b hb).1) (fun _ h => by cases h)
 refine ⟨q0, q1, q2, q3, q4, q5, qf, ⟨_, [], rfl, Own.nil _ _, rfl⟩, ⟨v3, [], rfl, k3, by simp⟩, ⟨_, [], rfl, Own.nil _ _, rfl⟩, ⟨v8, [], rfl, k8, by simp⟩, ?_, ?_⟩
 ·simp only [List.nil_append]
  rw [List.nodup_cons, List.nodup_append]
  refine ⟨fun hm => ?_, bQ _, bQ _, fun a ha b hb e => ?_⟩
  ·rcases List.mem_append.1 hm with hm | hm
   ·exact (d3 _ (aA.1 hm)).1 rfl
   ·exact (d8 _ (aA.1 hm)).1 rfl
  ·subst e; exact (d3 _ (aA.1 ha)).2.2 (aA.1 hb)
 ·intro c hc
  simp only [List.nil_append, List.mem_cons, List.mem_append] at hc
  rcases hc with rfl | hc | hc
  ·exact hg
  ·exact (d3 _ (aA.1 hc)).2.1
  ·exact (d8 _ (aA.1 hc)).2
theorem lW (x : Wd) (v : Value) (w : World) (h : WdB w.heap.size w v x) (hs : VD 0 x) :
  Calls Tryz.prog 48 #[v] w fun e w' => ∃ um us un ug, e = .returned (.agg #[um, us, un, ug, .int .i64 x.made, .int .i64 x.lost]) ∧ aC oWd w.heap.size w' [um, us, un, ug, .int .i64 x.made, .int .i64 x.lost] x ∧ Below w.heap.size w w' := by
 obtain ⟨j0, ji, jz0, jz1, jz2⟩ := info_parts gy
 obtain ⟨k0, ki, kz0, kz1, kz2⟩ := info_parts fW
 obtain ⟨vm, vs, vn, vg, rfl, h1, h2, h3, h4⟩ := h
 obtain ⟨A1, c1, rfl, _, _, _⟩ := h1.form
 obtain ⟨A2, c2, rfl, _, _, _⟩ := h2.form
 obtain ⟨A3, c3, rfl, _, _, _⟩ := h3.form
 obtain ⟨A4, c4, rfl, _, _, _⟩ := h4.form
 have n1 : x.mixes.length ≤ 3 := Nat.le_of_eq (bX hs.mix)
 have n2 := hs.sn; have n3 := hs.nn; have n4 := hs.gl
 have S2 := hid (kL hs.mix); have S5 := hid (bK.1 hs.nt)
 clear hs
 go_enter Tryz.func48, Tryz.ntmps48
 go_upto_region 1 with fail
 generalize hgw : World.alloc (World.alloc w _) _ = W0; obtain ⟨e0, e1, hW0, sW0⟩ := iB hgw; clear hgw
 have HM := hid (fun (wx : World) (hb : Below w.heap.size w wx) => h1.below hb (Nat.le_refl _))
 have HN := hid (fun (wx : World) (hb : Below w.heap.size w wx) => h3.below hb (Nat.le_refl _))
 have HSe := hid (fun (wx : World) (hT : Tch [] W0 wx) => h2.go (bt hW0 hT.nil))
 have HGo := hid (fun (wx : World) (hT : Tch [] W0 wx) => h4.go (bt hW0 hT.nil))
 have HS := hid (fun (wx : World) (hT : Tch [] W0 wx) => And.intro (az (ac hT.nil e0)) (show w.heap.size < wx.heap.size by have := hT.size; omega))
 have HW0 := hid hW0; have E0 := hid e0; have E1 := hid e1
 clear h1 h2 h3 h4 e0 e1 hW0
 go_cut [3] (fun s3 wx => ∃ g v3 v8, s3 = .pointer (some ⟨g, 0, none⟩) ∧ Run (w.heap.size + 2) wx g 0 ⟨[], x.sent, [], x.got, x.made, x.lost⟩ (.slice none 0 0) v3 (.slice none 0 0) v8 [] v3.ownBlock.toList [] v8.ownBlock.toList ∧ Below (w.heap.size + 2) W0 wx)
 case first =>
  refine rgN [] 13 (by kernel_rfl) rfl (fun | none, _, _, _, _ => id | some _, _, _, _, _ => id) fun wd hH hbwd swd => ?_
  simp only [pw]
  refine ag [0, 1, 3, 4, 6, 7, 8, 9] ?_
  iterate 8 (refine ra HS.out rfl (by kernel_rfl) rfl (fun _ f => by go_simp; try with_reducible rfl) ?_; try simp only [pw])
  repeat' (first
   | (have t2 := hK2; clear t2; go_simp; (have l2 := hH.size; (try have g2 := (aL ea)); go_at_call 82; refine (kA _ x.sent _ (HSe.out _ hH) (by omega)).mono ?_; rintro e w3 ⟨v3, rfl, n3, hbC⟩; obtain ⟨G3, o3, _, _⟩ := n3; obtain rfl := am bM o3; obtain ⟨A6, c6, rfl, _, _, _⟩ := o3.form; (try replace ea := ac hbC ea); (try have m3 : ∀ b, (Value.slice A6 x.sent.length c6).ownBlock = some b → b ≠ ga := fun b hb => by have := (o3.top b hb).1; omega)); refine hK2.out _ _ (hH.trans (Tch.of hbC)) (fun hH => ?_); clear hK2 K2; try simp only [pw])
   | (have t5 := hK5; clear t5; go_simp; (have l5 := hH.size; have t3 := o3.top; (try have g5 := (aL ea)); go_at_call 82; refine (kA _ x.got _ (HGo.out _ hH) (by omega)).mono ?_; rintro e w8 ⟨v8, rfl, n8, hbC⟩; obtain ⟨G8, o8, _, _⟩ := n8; obtain rfl := am bM o8; obtain ⟨A8, c8, rfl, _, _, _⟩ := o8.form; (try replace ea := ac hbC ea); (try have m8 : ∀ b, (Value.slice A8 x.got.length c8).ownBlock = some b → b ≠ ga := fun b hb => by have := (o8.top b hb).1; omega); have m38 : ∀ b, (Value.slice A6 x.sent.length c6).ownBlock = some b → (Value.slice A8 x.got.length c8).ownBlock ≠ some b := fun b h1 h2 => (by have g1 := (t3 b h1).2; have g2 := (o8.top b h2).1; omega); replace o3 := o3.go hbC); refine hK5.out _ _ (hH.trans (Tch.of hbC)) (fun hH => ?_); clear hK5 K5; try simp only [pw])
   | (have t11 := hK11; clear t11; go_simp; (have la := hH.size; generalize hgw : World.alloc _ _ = wa; obtain ⟨ea, hbC, sa⟩ := al hgw; clear hgw; (first | (generalize hga : w8.heap.size = ga at ea ⊢) | (generalize hga : w3.heap.size = ga at ea ⊢) | (generalize hga : wd.heap.size = ga at ea ⊢)); (try have m3 : ∀ b, (Value.slice A6 x.sent.length c6).ownBlock = some b → b ≠ ga := fun b hb => by have := (o3.top b hb).2; omega); (try have m8 : ∀ b, (Value.slice A8 x.got.length c8).ownBlock = some b → b ≠ ga := fun b hb => by have := (o8.top b hb).2; omega); (try replace o3 := o3.go hbC); (try replace o8 := o8.go hbC); have hga1 : W0.heap.size ≤ ga := (by omega); have hga2 : ga < wa.heap.size := (by omega); clear hga); refine hK11.out _ _ (hH.trans (Tch.of hbC)) (fun hH => ?_); clear hK11 K11; try simp only [pw])
   | (refine tr 10 HS.out rfl (by decide +kernel) rfl (fun _ f => by go_simp; try with_reducible rfl) ?_; try simp only [pw])
   | (refine rz 12 (by decide +kernel) rfl (fun K hK => ?_); (obtain ⟨z0, z1, z2, z3, z4, z5, zf⟩ := az ea; have zf0 := zf 0; have zf1 := zf 1; have zf2 := zf 2; have zf3 := zf 3; have zf4 := zf 4; have zf5 := zf 5; have hga3 := World.block_lt_of_cell? _ _ z0; dsimp only at hga3); have fC := HS.out _ hH; go_simp; clear fC; refine hK.out _ _ ?_; clear hK K)
   | (refine rk (i := 2) [11] (by decide +kernel) (rc rfl (fun K2 hK2 => ?_) (rc rfl (fun K11 hK11 => ?_) rn)))
   | (refine rk (i := 5) [11] (by decide +kernel) (rc rfl (fun K5 hK5 => ?_) (rc rfl (fun K11 hK11 => ?_) rn)))
   | (refine rk (i := 2) [] (by decide +kernel) (rc rfl (fun K2 hK2 => ?_) rn))
   | (refine rk (i := 5) [] (by decide +kernel) (rc rfl (fun K5 hK5 => ?_) rn))
   | (refine rk (i := 11) [] (by decide +kernel) (rc rfl (fun K11 hK11 => ?_) rn))
   | fail)
  all_goals
   have hb := hH.nil
   have hrs := oe (B := w.heap.size + 2) (x := x) (e := 0) ea (o3.base (Nat.zero_le _)) (o8.base (Nat.zero_le _)) (fun b hb => ⟨m3 b hb, by have := (o3.top b hb).1; omega, m38 b hb⟩) (fun b hb => ⟨m8 b hb, by have := (o8.top b hb).1; omega⟩) (by omega)
   have hbs := (((((hb.mono (by omega : w.heap.size + 2 ≤ W0.heap.size)).setCell (p := ⟨ga, 0, none⟩) (by dsimp only; omega) (.slice none 0 0)).setCell (p := ⟨ga, 1, none⟩) (by dsimp only; omega) (.slice A6 x.sent.length c6)).setCell (p := ⟨ga, 2, none⟩) (by dsimp only; omega) (.slice none 0 0)).setCell (p := ⟨ga, 3, none⟩) (by dsimp only; omega) (.slice A8 x.got.length c8)).setCell (p := ⟨ga, 4, none⟩) (by dsimp only; omega) (.int .i64 x.made) |>.setCell (p := ⟨ga, 5, none⟩) (by dsimp only; omega) (.int .i64 x.lost)
   have HX := hid (And.intro hrs hbs)
   clear hrs hbs hb hH o3 o8 ea m3 m8 m38 hbC z0 z1 z2 z3 z4 z5 zf zf0 zf1 zf2 zf3 zf4 zf5
   go_wp2_with fail
   go_meet
   exact ⟨_, _, _, rfl, HX.out.1, HX.out.2⟩
 case rest =>
  obtain ⟨g, v3, v8, rfl, hr, hb⟩ := hcut
  have hnc := (hb.block w.heap.size (by omega)).trans E0.out
  obtain ⟨p0, p1, p2, p3, p4, p5, _⟩ := az hnc
  have hwc : w.heap.size < wc.heap.size := by have := hb.size; omega
  have Hr := hid hr; have Hb := hid hb
  clear hr hb hnc
  go_wp2_with fail
  go_loopw [22] (fun i wr => ∃ (j : Nat) (um : Value) (G : List Nat), j ≤ x.mixes.length ∧ i = .int .i64 j ∧ Run (w.heap.size + 2) wr g 0 ⟨x.mixes.take j, x.sent, [], x.got, x.made, x.lost⟩ um v3 (.slice none 0 0) v8 (um.ownBlock.toList ++ G) v3.ownBlock.toList [] v8.ownBlock.toList ∧ Below (w.heap.size + 2) W0 wr) (fun i _ => x.mixes.length - (intOf i).toNat)
  case atStart => exact ⟨0, .slice none 0 0, [], by omega, rfl, by simpa [Value.ownBlock] using Hr.out, Hb.out⟩
  case round =>
   obtain ⟨j, um, G, hj, rfl, hr, hb⟩ := hrel
   clear Hr Hb p0 p1 p2 p3 p4 p5
   have hbW : Below w.heap.size w wr := HW0.out.trans (hb.mono (by omega))
   have hsz : w.heap.size + 2 ≤ wr.heap.size := by have := hb.size; omega
   have hn0 := (hb.block w.heap.size (by omega)).trans E0.out
   obtain ⟨p0, p1, p2, p3, p4, p5, _⟩ := az hn0
   by_cases hlt : j < x.mixes.length
   ·obtain ⟨m, hm⟩ := ak hlt
    obtain ⟨bb, o, us, up, rfl, hbB, hbz, hvs, hvp, k0, k1, k2⟩ := (HM.out _ hbW).mx hm
    obtain ⟨As, cs, rfl, _, _, _⟩ := hvs.form
    obtain ⟨Ap, cp, rfl, _, _, _⟩ := hvp.form
    have hmB := S2.out m (List.mem_of_getElem? hm)
    obtain ⟨_, hq1, hq2, _, hq3⟩ := bh.1 hmB
    have HQ := hid (fun y hy => (ee (aV.1 (hq3 y hy)).2.2).le)
    have hO := lJ hr.em
    obtain ⟨Au, cu, eu, _, _, _⟩ := hO.form
    rw [show (x.mixes.take j).length = j from by simp; omega] at eu
    subst eu
    have hfm : ∀ c ∈ (Value.slice Au j cu).ownBlock.toList ++ G, w.heap.size + 2 ≤ c ∧ c < wr.heap.size := fun c hc => ⟨hr.lo c (by simp only [List.mem_cons, List.mem_append] at hc ⊢; exact .inr (.inl hc)), hr.lt c (by simp only [List.mem_cons, List.mem_append] at hc ⊢; exact .inr (.inl hc))⟩
    have nb := hr.nb.1
    have hvs' := hvs.below (ab wr (.cells #[.int .i64 m.sec, .slice As m.seen.length cs, .slice Ap m.pool.length cp] 70)) (by omega)
    have hvp' := hvp.below (ab wr (.cells #[.int .i64 m.sec, .slice As m.seen.length cs, .slice Ap m.pool.length cp] 70)) (by omega)
    have eb := heap_alloc_new wr (.cells #[.int .i64 m.sec, .slice As m.seen.length cs, .slice Ap m.pool.length cp] 70)
    have hr1 := hr.go (ab wr (.cells #[.int .i64 m.sec, .slice As m.seen.length cs, .slice Ap m.pool.length cp] 70))
    have hO1 := hO.go (ab wr (.cells #[.int .i64 m.sec, .slice As m.seen.length cs, .slice Ap m.pool.length cp] 70))
    have hT1 : Tch ((Value.slice Au j cu).ownBlock.toList ++ G) wr (wr.alloc (.cells #[.int .i64 m.sec, .slice As m.seen.length cs, .slice Ap m.pool.length cp] 70)) := Tch.of (ab wr (.cells #[.int .i64 m.sec, .slice As m.seen.length cs, .slice Ap m.pool.length cp] 70))
    have sW : (wr.alloc (.cells #[.int .i64 m.sec, .slice As m.seen.length cs, .slice Ap m.pool.length cp] 70)).heap.size = wr.heap.size + 1 := by simp
    have nbox : wr.heap.size ∉ (Value.slice Au j cu).ownBlock.toList ++ G := fun hm => by have := (hfm _ hm).2; omega
    have Hm := hid hm; have HO := hid hO; have Hr := hid hr; have Hb := hid hb
    have hmj : j ≤ x.mixes.length := by omega
    clear hm hO hr hb hq3 hn0 hvs hvp hmB
    go_upto_region 5 with fail
    generalize hgn : wr.heap.size = nW at eb sW nbox ⊢
    generalize wr.alloc (.cells #[.int .i64 m.sec, .slice As m.seen.length cs, .slice Ap m.pool.length cp] 70) = W at *
    have HS2 := hid (fun (wx : World) (hT : Tch ((Value.slice Au j cu).ownBlock.toList ++ G) W wx) => And.intro (hr1.cells0 hT nb) (And.intro (aE (hT.row eb nbox)) (show nW < wx.heap.size by have := hT.size; omega)))
    have HVs := hid (fun (wx : World) (hT : Tch ((Value.slice Au j cu).ownBlock.toList ++ G) W wx) => hvs'.tch hT (by omega) (fun b hb => by have := (hfm b hb).1; omega))
    have HVp := hid (fun (wx : World) (hT : Tch ((Value.slice Au j cu).ownBlock.toList ++ G) W wx) => hvp'.tch hT (by omega) (fun b hb => by have := (hfm b hb).1; omega))
    have HOW := hid hO1; have HT1 := hid hT1; have Hfm := hid hfm
    clear hr1 hO1 hT1 hfm eb nbox hvs' hvp' k0 k1 k2 p0 p1 p2 p3 p4 p5 nb
    refine rgN ((Value.slice Au j cu).ownBlock.toList ++ G) 8 (by kernel_rfl) rfl (fun | none, _, _, _, _ => id | some _, _, _, _, _ => id) fun wd hH hbwd swd => ?_
    simp only [pw]
    refine ag [0, 1, 2] ?_
    iterate 3 (refine ra HS2.out rfl (by kernel_rfl) rfl (fun _ f => by go_simp; try with_reducible rfl) ?_; try simp only [pw])
    refine rq 3 (by kernel_rfl) rfl fun K hK => ?_
    go_simp
    (go_at_call 83; refine (ct m _ _ _ (HVs.out _ hH) (HVp.out _ hH) (by omega) (by omega) HQ.out).mono ?_; rintro e w7 ⟨us7, up7, rfl, n7, hbC⟩; obtain ⟨A7, c7, A8, c8, rfl, rfl⟩ := aQ n7; obtain ⟨F7, h7E, hn7, hF7⟩ := n7; have hb7 := hbC; have sb7 := hbC.size)
    refine hK.out _ _ (hH.trans (Tch.of hbC)) (fun hH => ?_)
    clear hK K
    refine rq 4 (by kernel_rfl) rfl fun K hK => ?_
    go_simp
    (generalize hgw : World.alloc _ _ = w8; obtain ⟨e8, hbC, s8⟩ := al hgw; have hb8 := hbC; clear hgw)
    refine hK.out _ _ (hH.trans (Tch.of hbC)) (fun hH => ?_)
    clear hK K
    refine rq 5 (by kernel_rfl) rfl fun K hK => ?_
    (refine aT rfl (.tmp 27) (.tmp 30) 29 rfl oMx (B := 0) Tryz.underlying29 ji jz0 jz1 jz2 rfl (by decide) (v := .slice Au j cu) rfl (((HOW.out.go hbwd).go hb7).go hb8) (some ⟨_, 0, none⟩) 1 1 rfl (cz (cs := [.int .i64 m.sec, .slice A7 m.seen.length c7, .slice A8 m.pool.length c8]) e8 (oMx.keep h7E (fun b hb => hb8.block b (oMx.lt h7E b hb)))) (fun b hb hm => by have h1 := (HO.out.top b hb).2; have h2 := hF7 b hm; omega) (by simp; omega) (by simp [maxLen]; omega) (Nat.zero_le _) ?_; intro v9 w9 ho9 hg9 hv9; have hbP := hH.grow hg9 (fun k hk hlt => List.mem_append_left _ (aA.2 hk)); simp only [List.tail_cons] at ho9; obtain ⟨A9, c9, e9, _, _, _⟩ := ho9.form; rw [show (x.mixes.take j ++ [m]).length = j + 1 from by simp; omega] at e9; subst e9)
    refine hK.out _ _ (hbP) (fun hH => ?_)
    clear hK K
    refine tr 6 HS2.out rfl (by kernel_rfl) rfl (fun _ f => by go_simp; try with_reducible rfl) ?_
    try simp only [pw]
    refine rz 7 (by kernel_rfl) rfl fun K hK => ?_
    have fC := HS2.out _ hH
    go_simp
    clear fC
    refine hK.out _ _ ?_
    clear hK K
    have hTw := HT1.out.trans hH
    have hr9 := Hr.out.pushMix hTw ho9 hv9 hn7 (fun c hc => by have h1 := hF7 c hc; have h2 := oMx.lt h7E c hc; omega) (by omega) hsz
    have HR9 := hid hr9
    have HB9 := hid ((Hb.out.trans (hTw.below hsz (fun b hb => (Hfm.out b hb).1))).setCell (p := ⟨g, 0, none⟩) (Hr.out.lo g List.mem_cons_self) (.slice A9 (j + 1) c9))
    clear hr9 ho9 hH hbC hbP hg9 hv9 h7E hF7 hn7 hb7 hb8 e8 hbwd hTw
    go_wp2_with fail
    go_roundw
    case rel => exact ⟨j + 1, _, _, by omega, by go_num, by rw [aP Hm.out]; exact HR9.out, HB9.out⟩
    case measure => simp [intOf]; omega
   ·have hje : x.mixes.take j = x.mixes := List.take_of_length_le (by omega)
    rw [hje] at hr
    clear hje
    have hnlt : w.heap.size < wr.heap.size := by omega
    have Hr := hid hr; have Hb := hid hb
    clear hr hb hn0
    go_wp2_with fail
    obtain ⟨wo, rfl⟩ : ∃ wo : World, wo = wr := ⟨_, rfl⟩
    go_loopw [37] (fun i wr => ∃ (j : Nat) (un : Value) (G' : List Nat), j ≤ x.net.length ∧ i = .int .i64 j ∧ Run (w.heap.size + 2) wr g 0 ⟨x.mixes, x.sent, x.net.take j, x.got, x.made, x.lost⟩ um v3 un v8 (um.ownBlock.toList ++ G) v3.ownBlock.toList (un.ownBlock.toList ++ G') v8.ownBlock.toList ∧ Below (w.heap.size + 2) W0 wr) (fun i _ => x.net.length - (intOf i).toNat)
    case atStart => exact ⟨0, .slice none 0 0, [], by omega, rfl, by simpa [Value.ownBlock] using Hr.out, Hb.out⟩
    case round =>
     obtain ⟨j, un, G', hj, rfl, hr, hb⟩ := hrel
     clear Hr Hb p0 p1 p2 p3 p4 p5
     have hbW : Below w.heap.size w wr := HW0.out.trans (hb.mono (by omega))
     have hsz : w.heap.size + 2 ≤ wr.heap.size := by have := hb.size; omega
     have hn1 := (hb.block (w.heap.size + 1) (by omega)).trans E1.out
     by_cases hlt : j < x.net.length
     ·obtain ⟨t, hm⟩ := ak hlt
      obtain ⟨bb, o, us, up, rfl, hbB, hbz, hvs, hvp, k0, k1, k2, k3, k4, k5⟩ := (HN.out _ hbW).tr hm
      obtain ⟨As, cs, rfl, _, _, _⟩ := hvs.form
      obtain ⟨Ap, cp, rfl, _, _, _⟩ := hvp.form
      obtain ⟨hq1, hq2⟩ := (ee (cE.1 (S5.out t (List.mem_of_getElem? hm))).2).le
      have hO := lJ hr.en
      obtain ⟨Au, cu, eu, _, _, _⟩ := hO.form
      rw [show (x.net.take j).length = j from by simp; omega] at eu
      subst eu
      have hfm : ∀ c ∈ (Value.slice Au j cu).ownBlock.toList ++ G', w.heap.size + 2 ≤ c ∧ c < wr.heap.size := fun c hc => ⟨hr.lo c (by simp only [List.mem_cons, List.mem_append] at hc ⊢; exact .inr (.inr (.inr (.inl hc)))), hr.lt c (by simp only [List.mem_cons, List.mem_append] at hc ⊢; exact .inr (.inr (.inr (.inl hc))))⟩
      have nb := hr.nb.2.2.1
      have hvs' := hvs.below (ab wr (.cells #[.int .i64 t.mix, .int .i64 t.pk.el, .slice As t.pk.hd.length cs, .int .i64 t.pk.tag, .slice Ap t.pk.bd.length cp, .bool t.ch] 74)) (by omega)
      have hvp' := hvp.below (ab wr (.cells #[.int .i64 t.mix, .int .i64 t.pk.el, .slice As t.pk.hd.length cs, .int .i64 t.pk.tag, .slice Ap t.pk.bd.length cp, .bool t.ch] 74)) (by omega)
      have eb := heap_alloc_new wr (.cells #[.int .i64 t.mix, .int .i64 t.pk.el, .slice As t.pk.hd.length cs, .int .i64 t.pk.tag, .slice Ap t.pk.bd.length cp, .bool t.ch] 74)
      have hr1 := hr.go (ab wr (.cells #[.int .i64 t.mix, .int .i64 t.pk.el, .slice As t.pk.hd.length cs, .int .i64 t.pk.tag, .slice Ap t.pk.bd.length cp, .bool t.ch] 74))
      have hO1 := hO.go (ab wr (.cells #[.int .i64 t.mix, .int .i64 t.pk.el, .slice As t.pk.hd.length cs, .int .i64 t.pk.tag, .slice Ap t.pk.bd.length cp, .bool t.ch] 74))
      have hT1 : Tch ((Value.slice Au j cu).ownBlock.toList ++ G') wr (wr.alloc (.cells #[.int .i64 t.mix, .int .i64 t.pk.el, .slice As t.pk.hd.length cs, .int .i64 t.pk.tag, .slice Ap t.pk.bd.length cp, .bool t.ch] 74)) := Tch.of (ab wr (.cells #[.int .i64 t.mix, .int .i64 t.pk.el, .slice As t.pk.hd.length cs, .int .i64 t.pk.tag, .slice Ap t.pk.bd.length cp, .bool t.ch] 74))
      have sW : (wr.alloc (.cells #[.int .i64 t.mix, .int .i64 t.pk.el, .slice As t.pk.hd.length cs, .int .i64 t.pk.tag, .slice Ap t.pk.bd.length cp, .bool t.ch] 74)).heap.size = wr.heap.size + 1 := by simp
      have nbox : wr.heap.size ∉ (Value.slice Au j cu).ownBlock.toList ++ G' := fun hm => by have := (hfm _ hm).2; omega
      have Hm := hid hm; have HO := hid hO; have Hr := hid hr; have Hb := hid hb
      have hmj : j ≤ x.net.length := by omega
      clear hm hO hr hb hn1 hvs hvp
      go_upto_region 10 with fail
      generalize hgn : wr.heap.size = nW at eb sW nbox ⊢
      generalize wr.alloc (.cells #[.int .i64 t.mix, .int .i64 t.pk.el, .slice As t.pk.hd.length cs, .int .i64 t.pk.tag, .slice Ap t.pk.bd.length cp, .bool t.ch] 74) = W at *
      have HS2 := hid (fun (wx : World) (hT : Tch ((Value.slice Au j cu).ownBlock.toList ++ G') W wx) => And.intro (hr1.cells0 hT nb) (And.intro (az (hT.row eb nbox)) (show nW < wx.heap.size by have := hT.size; omega)))
      have HVs := hid (fun (wx : World) (hT : Tch ((Value.slice Au j cu).ownBlock.toList ++ G') W wx) => hvs'.tch hT (by omega) (fun b hb => by have := (hfm b hb).1; omega))
      have HVp := hid (fun (wx : World) (hT : Tch ((Value.slice Au j cu).ownBlock.toList ++ G') W wx) => hvp'.tch hT (by omega) (fun b hb => by have := (hfm b hb).1; omega))
      have HOW := hid hO1; have HT1 := hid hT1; have Hfm := hid hfm
      clear hr1 hO1 hT1 hfm eb nbox hvs' hvp' k0 k1 k2 k3 k4 k5 nb
      refine rgN ((Value.slice Au j cu).ownBlock.toList ++ G') 14 (by kernel_rfl) rfl (fun | none, _, _, _, _ => id | some _, _, _, _, _ => id) fun wd hH hbwd swd => ?_
      simp only [pw]
      refine ag [0, 1, 2, 3, 4, 5, 7, 8] ?_
      iterate 8 (refine ra HS2.out rfl (by kernel_rfl) rfl (fun _ f => by go_simp; try with_reducible rfl) ?_; try simp only [pw])
      refine rq 6 (by kernel_rfl) rfl fun K hK => ?_
      go_simp
      (go_at_call 84; refine (eM t.pk _ _ _ (HVs.out _ hH) (HVp.out _ hH) hq1 hq2).mono ?_; rintro e w7 ⟨us7, up7, rfl, n7, hbC⟩; obtain ⟨A7, c7, A8, c8, rfl, rfl⟩ := cQ n7; obtain ⟨F7, h7E, hn7, hF7⟩ := fJ (x := t) n7; have hb7 := hbC; have sb7 := hbC.size)
      refine hK.out _ _ (hH.trans (Tch.of hbC)) (fun hH => ?_)
      clear hK K
      refine tr 9 HS2.out rfl (by kernel_rfl) rfl (fun _ f => by go_simp; try with_reducible rfl) ?_
      try simp only [pw]
      refine rq 10 (by kernel_rfl) rfl fun K hK => ?_
      go_simp
      (generalize hgw : World.alloc _ _ = w8; obtain ⟨e8, hbC, s8⟩ := al hgw; have hb8 := hbC; clear hgw)
      refine hK.out _ _ (hH.trans (Tch.of hbC)) (fun hH => ?_)
      clear hK K
      refine rq 11 (by kernel_rfl) rfl fun K hK => ?_
      (refine aT rfl (.tmp 42) (.tmp 51) 31 rfl oTr (B := 0) Tryz.underlying31 ki kz0 kz1 kz2 rfl (by decide) (v := .slice Au j cu) rfl (((HOW.out.go hbwd).go hb7).go hb8) (some ⟨_, 0, none⟩) 1 1 rfl (cz (cs := [.int .i64 t.mix, .int .i64 t.pk.el, .slice A7 t.pk.hd.length c7, .int .i64 t.pk.tag, .slice A8 t.pk.bd.length c8, .bool t.ch]) e8 (oTr.keep h7E (fun b hb => hb8.block b (oTr.lt h7E b hb)))) (fun b hb hm => by have h1 := (HO.out.top b hb).2; have h2 := hF7 b hm; omega) (by simp; omega) (by simp [maxLen]; omega) (Nat.zero_le _) ?_; intro v9 w9 ho9 hg9 hv9; have hbP := hH.grow hg9 (fun k hk hlt => List.mem_append_left _ (aA.2 hk)); simp only [List.tail_cons] at ho9; obtain ⟨A9, c9, e9, _, _, _⟩ := ho9.form; rw [show (x.net.take j ++ [t]).length = j + 1 from by simp; omega] at e9; subst e9)
      refine hK.out _ _ (hbP) (fun hH => ?_)
      clear hK K
      refine tr 12 HS2.out rfl (by kernel_rfl) rfl (fun _ f => by go_simp; try with_reducible rfl) ?_
      try simp only [pw]
      refine rz 13 (by kernel_rfl) rfl fun K hK => ?_
      have fC := HS2.out _ hH
      go_simp
      clear fC
      refine hK.out _ _ ?_
      clear hK K
      have hTw := HT1.out.trans hH
      have hr9 := Hr.out.pushNet hTw ho9 hv9 hn7 (fun c hc => by have h1 := hF7 c hc; have h2 := oTr.lt h7E c hc; omega) (by omega) hsz
      have HR9 := hid hr9
      have HB9 := hid ((Hb.out.trans (hTw.below hsz (fun b hb => (Hfm.out b hb).1))).setCell (p := ⟨g, 2, none⟩) (Hr.out.lo g List.mem_cons_self) (.slice A9 (j + 1) c9))
      clear hr9 ho9 hH hbC hbP hg9 hv9 h7E hF7 hn7 hb7 hb8 e8 hbwd hTw
      go_wp2_with fail
      go_roundw
      case rel => exact ⟨j + 1, _, _, by omega, by go_num, by rw [aP Hm.out]; exact HR9.out, HB9.out⟩
      case measure => simp [intOf]; omega
     ·have hje : x.net.take j = x.net := List.take_of_length_le (by omega)
      rw [hje] at hr
      clear hje
      obtain ⟨q0, q1, q2, q3, q4, q5, qf, qf0, qf1, qf2, qf3, qf4, qf5⟩ := bj hn1
      obtain ⟨g0, g1, g2, g3, g4, g5, gz, _⟩ := hr.cells0 (Tch.refl [] _) (by simp)
      obtain ⟨_, _, o1⟩ := ax hr.em
      obtain ⟨_, _, o2⟩ := ax hr.es
      obtain ⟨_, _, o3⟩ := ax hr.en
      obtain ⟨_, _, o4⟩ := ax hr.eg
      obtain ⟨C1, d1, rfl, _, _, _⟩ := o1.form
      obtain ⟨C2, d2, rfl, _, _, _⟩ := o2.form
      obtain ⟨C3, d3, rfl, _, _, _⟩ := o3.form
      obtain ⟨C4, d4, rfl, _, _, _⟩ := o4.form
      have Hr := hid hr; have Hb := hid hb; have HbW := hid hbW
      have z1 : w.heap.size + 1 < wr.heap.size := by omega
      clear hr hb hbW o1 o2 o3 o4 qf hn1
      go_wp2_with fail
      refine bodyPost_ret (v := .agg #[.slice C1 x.mixes.length d1, .slice C2 x.sent.length d2, .slice C3 x.net.length d3, .slice C4 x.got.length d4, .int .i64 x.made, .int .i64 x.lost]) (by simp [results, Tryz.results48, go_sem, q0, q1, q2, q3, q4, q5]) rfl ⟨_, _, _, _, rfl, ?_, ?_⟩
      ·refine aC.base (B := w.heap.size + 2) ?_ (by omega)
       repeat (refine aC.set ?_ (by dsimp only; omega))
       exact Hr.out.newA
      ·repeat (refine Below.setCell ?_ (by dsimp only; omega) _)
       exact HbW.out
end Go.Proofs.YtfaeojmndaplcaaGreatDoor
