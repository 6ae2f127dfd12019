/- Texts that the last file leans on (part 25). -/
import Derived.Test.YtfaeojmndaplcaaGreatDoorM23
import Derived.Test.YtfaeojmndaplcaaGreatDoorM24
import Derived.Test.YtfaeojmndaplcaaGreatDoorM7
set_option linter.unusedVariables false
set_option linter.unusedSimpArgs false
set_option maxHeartbeats 4000000
set_option maxRecDepth 100000
namespace Go.Proofs.YtfaeojmndaplcaaGreatDoor
open Go Go.RowKit
section
open Go.MuLone
theorem Run.setLo {B b o j : Nat} {w : World} {x : Wd} {vm vs vn vg : Value} {Fm Fs Fn Fg : List Nat} (h : Run B w b o x vm vs vn vg Fm Fs Fn Fg) (hj : j < o) (u : Value) : Run B (w.setCell ⟨b, j, none⟩ u) b o x vm vs vn vg Fm Fs Fn Fg := by
 obtain ⟨n1, n2, n3, n4⟩ := h.nb
 refine ⟨?_, ?_, ?_, ?_, ?_, ?_, fun j => (di _ _ _ _).trans (h.fz j), gy.keep h.em ?_, cX.keep h.es ?_, gA.keep h.en ?_, cX.keep h.eg ?_, h.nd, h.lo⟩
 ·rw [ak _ _ _ _ _ (by omega)]; exact h.c0
 ·rw [ak _ _ _ _ _ (by omega)]; exact h.c1
 ·rw [ak _ _ _ _ _ (by omega)]; exact h.c2
 ·rw [ak _ _ _ _ _ (by omega)]; exact h.c3
 ·rw [ak _ _ _ _ _ (by omega)]; exact h.c4
 ·rw [ak _ _ _ _ _ (by omega)]; exact h.c5
 ·exact fun c hc => Below.heap_setCell _ _ _ _ (fun e => n1 ((show c = b from e) ▸ hc))
 ·exact fun c hc => Below.heap_setCell _ _ _ _ (fun e => n2 ((show c = b from e) ▸ hc))
 ·exact fun c hc => Below.heap_setCell _ _ _ _ (fun e => n3 ((show c = b from e) ▸ hc))
 ·exact fun c hc => Below.heap_setCell _ _ _ _ (fun e => n4 ((show c = b from e) ▸ hc))
theorem Rn.setLo {B b o j : Nat} {w : World} {x : Wd} {F : List Nat} (h : Rn B w b o x F) (hj : j < o) (u : Value) : Rn B (w.setCell ⟨b, j, none⟩ u) b o x F := by
 obtain ⟨_, _, _, _, _, _, _, _, hr, e⟩ := h
 exact ⟨_, _, _, _, _, _, _, _, hr.setLo hj u, e⟩
theorem Rn.fz {B b o : Nat} {w : World} {x : Wd} {F : List Nat} (h : Rn B w b o x F) (j : Nat) : w.frozen? ⟨b, j, none⟩ = false := by
 obtain ⟨_, _, _, _, _, _, _, _, hr, rfl⟩ := h
 exact hr.fz j
theorem fD {P : Program} {fn : Func} {R : Ending → World → Prop} {t t' : Array Value} (hr : ∀ w v, (results fn t).run P w = .ok v w → (results fn t').run P w = .ok v w) : ∀ (ds : List Deferred) (u : FrameMode) (w : World), Leaves P fn t R ds u w → Leaves P fn t' R ds u w
 | [], .returning, w, h => by
  obtain ⟨v, h1, h2⟩ := h
  exact ⟨v, hr w v h1, h2⟩
 | [], .panicking chain, w, h => h
 | [], .run, _, h => h
 | d :: ds, u, w, h => by
  obtain ⟨hu, fv, cap, f, args, h1, h2, h3⟩ := h
  refine ⟨hu, fv, cap, f, args, h1, h2, h3.mono fun e u' w' h => ?_⟩
  cases e with
  | returned v => exact fD hr ds _ _ h
  | panicked c => exact fD hr ds _ _ h
  | outgrown => exact h
theorem ri {R : Ending → World → Prop} {c : List PanicEntry} {a : Act} {d : Option Tmp} {v : Value} {w : World} (h : bodyPostD Tryz.prog Tryz.f49 R (.panic c) (a.put d v) w) : bodyPostD Tryz.prog Tryz.f49 R (.panic c) a w := by
 have hd : (a.put d v).defers = a.defers := by cases d <;> rfl
 have h' : Leaves Tryz.prog Tryz.f49 (a.put d v).tmps R (a.put d v).defers (.panicking c) w := h
 rw [hd] at h'
 exact fD (fun w v h => by rw [results_none rfl] at h ⊢; exact h) _ _ _ h'
def yO (B : Nat) (w : World) (b : Nat) (F : List Nat) (y : Wd) (e : Ending) (w' : World) : Prop :=
 e = .returned (.tuple #[]) ∧ ∃ F', Rn B w' b 2 y F' ∧ (∀ c ∈ F', c ∈ F ∨ w.heap.size ≤ c) ∧ Tch F w w'
def pO (B : Nat) (W2 : World) (b : Nat) (w : World) (y : Wd) (F5 : List Nat) (w5 : World) (F : List Nat) : Prop := w5.cell? ⟨b, 0, none⟩ = some (.int .i32 1) ∧ Rn B w5 b 2 y F5 ∧ (∀ q ∈ F5, q ∈ F ∨ w.heap.size ≤ q) ∧ Tch F w w5
set_option maxHeartbeats 40000000 in
theorem xb (B b : Nat) (x : Wd) (F : List Nat) (ev : Ev) (w : World) (h : Rn B w b 2 x F) (hx : VD 0 x) (hB : B ≤ w.heap.size) (hB1 : 1 ≤ B) (hg : bx w) (hl : w.cell? ⟨b, 0, none⟩ = some (.int .i32 0)) :
  Calls Tryz.prog 49 #[.pointer (some ⟨b, 0, none⟩), .agg #[.int .i64 ev.kind, .int .i64 ev.a, .int .i64 ev.b, .int .i64 ev.c]] w (yO B w b F (doW x ev)) := by
 obtain ⟨kd, a, b1, c⟩ := ev
 dsimp only
 obtain ⟨y, hy⟩ : ∃ y, y = doW x ⟨kd, a, b1, c⟩ := ⟨_, rfl⟩
 rw [← hy]
 have Hy := hid hy
 obtain ⟨vm, vs, vn, vg, Fm, Fs, Fn, Fg, hr, rfl⟩ := h
 have hrbw := hr.blk
 have HTW := hid (ab w (.cells #[.int .i64 kd, .int .i64 a, .int .i64 b1, .int .i64 c] 38))
 have eb := heap_alloc_new w (.cells #[.int .i64 kd, .int .i64 a, .int .i64 b1, .int .i64 c] 38)
 have hr1 := hr.go HTW.out
 have g0 := (HTW.out.cell (p := ⟨b, 0, none⟩) hrbw).trans hl
 have gf := hr1.fz 0
 have s1 : (w.alloc (.cells #[.int .i64 kd, .int .i64 a, .int .i64 b1, .int .i64 c] 38)).heap.size = w.heap.size + 1 := by simp
 have hg1 : bx (w.alloc (.cells #[.int .i64 kd, .int .i64 a, .int .i64 b1, .int .i64 c] 38)) := hg.go HTW.out
 have Hmem := hid (show b ∈ b :: (Fm ++ (Fs ++ (Fn ++ Fg))) from List.mem_cons_self)
 have hr2 := hr1.setLo (j := 0) (by omega) (.int .i32 1)
 have hg2 : bx ((w.alloc (.cells #[.int .i64 kd, .int .i64 a, .int .i64 b1, .int .i64 c] 38)).setCell ⟨b, 0, none⟩ (.int .i32 1)) := (World.cell?_of_block (w := w.alloc (.cells #[.int .i64 kd, .int .i64 a, .int .i64 b1, .int .i64 c] 38)) (a := ⟨0, 0, none⟩) (Below.heap_setCell _ _ _ _ (by dsimp only; have := hr.lo b List.mem_cons_self; omega))).trans hg1
 have eb2 := (Below.heap_setCell (w.alloc (.cells #[.int .i64 kd, .int .i64 a, .int .i64 b1, .int .i64 c] 38)) ⟨b, 0, none⟩ (.int .i32 1) w.heap.size (by dsimp only; omega)).trans eb
 have gl := World.cell?_setCell_same (w.alloc (.cells #[.int .i64 kd, .int .i64 a, .int .i64 b1, .int .i64 c] 38)) ⟨b, 0, none⟩ (.int .i32 1) g0
 have hT2 := (Tch.of (S := b :: (Fm ++ (Fs ++ (Fn ++ Fg)))) HTW.out).setCell (p := ⟨b, 0, none⟩) (.inl List.mem_cons_self) (.int .i32 1)
 have s2 : ((w.alloc (.cells #[.int .i64 kd, .int .i64 a, .int .i64 b1, .int .i64 c] 38)).setCell ⟨b, 0, none⟩ (.int .i32 1)).heap.size = w.heap.size + 1 := by rw [al]; exact s1
 have Hrn := hid (show Rn B _ b 2 x _ from ⟨_, _, _, _, _, _, _, _, hr2, rfl⟩); have Hg2 := hid hg2; have Eb2 := hid eb2; have Gl := hid gl; have HT2 := hid hT2; have Hx := hid hx
 clear hr hr1 hr2 eb eb2 hg1 hg2 gl hT2 hg hl hx hy s1
 go_enter_defers Tryz.func49, Tryz.ntmps49
 go_wp2_with fail
 refine (lock_free oO ⟨b, 0, none⟩ _ g0 gf).mono ?_
 rintro e w' ⟨rfl, rfl⟩
 generalize (w.alloc (.cells #[.int .i64 kd, .int .i64 a, .int .i64 b1, .int .i64 c] 38)).setCell ⟨b, 0, none⟩ (.int .i32 1) = W2 at *
 obtain ⟨v0, v1, v2, v3, _⟩ := bh Eb2.out
 have hw2 : w.heap.size < W2.heap.size := by omega
 have HS := hid (fun (wx : World) (hT : Tch [] W2 wx) => And.intro (bh (hT.row Eb2.out (by simp))) (show w.heap.size < wx.heap.size ∧ b < wx.heap.size by have := hT.size; omega))
 clear g0 gf
 by_cases hk : kd = 1
 ·obtain rfl := Hy.out.trans (show doW x ⟨kd, a, b1, c⟩ = dT x a b1 c by rw [hk]; rfl)
  have i1 : (kd == 1) = true := by simp [hk]
  clear hk
  go_wp2_with fail
  clear v0 v1 v2 v3
  refine rgN [] 10 (by kernel_rfl) rfl (fun _ _ _ _ _ h => ri h) fun wd hH hbwd swd => ?_
  simp only [pw]
  refine ag [0, 1, 2, 3, 4, 5, 6, 7, 8] ?_
  iterate 9 (refine ra HS.out rfl (by kernel_rfl) rfl (fun _ f => by go_simp; try with_reducible rfl) ?_; try simp only [pw])
  refine rz 9 (by kernel_rfl) rfl fun K hK => ?_
  go_simp
  (have swd2 := hH.size; go_at_call 87; refine (yE B b 2 x _ a b1 c _ (Hrn.out.go hH.nil) Hx.out (by omega)).mono ?_; rintro e w5 ⟨rfl, F5, hr5, hF5, hT5, hk5⟩)
  refine hK.out _ _ ?_
  clear hK K
  have HD := hid (show pO B W2 b w _ F5 w5 (b :: (Fm ++ (Fs ++ (Fn ++ Fg)))) from ⟨(hk5 0 (by omega)).trans (hH.cell Gl.out (by simp)), hr5, fun q hq => by
   rcases hF5 q hq with h | h | h
   ·exact .inl h
   ·cases h
   ·exact .inr (by omega), (HT2.out.trans (Tch.of hH.nil)).seq hT5 (fun c hc => .inl hc)⟩)
  clear hr5 hF5 hT5 hk5 hH
  go_wp2_with fail
  (refine leaves_cons (f := 86) (args := #[.pointer (some ⟨b, 0, none⟩)]) (by simp) (by simp [go_sem]) ?_); (refine (unlock_deferred oO ⟨b, 0, none⟩ .returning _ HD.out.1 (HD.out.2.1.fz 0)).mono ?_); (rintro e u' w'' ⟨rfl, rfl, rfl⟩); (exact ⟨_, results_none rfl _ _ _, rfl, _, HD.out.2.1.setLo (by omega) _, HD.out.2.2.1, HD.out.2.2.2.setCell (p := ⟨b, 0, none⟩) (.inl Hmem.out) _⟩)
 by_cases hk' : kd = 2 ∨ kd = 3 ∨ kd = 4 ∨ kd = 5
 ·obtain rfl := Hy.out.trans (show doW x ⟨kd, a, b1, c⟩ = eS x ⟨kd, a, b1, c⟩ by unfold doW; simp only; rw [if_neg hk, if_pos hk'])
  clear hk
  rcases hk' with hk | hk | hk | hk
  all_goals
   first | have i1 : (kd == 1) = true := beq_iff_eq.2 hk | have i1 : (kd == 1) = false := beq_false_of_ne (by rw [hk]; decide)
   first | have i2 : (kd == 2) = true := beq_iff_eq.2 hk | have i2 : (kd == 2) = false := beq_false_of_ne (by rw [hk]; decide)
   first | have i3 : (kd == 3) = true := beq_iff_eq.2 hk | have i3 : (kd == 3) = false := beq_false_of_ne (by rw [hk]; decide)
   first | have i4 : (kd == 4) = true := beq_iff_eq.2 hk | have i4 : (kd == 4) = false := beq_false_of_ne (by rw [hk]; decide)
   first | have i5 : (kd == 5) = true := beq_iff_eq.2 hk | have i5 : (kd == 5) = false := beq_false_of_ne (by rw [hk]; decide)
   clear hk
   go_wp2_with fail
   clear v0 v1 v2 v3
   refine rgN [] 5 (by kernel_rfl) rfl (fun _ _ _ _ _ h => ri h) fun wd hH hbwd swd => ?_
   simp only [pw]
   refine ag [0, 1, 2, 3] ?_
   iterate 4 (refine ra HS.out rfl (by kernel_rfl) rfl (fun _ f => by go_simp; try with_reducible rfl) ?_; try simp only [pw])
   refine rz 4 (by kernel_rfl) rfl fun K hK => ?_
   go_simp
   (have swd2 := hH.size; go_at_call 88; refine (mW B b 2 x _ ⟨kd, a, b1, c⟩ _ (Hrn.out.go hH.nil) Hx.out (by omega) hB1 (Hg2.out.go hH.nil)).mono ?_; rintro e w5 ⟨rfl, F5, hr5, hF5, hT5, hk5⟩)
   refine hK.out _ _ ?_
   clear hK K
   have HD := hid (show pO B W2 b w _ F5 w5 (b :: (Fm ++ (Fs ++ (Fn ++ Fg)))) from ⟨(hk5 0 (by omega)).trans (hH.cell Gl.out (by simp)), hr5, fun q hq => by
    rcases hF5 q hq with h | h | h
    ·exact .inl h
    ·cases h
    ·exact .inr (by omega), (HT2.out.trans (Tch.of hH.nil)).seq hT5 (fun c hc => .inl hc)⟩)
   clear hr5 hF5 hT5 hk5 hH
   go_wp2_with fail
   (refine leaves_cons (f := 86) (args := #[.pointer (some ⟨b, 0, none⟩)]) (by simp) (by simp [go_sem]) ?_); (refine (unlock_deferred oO ⟨b, 0, none⟩ .returning _ HD.out.1 (HD.out.2.1.fz 0)).mono ?_); (rintro e u' w'' ⟨rfl, rfl, rfl⟩); (exact ⟨_, results_none rfl _ _ _, rfl, _, HD.out.2.1.setLo (by omega) _, HD.out.2.2.1, HD.out.2.2.2.setCell (p := ⟨b, 0, none⟩) (.inl Hmem.out) _⟩)
 have i1 : (kd == 1) = false := by simp [hk]
 simp only [not_or] at hk'
 obtain ⟨h2, h3, h4, h5⟩ := hk'
 have i2 : (kd == 2) = false := by simp [h2]
 have i3 : (kd == 3) = false := by simp [h3]
 have i4 : (kd == 4) = false := by simp [h4]
 have i5 : (kd == 5) = false := by simp [h5]
 by_cases h6 : kd = 6
 ·have i6 : (kd == 6) = true := by simp [h6]
  cases hw : win a 0 2 with
  | true =>
   obtain ⟨k, hka⟩ : ∃ k : Nat, a = (k : Int) := ⟨a.toNat, by have := aH.1 hw; omega⟩
   have hk3 : k < 3 := by have := aH.1 hw; omega
   obtain rfl := Hy.out.trans (show doW x ⟨kd, a, b1, c⟩ = cJ x k false by have hv := hw; rw [hka] at hv; unfold doW; simp [h2, h3, h4, h5, h6, hv, hka])
   have Hka := hid hka
   clear hk h2 h3 h4 h5 h6 hka
   go_wp2_with (go_at_call 80; refine (gM _ _).mono ?_; rw [hw]; rintro e w' ⟨rfl, rfl⟩)
   obtain rfl := Hka.out
   clear v0 v1 v2 v3
   refine rgN [] 6 (by kernel_rfl) rfl (fun _ _ _ _ _ h => ri h) fun wd hH hbwd swd => ?_
   simp only [pw]
   refine ag [0, 1, 2, 3, 4] ?_
   iterate 5 (refine ra HS.out rfl (by kernel_rfl) rfl (fun _ f => by go_simp; try with_reducible rfl) ?_; try simp only [pw])
   refine rz 5 (by kernel_rfl) rfl fun K hK => ?_
   go_simp
   (have swd2 := hH.size; go_at_call 89; refine (sU B b 2 x _ k false _ (Hrn.out.go hH.nil) Hx.out hk3 (by omega)).mono ?_; rintro e w5 ⟨rfl, F5, hr5, hF5, hT5, hk5⟩)
   refine hK.out _ _ ?_
   clear hK K
   have HD := hid (show pO B W2 b w _ F5 w5 (b :: (Fm ++ (Fs ++ (Fn ++ Fg)))) from ⟨(hk5 0 (by omega)).trans (hH.cell Gl.out (by simp)), hr5, fun q hq => by
    rcases hF5 q hq with h | h | h
    ·exact .inl h
    ·cases h
    ·exact .inr (by omega), (HT2.out.trans (Tch.of hH.nil)).seq hT5 (fun c hc => .inl hc)⟩)
   clear hr5 hF5 hT5 hk5 hH
   go_wp2_with fail
   (refine leaves_cons (f := 86) (args := #[.pointer (some ⟨b, 0, none⟩)]) (by simp) (by simp [go_sem]) ?_); (refine (unlock_deferred oO ⟨b, 0, none⟩ .returning _ HD.out.1 (HD.out.2.1.fz 0)).mono ?_); (rintro e u' w'' ⟨rfl, rfl, rfl⟩); (exact ⟨_, results_none rfl _ _ _, rfl, _, HD.out.2.1.setLo (by omega) _, HD.out.2.2.1, HD.out.2.2.2.setCell (p := ⟨b, 0, none⟩) (.inl Hmem.out) _⟩)
  | false =>
   obtain rfl := Hy.out.trans (show doW x ⟨kd, a, b1, c⟩ = x by unfold doW; simp [h2, h3, h4, h5, h6, hw])
   clear hk h2 h3 h4 h5 h6
   go_wp2_with (go_at_call 80; refine (gM _ _).mono ?_; rw [hw]; rintro e w' ⟨rfl, rfl⟩)
   have HD := hid (show pO B W2 b w _ _ W2 (b :: (Fm ++ (Fs ++ (Fn ++ Fg)))) from ⟨Gl.out, Hrn.out, fun q hq => .inl hq, HT2.out⟩)
   (refine leaves_cons (f := 86) (args := #[.pointer (some ⟨b, 0, none⟩)]) (by simp) (by simp [go_sem]) ?_); (refine (unlock_deferred oO ⟨b, 0, none⟩ .returning _ HD.out.1 (HD.out.2.1.fz 0)).mono ?_); (rintro e u' w'' ⟨rfl, rfl, rfl⟩); (exact ⟨_, results_none rfl _ _ _, rfl, _, HD.out.2.1.setLo (by omega) _, HD.out.2.2.1, HD.out.2.2.2.setCell (p := ⟨b, 0, none⟩) (.inl Hmem.out) _⟩)
 ·have i6 : (kd == 6) = false := by simp [h6]
  obtain rfl := Hy.out.trans (show doW x ⟨kd, a, b1, c⟩ = x by unfold doW; simp [hk, h2, h3, h4, h5, h6])
  clear hk h2 h3 h4 h5 h6
  go_wp2_with fail
  have HD := hid (show pO B W2 b w _ _ W2 (b :: (Fm ++ (Fs ++ (Fn ++ Fg)))) from ⟨Gl.out, Hrn.out, fun q hq => .inl hq, HT2.out⟩)
  (refine leaves_cons (f := 86) (args := #[.pointer (some ⟨b, 0, none⟩)]) (by simp) (by simp [go_sem]) ?_); (refine (unlock_deferred oO ⟨b, 0, none⟩ .returning _ HD.out.1 (HD.out.2.1.fz 0)).mono ?_); (rintro e u' w'' ⟨rfl, rfl, rfl⟩); (exact ⟨_, results_none rfl _ _ _, rfl, _, HD.out.2.1.setLo (by omega) _, HD.out.2.2.1, HD.out.2.2.2.setCell (p := ⟨b, 0, none⟩) (.inl Hmem.out) _⟩)
end
end Go.Proofs.YtfaeojmndaplcaaGreatDoor
