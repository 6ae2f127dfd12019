/- Texts that the last file leans on (part 31). -/
import Derived.Test.YtfmibcofgckldaaGreatDoorM28
import Derived.Test.YtfmibcofgckldaaGreatDoorM29
import Derived.Test.YtfmibcofgckldaaGreatDoorM30
set_option linter.unusedVariables false
set_option linter.unusedSimpArgs false
set_option maxHeartbeats 4000000
set_option maxRecDepth 100000
namespace Go.Proofs.YtfmibcofgckldaaGreatDoor
open Go Go.RowKit
theorem vu {w : World} {n t : Nat} {a b c d e f g k : Value} (h : w.heap[n]? = some (.cells #[a, b, c, d, e, f, g, k] t (0, 0))) :
  w.cell? ⟨n, 0, none⟩ = some a ∧ w.cell? ⟨n, 1, none⟩ = some b ∧ w.cell? ⟨n, 2, none⟩ = some c ∧ w.cell? ⟨n, 3, none⟩ = some d ∧ w.cell? ⟨n, 4, none⟩ = some e ∧ w.cell? ⟨n, 5, none⟩ = some f ∧ w.cell? ⟨n, 6, none⟩ = some g ∧ w.cell? ⟨n, 7, none⟩ = some k ∧ ∀ j, w.frozen? ⟨n, j, none⟩ = false :=
 ⟨by rw [cell_of_row w n 0 _ _ _ h]; rfl, by rw [cell_of_row w n 1 _ _ _ h]; rfl, by rw [cell_of_row w n 2 _ _ _ h]; rfl, by rw [cell_of_row w n 3 _ _ _ h]; rfl, by rw [cell_of_row w n 4 _ _ _ h]; rfl, by rw [cell_of_row w n 5 _ _ _ h]; rfl, by rw [cell_of_row w n 6 _ _ _ h]; rfl, by rw [cell_of_row w n 7 _ _ _ h]; rfl, fun j => frozen_of_row w n j _ _ h⟩
theorem Rn.ofNew8 {B B0 t : Nat} {w : World} {x : Wd} {um us un ug a0 a1 : Value} (h : ao oWd B w [um, us, un, ug, .int .i64 x.made, .int .i64 x.lost] x) (hB : B0 ≤ B) (hBw : B0 ≤ w.heap.size) :
  ∃ F, Rn B0 (w.alloc (.cells #[a0, a1, um, us, un, ug, .int .i64 x.made, .int .i64 x.lost] t)) w.heap.size 2 x F ∧ ∀ c ∈ F, c = w.heap.size ∨ B ≤ c := by
 obtain ⟨Fm, Fs, Fn, Fg, h1, h2, h3, h4, n1, n2⟩ := eH h
 have l1 := dd.lt h1; have l2 := bf.lt h2; have l3 := de.lt h3; have l4 := bf.lt h4
 have hlt : ∀ c ∈ Fm ++ (Fs ++ (Fn ++ Fg)), c < w.heap.size := fun c hc => by
  simp only [List.mem_append] at hc
  rcases hc with h | h | h | h
  ·exact l1 c h
  ·exact l2 c h
  ·exact l3 c h
  ·exact l4 c h
 have hb := lit_below w (.cells #[a0, a1, um, us, un, ug, .int .i64 x.made, .int .i64 x.lost] t)
 obtain ⟨_, _, q0, q1, q2, q3, q4, q5, qf⟩ := vu (heap_alloc_new w (.cells #[a0, a1, um, us, un, ug, .int .i64 x.made, .int .i64 x.lost] t))
 refine ⟨_, ⟨um, us, un, ug, Fm, Fs, Fn, Fg, ⟨q0, q1, q2, q3, q4, q5, qf, dd.keep h1 (fun c hc => hb.block c (l1 c hc)), bf.keep h2 (fun c hc => hb.block c (l2 c hc)), de.keep h3 (fun c hc => hb.block c (l3 c hc)), bf.keep h4 (fun c hc => hb.block c (l4 c hc)), List.nodup_cons.2 ⟨fun hm => by have := hlt _ hm; omega, n1⟩, fun c hc => ?_⟩, rfl⟩, fun c hc => ?_⟩
 ·rcases List.mem_cons.1 hc with rfl | hc
  ·exact hBw
  ·exact Nat.le_trans hB (n2 c hc)
 ·rcases List.mem_cons.1 hc with rfl | hc
  ·exact .inl rfl
  ·exact .inr (n2 c hc)
theorem Rn.new {B b o : Nat} {w : World} {x : Wd} {F : List Nat} (h : Rn B w b o x F) : ∃ um us un ug, w.cell? ⟨b, o, none⟩ = some um ∧ w.cell? ⟨b, o + 1, none⟩ = some us ∧ w.cell? ⟨b, o + 2, none⟩ = some un ∧ w.cell? ⟨b, o + 3, none⟩ = some ug ∧ w.cell? ⟨b, o + 4, none⟩ = some (.int .i64 x.made) ∧ w.cell? ⟨b, o + 5, none⟩ = some (.int .i64 x.lost) ∧ b < w.heap.size ∧ ao oWd B w [um, us, un, ug, .int .i64 x.made, .int .i64 x.lost] x := by
 obtain ⟨um, us, un, ug, _, _, _, _, hr, _⟩ := h
 exact ⟨um, us, un, ug, hr.c0, hr.c1, hr.c2, hr.c3, hr.c4, hr.c5, hr.blk, hr.newA⟩
theorem mF (x : Wd) (v : Value) (ev : Ev) (w : World) (hg : eQ w) (h : WdB w.heap.size w v x) (hgl : x.got.length ≤ 1073741824) :
  Calls Tryz.prog 18 #[v, .agg #[.int .i64 ev.kind, .int .i64 ev.a, .int .i64 ev.b, .int .i64 ev.c]] w (ui w (stepW x ev)) := by
 have hw0 : 0 < w.heap.size := World.block_lt_of_cell? _ _ hg
 have H := hid (fun (wx : World) (hb : Below w.heap.size w wx) => h.go hb)
 have Hg := hid (fun (wx : World) (hb : Below w.heap.size w wx) => hg.go hb)
 obtain ⟨A1, c1, A2, c2, A3, c3, A4, c4, rfl⟩ := (WdR.of_wdB (R := fun _ => True) h (fun _ _ => trivial)).form
 clear h hg
 obtain ⟨z, hz⟩ : ∃ z, z = stepW x ev := ⟨_, rfl⟩
 rw [← hz]
 have Hz := hid hz
 clear hz
 go_enter Tryz.func18, Tryz.ntmps18
 go_wp2_with fail
 refine (rJ x _ _ (H.out _ (by repeat (first | exact Below.refl _ _ | apply ab | refine bA ?_ (by omega) | refine Below.setCell ?_ (by first | omega | simp <;> omega) _))) hgl).mono ?_
 rintro e' w1 ⟨rfl, hb1⟩
 obtain ⟨e0, e1, e2⟩ := cW hb1
 have hc1 : Below w.heap.size w w1 := bt (by repeat (first | exact Below.refl _ _ | apply ab | refine bA ?_ (by omega) | refine Below.setCell ?_ (by first | omega | simp <;> omega) _)) hb1
 obtain ⟨k0, k1, k2, k3, k4, k5, _⟩ := al e0
 obtain ⟨v0, v1, v2, v3, _⟩ := aQ e1
 obtain ⟨q0, q1, q2, q3, q4, q5, qf, qf0, qf1, qf2, qf3, qf4, qf5⟩ := row6f e2
 have z2 : w.heap.size + 1 + 1 < w1.heap.size := (Array.getElem?_eq_some_iff.1 e2).1
 have z1 : w.heap.size + 1 < w1.heap.size := by omega
 have z0 : w.heap.size < w1.heap.size := by omega
 cases hv : wdB x with
 | false =>
  have hs : stepW x ev = zWd := by unfold stepW; rw [hv]; rfl
  obtain rfl := Hz.out.trans hs
  clear Hz
  have Hc1 := hid hc1
  clear hb1 hc1 e0 e1 e2 qf hv hs
  go_wp2_with fail
  refine bodyPost_ret (v := .agg #[.slice none 0 0, .slice none 0 0, .slice none 0 0, .slice none 0 0, .int .i64 0, .int .i64 0]) (by simp [results, Tryz.results18, go_sem, q0, q1, q2, q3, q4, q5]) rfl ⟨_, _, _, _, rfl, qa _ _, ?_⟩
  repeat (refine Below.setCell ?_ (by dsimp only; omega) _)
  exact Hc1.out
 | true =>
  have hx := mm.1 hv
  have hs : stepW x ev = doW x ev := by unfold stepW; rw [hv]; rfl
  obtain rfl := Hz.out.trans hs
  clear Hz
  have Hx := hid hx; have Hc1 := hid hc1; have E1 := hid e1; have E2 := hid e2
  clear hb1 hc1 e0 e1 e2 qf hv hs hx q0 q1 q2 q3 q4 q5 qf0 qf1 qf2 qf3 qf4 qf5
  go_wp2_with fail
  refine (mu x _ _ (H.out _ Hc1.out) Hx.out).mono ?_
  rintro e' w3 ⟨um, us, un, ug, rfl, n3, hb3⟩
  obtain ⟨B1, d1, B2, d2, B3, d3, B4, d4, rfl, rfl, rfl, rfl⟩ := cL n3
  have hc3 := bt Hc1.out hb3
  have e13 := heap_go hb3 E1.out
  have e23 := heap_go hb3 E2.out
  have s3 := hb3.size
  obtain ⟨F, hrn, hF⟩ := Rn.ofNew8 (B0 := w1.heap.size) (a0 := .int .i32 0) (a1 := .int .u32 0) (t := 73) n3 (Nat.le_refl _) s3
  have hb4 := lit_below w3 (.cells #[.int .i32 0, .int .u32 0, .slice B1 x.mixes.length d1, .slice B2 x.sent.length d2, .slice B3 x.net.length d3, .slice B4 x.got.length d4, .int .i64 x.made, .int .i64 x.lost] 73)
  have e14 := heap_go hb4 e13
  have e24 := heap_go hb4 e23
  have hl8 := (vu (heap_alloc_new w3 (.cells #[.int .i32 0, .int .u32 0, .slice B1 x.mixes.length d1, .slice B2 x.sent.length d2, .slice B3 x.net.length d3, .slice B4 x.got.length d4, .int .i64 x.made, .int .i64 x.lost] 73))).1
  have s4 : (w3.alloc (.cells #[.int .i32 0, .int .u32 0, .slice B1 x.mixes.length d1, .slice B2 x.sent.length d2, .slice B3 x.net.length d3, .slice B4 x.got.length d4, .int .i64 x.made, .int .i64 x.lost] 73)).heap.size = w3.heap.size + 1 := by simp
  obtain ⟨v0, v1, v2, v3, _⟩ := aQ e14
  have Hrn := hid hrn; have HF := hid hF; have E14 := hid e14; have E24 := hid e24; have Hl8 := hid hl8; have Hc4 := hid (bt hc3 hb4)
  have z14 : w.heap.size + 1 < (w3.alloc (.cells #[.int .i32 0, .int .u32 0, .slice B1 x.mixes.length d1, .slice B2 x.sent.length d2, .slice B3 x.net.length d3, .slice B4 x.got.length d4, .int .i64 x.made, .int .i64 x.lost] 73)).heap.size := by omega
  clear k0 k1 k2 k3 k4 k5 hb3 hrn hF e14 e24 hl8 e13 e23 hc3 n3 hb4 E1 E2
  go_wp2_with fail
  have hg4 := Hg.out _ Hc4.out
  have hB4 : w1.heap.size ≤ (w3.alloc (.cells #[.int .i32 0, .int .u32 0, .slice B1 x.mixes.length d1, .slice B2 x.sent.length d2, .slice B3 x.net.length d3, .slice B4 x.got.length d4, .int .i64 x.made, .int .i64 x.lost] 73)).heap.size := by omega
  generalize w3.alloc (.cells #[.int .i32 0, .int .u32 0, .slice B1 x.mixes.length d1, .slice B2 x.sent.length d2, .slice B3 x.net.length d3, .slice B4 x.got.length d4, .int .i64 x.made, .int .i64 x.lost] 73) = W4 at *
  refine (te w1.heap.size w3.heap.size x F ev W4 Hrn.out Hx.out hB4 (by omega) hg4 Hl8.out).mono ?_
  rintro e' w5 ⟨rfl, F', hrn5, hF5, hT5⟩
  generalize doW x ev = y at *
  obtain ⟨um5, us5, un5, ug5, c0, c1, c2, c3, c4, c5, hb5, n5⟩ := hrn5.new
  obtain ⟨D1, f1, D2, f2, D3, f3, D4, f4, rfl, rfl, rfl, rfl⟩ := cL n5
  have e25 := hT5.row E24.out (fun hm => by rcases HF.out _ hm with h | h <;> omega)
  have hc5 : Below w.heap.size w w5 := Hc4.out.trans ((hT5.below hB4 (fun c hc => by rcases HF.out c hc with h | h <;> omega)).mono (by omega))
  obtain ⟨q0, q1, q2, q3, q4, q5, qf, qf0, qf1, qf2, qf3, qf4, qf5⟩ := row6f e25
  have z25 : w.heap.size + 1 + 1 < w5.heap.size := (Array.getElem?_eq_some_iff.1 e25).1
  have N5 := hid n5; have Hc5 := hid hc5
  clear hrn5 hF5 hT5 n5 e25 qf hc5 v0 v1 v2 v3
  go_wp2_with fail
  refine bodyPost_ret (v := .agg #[.slice D1 y.mixes.length f1, .slice D2 y.sent.length f2, .slice D3 y.net.length f3, .slice D4 y.got.length f4, .int .i64 y.made, .int .i64 y.lost]) (by simp [results, Tryz.results18, go_sem, q0, q1, q2, q3, q4, q5]) rfl ⟨_, _, _, _, rfl, ?_, ?_⟩
  ·refine ao.base (B := w1.heap.size) ?_ (by omega)
   repeat (refine ao.set ?_ (by dsimp only; omega))
   exact N5.out
  ·repeat (refine Below.setCell ?_ (by dsimp only; omega) _)
   exact Hc5.out
theorem WdB.mono {B B' : Nat} {w : World} {v : Value} {x : Wd} (h : WdB B w v x) (hB : B ≤ B') : WdB B' w v x := by
 obtain ⟨vm, vs, vn, vg, rfl, h1, h2, h3, h4⟩ := h
 exact ⟨_, _, _, _, rfl, h1.mono hB, h2.mono hB, h3.mono hB, h4.mono hB⟩
def cF (B C : Nat) (w : World) (um us un ug : Value) (x : Wd) : Prop :=
 ∃ Fm Fs Fn Fg, (dd.E w [um] x.mixes Fm ∧ bf.E w [us] x.sent Fs ∧ de.E w [un] x.net Fn ∧ bf.E w [ug] x.got Fg) ∧ (Fm ++ (Fs ++ (Fn ++ Fg))).Nodup ∧ ∀ c ∈ Fm ++ (Fs ++ (Fn ++ Fg)), B ≤ c ∧ c < C
section
variable {B C n : Nat} {w w' : World} {um us un ug : Value} {x : Wd}
theorem cF.of (h : ao oWd B w [um, us, un, ug, .int .i64 x.made, .int .i64 x.lost] x) : cF B w.heap.size w um us un ug x := by
 obtain ⟨Fm, Fs, Fn, Fg, h1, h2, h3, h4, n1, n2⟩ := eH h
 refine ⟨Fm, Fs, Fn, Fg, ⟨h1, h2, h3, h4⟩, n1, fun c hc => ⟨n2 c hc, ?_⟩⟩
 simp only [List.mem_append] at hc
 rcases hc with h | h | h | h
 ·exact dd.lt h1 c h
 ·exact bf.lt h2 c h
 ·exact de.lt h3 c h
 ·exact bf.lt h4 c h
theorem cF.new (h : cF B C w um us un ug x) : ao oWd B w [um, us, un, ug, .int .i64 x.made, .int .i64 x.lost] x := by
 obtain ⟨Fm, Fs, Fn, Fg, ⟨h1, h2, h3, h4⟩, n1, n2⟩ := h
 exact ⟨Fm ++ (Fs ++ (Fn ++ (Fg ++ ([] ++ [])))), ⟨[um], _, Fm, _, rfl, rfl, h1, [us], _, Fs, _, rfl, rfl, h2, [un], _, Fn, _, rfl, rfl, h3, [ug], _, Fg, _, rfl, rfl, h4, [_], [_], [], [], rfl, rfl, ⟨rfl, rfl⟩, ⟨rfl, rfl⟩⟩, by simpa using n1, fun c hc => (n2 c (by simpa using hc)).1⟩
theorem cF.wdB (h : cF B C w um us un ug x) : WdB w.heap.size w (.agg #[um, us, un, ug, .int .i64 x.made, .int .i64 x.lost]) x := ib h.new
theorem cF.keep (h : cF B C w um us un ug x) (hk : ∀ c, B ≤ c → c < C → w'.heap[c]? = w.heap[c]?) : cF B C w' um us un ug x := by
 obtain ⟨Fm, Fs, Fn, Fg, ⟨h1, h2, h3, h4⟩, n1, n2⟩ := h
 have k : ∀ c ∈ Fm ++ (Fs ++ (Fn ++ Fg)), w'.heap[c]? = w.heap[c]? := fun c hc => hk c (n2 c hc).1 (n2 c hc).2
 exact ⟨Fm, Fs, Fn, Fg, ⟨dd.keep h1 (fun c hc => k c (by simp [hc])), bf.keep h2 (fun c hc => k c (by simp [hc])), de.keep h3 (fun c hc => k c (by simp [hc])), bf.keep h4 (fun c hc => k c (by simp [hc]))⟩, n1, n2⟩
theorem cF.go (h : cF B C w um us un ug x) (hb : Below n w w') (hC : C ≤ n) : cF B C w' um us un ug x := h.keep (fun c _ hc => hb.block c (by omega))
theorem cF.form (h : cF B C w um us un ug x) : ∃ A1 c1 A2 c2 A3 c3 A4 c4, um = .slice A1 x.mixes.length c1 ∧ us = .slice A2 x.sent.length c2 ∧ un = .slice A3 x.net.length c3 ∧ ug = .slice A4 x.got.length c4 := cL h.new
def gY (B C : Nat) (w w' : World) : Prop := ∃ F, Tch F w w' ∧ ∀ c ∈ F, B ≤ c ∧ c < C
theorem gY.below (h : gY B C w w') (hB : B ≤ w.heap.size) : Below B w w' := by
 obtain ⟨F, ht, hF⟩ := h
 exact ht.below hB (fun c hc => (hF c hc).1)
theorem gY.block (h : gY B C w w') {c : Nat} (hc : c < w.heap.size) (ho : c < B ∨ C ≤ c) : w'.heap[c]? = w.heap[c]? := by
 obtain ⟨F, ht, hF⟩ := h
 exact ht.block c hc (fun hm => by have := hF c hm; omega)
theorem gY.row (h : gY B C w w') {c : Nat} {o : Obj} (hc : w.heap[c]? = some o) (ho : c < B ∨ C ≤ c) : w'.heap[c]? = some o := (h.block (Array.getElem?_eq_some_iff.1 hc).1 ho).trans hc
theorem gY.size (h : gY B C w w') : w.heap.size ≤ w'.heap.size := by obtain ⟨F, ht, _⟩ := h; exact ht.size
end
theorem vQ {B n t : Nat} {w0 w W : World} {x : Wd} {um us un ug : Value} (n1 : ao oWd B w [um, us, un, ug, .int .i64 x.made, .int .i64 x.lost] x) (hb : Below n w0 w) (hs : n ≤ w.heap.size) (h : w.alloc (.cells #[um, us, un, ug, .int .i64 x.made, .int .i64 x.lost] t) = W) :
  W.heap[w.heap.size]? = some (.cells #[um, us, un, ug, .int .i64 x.made, .int .i64 x.lost] t (0, 0)) ∧ cF B w.heap.size W um us un ug x ∧ Below w.heap.size w W ∧ Below n w0 W ∧ W.heap.size = w.heap.size + 1 := by
 subst h
 have hb1 := lit_below w (.cells #[um, us, un, ug, .int .i64 x.made, .int .i64 x.lost] t)
 exact ⟨heap_alloc_new _ _, (cF.of n1).go hb1 (Nat.le_refl _), hb1, hb.trans (hb1.mono hs), by simp⟩
end Go.Proofs.YtfmibcofgckldaaGreatDoor
