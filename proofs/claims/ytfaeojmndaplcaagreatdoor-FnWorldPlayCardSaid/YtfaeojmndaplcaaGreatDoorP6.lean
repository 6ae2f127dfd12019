/- Texts that the last file leans on (part 6). -/
import Derived.Deep.DeepCutAuto
import Derived.Test.YtfaeojmndaplcaaGreatDoorP0
import Derived.Test.YtfaeojmndaplcaaGreatDoorP3
import Derived.Test.YtfaeojmndaplcaaGreatDoorP5
set_option linter.unusedVariables false
set_option linter.unusedSimpArgs false
set_option maxHeartbeats 4000000
set_option maxRecDepth 100000
namespace Go.Proofs.YtfaeojmndaplcaaGreatDoor
open Go Go.RowKit
structure Tch (S : List Nat) (w w' : World) : Prop where
 os : w'.os = w.os
 tape : w'.tape = w.tape
 output : w'.output = w.output
 size : w.heap.size ≤ w'.heap.size
 block : ∀ k, k < w.heap.size → k ∉ S → w'.heap[k]? = w.heap[k]?
section
variable {S : List Nat} {a w w' : World}
theorem Tch.refl (S : List Nat) (w : World) : Tch S w w := ⟨rfl, rfl, rfl, Nat.le_refl _, fun _ _ _ => rfl⟩
theorem Tch.trans {c : World} (h : Tch S a w) (k : Tch S w c) : Tch S a c :=
 ⟨k.os.trans h.os, k.tape.trans h.tape, k.output.trans h.output, Nat.le_trans h.size k.size, fun i hi hn => (k.block i (Nat.lt_of_lt_of_le hi h.size) hn).trans (h.block i hi hn)⟩
theorem Tch.mono {S' : List Nat} (h : Tch S a w) (hs : ∀ b ∈ S, b ∈ S') : Tch S' a w := ⟨h.os, h.tape, h.output, h.size, fun k hk hn => h.block k hk (fun hm => hn (hs k hm))⟩
theorem Tch.of (h : Below a.heap.size a w) : Tch S a w := ⟨h.os, h.tape, h.output, h.size, fun k hk _ => h.block k hk⟩
theorem Tch.grown {r : Option Nat} (h : a.grownBy w r) (hr : ∀ k, r = some k → k < a.heap.size → k ∈ S) : Tch S a w :=
 ⟨h.os, h.tape, h.output, h.size, fun k hk hn => h.block k hk (fun e => hn (hr k e.symm hk))⟩
theorem Tch.setCell (h : Tch S a w) {p : Addr} (hp : p.block ∈ S ∨ a.heap.size ≤ p.block) (u : Value) : Tch S a (w.setCell p u) :=
 ⟨h.os, h.tape, h.output, by simpa [World.setCell] using h.size, fun k hk hn => (Below.heap_setCell _ _ _ _ (fun e => by rcases hp with hp | hp; exact hn (e ▸ hp); omega)).trans (h.block k hk hn)⟩
theorem Tch.below {B : Nat} (h : Tch S a w) (hB : B ≤ a.heap.size) (hs : ∀ b ∈ S, B ≤ b) : Below B a w :=
 ⟨h.os, h.tape, h.output, h.size, fun k hk => h.block k (by omega) (fun hm => by have := hs k hm; omega)⟩
end
theorem cw {A F F' C : List Nat} (h : (A ++ (F ++ C)).Nodup) (hF : F'.Nodup) (h1 : ∀ b ∈ F', b ∈ F ∨ b ∉ A ++ (F ++ C)) : (A ++ (F' ++ C)).Nodup := by
 rw [List.nodup_append, List.nodup_append] at *
 obtain ⟨a1, ⟨a2, a3, a4⟩, a5⟩ := h
 refine ⟨a1, ⟨hF, a3, fun x hx y hy e => ?_⟩, fun x hx y hy e => ?_⟩
 ·subst e
  rcases h1 x hx with h | h
  ·exact a4 x h x hy rfl
  ·exact h (by simp [hy])
 ·subst e
  rcases List.mem_append.1 hy with hy | hy
  ·rcases h1 x hy with h | h
   ·exact a5 x hx x (List.mem_append_left _ h) rfl
   ·exact h (by simp [hx])
  ·exact a5 x hx x (List.mem_append_right _ hy) rfl
structure Run (B : Nat) (w : World) (b o : Nat) (x : Wd) (vm vs vn vg : Value) (Fm Fs Fn Fg : List Nat) : Prop where
 c0 : w.cell? ⟨b, o, none⟩ = some vm
 c1 : w.cell? ⟨b, o + 1, none⟩ = some vs
 c2 : w.cell? ⟨b, o + 2, none⟩ = some vn
 c3 : w.cell? ⟨b, o + 3, none⟩ = some vg
 c4 : w.cell? ⟨b, o + 4, none⟩ = some (.int .i64 x.made)
 c5 : w.cell? ⟨b, o + 5, none⟩ = some (.int .i64 x.lost)
 fz : ∀ j, w.frozen? ⟨b, j, none⟩ = false
 em : dU.E w [vm] x.mixes Fm
 es : bT.E w [vs] x.sent Fs
 en : dV.E w [vn] x.net Fn
 eg : bT.E w [vg] x.got Fg
 nd : (b :: (Fm ++ (Fs ++ (Fn ++ Fg)))).Nodup
 lo : ∀ c ∈ b :: (Fm ++ (Fs ++ (Fn ++ Fg))), B ≤ c
section
variable {B b o : Nat} {w w' : World} {x : Wd} {vm vs vn vg : Value} {Fm Fs Fn Fg : List Nat}
theorem Run.blk (h : Run B w b o x vm vs vn vg Fm Fs Fn Fg) : b < w.heap.size := by
 have := World.block_lt_of_cell? w _ h.c0; exact this
theorem Run.lt (h : Run B w b o x vm vs vn vg Fm Fs Fn Fg) : ∀ c ∈ b :: (Fm ++ (Fs ++ (Fn ++ Fg))), c < w.heap.size := by
 intro c hc
 simp only [List.mem_cons, List.mem_append] at hc
 rcases hc with rfl | hc | hc | hc | hc
 ·exact h.blk
 ·exact dU.lt h.em c hc
 ·exact bT.lt h.es c hc
 ·exact dV.lt h.en c hc
 ·exact bT.lt h.eg c hc
theorem Run.nb (h : Run B w b o x vm vs vn vg Fm Fs Fn Fg) : b ∉ Fm ∧ b ∉ Fs ∧ b ∉ Fn ∧ b ∉ Fg := by
 have := (List.nodup_cons.1 h.nd).1
 simp only [List.mem_append, not_or] at this
 exact this
theorem Run.keep (h : Run B w b o x vm vs vn vg Fm Fs Fn Fg) (hk : ∀ c ∈ b :: (Fm ++ (Fs ++ (Fn ++ Fg))), w'.heap[c]? = w.heap[c]?) : Run B w' b o x vm vs vn vg Fm Fs Fn Fg := by
 have hb := hk b List.mem_cons_self
 have cc : ∀ j, w'.cell? ⟨b, j, none⟩ = w.cell? ⟨b, j, none⟩ := fun j => World.cell?_of_block (w := w) hb
 have cf : ∀ j, w'.frozen? ⟨b, j, none⟩ = w.frozen? ⟨b, j, none⟩ := fun j => World.frozen?_of_block (w := w) hb
 exact ⟨(cc _).trans h.c0, (cc _).trans h.c1, (cc _).trans h.c2, (cc _).trans h.c3, (cc _).trans h.c4, (cc _).trans h.c5, fun j => (cf j).trans (h.fz j),
  dU.keep h.em (fun c hc => hk c (by simp [hc])), bT.keep h.es (fun c hc => hk c (by simp [hc])), dV.keep h.en (fun c hc => hk c (by simp [hc])), bT.keep h.eg (fun c hc => hk c (by simp [hc])), h.nd, h.lo⟩
theorem Run.go (h : Run B w b o x vm vs vn vg Fm Fs Fn Fg) (hb : Below w.heap.size w w') : Run B w' b o x vm vs vn vg Fm Fs Fn Fg := h.keep (fun c hc => hb.block c (h.lt c hc))
theorem an (w : World) (b i j : Nat) (u : Value) (h : i ≠ j) : (w.setCell ⟨b, i, none⟩ u).cell? ⟨b, j, none⟩ = w.cell? ⟨b, j, none⟩ := World.cell?_setCell_other _ _ _ _ (fun e => h (by injection e))
theorem cG (w : World) (p q : Addr) (u : Value) : (w.setCell p u).frozen? q = w.frozen? q := by simp
theorem Run.made (h : Run B w b o x vm vs vn vg Fm Fs Fn Fg) (n : Int) : Run B (w.setCell ⟨b, o + 4, none⟩ (.int .i64 n)) b o ⟨x.mixes, x.sent, x.net, x.got, n, x.lost⟩ vm vs vn vg Fm Fs Fn Fg := by
 obtain ⟨n1, n2, n3, n4⟩ := h.nb
 refine ⟨?_, ?_, ?_, ?_, World.cell?_setCell_same w _ _ h.c4, ?_, fun j => (cG _ _ _ _).trans (h.fz j), dU.keep h.em ?_, bT.keep h.es ?_, dV.keep h.en ?_, bT.keep h.eg ?_, h.nd, h.lo⟩
 ·rw [an _ _ _ _ _ (by omega)]; exact h.c0
 ·rw [an _ _ _ _ _ (by omega)]; exact h.c1
 ·rw [an _ _ _ _ _ (by omega)]; exact h.c2
 ·rw [an _ _ _ _ _ (by omega)]; exact h.c3
 ·rw [an _ _ _ _ _ (by omega)]; exact h.c5
 ·exact fun c hc => Below.heap_setCell _ _ _ _ (fun e => n1 ((show c = b from e) ▸ hc))
 ·exact fun c hc => Below.heap_setCell _ _ _ _ (fun e => n2 ((show c = b from e) ▸ hc))
 ·exact fun c hc => Below.heap_setCell _ _ _ _ (fun e => n3 ((show c = b from e) ▸ hc))
 ·exact fun c hc => Below.heap_setCell _ _ _ _ (fun e => n4 ((show c = b from e) ▸ hc))
theorem Run.lost (h : Run B w b o x vm vs vn vg Fm Fs Fn Fg) (n : Int) : Run B (w.setCell ⟨b, o + 5, none⟩ (.int .i64 n)) b o ⟨x.mixes, x.sent, x.net, x.got, x.made, n⟩ vm vs vn vg Fm Fs Fn Fg := by
 obtain ⟨n1, n2, n3, n4⟩ := h.nb
 refine ⟨?_, ?_, ?_, ?_, ?_, World.cell?_setCell_same w _ _ h.c5, fun j => (cG _ _ _ _).trans (h.fz j), dU.keep h.em ?_, bT.keep h.es ?_, dV.keep h.en ?_, bT.keep h.eg ?_, h.nd, h.lo⟩
 ·rw [an _ _ _ _ _ (by omega)]; exact h.c0
 ·rw [an _ _ _ _ _ (by omega)]; exact h.c1
 ·rw [an _ _ _ _ _ (by omega)]; exact h.c2
 ·rw [an _ _ _ _ _ (by omega)]; exact h.c3
 ·rw [an _ _ _ _ _ (by omega)]; exact h.c4
 ·exact fun c hc => Below.heap_setCell _ _ _ _ (fun e => n1 ((show c = b from e) ▸ hc))
 ·exact fun c hc => Below.heap_setCell _ _ _ _ (fun e => n2 ((show c = b from e) ▸ hc))
 ·exact fun c hc => Below.heap_setCell _ _ _ _ (fun e => n3 ((show c = b from e) ▸ hc))
 ·exact fun c hc => Below.heap_setCell _ _ _ _ (fun e => n4 ((show c = b from e) ▸ hc))
end
theorem Run.sep {B b o : Nat} {w : World} {x : Wd} {vm vs vn vg : Value} {Fm Fs Fn Fg : List Nat} (h : Run B w b o x vm vs vn vg Fm Fs Fn Fg) : (∀ c ∈ Fm, c ∉ Fs ∧ c ∉ Fn ∧ c ∉ Fg) ∧ (∀ c ∈ Fs, c ∉ Fn ∧ c ∉ Fg) ∧ (∀ c ∈ Fn, c ∉ Fg) := by
 have h1 := (List.nodup_cons.1 h.nd).2
 obtain ⟨_, h2, d1⟩ := List.nodup_append.1 h1
 obtain ⟨_, h3, d2⟩ := List.nodup_append.1 h2
 obtain ⟨_, _, d3⟩ := List.nodup_append.1 h3
 refine ⟨fun c hc => ⟨fun e => d1 c hc c (by simp [e]) rfl, fun e => d1 c hc c (by simp [e]) rfl, fun e => d1 c hc c (by simp [e]) rfl⟩, fun c hc => ⟨fun e => d2 c hc c (by simp [e]) rfl, fun e => d2 c hc c (by simp [e]) rfl⟩, fun c hc e => d3 c hc c e rfl⟩
theorem Run.mixes' {B b o : Nat} {w w' : World} {x : Wd} {vm vs vn vg : Value} {Fm Fs Fn Fg : List Nat} (h : Run B w b o x vm vs vn vg Fm Fs Fn Fg) (ht : Tch Fm w w') {v' : Value} {ys : List Mx} {F' : List Nat} (he : dU.E w' [v'] ys F') (hn : F'.Nodup)
  (hs : ∀ c ∈ F', c ∈ Fm ∨ c ∉ b :: (Fm ++ (Fs ++ (Fn ++ Fg)))) (hB : ∀ c ∈ F', B ≤ c) : Run B (w'.setCell ⟨b, o, none⟩ v') b o ⟨ys, x.sent, x.net, x.got, x.made, x.lost⟩ v' vs vn vg F' Fs Fn Fg := by
 obtain ⟨n1, n2, n3, n4⟩ := h.nb
 obtain ⟨s1, s2, s3⟩ := h.sep
 have hlt := h.lt
 have hnd : (b :: (F' ++ (Fs ++ (Fn ++ Fg)))).Nodup := by
  have := cw (A := [b]) (F := Fm) (F' := F') (C := (Fs ++ Fn ++ Fg)) (by simpa using h.nd) hn (by simpa using hs)
  simpa using this
 have hb' := (List.nodup_cons.1 hnd).1
 simp only [List.mem_append, not_or] at hb'
 obtain ⟨m1, m2, m3, m4⟩ := hb'
 have hbb := ht.block b h.blk n1
 have cc : ∀ j, w'.cell? ⟨b, j, none⟩ = w.cell? ⟨b, j, none⟩ := fun j => World.cell?_of_block (w := w) hbb
 have cf : ∀ j, w'.frozen? ⟨b, j, none⟩ = w.frozen? ⟨b, j, none⟩ := fun j => World.frozen?_of_block (w := w) hbb
 have kp : ∀ c ∈ b :: (Fm ++ (Fs ++ (Fn ++ Fg))), c ≠ b → c ∉ Fm → (w'.setCell ⟨b, o, none⟩ v').heap[c]? = w.heap[c]? := fun c hc h1 h2 => (Below.heap_setCell _ _ _ _ h1).trans (ht.block c (hlt c hc) h2)
 refine ⟨World.cell?_setCell_same w' _ _ ((cc _).trans h.c0), (an _ _ _ _ _ (by omega)).trans ((cc _).trans h.c1), (an _ _ _ _ _ (by omega)).trans ((cc _).trans h.c2), (an _ _ _ _ _ (by omega)).trans ((cc _).trans h.c3), (an _ _ _ _ _ (by omega)).trans ((cc _).trans h.c4), (an _ _ _ _ _ (by omega)).trans ((cc _).trans h.c5), fun j => (cG _ _ _ _).trans ((cf j).trans (h.fz j)), dU.keep he (fun c hc => Below.heap_setCell _ _ _ _ (fun e => m1 ((show c = b from e) ▸ hc))), bT.keep h.es (fun c hc => kp c (by simp [hc]) (fun e => n2 ((show c = b from e) ▸ hc)) (fun e => (s1 c e).1 hc)), dV.keep h.en (fun c hc => kp c (by simp [hc]) (fun e => n3 ((show c = b from e) ▸ hc)) (fun e => (s1 c e).2.1 hc)), bT.keep h.eg (fun c hc => kp c (by simp [hc]) (fun e => n4 ((show c = b from e) ▸ hc)) (fun e => (s1 c e).2.2 hc)), hnd, fun c hc => ?_⟩
 simp only [List.mem_cons, List.mem_append] at hc
 rcases hc with rfl | hc | hc | hc | hc
 ·exact h.lo _ List.mem_cons_self
 ·exact hB c hc
 ·exact h.lo c (by simp [hc])
 ·exact h.lo c (by simp [hc])
 ·exact h.lo c (by simp [hc])
theorem Run.sent' {B b o : Nat} {w w' : World} {x : Wd} {vm vs vn vg : Value} {Fm Fs Fn Fg : List Nat} (h : Run B w b o x vm vs vn vg Fm Fs Fn Fg) (ht : Tch Fs w w') {v' : Value} {ys : List Lt} {F' : List Nat} (he : bT.E w' [v'] ys F') (hn : F'.Nodup)
  (hs : ∀ c ∈ F', c ∈ Fs ∨ c ∉ b :: (Fm ++ (Fs ++ (Fn ++ Fg)))) (hB : ∀ c ∈ F', B ≤ c) : Run B (w'.setCell ⟨b, o + 1, none⟩ v') b o ⟨x.mixes, ys, x.net, x.got, x.made, x.lost⟩ vm v' vn vg Fm F' Fn Fg := by
 obtain ⟨n1, n2, n3, n4⟩ := h.nb
 obtain ⟨s1, s2, s3⟩ := h.sep
 have hlt := h.lt
 have hnd : (b :: (Fm ++ (F' ++ (Fn ++ Fg)))).Nodup := by
  have := cw (A := (b :: (Fm))) (F := Fs) (F' := F') (C := (Fn ++ Fg)) (by simpa using h.nd) hn (by simpa using hs)
  simpa using this
 have hb' := (List.nodup_cons.1 hnd).1
 simp only [List.mem_append, not_or] at hb'
 obtain ⟨m1, m2, m3, m4⟩ := hb'
 have hbb := ht.block b h.blk n2
 have cc : ∀ j, w'.cell? ⟨b, j, none⟩ = w.cell? ⟨b, j, none⟩ := fun j => World.cell?_of_block (w := w) hbb
 have cf : ∀ j, w'.frozen? ⟨b, j, none⟩ = w.frozen? ⟨b, j, none⟩ := fun j => World.frozen?_of_block (w := w) hbb
 have kp : ∀ c ∈ b :: (Fm ++ (Fs ++ (Fn ++ Fg))), c ≠ b → c ∉ Fs → (w'.setCell ⟨b, o + 1, none⟩ v').heap[c]? = w.heap[c]? := fun c hc h1 h2 => (Below.heap_setCell _ _ _ _ h1).trans (ht.block c (hlt c hc) h2)
 refine ⟨(an _ _ _ _ _ (by omega)).trans ((cc _).trans h.c0), World.cell?_setCell_same w' _ _ ((cc _).trans h.c1), (an _ _ _ _ _ (by omega)).trans ((cc _).trans h.c2), (an _ _ _ _ _ (by omega)).trans ((cc _).trans h.c3), (an _ _ _ _ _ (by omega)).trans ((cc _).trans h.c4), (an _ _ _ _ _ (by omega)).trans ((cc _).trans h.c5), fun j => (cG _ _ _ _).trans ((cf j).trans (h.fz j)), dU.keep h.em (fun c hc => kp c (by simp [hc]) (fun e => n1 ((show c = b from e) ▸ hc)) ((s1 c hc).1)), bT.keep he (fun c hc => Below.heap_setCell _ _ _ _ (fun e => m2 ((show c = b from e) ▸ hc))), dV.keep h.en (fun c hc => kp c (by simp [hc]) (fun e => n3 ((show c = b from e) ▸ hc)) (fun e => (s2 c e).1 hc)), bT.keep h.eg (fun c hc => kp c (by simp [hc]) (fun e => n4 ((show c = b from e) ▸ hc)) (fun e => (s2 c e).2 hc)), hnd, fun c hc => ?_⟩
 simp only [List.mem_cons, List.mem_append] at hc
 rcases hc with rfl | hc | hc | hc | hc
 ·exact h.lo _ List.mem_cons_self
 ·exact h.lo c (by simp [hc])
 ·exact hB c hc
 ·exact h.lo c (by simp [hc])
 ·exact h.lo c (by simp [hc])
theorem Run.net' {B b o : Nat} {w w' : World} {x : Wd} {vm vs vn vg : Value} {Fm Fs Fn Fg : List Nat} (h : Run B w b o x vm vs vn vg Fm Fs Fn Fg) (ht : Tch Fn w w') {v' : Value} {ys : List Tr} {F' : List Nat} (he : dV.E w' [v'] ys F') (hn : F'.Nodup)
  (hs : ∀ c ∈ F', c ∈ Fn ∨ c ∉ b :: (Fm ++ (Fs ++ (Fn ++ Fg)))) (hB : ∀ c ∈ F', B ≤ c) : Run B (w'.setCell ⟨b, o + 2, none⟩ v') b o ⟨x.mixes, x.sent, ys, x.got, x.made, x.lost⟩ vm vs v' vg Fm Fs F' Fg := by
 obtain ⟨n1, n2, n3, n4⟩ := h.nb
 obtain ⟨s1, s2, s3⟩ := h.sep
 have hlt := h.lt
 have hnd : (b :: (Fm ++ (Fs ++ (F' ++ Fg)))).Nodup := by
  have := cw (A := (b :: (Fm ++ Fs))) (F := Fn) (F' := F') (C := (Fg)) (by simpa using h.nd) hn (by simpa using hs)
  simpa using this
 have hb' := (List.nodup_cons.1 hnd).1
 simp only [List.mem_append, not_or] at hb'
 obtain ⟨m1, m2, m3, m4⟩ := hb'
 have hbb := ht.block b h.blk n3
 have cc : ∀ j, w'.cell? ⟨b, j, none⟩ = w.cell? ⟨b, j, none⟩ := fun j => World.cell?_of_block (w := w) hbb
 have cf : ∀ j, w'.frozen? ⟨b, j, none⟩ = w.frozen? ⟨b, j, none⟩ := fun j => World.frozen?_of_block (w := w) hbb
 have kp : ∀ c ∈ b :: (Fm ++ (Fs ++ (Fn ++ Fg))), c ≠ b → c ∉ Fn → (w'.setCell ⟨b, o + 2, none⟩ v').heap[c]? = w.heap[c]? := fun c hc h1 h2 => (Below.heap_setCell _ _ _ _ h1).trans (ht.block c (hlt c hc) h2)
 refine ⟨(an _ _ _ _ _ (by omega)).trans ((cc _).trans h.c0), (an _ _ _ _ _ (by omega)).trans ((cc _).trans h.c1), World.cell?_setCell_same w' _ _ ((cc _).trans h.c2), (an _ _ _ _ _ (by omega)).trans ((cc _).trans h.c3), (an _ _ _ _ _ (by omega)).trans ((cc _).trans h.c4), (an _ _ _ _ _ (by omega)).trans ((cc _).trans h.c5), fun j => (cG _ _ _ _).trans ((cf j).trans (h.fz j)), dU.keep h.em (fun c hc => kp c (by simp [hc]) (fun e => n1 ((show c = b from e) ▸ hc)) ((s1 c hc).2.1)), bT.keep h.es (fun c hc => kp c (by simp [hc]) (fun e => n2 ((show c = b from e) ▸ hc)) ((s2 c hc).1)), dV.keep he (fun c hc => Below.heap_setCell _ _ _ _ (fun e => m3 ((show c = b from e) ▸ hc))), bT.keep h.eg (fun c hc => kp c (by simp [hc]) (fun e => n4 ((show c = b from e) ▸ hc)) (fun e => s3 c e hc)), hnd, fun c hc => ?_⟩
 simp only [List.mem_cons, List.mem_append] at hc
 rcases hc with rfl | hc | hc | hc | hc
 ·exact h.lo _ List.mem_cons_self
 ·exact h.lo c (by simp [hc])
 ·exact h.lo c (by simp [hc])
 ·exact hB c hc
 ·exact h.lo c (by simp [hc])
theorem Run.got' {B b o : Nat} {w w' : World} {x : Wd} {vm vs vn vg : Value} {Fm Fs Fn Fg : List Nat} (h : Run B w b o x vm vs vn vg Fm Fs Fn Fg) (ht : Tch Fg w w') {v' : Value} {ys : List Lt} {F' : List Nat} (he : bT.E w' [v'] ys F') (hn : F'.Nodup)
  (hs : ∀ c ∈ F', c ∈ Fg ∨ c ∉ b :: (Fm ++ (Fs ++ (Fn ++ Fg)))) (hB : ∀ c ∈ F', B ≤ c) : Run B (w'.setCell ⟨b, o + 3, none⟩ v') b o ⟨x.mixes, x.sent, x.net, ys, x.made, x.lost⟩ vm vs vn v' Fm Fs Fn F' := by
 obtain ⟨n1, n2, n3, n4⟩ := h.nb
 obtain ⟨s1, s2, s3⟩ := h.sep
 have hlt := h.lt
 have hnd : (b :: (Fm ++ (Fs ++ (Fn ++ F')))).Nodup := by
  have := cw (A := (b :: (Fm ++ Fs ++ Fn))) (F := Fg) (F' := F') (C := []) (by simpa using h.nd) hn (by simpa using hs)
  simpa using this
 have hb' := (List.nodup_cons.1 hnd).1
 simp only [List.mem_append, not_or] at hb'
 obtain ⟨m1, m2, m3, m4⟩ := hb'
 have hbb := ht.block b h.blk n4
 have cc : ∀ j, w'.cell? ⟨b, j, none⟩ = w.cell? ⟨b, j, none⟩ := fun j => World.cell?_of_block (w := w) hbb
 have cf : ∀ j, w'.frozen? ⟨b, j, none⟩ = w.frozen? ⟨b, j, none⟩ := fun j => World.frozen?_of_block (w := w) hbb
 have kp : ∀ c ∈ b :: (Fm ++ (Fs ++ (Fn ++ Fg))), c ≠ b → c ∉ Fg → (w'.setCell ⟨b, o + 3, none⟩ v').heap[c]? = w.heap[c]? := fun c hc h1 h2 => (Below.heap_setCell _ _ _ _ h1).trans (ht.block c (hlt c hc) h2)
 refine ⟨(an _ _ _ _ _ (by omega)).trans ((cc _).trans h.c0), (an _ _ _ _ _ (by omega)).trans ((cc _).trans h.c1), (an _ _ _ _ _ (by omega)).trans ((cc _).trans h.c2), World.cell?_setCell_same w' _ _ ((cc _).trans h.c3), (an _ _ _ _ _ (by omega)).trans ((cc _).trans h.c4), (an _ _ _ _ _ (by omega)).trans ((cc _).trans h.c5), fun j => (cG _ _ _ _).trans ((cf j).trans (h.fz j)), dU.keep h.em (fun c hc => kp c (by simp [hc]) (fun e => n1 ((show c = b from e) ▸ hc)) ((s1 c hc).2.2)), bT.keep h.es (fun c hc => kp c (by simp [hc]) (fun e => n2 ((show c = b from e) ▸ hc)) ((s2 c hc).2)), dV.keep h.en (fun c hc => kp c (by simp [hc]) (fun e => n3 ((show c = b from e) ▸ hc)) (s3 c hc)), bT.keep he (fun c hc => Below.heap_setCell _ _ _ _ (fun e => m4 ((show c = b from e) ▸ hc))), hnd, fun c hc => ?_⟩
 simp only [List.mem_cons, List.mem_append] at hc
 rcases hc with rfl | hc | hc | hc | hc
 ·exact h.lo _ List.mem_cons_self
 ·exact h.lo c (by simp [hc])
 ·exact h.lo c (by simp [hc])
 ·exact h.lo c (by simp [hc])
 ·exact hB c hc
theorem dK {B : Nat} {w : World} {a us up : Value} {m : Mx} (h : aC oMx B w [a, us, up] m) : ∃ G, Own af 3 B w us m.seen [] ∧ Own oPl 144 B w up m.pool G ∧ (us.ownBlock.toList ++ (up.ownBlock.toList ++ G)).Nodup ∧ ∀ b ∈ us.ownBlock.toList ++ (up.ownBlock.toList ++ G), B ≤ b := by
 obtain ⟨F, ⟨c1, c2, F1, F2, e1, e2, ⟨rfl, rfl⟩, c3, c4, F3, F4, e3, e4, ⟨u, Gu, rfl, hu, rfl⟩, ⟨v, G, rfl, hv, rfl⟩⟩, n1, n2⟩ := h
 subst e3 e4
 simp at e1 e2
 obtain ⟨_, rfl, rfl⟩ := e1
 obtain rfl := am ai hu
 subst e2
 simp only [List.append_nil, List.append_assoc, List.nil_append] at n1 n2 ⊢
 exact ⟨G, hu.base' (fun b hb => n2 b (by simp [hb])), hv.base' (fun b hb => n2 b (by simp [hb])), n1, n2⟩
theorem jr {B : Nat} {w : World} {us up : Value} {m : Mx} {G : List Nat} (hu : Own af 3 B w us m.seen []) (hv : Own oPl 144 B w up m.pool G) (n1 : (us.ownBlock.toList ++ (up.ownBlock.toList ++ G)).Nodup) (n2 : ∀ b ∈ us.ownBlock.toList ++ (up.ownBlock.toList ++ G), B ≤ b) : aC oMx B w [.int .i64 m.sec, us, up] m :=
 ⟨us.ownBlock.toList ++ (up.ownBlock.toList ++ G), ⟨[_], _, [], _, rfl, rfl, ⟨rfl, rfl⟩, [us], [up], us.ownBlock.toList, up.ownBlock.toList ++ G, rfl, rfl, ⟨us, [], rfl, hu.base (Nat.zero_le _), by simp⟩, ⟨up, G, rfl, hv.base (Nat.zero_le _), rfl⟩⟩, n1, n2⟩
theorem aA {v : Value} {b : Nat} : b ∈ v.ownBlock.toList ↔ v.ownBlock = some b := by cases v.ownBlock <;> simp [eq_comm]
theorem bQ (v : Value) : v.ownBlock.toList.Nodup := by cases v.ownBlock <;> simp
structure TkS (P : Nat → Prop) (w : World) (us up : Value) (cy : List Value) (seen : List Int) (pool : List Pl) (y : Pl) (G F : List Nat) : Prop where
 hu : Own af 3 0 w us seen []
 hp : Own oPl 144 0 w up pool G
 hy : oPl.E w cy y F
 nd : (us.ownBlock.toList ++ (up.ownBlock.toList ++ (G ++ F))).Nodup
 hP : ∀ b ∈ us.ownBlock.toList ++ (up.ownBlock.toList ++ (G ++ F)), P b
section
variable {P : Nat → Prop} {w w' w1 : World} {us up v' : Value} {cy : List Value} {seen : List Int} {pool : List Pl} {y : Pl} {G F : List Nat}
theorem TkS.of {B C : Nat} {a : Value} {m : Mx} (h : aC oMx B w [a, us, up] m) (hb : Below w.heap.size w w') (hy : aC oPl C w' cy y) (hC : w.heap.size ≤ C) (hP : ∀ b, B ≤ b → b < w.heap.size → P b) (hP' : ∀ b, C ≤ b → b < w'.heap.size → P b) :
  ∃ G F, TkS P w' us up cy m.seen m.pool y G F := by
 obtain ⟨G, hu, hp, n1, n2⟩ := dK h
 obtain ⟨F, f1, f2, f3⟩ := hy
 have hlt : ∀ b ∈ us.ownBlock.toList ++ (up.ownBlock.toList ++ G), b < w.heap.size := by
  intro b hb'
  rcases List.mem_append.1 hb' with hb' | hb'
  ·exact (hu.top b (aA.1 hb')).2
  ·rcases List.mem_append.1 hb' with hb' | hb'
   ·exact (hp.top b (aA.1 hb')).2
   ·exact hp.lt b hb'
 have e : us.ownBlock.toList ++ (up.ownBlock.toList ++ (G ++ F)) = (us.ownBlock.toList ++ (up.ownBlock.toList ++ G)) ++ F := by simp
 refine ⟨G, F, (hu.go hb).base (Nat.zero_le _), (hp.go hb).base (Nat.zero_le _), f1, ?_, ?_⟩
 ·rw [e, List.nodup_append]
  exact ⟨n1, f2, fun a ha b hb' e => by have := hlt a ha; have := f3 b hb'; omega⟩
 ·intro b hb'
  rw [e] at hb'
  rcases List.mem_append.1 hb' with hb' | hb'
  ·exact hP b (n2 b hb') (hlt b hb')
  ·exact hP' b (f3 b hb') (oPl.lt f1 b hb')
theorem TkS.lt (h : TkS P w us up cy seen pool y G F) : ∀ b ∈ us.ownBlock.toList ++ (up.ownBlock.toList ++ (G ++ F)), b < w.heap.size := by
 intro b hb
 rcases List.mem_append.1 hb with hb | hb
 ·exact (h.hu.top b (aA.1 hb)).2
 ·rcases List.mem_append.1 hb with hb | hb
  ·exact (h.hp.top b (aA.1 hb)).2
  ·rcases List.mem_append.1 hb with hb | hb
   ·exact h.hp.lt b hb
   ·exact oPl.lt h.hy b hb
theorem TkS.keep (h : TkS P w us up cy seen pool y G F) (hk : ∀ b, b < w.heap.size → P b → w'.heap[b]? = w.heap[b]?) : TkS P w' us up cy seen pool y G F := by
 have k : ∀ b ∈ us.ownBlock.toList ++ (up.ownBlock.toList ++ (G ++ F)), w'.heap[b]? = w.heap[b]? := fun b hb => hk b (h.lt b hb) (h.hP b hb)
 exact ⟨h.hu.keep (fun b hb => k b (by simp [hb])) (fun _ h => by cases h), h.hp.keep (fun b hb => k b (by simp [hb])) (fun b hb => k b (by simp [hb])), oPl.keep h.hy (fun b hb => k b (by simp [hb])), h.nd, h.hP⟩
theorem TkS.go (h : TkS P w us up cy seen pool y G F) (hb : Below w.heap.size w w') : TkS P w' us up cy seen pool y G F := h.keep (fun b hl _ => hb.block b hl)
theorem TkS.set {p : Addr} {u : Value} (h : TkS P w us up cy seen pool y G F) (hp : ¬ P p.block) : TkS P (w.setCell p u) us up cy seen pool y G F := h.keep (fun b _ hb => Below.heap_setCell _ _ _ _ (fun e => hp (e ▸ hb)))
theorem TkS.seen' (h : TkS P w us up cy seen pool y G F) {s : Int} (ho : Own af 3 0 w' v' (seen ++ [s]) []) (hg : w.grownBy w' us.ownBlock) (hv : v'.ownBlock = us.ownBlock ∨ v'.ownBlock = some w.heap.size) (hn : P w.heap.size) :
  TkS P w' v' up cy (seen ++ [s]) pool y G F := by
 have dis := (List.nodup_append.1 h.nd).2.2
 have hk : ∀ b, b ∈ up.ownBlock.toList ++ (G ++ F) → w'.heap[b]? = w.heap[b]? := fun b hm =>
  hg.block b (h.lt b (List.mem_append_right _ hm)) (fun e => dis b (aA.2 e.symm) b hm rfl)
 refine ⟨ho, h.hp.keep (fun b hb => hk b (by simp [hb])) (fun b hb => hk b (by simp [hb])), oPl.keep h.hy (fun b hb => hk b (by simp [hb])), ?_, ?_⟩
 ·have := cw (A := []) (F := us.ownBlock.toList) (F' := v'.ownBlock.toList) (C := up.ownBlock.toList ++ (G ++ F)) (by simpa using h.nd) (bQ _) (fun b hb' => by
   rcases hv with e | e
   ·rw [e] at hb'; exact .inl hb'
   ·rw [e] at hb'; simp at hb'; subst hb'
    exact .inr (fun hm => by have := h.lt _ (by simpa using hm); omega))
  simpa using this
 ·intro b hb'
  rcases List.mem_append.1 hb' with hb' | hb'
  ·rcases hv with e | e
   ·exact h.hP b (List.mem_append_left _ (by rw [← e]; exact hb'))
   ·rw [e] at hb'; simp at hb'; subst hb'; exact hn
  ·exact h.hP b (List.mem_append_right _ hb')
theorem TkS.pool' (h : TkS P w us up cy seen pool y G F) (ho : Own oPl 144 0 w' v' (pool ++ [y]) (G ++ F)) (hg : w.grownBy w' up.ownBlock) (hv : v'.ownBlock = up.ownBlock ∨ v'.ownBlock = some w.heap.size) (hn : P w.heap.size) (s : Int) :
  ∃ K, oMx.E w' [.int .i64 s, us, v'] ⟨s, seen, pool ++ [y]⟩ K ∧ K.Nodup ∧ ∀ b ∈ K, P b := by
 have dis := (List.nodup_append.1 h.nd).2.2
 refine ⟨us.ownBlock.toList ++ (v'.ownBlock.toList ++ (G ++ F)), ⟨[_], _, [], _, rfl, rfl, ⟨rfl, rfl⟩, [us], [v'], us.ownBlock.toList, v'.ownBlock.toList ++ (G ++ F), rfl, rfl, ⟨us, [], rfl, ?_, by simp⟩, ⟨v', G ++ F, rfl, ho, rfl⟩⟩, ?_, ?_⟩
 ·exact h.hu.keep (fun b hb' => hg.block b (h.hu.top b hb').2 (fun e => dis b (aA.2 hb') b (by simp [← e]) rfl)) (fun _ h => by cases h)
 ·exact cw (A := us.ownBlock.toList) (F := up.ownBlock.toList) (F' := v'.ownBlock.toList) (C := G ++ F) h.nd (bQ _) (fun b hb' => by
   rcases hv with e | e
   ·rw [e] at hb'; exact .inl hb'
   ·rw [e] at hb'; simp at hb'; subst hb'
    exact .inr (fun hm => by have := h.lt _ hm; omega))
 ·intro b hb'
  rcases List.mem_append.1 hb' with hb' | hb'
  ·exact h.hP b (by simp [aA.1 hb'])
  ·rcases List.mem_append.1 hb' with hb' | hb'
   ·rcases hv with e | e
    ·exact h.hP b (List.mem_append_right _ (List.mem_append_left _ (by rw [← e]; exact hb')))
    ·rw [e] at hb'; simp at hb'; subst hb'; exact hn
   ·exact h.hP b (List.mem_append_right _ (List.mem_append_right _ hb'))
theorem TkS.src (h : TkS P w us up cy seen pool y G F) (e n : Nat) (hn : n = w.heap.size) : Own oPl 144 0 (w.alloc (.cells cy.toArray e)) up pool G ∧ Sl oPl (w.alloc (.cells cy.toArray e)) (.slice (some ⟨n, 0, none⟩) 1 1) [y] (n :: F) ∧ ∀ b, up.ownBlock = some b → b ∉ F := by
 subst hn
 refine ⟨h.hp.go (ab w _), Sl.box (f := (0, 0)) h.hy, fun b hb hm => ?_⟩
 have := (List.nodup_append.1 (List.nodup_append.1 h.nd).2.1).2.2
 exact this b (aA.2 hb) b (List.mem_append_right _ hm) rfl
theorem TkS.off (h : TkS P w us up cy seen pool y G F) {n : Nat} (hn : ¬ P n) : us.ownBlock ≠ some n ∧ up.ownBlock ≠ some n :=
 ⟨fun e => hn (h.hP n (by simp [e])), fun e => hn (h.hP n (by simp [e]))⟩
end
theorem bc {α : Type} {T : Ty α} {P : Nat → Prop} {w : World} {cs : List Value} {x : α} {p : Addr} {u : Value} (h : ∃ K, T.E w cs x K ∧ K.Nodup ∧ ∀ b ∈ K, P b) (hp : ¬ P p.block) : ∃ K, T.E (w.setCell p u) cs x K ∧ K.Nodup ∧ ∀ b ∈ K, P b := by
 obtain ⟨K, h1, h2, h3⟩ := h
 exact ⟨K, T.keep h1 (fun b hb => Below.heap_setCell _ _ _ _ (fun e => hp (e ▸ h3 b hb))), h2, h3⟩
theorem kJ {w : World} {B : Nat} (x : Int) (n : Nat) (hn : n = w.heap.size) (h : B ≤ n) : Own af 3 B (w.alloc (.cells #[.int .i64 x] 3)) (.slice (some ⟨n, 0, none⟩) 1 1) [x] [] := by
 subst hn; exact jd x h
def dX (w : World) (r : Mx × Int) (e : Ending) (w' : World) : Prop :=
 ∃ us up, e = .returned (.tuple #[.agg #[.int .i64 r.1.sec, us, up], .int .i64 r.2]) ∧ aC oMx w.heap.size w' [.int .i64 r.1.sec, us, up] r.1 ∧ Below w.heap.size w w'
theorem aC.mx {B : Nat} {w : World} {a us up : Value} {m : Mx} (h : aC oMx B w [a, us, up] m) : SlB af w.heap.size w us m.seen ∧ SlB tPl w.heap.size w up m.pool := by
 obtain ⟨G, hu, hp, _⟩ := dK h
 exact ⟨hu.slB, SlB.le ly hp.slB⟩
theorem pc {m : Mx} {p : Pk} (h : aW m.sec p = none) : bB m p = (m, 2) := by unfold bB; rw [h]
theorem qY {m : Mx} {p : Pk} {y : Pl} (h : aW m.sec p = some y) (hs : aq m.sec p.el ∈ m.seen) : bB m p = (m, 1) := by unfold bB; rw [h]; dsimp only; rw [if_pos hs]
theorem iI {m : Mx} {p : Pk} {y : Pl} (h : aW m.sec p = some y) (hs : aq m.sec p.el ∉ m.seen) (hf : 12 ≤ m.seen.length ∨ 5 ≤ m.pool.length) : bB m p = (m, 3) := by unfold bB; rw [h]; dsimp only; rw [if_neg hs, if_pos hf]
theorem pa {m : Mx} {p : Pk} {y : Pl} (h : aW m.sec p = some y) (hs : aq m.sec p.el ∉ m.seen) (hf : ¬ (12 ≤ m.seen.length ∨ 5 ≤ m.pool.length)) : bB m p = (⟨m.sec, m.seen ++ [aq m.sec p.el], m.pool ++ [y]⟩, 0) := by unfold bB; rw [h]; dsimp only; rw [if_neg hs, if_neg hf]
theorem eS (s : Int) (p : Pk) (y : Pl) (vh vb : Value) (w : World) (h1 : SlB af w.heap.size w vh p.hd) (h2 : SlB af w.heap.size w vb p.bd) (hs : win s 1 996 = true) (hp : pkB p = true) (hy : aW s p = some y) :
  Calls Tryz.prog 164 #[.int .i64 s, .agg #[.int .i64 p.el, vh, .int .i64 p.tag, vb]] w fun e w' => ∃ uh ub, e = .returned (.tuple #[.agg #[.int .i64 y.kind, .int .i64 y.next, .int .i64 y.pk.el, uh, .int .i64 y.pk.tag, ub], .bool true]) ∧ aC oPl w.heap.size w' [.int .i64 y.kind, .int .i64 y.next, .int .i64 y.pk.el, uh, .int .i64 y.pk.tag, ub] y ∧ Below w.heap.size w w' := by
 have := jb s p vh vb w h1 h2 hs hp
 rw [hy] at this
 exact this
theorem pK (s : Int) (p : Pk) (vh vb : Value) (w : World) (h1 : SlB af w.heap.size w vh p.hd) (h2 : SlB af w.heap.size w vb p.bd) (hs : win s 1 996 = true) (hp : pkB p = true) (hy : aW s p = none) :
  Calls Tryz.prog 164 #[.int .i64 s, .agg #[.int .i64 p.el, vh, .int .i64 p.tag, vb]] w fun e w' => ∃ A c A' c', e = .returned (.tuple #[.agg #[.int .i64 0, .int .i64 0, .int .i64 0, .slice A 0 c, .int .i64 0, .slice A' 0 c'], .bool false]) ∧ Below w.heap.size w w' := by
 have := jb s p vh vb w h1 h2 hs hp
 rw [hy] at this
 refine this.mono fun e w' ⟨uh, ub, he, hn, hb⟩ => ?_
 obtain ⟨A, c, A', c', rfl, rfl⟩ := cj hn
 exact ⟨A, c, A', c', he, hb⟩
theorem ej {α : Type} {T : Ty α} {w w' : World} {v : Value} {xs : List α} (h : SlB T w.heap.size w v xs) (hb : Below w.heap.size w w') : SlB T w'.heap.size w' v xs := h.go hb
theorem lm (m : Mx) (vs vp : Value) (p : Pk) (vh vb : Value) (w : World) (h1 : SlB af w.heap.size w vs m.seen) (h2 : SlB tPl w.heap.size w vp m.pool) (h3 : SlB af w.heap.size w vh p.hd) (h4 : SlB af w.heap.size w vb p.bd) (hm : mxB m = true) (hp : pkB p = true) (hr : aW m.sec p = none) :
  Calls Tryz.prog 121 #[.agg #[.int .i64 m.sec, vs, vp], .agg #[.int .i64 p.el, vh, .int .i64 p.tag, vb]] w (dX w (bB m p)) := by
 obtain ⟨m1, m2, m3, m4, m5⟩ := bh.1 hm
 have Hpool := hid (fun (x : Pl) (hx : x ∈ m.pool) => show x.pk.hd.length ≤ 1073741824 ∧ x.pk.bd.length ≤ 1073741824 by
  obtain ⟨_, _, hk⟩ := aV.1 (m5 x hx)
  obtain ⟨_, ⟨a, _⟩, ⟨b, _⟩, _⟩ := aD.1 hk
  omega)
 have p1 := (aD.1 hp).1
 have H1 := hid (fun (wx : World) (hb : Below w.heap.size w wx) => h1.go hb)
 have H2 := hid (fun (wx : World) (hb : Below w.heap.size w wx) => h2.go hb)
 have H3 := hid (fun (wx : World) (hb : Below w.heap.size w wx) => h3.go hb)
 have H4 := hid (fun (wx : World) (hb : Below w.heap.size w wx) => h4.go hb)
 obtain ⟨As, cs, rfl, _, _, _⟩ := h1.form
 obtain ⟨Ap, cp, rfl, _, _, _⟩ := h2.form
 obtain ⟨Ah, ch, rfl, _, _, _⟩ := h3.form
 obtain ⟨Ab, cb, rfl, _, _, _⟩ := h4.form
 have Hp := hid hp
 clear h1 h2 h3 h4 hm m4 m5 hp
 have hkw := bu m1 p1
 rw [pc hr]
 have Hr := hid hr
 clear hr
 go_enter Tryz.func121, Tryz.ntmps121
 go_wp2_with fail
 refine (dq m _ _ _ (H1.out _ (by repeat (first | exact ah | apply ae | refine bA ?_ (by omega) | refine Below.setCell ?_ (by first | omega | simp <;> omega) _))) (H2.out _ (by repeat (first | exact ah | apply ae | refine bA ?_ (by omega) | refine Below.setCell ?_ (by first | omega | simp <;> omega) _))) (by omega) (by omega) Hpool.out).mono ?_
 rintro e w1 ⟨us, up, rfl, n1, hb1⟩
 obtain ⟨A1, c1, A2, c2, rfl, rfl⟩ := aQ n1
 obtain ⟨b0, b1, b2⟩ := eJ hb1
 have hc1 : Below w.heap.size w w1 := bt (by repeat (first | exact ah | apply ae | refine bA ?_ (by omega) | refine Below.setCell ?_ (by first | omega | simp <;> omega) _)) hb1
 have s1 : w.heap.size + 1 + 1 < w1.heap.size := (aL b2)
 have s1a : w.heap.size < w1.heap.size := by omega
 have s1b : w.heap.size + 1 < w1.heap.size := by omega
 obtain ⟨k0, k1, k2, _⟩ := aE b0
 obtain ⟨l0, l1, l2, l3, _⟩ := aN b1
 simp only [World.size_alloc] at n1
 have N1 := hid n1; have Hc1 := hid hc1; have E0 := hid b0; have E1 := hid b1; have E2 := hid b2
 clear n1 hb1 hc1 b0 b1 b2
 go_wp2_with (go_at_call 155; refine (bW _ _ _ m1 p1).mono ?_; rintro e w' ⟨rfl, rfl⟩)
 refine (pK m.sec p _ _ _ (H3.out _ (bt Hc1.out (ab _ _))) (H4.out _ (bt Hc1.out (ab _ _))) m1 Hp.out Hr.out).mono ?_
 rintro e w2 ⟨A3, c3, A4, c4, rfl, hb2⟩
 have hb2' := bt (ab w1 _) hb2
 obtain ⟨k0, k1, k2, _⟩ := aE (ac hb2' E0.out)
 obtain ⟨q0, q1, q2, qf⟩ := aE (ac hb2' E2.out)
 obtain ⟨o0, o1, o2, of⟩ := aE (ac hb2 (heap_alloc_new w1 _))
 have qf0 := qf 0; have qf1 := qf 1; have qf2 := qf 2
 have of0 := of 0; have of1 := of 1; have of2 := of 2
 have s2 : w1.heap.size < w2.heap.size := (Array.getElem?_eq_some_iff.1 (ac hb2 (heap_alloc_new w1 _))).1
 have s2a : w.heap.size < w2.heap.size := by omega
 have s2b : w.heap.size + 1 + 1 < w2.heap.size := by omega
 have Hc2 := hid (bt Hc1.out hb2')
 have N2 := hid (N1.out.go hb2' (Nat.le_refl _))
 have S2 := hid (ej (H1.out _ Hc1.out) hb2')
 have Hq := hid hb2
 clear hb2 hb2' qf of l0 l1 l2 l3
 go_wp2
 refine bodyPost_ret (v := .tuple #[.agg #[.int .i64 m.sec, .slice A1 m.seen.length c1, .slice A2 m.pool.length c2], .int .i64 2]) (by simp [results, Tryz.results121, go_sem, q0, q1, q2, s2b]) rfl ⟨_, _, rfl, ?_, ?_⟩
 ·refine aC.base (B := w.heap.size + 1 + 1 + 1) ?_ (by omega)
  repeat (first | refine aC.set ?_ (by dsimp only; omega) | refine aC.go ?_ (ab _ _) (Nat.le_refl _))
  exact N2.out
 ·repeat (first | refine Below.setCell ?_ (by dsimp only; omega) _ | refine Below.alloc ?_ (by simp only [World.size_alloc, ao]; omega) _)
  exact Hc2.out
theorem me (m : Mx) (vs vp : Value) (p : Pk) (vh vb : Value) (w : World) (h1 : SlB af w.heap.size w vs m.seen) (h2 : SlB tPl w.heap.size w vp m.pool) (h3 : SlB af w.heap.size w vh p.hd) (h4 : SlB af w.heap.size w vb p.bd) (hm : mxB m = true) (hp : pkB p = true) (y : Pl) (hr : aW m.sec p = some y) (hin : aq m.sec p.el ∈ m.seen) :
  Calls Tryz.prog 121 #[.agg #[.int .i64 m.sec, vs, vp], .agg #[.int .i64 p.el, vh, .int .i64 p.tag, vb]] w (dX w (bB m p)) := by
 obtain ⟨m1, m2, m3, m4, m5⟩ := bh.1 hm
 have Hpool := hid (fun (x : Pl) (hx : x ∈ m.pool) => show x.pk.hd.length ≤ 1073741824 ∧ x.pk.bd.length ≤ 1073741824 by
  obtain ⟨_, _, hk⟩ := aV.1 (m5 x hx)
  obtain ⟨_, ⟨a, _⟩, ⟨b, _⟩, _⟩ := aD.1 hk
  omega)
 have p1 := (aD.1 hp).1
 have H1 := hid (fun (wx : World) (hb : Below w.heap.size w wx) => h1.go hb)
 have H2 := hid (fun (wx : World) (hb : Below w.heap.size w wx) => h2.go hb)
 have H3 := hid (fun (wx : World) (hb : Below w.heap.size w wx) => h3.go hb)
 have H4 := hid (fun (wx : World) (hb : Below w.heap.size w wx) => h4.go hb)
 obtain ⟨As, cs, rfl, _, _, _⟩ := h1.form
 obtain ⟨Ap, cp, rfl, _, _, _⟩ := h2.form
 obtain ⟨Ah, ch, rfl, _, _, _⟩ := h3.form
 obtain ⟨Ab, cb, rfl, _, _, _⟩ := h4.form
 have Hp := hid hp
 clear h1 h2 h3 h4 hm m4 m5 hp
 have hkw := bu m1 p1
 rw [qY hr hin]
 have Hr := hid hr
 have hdin : decide (aq m.sec p.el ∈ m.seen) = true := decide_eq_true hin
 clear hr hin
 go_enter Tryz.func121, Tryz.ntmps121
 go_wp2_with fail
 refine (dq m _ _ _ (H1.out _ (by repeat (first | exact ah | apply ae | refine bA ?_ (by omega) | refine Below.setCell ?_ (by first | omega | simp <;> omega) _))) (H2.out _ (by repeat (first | exact ah | apply ae | refine bA ?_ (by omega) | refine Below.setCell ?_ (by first | omega | simp <;> omega) _))) (by omega) (by omega) Hpool.out).mono ?_
 rintro e w1 ⟨us, up, rfl, n1, hb1⟩
 obtain ⟨A1, c1, A2, c2, rfl, rfl⟩ := aQ n1
 obtain ⟨b0, b1, b2⟩ := eJ hb1
 have hc1 : Below w.heap.size w w1 := bt (by repeat (first | exact ah | apply ae | refine bA ?_ (by omega) | refine Below.setCell ?_ (by first | omega | simp <;> omega) _)) hb1
 have s1 : w.heap.size + 1 + 1 < w1.heap.size := (aL b2)
 have s1a : w.heap.size < w1.heap.size := by omega
 have s1b : w.heap.size + 1 < w1.heap.size := by omega
 obtain ⟨k0, k1, k2, _⟩ := aE b0
 obtain ⟨l0, l1, l2, l3, _⟩ := aN b1
 simp only [World.size_alloc] at n1
 have N1 := hid n1; have Hc1 := hid hc1; have E0 := hid b0; have E1 := hid b1; have E2 := hid b2
 clear n1 hb1 hc1 b0 b1 b2
 go_wp2_with (go_at_call 155; refine (bW _ _ _ m1 p1).mono ?_; rintro e w' ⟨rfl, rfl⟩)
 refine (eS m.sec p y _ _ _ (H3.out _ (bt Hc1.out (ab _ _))) (H4.out _ (bt Hc1.out (ab _ _))) m1 Hp.out Hr.out).mono ?_
 rintro e w2 ⟨uh, ub, rfl, n2, hb2⟩
 obtain ⟨A3, c3, A4, c4, rfl, rfl⟩ := cj n2
 have hb2' := bt (ab w1 _) hb2
 obtain ⟨k0, k1, k2, _⟩ := aE (ac hb2' E0.out)
 obtain ⟨q0, q1, q2, qf⟩ := aE (ac hb2' E2.out)
 obtain ⟨o0, o1, o2, of⟩ := aE (ac hb2 (heap_alloc_new w1 _))
 have qf0 := qf 0; have qf1 := qf 1; have qf2 := qf 2
 have of0 := of 0; have of1 := of 1; have of2 := of 2
 have s2 : w1.heap.size < w2.heap.size := (Array.getElem?_eq_some_iff.1 (ac hb2 (heap_alloc_new w1 _))).1
 have s2a : w.heap.size < w2.heap.size := by omega
 have s2b : w.heap.size + 1 + 1 < w2.heap.size := by omega
 have Hc2 := hid (bt Hc1.out hb2')
 have N2 := hid (N1.out.go hb2' (Nat.le_refl _))
 have S2 := hid (ej (H1.out _ Hc1.out) hb2')
 have Hq := hid hb2
 clear hb2 hb2' qf of l0 l1 l2 l3 n2
 go_wp2_with (go_at_call 165; refine (gA _ m.seen _ _ (S2.out.go (ab _ _))).mono ?_; rw [hdin]; rintro e w' ⟨rfl, rfl⟩)
 refine bodyPost_ret (v := .tuple #[.agg #[.int .i64 m.sec, .slice A1 m.seen.length c1, .slice A2 m.pool.length c2], .int .i64 1]) (by simp [results, Tryz.results121, go_sem, q0, q1, q2, s2b]) rfl ⟨_, _, rfl, ?_, ?_⟩
 ·refine aC.base (B := w.heap.size + 1 + 1 + 1) ?_ (by omega)
  repeat (first | refine aC.set ?_ (by dsimp only; omega) | refine aC.go ?_ (ab _ _) (Nat.le_refl _))
  exact N2.out
 ·repeat (first | refine Below.setCell ?_ (by dsimp only; omega) _ | refine Below.alloc ?_ (by simp only [World.size_alloc, ao]; omega) _)
  exact Hc2.out
theorem jO (m : Mx) (vs vp : Value) (p : Pk) (vh vb : Value) (w : World) (h1 : SlB af w.heap.size w vs m.seen) (h2 : SlB tPl w.heap.size w vp m.pool) (h3 : SlB af w.heap.size w vh p.hd) (h4 : SlB af w.heap.size w vb p.bd) (hm : mxB m = true) (hp : pkB p = true) (y : Pl) (hr : aW m.sec p = some y) (hin : aq m.sec p.el ∉ m.seen) (hf : 12 ≤ m.seen.length) :
  Calls Tryz.prog 121 #[.agg #[.int .i64 m.sec, vs, vp], .agg #[.int .i64 p.el, vh, .int .i64 p.tag, vb]] w (dX w (bB m p)) := by
 obtain ⟨m1, m2, m3, m4, m5⟩ := bh.1 hm
 have Hpool := hid (fun (x : Pl) (hx : x ∈ m.pool) => show x.pk.hd.length ≤ 1073741824 ∧ x.pk.bd.length ≤ 1073741824 by
  obtain ⟨_, _, hk⟩ := aV.1 (m5 x hx)
  obtain ⟨_, ⟨a, _⟩, ⟨b, _⟩, _⟩ := aD.1 hk
  omega)
 have p1 := (aD.1 hp).1
 have H1 := hid (fun (wx : World) (hb : Below w.heap.size w wx) => h1.go hb)
 have H2 := hid (fun (wx : World) (hb : Below w.heap.size w wx) => h2.go hb)
 have H3 := hid (fun (wx : World) (hb : Below w.heap.size w wx) => h3.go hb)
 have H4 := hid (fun (wx : World) (hb : Below w.heap.size w wx) => h4.go hb)
 obtain ⟨As, cs, rfl, _, _, _⟩ := h1.form
 obtain ⟨Ap, cp, rfl, _, _, _⟩ := h2.form
 obtain ⟨Ah, ch, rfl, _, _, _⟩ := h3.form
 obtain ⟨Ab, cb, rfl, _, _, _⟩ := h4.form
 have Hp := hid hp
 clear h1 h2 h3 h4 hm m4 m5 hp
 have hkw := bu m1 p1
 rw [iI hr hin (by omega)]
 have Hr := hid hr
 have hdin : decide (aq m.sec p.el ∈ m.seen) = false := decide_eq_false hin
 have i1 : (12 : Int) ≤ (m.seen.length : Int) := by omega
 clear hr hin
 go_enter Tryz.func121, Tryz.ntmps121
 go_wp2_with fail
 refine (dq m _ _ _ (H1.out _ (by repeat (first | exact ah | apply ae | refine bA ?_ (by omega) | refine Below.setCell ?_ (by first | omega | simp <;> omega) _))) (H2.out _ (by repeat (first | exact ah | apply ae | refine bA ?_ (by omega) | refine Below.setCell ?_ (by first | omega | simp <;> omega) _))) (by omega) (by omega) Hpool.out).mono ?_
 rintro e w1 ⟨us, up, rfl, n1, hb1⟩
 obtain ⟨A1, c1, A2, c2, rfl, rfl⟩ := aQ n1
 obtain ⟨b0, b1, b2⟩ := eJ hb1
 have hc1 : Below w.heap.size w w1 := bt (by repeat (first | exact ah | apply ae | refine bA ?_ (by omega) | refine Below.setCell ?_ (by first | omega | simp <;> omega) _)) hb1
 have s1 : w.heap.size + 1 + 1 < w1.heap.size := (aL b2)
 have s1a : w.heap.size < w1.heap.size := by omega
 have s1b : w.heap.size + 1 < w1.heap.size := by omega
 obtain ⟨k0, k1, k2, _⟩ := aE b0
 obtain ⟨l0, l1, l2, l3, _⟩ := aN b1
 simp only [World.size_alloc] at n1
 have N1 := hid n1; have Hc1 := hid hc1; have E0 := hid b0; have E1 := hid b1; have E2 := hid b2
 clear n1 hb1 hc1 b0 b1 b2
 go_wp2_with (go_at_call 155; refine (bW _ _ _ m1 p1).mono ?_; rintro e w' ⟨rfl, rfl⟩)
 refine (eS m.sec p y _ _ _ (H3.out _ (bt Hc1.out (ab _ _))) (H4.out _ (bt Hc1.out (ab _ _))) m1 Hp.out Hr.out).mono ?_
 rintro e w2 ⟨uh, ub, rfl, n2, hb2⟩
 obtain ⟨A3, c3, A4, c4, rfl, rfl⟩ := cj n2
 have hb2' := bt (ab w1 _) hb2
 obtain ⟨k0, k1, k2, _⟩ := aE (ac hb2' E0.out)
 obtain ⟨q0, q1, q2, qf⟩ := aE (ac hb2' E2.out)
 obtain ⟨o0, o1, o2, of⟩ := aE (ac hb2 (heap_alloc_new w1 _))
 have qf0 := qf 0; have qf1 := qf 1; have qf2 := qf 2
 have of0 := of 0; have of1 := of 1; have of2 := of 2
 have s2 : w1.heap.size < w2.heap.size := (Array.getElem?_eq_some_iff.1 (ac hb2 (heap_alloc_new w1 _))).1
 have s2a : w.heap.size < w2.heap.size := by omega
 have s2b : w.heap.size + 1 + 1 < w2.heap.size := by omega
 have Hc2 := hid (bt Hc1.out hb2')
 have N2 := hid (N1.out.go hb2' (Nat.le_refl _))
 have S2 := hid (ej (H1.out _ Hc1.out) hb2')
 have Hq := hid hb2
 clear hb2 hb2' qf of l0 l1 l2 l3 n2
 go_wp2_with (go_at_call 165; refine (gA _ m.seen _ _ (S2.out.go (ab _ _))).mono ?_; rw [hdin]; rintro e w' ⟨rfl, rfl⟩)
 refine bodyPost_ret (v := .tuple #[.agg #[.int .i64 m.sec, .slice A1 m.seen.length c1, .slice A2 m.pool.length c2], .int .i64 3]) (by simp [results, Tryz.results121, go_sem, q0, q1, q2, s2b]) rfl ⟨_, _, rfl, ?_, ?_⟩
 ·refine aC.base (B := w.heap.size + 1 + 1 + 1) ?_ (by omega)
  repeat (first | refine aC.set ?_ (by dsimp only; omega) | refine aC.go ?_ (ab _ _) (Nat.le_refl _))
  exact N2.out
 ·repeat (first | refine Below.setCell ?_ (by dsimp only; omega) _ | refine Below.alloc ?_ (by simp only [World.size_alloc, ao]; omega) _)
  exact Hc2.out
theorem jP (m : Mx) (vs vp : Value) (p : Pk) (vh vb : Value) (w : World) (h1 : SlB af w.heap.size w vs m.seen) (h2 : SlB tPl w.heap.size w vp m.pool) (h3 : SlB af w.heap.size w vh p.hd) (h4 : SlB af w.heap.size w vb p.bd) (hm : mxB m = true) (hp : pkB p = true) (y : Pl) (hr : aW m.sec p = some y) (hin : aq m.sec p.el ∉ m.seen) (hf : ¬ 12 ≤ m.seen.length) (hf2 : 5 ≤ m.pool.length) :
  Calls Tryz.prog 121 #[.agg #[.int .i64 m.sec, vs, vp], .agg #[.int .i64 p.el, vh, .int .i64 p.tag, vb]] w (dX w (bB m p)) := by
 obtain ⟨m1, m2, m3, m4, m5⟩ := bh.1 hm
 have Hpool := hid (fun (x : Pl) (hx : x ∈ m.pool) => show x.pk.hd.length ≤ 1073741824 ∧ x.pk.bd.length ≤ 1073741824 by
  obtain ⟨_, _, hk⟩ := aV.1 (m5 x hx)
  obtain ⟨_, ⟨a, _⟩, ⟨b, _⟩, _⟩ := aD.1 hk
  omega)
 have p1 := (aD.1 hp).1
 have H1 := hid (fun (wx : World) (hb : Below w.heap.size w wx) => h1.go hb)
 have H2 := hid (fun (wx : World) (hb : Below w.heap.size w wx) => h2.go hb)
 have H3 := hid (fun (wx : World) (hb : Below w.heap.size w wx) => h3.go hb)
 have H4 := hid (fun (wx : World) (hb : Below w.heap.size w wx) => h4.go hb)
 obtain ⟨As, cs, rfl, _, _, _⟩ := h1.form
 obtain ⟨Ap, cp, rfl, _, _, _⟩ := h2.form
 obtain ⟨Ah, ch, rfl, _, _, _⟩ := h3.form
 obtain ⟨Ab, cb, rfl, _, _, _⟩ := h4.form
 have Hp := hid hp
 clear h1 h2 h3 h4 hm m4 m5 hp
 have hkw := bu m1 p1
 rw [iI hr hin (by omega)]
 have Hr := hid hr
 have hdin : decide (aq m.sec p.el ∈ m.seen) = false := decide_eq_false hin
 have i1 : ¬ (12 : Int) ≤ (m.seen.length : Int) := by omega
 have i2 : (5 : Int) ≤ (m.pool.length : Int) := by omega
 clear hr hin
 go_enter Tryz.func121, Tryz.ntmps121
 go_wp2_with fail
 refine (dq m _ _ _ (H1.out _ (by repeat (first | exact ah | apply ae | refine bA ?_ (by omega) | refine Below.setCell ?_ (by first | omega | simp <;> omega) _))) (H2.out _ (by repeat (first | exact ah | apply ae | refine bA ?_ (by omega) | refine Below.setCell ?_ (by first | omega | simp <;> omega) _))) (by omega) (by omega) Hpool.out).mono ?_
 rintro e w1 ⟨us, up, rfl, n1, hb1⟩
 obtain ⟨A1, c1, A2, c2, rfl, rfl⟩ := aQ n1
 obtain ⟨b0, b1, b2⟩ := eJ hb1
 have hc1 : Below w.heap.size w w1 := bt (by repeat (first | exact ah | apply ae | refine bA ?_ (by omega) | refine Below.setCell ?_ (by first | omega | simp <;> omega) _)) hb1
 have s1 : w.heap.size + 1 + 1 < w1.heap.size := (aL b2)
 have s1a : w.heap.size < w1.heap.size := by omega
 have s1b : w.heap.size + 1 < w1.heap.size := by omega
 obtain ⟨k0, k1, k2, _⟩ := aE b0
 obtain ⟨l0, l1, l2, l3, _⟩ := aN b1
 simp only [World.size_alloc] at n1
 have N1 := hid n1; have Hc1 := hid hc1; have E0 := hid b0; have E1 := hid b1; have E2 := hid b2
 clear n1 hb1 hc1 b0 b1 b2
 go_wp2_with (go_at_call 155; refine (bW _ _ _ m1 p1).mono ?_; rintro e w' ⟨rfl, rfl⟩)
 refine (eS m.sec p y _ _ _ (H3.out _ (bt Hc1.out (ab _ _))) (H4.out _ (bt Hc1.out (ab _ _))) m1 Hp.out Hr.out).mono ?_
 rintro e w2 ⟨uh, ub, rfl, n2, hb2⟩
 obtain ⟨A3, c3, A4, c4, rfl, rfl⟩ := cj n2
 have hb2' := bt (ab w1 _) hb2
 obtain ⟨k0, k1, k2, _⟩ := aE (ac hb2' E0.out)
 obtain ⟨q0, q1, q2, qf⟩ := aE (ac hb2' E2.out)
 obtain ⟨o0, o1, o2, of⟩ := aE (ac hb2 (heap_alloc_new w1 _))
 have qf0 := qf 0; have qf1 := qf 1; have qf2 := qf 2
 have of0 := of 0; have of1 := of 1; have of2 := of 2
 have s2 : w1.heap.size < w2.heap.size := (Array.getElem?_eq_some_iff.1 (ac hb2 (heap_alloc_new w1 _))).1
 have s2a : w.heap.size < w2.heap.size := by omega
 have s2b : w.heap.size + 1 + 1 < w2.heap.size := by omega
 have Hc2 := hid (bt Hc1.out hb2')
 have N2 := hid (N1.out.go hb2' (Nat.le_refl _))
 have S2 := hid (ej (H1.out _ Hc1.out) hb2')
 have Hq := hid hb2
 clear hb2 hb2' qf of l0 l1 l2 l3 n2
 go_wp2_with (go_at_call 165; refine (gA _ m.seen _ _ (S2.out.go (ab _ _))).mono ?_; rw [hdin]; rintro e w' ⟨rfl, rfl⟩)
 refine bodyPost_ret (v := .tuple #[.agg #[.int .i64 m.sec, .slice A1 m.seen.length c1, .slice A2 m.pool.length c2], .int .i64 3]) (by simp [results, Tryz.results121, go_sem, q0, q1, q2, s2b]) rfl ⟨_, _, rfl, ?_, ?_⟩
 ·refine aC.base (B := w.heap.size + 1 + 1 + 1) ?_ (by omega)
  repeat (first | refine aC.set ?_ (by dsimp only; omega) | refine aC.go ?_ (ab _ _) (Nat.le_refl _))
  exact N2.out
 ·repeat (first | refine Below.setCell ?_ (by dsimp only; omega) _ | refine Below.alloc ?_ (by simp only [World.size_alloc, ao]; omega) _)
  exact Hc2.out
theorem ll (m : Mx) (vs vp : Value) (p : Pk) (vh vb : Value) (w : World) (h1 : SlB af w.heap.size w vs m.seen) (h2 : SlB tPl w.heap.size w vp m.pool) (h3 : SlB af w.heap.size w vh p.hd) (h4 : SlB af w.heap.size w vb p.bd) (hm : mxB m = true) (hp : pkB p = true) (y : Pl) (hr : aW m.sec p = some y) (hin : aq m.sec p.el ∉ m.seen) (hf : ¬ 12 ≤ m.seen.length) (hf2 : ¬ 5 ≤ m.pool.length) :
  Calls Tryz.prog 121 #[.agg #[.int .i64 m.sec, vs, vp], .agg #[.int .i64 p.el, vh, .int .i64 p.tag, vb]] w (dX w (bB m p)) := by
 obtain ⟨m1, m2, m3, m4, m5⟩ := bh.1 hm
 have Hpool := hid (fun (x : Pl) (hx : x ∈ m.pool) => show x.pk.hd.length ≤ 1073741824 ∧ x.pk.bd.length ≤ 1073741824 by
  obtain ⟨_, _, hk⟩ := aV.1 (m5 x hx)
  obtain ⟨_, ⟨a, _⟩, ⟨b, _⟩, _⟩ := aD.1 hk
  omega)
 have p1 := (aD.1 hp).1
 have H1 := hid (fun (wx : World) (hb : Below w.heap.size w wx) => h1.go hb)
 have H2 := hid (fun (wx : World) (hb : Below w.heap.size w wx) => h2.go hb)
 have H3 := hid (fun (wx : World) (hb : Below w.heap.size w wx) => h3.go hb)
 have H4 := hid (fun (wx : World) (hb : Below w.heap.size w wx) => h4.go hb)
 obtain ⟨As, cs, rfl, _, _, _⟩ := h1.form
 obtain ⟨Ap, cp, rfl, _, _, _⟩ := h2.form
 obtain ⟨Ah, ch, rfl, _, _, _⟩ := h3.form
 obtain ⟨Ab, cb, rfl, _, _, _⟩ := h4.form
 have Hp := hid hp
 clear h1 h2 h3 h4 hm m4 m5 hp
 have hkw := bu m1 p1
 rw [pa hr hin (by omega)]
 have Hr := hid hr
 have hdin : decide (aq m.sec p.el ∈ m.seen) = false := decide_eq_false hin
 have i1 : decide ((12 : Int) ≤ (m.seen.length : Int)) = false := decide_eq_false (by omega)
 have i2 : decide ((5 : Int) ≤ (m.pool.length : Int)) = false := decide_eq_false (by omega)
 clear hr hin
 go_enter Tryz.func121, Tryz.ntmps121
 go_wp2_with fail
 refine (dq m _ _ _ (H1.out _ (by repeat (first | exact ah | apply ae | refine bA ?_ (by omega) | refine Below.setCell ?_ (by first | omega | simp <;> omega) _))) (H2.out _ (by repeat (first | exact ah | apply ae | refine bA ?_ (by omega) | refine Below.setCell ?_ (by first | omega | simp <;> omega) _))) (by omega) (by omega) Hpool.out).mono ?_
 rintro e w1 ⟨us, up, rfl, n1, hb1⟩
 obtain ⟨A1, c1, A2, c2, rfl, rfl⟩ := aQ n1
 obtain ⟨b0, b1, b2⟩ := eJ hb1
 have hc1 : Below w.heap.size w w1 := bt (by repeat (first | exact ah | apply ae | refine bA ?_ (by omega) | refine Below.setCell ?_ (by first | omega | simp <;> omega) _)) hb1
 have s1 : w.heap.size + 1 + 1 < w1.heap.size := (aL b2)
 have s1a : w.heap.size < w1.heap.size := by omega
 have s1b : w.heap.size + 1 < w1.heap.size := by omega
 obtain ⟨k0, k1, k2, _⟩ := aE b0
 obtain ⟨l0, l1, l2, l3, _⟩ := aN b1
 simp only [World.size_alloc] at n1
 have N1 := hid n1; have Hc1 := hid hc1; have E0 := hid b0; have E1 := hid b1; have E2 := hid b2
 clear n1 hb1 hc1 b0 b1 b2
 go_wp2_with (go_at_call 155; refine (bW _ _ _ m1 p1).mono ?_; rintro e w' ⟨rfl, rfl⟩)
 refine (eS m.sec p y _ _ _ (H3.out _ (bt Hc1.out (ab _ _))) (H4.out _ (bt Hc1.out (ab _ _))) m1 Hp.out Hr.out).mono ?_
 rintro e w2 ⟨uh, ub, rfl, n2, hb2⟩
 obtain ⟨A3, c3, A4, c4, rfl, rfl⟩ := cj n2
 have hb2' := bt (ab w1 _) hb2
 obtain ⟨k0, k1, k2, _⟩ := aE (ac hb2' E0.out)
 obtain ⟨q0, q1, q2, qf⟩ := aE (ac hb2' E2.out)
 obtain ⟨o0, o1, o2, of⟩ := aE (ac hb2 (heap_alloc_new w1 _))
 have qf0 := qf 0; have qf1 := qf 1; have qf2 := qf 2
 have of0 := of 0; have of1 := of 1; have of2 := of 2
 have s2 : w1.heap.size < w2.heap.size := (Array.getElem?_eq_some_iff.1 (ac hb2 (heap_alloc_new w1 _))).1
 have s2a : w.heap.size < w2.heap.size := by omega
 have s2b : w.heap.size + 1 + 1 < w2.heap.size := by omega
 have Hc2 := hid (bt Hc1.out hb2')
 have N2 := hid (N1.out.go hb2' (Nat.le_refl _))
 have S2 := hid (ej (H1.out _ Hc1.out) hb2')
 have Hq := hid hb2
 have e6 := ac hb2 (heap_alloc_new w1 (.cells #[.int .i64 m.sec, .slice A1 m.seen.length c1, .slice A2 m.pool.length c2] 70))
 simp only [World.size_alloc] at n2
 obtain ⟨G, F, t1⟩ := TkS.of (P := fun b => w.heap.size + 1 + 1 + 1 ≤ b ∧ b ≠ w1.heap.size ∧ b ≠ w2.heap.size) (C := w1.heap.size + 1) N1.out hb2' n2 (Nat.le_succ _) (fun b _ _ => by omega) (fun b _ _ => by omega)
 have E6 := hid (ac (ab w2 (.cells #[.int .i64 y.kind, .int .i64 y.next, .int .i64 y.pk.el, .slice A3 y.pk.hd.length c3, .int .i64 y.pk.tag, .slice A4 y.pk.bd.length c4] 144)) e6)
 have E8 := hid (heap_alloc_new w2 (.cells #[.int .i64 y.kind, .int .i64 y.next, .int .i64 y.pk.el, .slice A3 y.pk.hd.length c3, .int .i64 y.pk.tag, .slice A4 y.pk.bd.length c4] 144))
 have ER := hid (ac (ab w2 (.cells #[.int .i64 y.kind, .int .i64 y.next, .int .i64 y.pk.el, .slice A3 y.pk.hd.length c3, .int .i64 y.pk.tag, .slice A4 y.pk.bd.length c4] 144)) (ac hb2' E2.out))
 have T1 := hid (t1.go (ab w2 (.cells #[.int .i64 y.kind, .int .i64 y.next, .int .i64 y.pk.el, .slice A3 y.pk.hd.length c3, .int .i64 y.pk.tag, .slice A4 y.pk.bd.length c4] 144)))
 have HC := hid (bt Hc2.out (ab w2 (.cells #[.int .i64 y.kind, .int .i64 y.next, .int .i64 y.pk.el, .slice A3 y.pk.hd.length c3, .int .i64 y.pk.tag, .slice A4 y.pk.bd.length c4] 144)))
 clear hb2 hb2' qf of l0 l1 l2 l3 n2 t1 e6
 obtain ⟨i0, hi, hz0, hz1, hz2⟩ := info_parts aY
 obtain ⟨j0, gi, gz0, gz1, gz2⟩ := info_parts iU
 have sz2 := hid (show w2.heap.size + 1 = (w2.alloc (.cells #[.int .i64 y.kind, .int .i64 y.next, .int .i64 y.pk.el, .slice A3 y.pk.hd.length c3, .int .i64 y.pk.tag, .slice A4 y.pk.bd.length c4] 144)).heap.size by simp)
 have hPn : ∀ n, w2.heap.size < n → (fun b => w.heap.size + 1 + 1 + 1 ≤ b ∧ b ≠ w1.heap.size ∧ b ≠ w2.heap.size) n := fun n hn => by dsimp only; omega
 have HPn := hid hPn
 have lA := hid m2
 clear hPn
 go_wp2_with (first
  | (go_at_call 165; refine (gA _ m.seen _ _ (S2.out.go (ab _ _))).mono ?_; rw [hdin]; rintro e w' ⟨rfl, rfl⟩)
  | (at_builtin; go_loud (refine aw rfl (.tmp 47) (.tmp 49) 67 rfl af ai (B := 0) Tryz.underlying67 hi hz0 hz1 hz2 rfl (by decide) (by decide) (v := .slice A1 m.seen.length c1) rfl (T1.out.hu.go (ab _ _)) (some ⟨w2.heap.size + 1, 0, none⟩) 1 1 rfl (fA (kJ (B := 0) (aq m.sec p.el) _ sz2.out (Nat.zero_le _))) ?_ ?_ ?_; (simp; have := lA.out; omega); (simp); intro v5 w5 ho5 hg5 hv5; have t5 := (T1.out.go (ab _ (.cells #[.int .i64 (aq m.sec p.el)] 3))).seen' ho5 hg5 hv5 (HPn.out _ (by simp; omega)); obtain ⟨A5, c5, rfl, _, _⟩ := ho5.formN (n := m.seen.length + 1) (by simp); have e65 := au hg5 (ac (ab _ _) E6.out) (T1.out.off (fun h => by have h1 := h.1; have h2 := h.2.1; have h3 := h.2.2; omega)).1; have e85 := au hg5 (ac (ab _ _) E8.out) (T1.out.off (fun h => by have h1 := h.1; have h2 := h.2.1; have h3 := h.2.2; omega)).1; have eR5 := au hg5 (ac (ab _ _) ER.out) (T1.out.off (fun h => by have h1 := h.1; have h2 := h.2.1; have h3 := h.2.2; omega)).1; obtain ⟨k0, k1, k2, kf⟩ := aE e65; have kf1 := kf 1; have kf2 := kf 2; obtain ⟨o0, o1, o2, o3, o4, o5, _⟩ := az e85; have sz5 := hg5.size; simp only [World.size_alloc] at sz5; have T5 := hid t5; have ER5 := hid eR5; have E65 := hid e65; have BG5 := hid (((ab (w2.alloc (.cells #[.int .i64 y.kind, .int .i64 y.next, .int .i64 y.pk.el, .slice A3 y.pk.hd.length c3, .int .i64 y.pk.tag, .slice A4 y.pk.bd.length c4] 144)) (.cells #[.int .i64 (aq m.sec p.el)] 3)).mono (by rw [World.size_alloc]; omega : w.heap.size ≤ (w2.alloc (.cells #[.int .i64 y.kind, .int .i64 y.next, .int .i64 y.pk.el, .slice A3 y.pk.hd.length c3, .int .i64 y.pk.tag, .slice A4 y.pk.bd.length c4] 144)).heap.size)).grown hg5 (by simp; omega) (fun q hq => by have := (T1.out.hP q (by simp [hq])).1; omega)); clear t5 ho5 hg5 hv5 e65 e85 eR5 kf))
  | (at_builtin; go_loud (obtain ⟨z1, z2, z3⟩ := (T5.out.set (p := ⟨w1.heap.size, 1, none⟩) (u := .slice A5 (m.seen.length + 1) c5) (fun h => by have h1 := h.1; have h2 := h.2.1; have h3 := h.2.2; dsimp only at h1 h2 h3; omega)).src 144 w5.heap.size (by simp [ao]); refine cW rfl (.tmp 53) (.tmp 55) 68 rfl oPl (B := 0) Tryz.underlying68 gi gz0 gz1 gz2 rfl (by decide) (v := .slice A2 m.pool.length c2) rfl z1 (some ⟨w5.heap.size, 0, none⟩) 1 1 rfl z2 z3 ?_ ?_ (Nat.zero_le _) ?_; (simp; omega); (simp [maxLen]; omega); intro v7 w7 ho7 hg7 hv7; have t7 := ((T5.out.set (p := ⟨w1.heap.size, 1, none⟩) (u := .slice A5 (m.seen.length + 1) c5) (fun h => by have h1 := h.1; have h2 := h.2.1; have h3 := h.2.2; dsimp only at h1 h2 h3; omega)).go (ab _ (.cells #[.int .i64 y.kind, .int .i64 y.next, .int .i64 y.pk.el, .slice A3 y.pk.hd.length c3, .int .i64 y.pk.tag, .slice A4 y.pk.bd.length c4] 144))).pool' ho7 hg7 hv7 (HPn.out _ (by simp [ao]; omega)) m.sec; have uo := (T5.out.off (n := w1.heap.size) (fun h => by have h1 := h.1; have h2 := h.2.1; have h3 := h.2.2; omega)).2; have ur := (T5.out.off (n := w.heap.size + 1 + 1) (fun h => by have h1 := h.1; have h2 := h.2.1; have h3 := h.2.2; omega)).2; have e67 := au hg7 (ac (ab _ (.cells #[.int .i64 y.kind, .int .i64 y.next, .int .i64 y.pk.el, .slice A3 y.pk.hd.length c3, .int .i64 y.pk.tag, .slice A4 y.pk.bd.length c4] 144)) (heap_setCell_same w5 w1.heap.size 1 _ _ (.slice A5 (m.seen.length + 1) c5) E65.out)) uo; have eR7 := au hg7 (ac (ab _ (.cells #[.int .i64 y.kind, .int .i64 y.next, .int .i64 y.pk.el, .slice A3 y.pk.hd.length c3, .int .i64 y.pk.tag, .slice A4 y.pk.bd.length c4] 144)) ((Below.heap_setCell w5 ⟨w1.heap.size, 1, none⟩ (.slice A5 (m.seen.length + 1) c5) (w.heap.size + 1 + 1) (by dsimp only; omega)).trans ER5.out)) ur; obtain ⟨k0, k1, k2, kf⟩ := aE (a := .int .i64 m.sec) (b := .slice A5 (m.seen.length + 1) c5) (c := .slice A2 m.pool.length c2) e67; have kf1 := kf 1; have kf2 := kf 2; obtain ⟨q0, q1, q2, qf⟩ := aE eR7; have qf0 := qf 0; have qf1 := qf 1; have qf2 := qf 2; obtain ⟨A7, c7, e7, _, _⟩ := ho7.form; rw [show (m.pool ++ [y]).length = m.pool.length + 1 by simp] at e7; subst e7; have T7 := hid t7; have BG7 := hid ((((BG5.out.setCell (p := ⟨w1.heap.size, 1, none⟩) (by dsimp only; omega) (.slice A5 (m.seen.length + 1) c5)).alloc (by simp only [ao]; omega) (.cells #[.int .i64 y.kind, .int .i64 y.next, .int .i64 y.pk.el, .slice A3 y.pk.hd.length c3, .int .i64 y.pk.tag, .slice A4 y.pk.bd.length c4] 144))).grown hg7 (by simp [ao]; omega) (fun q hq => by have := (T5.out.hP q (by simp [hq])).1; omega)); clear t7 ho7 hg7 hv7 e67 eR7 kf qf)))
 have sz7 : w.heap.size + 1 + 1 < w7.heap.size := by have := BG7.out.size; simp only [World.size_alloc] at this; omega
 refine bodyPost_ret (v := .tuple #[.agg #[.int .i64 m.sec, .slice A5 (m.seen.length + 1) c5, .slice A7 (m.pool.length + 1) c7], .int .i64 0]) (by simp [results, Tryz.results121, go_sem, q0, q1, q2, sz7]) rfl ?_
 have key : ∃ K, oMx.E w7 [.int .i64 m.sec, .slice A5 (m.seen.length + 1) c5, .slice A7 (m.pool.length + 1) c7] ⟨m.sec, m.seen ++ [aq m.sec p.el], m.pool ++ [y]⟩ K ∧ K.Nodup ∧ ∀ b ∈ K, w.heap.size + 1 + 1 + 1 ≤ b ∧ b ≠ w1.heap.size ∧ b ≠ w2.heap.size := T7.out
 refine ⟨_, _, rfl, ?_, ?_⟩
 ·obtain ⟨K, h1, h2, h3⟩ := bc (bc (bc (bc key (p := ⟨w1.heap.size, 2, none⟩) (u := .slice A7 (m.pool.length + 1) c7) (by dsimp only; omega)) (p := ⟨w.heap.size + 1 + 1, 0, none⟩) (u := .int .i64 m.sec) (by dsimp only; omega)) (p := ⟨w.heap.size + 1 + 1, 1, none⟩) (u := .slice A5 (m.seen.length + 1) c5) (by dsimp only; omega)) (p := ⟨w.heap.size + 1 + 1, 2, none⟩) (u := .slice A7 (m.pool.length + 1) c7) (by dsimp only; omega)
  exact ⟨K, h1, h2, fun b hb => by have := (h3 b hb).1; omega⟩
 ·repeat (refine Below.setCell ?_ (by dsimp only; omega) _)
  exact HC.out.trans BG7.out
theorem gZ (m : Mx) (vs vp : Value) (p : Pk) (vh vb : Value) (w : World) (h1 : SlB af w.heap.size w vs m.seen) (h2 : SlB tPl w.heap.size w vp m.pool) (h3 : SlB af w.heap.size w vh p.hd) (h4 : SlB af w.heap.size w vb p.bd) (hm : mxB m = true) (hp : pkB p = true) :
  Calls Tryz.prog 121 #[.agg #[.int .i64 m.sec, vs, vp], .agg #[.int .i64 p.el, vh, .int .i64 p.tag, vb]] w (dX w (bB m p)) := by
 cases hr : aW m.sec p with
 | none => exact lm m vs vp p vh vb w h1 h2 h3 h4 hm hp hr
 | some y =>
  by_cases hin : aq m.sec p.el ∈ m.seen
  ·exact me m vs vp p vh vb w h1 h2 h3 h4 hm hp y hr hin
  ·by_cases hf : 12 ≤ m.seen.length
   ·exact jO m vs vp p vh vb w h1 h2 h3 h4 hm hp y hr hin hf
   ·by_cases hf2 : 5 ≤ m.pool.length
    ·exact jP m vs vp p vh vb w h1 h2 h3 h4 hm hp y hr hin hf hf2
    ·exact ll m vs vp p vh vb w h1 h2 h3 h4 hm hp y hr hin hf hf2
section
variable {α : Type} {T : Ty α} {w w' : World} {v : Value} {xs : List α} {R R' : Nat → Prop}
def SlR (R : Nat → Prop) (T : Ty α) (w : World) (v : Value) (xs : List α) : Prop := ∃ F, Sl T w v xs F ∧ ∀ b ∈ F, R b
theorem SlR.form (h : SlR R T w v xs) : ∃ A c, v = .slice A xs.length c ∧ xs.length ≤ c ∧ c ≤ maxLen ∧ xs.length ≤ 9223372036854775807 := by
 obtain ⟨F, h, _⟩ := h; exact h.form
theorem SlR.slB (h : SlR R T w v xs) : SlB T w.heap.size w v xs := by
 obtain ⟨F, h, _⟩ := h; exact SlB.of h
theorem SlR.go (h : SlR R T w v xs) (hb : Below w.heap.size w w') : SlR R T w' v xs := by
 obtain ⟨F, h, hF⟩ := h
 exact ⟨F, h.below hb (fun b hm => h.lt b hm), hF⟩
theorem SlR.keep (h : SlR R T w v xs) (hs : w.heap.size ≤ w'.heap.size) (hk : ∀ b, R b → b < w.heap.size → w'.heap[b]? = w.heap[b]?) : SlR R T w' v xs := by
 obtain ⟨F, h, hF⟩ := h
 exact ⟨F, h.keep hs (fun b hm => hk b (hF b hm) (h.lt b hm)), hF⟩
theorem SlR.set {p : Addr} {u : Value} (h : SlR R T w v xs) (hp : ¬ R p.block) : SlR R T (w.setCell p u) v xs :=
 h.keep (by simp [World.setCell]) (fun b hb _ => Below.heap_setCell _ _ _ _ (fun e => hp (by rw [← e]; exact hb)))
theorem SlR.mono (h : SlR R T w v xs) (hR : ∀ b, b < w.heap.size → R b → R' b) : SlR R' T w v xs := by
 obtain ⟨F, h, hF⟩ := h
 exact ⟨F, h, fun b hm => hR b (h.lt b hm) (hF b hm)⟩
theorem SlR.nil (c : Nat) (A : Option Addr) (hc : c ≤ maxLen) : SlR R T w (.slice A 0 c) [] := ⟨[], Sl.nil c A hc, fun _ h => by cases h⟩
theorem SlR.le {T' : Ty α} (hT : T.le T') (h : SlR R T w v xs) : SlR R T' w v xs := by
 obtain ⟨F, h, hF⟩ := h
 obtain ⟨F', h', hs⟩ := Sl.le hT h
 exact ⟨F', h', fun b hb => hF b (hs b hb)⟩
theorem SlR.of_slB {B : Nat} (h : SlB T B w v xs) (hR : ∀ b, b < B → b < w.heap.size → R b) : SlR R T w v xs := by
 obtain ⟨F, h, hF⟩ := h
 exact ⟨F, h, fun b hm => hR b (hF b hm) (h.lt b hm)⟩
theorem SlR.of_own {e B : Nat} {G : List Nat} (h : Own T e B w v xs G) (hB : ∀ b, B ≤ b → R b) (hG : ∀ b ∈ G, R b) : SlR R T w v xs := by
 obtain ⟨F, hs, hF⟩ := h.sl
 refine ⟨F, hs, fun b hb => ?_⟩
 rcases hF b hb with hb | hb
 ·exact hB b (h.top b hb).1
 ·exact hG b hb
theorem SlR.of_new {e B : Nat} (h : bp T e B w v xs) (hB : ∀ b, B ≤ b → R b) : SlR R T w v xs := by
 obtain ⟨G, h, _, hG⟩ := h
 exact .of_own h hB (fun b hb => hB b (hG b hb))
theorem SlR.at_ {A : Option Addr} {n c : Nat} (h : SlR R T w (.slice A n c) xs) {i : Nat} {x : α} (hx : xs[i]? = some x) :
  ∃ b o cs G, A = some ⟨b, o, none⟩ ∧ R b ∧ b < w.heap.size ∧ T.E w cs x G ∧ (∀ g ∈ G, R g) ∧ ∀ j u, cs[j]? = some u → w.cell? ⟨b, o + (i * T.k + j), none⟩ = some u := by
 obtain ⟨F, h, hF⟩ := h
 obtain ⟨b, o, cs, G, h1, h2, h2', h3, h4, h5⟩ := h.at_ hx
 exact ⟨b, o, cs, G, h1, hF b h2, h2', h3, fun g hg => hF g (h4 g hg), h5⟩
end
def be (R : Nat → Prop) (lo hi : Nat) (b : Nat) : Prop := R b ∧ (b < lo ∨ hi ≤ b)
theorem aJ {R : Nat → Prop} {lo hi b : Nat} (h1 : lo ≤ b) (h2 : b < hi) : ¬ be R lo hi b := fun h => by have := h.2; omega
def WdR (R : Nat → Prop) (w : World) (v : Value) (x : Wd) : Prop :=
 ∃ vm vs vn vg, v = .agg #[vm, vs, vn, vg, .int .i64 x.made, .int .i64 x.lost] ∧ SlR R tMx w vm x.mixes ∧ SlR R tLt w vs x.sent ∧ SlR R tTr w vn x.net ∧ SlR R tLt w vg x.got
section
variable {w w' : World} {v : Value} {x : Wd} {R R' : Nat → Prop}
theorem WdR.wdB (h : WdR R w v x) : WdB w.heap.size w v x := by
 obtain ⟨vm, vs, vn, vg, rfl, h1, h2, h3, h4⟩ := h
 exact ⟨_, _, _, _, rfl, h1.slB, h2.slB, h3.slB, h4.slB⟩
theorem WdR.go (h : WdR R w v x) (hb : Below w.heap.size w w') : WdR R w' v x := by
 obtain ⟨vm, vs, vn, vg, rfl, h1, h2, h3, h4⟩ := h
 exact ⟨_, _, _, _, rfl, h1.go hb, h2.go hb, h3.go hb, h4.go hb⟩
theorem WdR.set {p : Addr} {u : Value} (h : WdR R w v x) (hp : ¬ R p.block) : WdR R (w.setCell p u) v x := by
 obtain ⟨vm, vs, vn, vg, rfl, h1, h2, h3, h4⟩ := h
 exact ⟨_, _, _, _, rfl, h1.set hp, h2.set hp, h3.set hp, h4.set hp⟩
theorem WdR.mono (h : WdR R w v x) (hR : ∀ b, b < w.heap.size → R b → R' b) : WdR R' w v x := by
 obtain ⟨vm, vs, vn, vg, rfl, h1, h2, h3, h4⟩ := h
 exact ⟨_, _, _, _, rfl, h1.mono hR, h2.mono hR, h3.mono hR, h4.mono hR⟩
theorem WdR.of_wdB {B : Nat} (h : WdB B w v x) (hR : ∀ b, b < w.heap.size → R b) : WdR R w v x := by
 obtain ⟨vm, vs, vn, vg, rfl, h1, h2, h3, h4⟩ := h
 exact ⟨_, _, _, _, rfl, .of_slB h1 (fun b _ h => hR b h), .of_slB h2 (fun b _ h => hR b h), .of_slB h3 (fun b _ h => hR b h), .of_slB h4 (fun b _ h => hR b h)⟩
theorem WdR.form (h : WdR R w v x) : ∃ A1 c1 A2 c2 A3 c3 A4 c4, v = .agg #[.slice A1 x.mixes.length c1, .slice A2 x.sent.length c2, .slice A3 x.net.length c3, .slice A4 x.got.length c4, .int .i64 x.made, .int .i64 x.lost] := by
 obtain ⟨vm, vs, vn, vg, rfl, h1, h2, h3, h4⟩ := h
 obtain ⟨A1, c1, rfl, _⟩ := h1.form
 obtain ⟨A2, c2, rfl, _⟩ := h2.form
 obtain ⟨A3, c3, rfl, _⟩ := h3.form
 obtain ⟨A4, c4, rfl, _⟩ := h4.form
 exact ⟨_, _, _, _, _, _, _, _, rfl⟩
end
def bH (w : World) (R : Nat → Prop) (x : Wd) (e : Ending) (w' : World) : Prop := ∃ v, e = .returned v ∧ WdR R w' v x ∧ Below w.heap.size w w'
theorem sD {L : List Nat} {W : World} (_ : Tch L W W.drew) : Below W.heap.size W W.drew := ⟨rfl, rfl, rfl, Nat.le_refl _, fun _ _ => rfl⟩
theorem Tch.drew1 {L : List Nat} {a w : World} (h : Tch L a w) : Tch L a w.drew := ⟨h.os, h.tape, h.output, h.size, h.block⟩
theorem Tch.grow {L : List Nat} {W a b : World} {r : Option Nat} (h : Tch L W a) (hg : a.grownBy b r) (hr : ∀ k, r = some k → k < W.heap.size → k ∈ L) : Tch L W b :=
 ⟨hg.os.trans h.os, hg.tape.trans h.tape, hg.output.trans h.output, Nat.le_trans h.size hg.size, fun k hk hn => (hg.block k (Nat.lt_of_lt_of_le hk h.size) (fun e => hn (hr k e.symm hk))).trans (h.block k hk hn)⟩
theorem Tch.row {L : List Nat} {W a : World} {n : Nat} {o : Obj} (h : Tch L W a) (e : W.heap[n]? = some o) (hn : n ∉ L) : a.heap[n]? = some o :=
 (h.block n (aL e) hn).trans e
theorem Tch.nil {W a : World} (h : Tch [] W a) : Below W.heap.size W a := ⟨h.os, h.tape, h.output, h.size, fun k hk => h.block k hk (by simp)⟩
theorem Tch.bel {B : Nat} {L : List Nat} {W a : World} (h : Tch L W a) (hB : B ≤ W.heap.size) (hL : ∀ b ∈ L, B ≤ b) : Below B W a := h.below hB hL
theorem Tch.put {L : List Nat} {W a : World} (h : Tch L W a) {p : Addr} (hp : p.block ∈ L ∨ W.heap.size ≤ p.block) (u : Value) : Tch L W (a.setCell p u) := h.setCell hp u
theorem rgD {P : Program} {ops : Array Oper} {Q : Exit → Act → World → Prop} (L : List Nat) (n : Nat) {id : Nat} {a : Act} {w : World} (hm : P.follows .mixedOrders = true) (hn : ops.size = n) (hq : QP Q) (h : Tch L w w.drew → wpU P .any ops Q (Tch L w) n (List.replicate n false).toArray a w.drew) : (Code.region id ops true).wp P Q a w := by
 subst hn
 exact rg hm hq (Tch.refl _ _).drew1 (fun hT => by rw [← List.toArray_replicate]; exact h hT)
theorem rgN {P : Program} {ops : Array Oper} {Q : Exit → Act → World → Prop} (L : List Nat) (n : Nat) {id : Nat} {a : Act} {w : World} (hm : P.follows .mixedOrders = true) (hn : ops.size = n) (hq : QP Q) (h : ∀ wd, Tch L w wd → Below w.heap.size w wd → w.heap.size ≤ wd.heap.size → wpU P .any ops Q (Tch L w) n (List.replicate n false).toArray a wd) : (Code.region id ops true).wp P Q a w :=
 rgD L n hm hn hq (fun hT => h _ hT (sD hT) hT.size)
end Go.Proofs.YtfaeojmndaplcaaGreatDoor
