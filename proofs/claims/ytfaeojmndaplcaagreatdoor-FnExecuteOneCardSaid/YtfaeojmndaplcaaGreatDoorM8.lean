/- Texts that the last file leans on (part 8). -/
import Derived.Test.YtfaeojmndaplcaaGreatDoorM0
set_option linter.unusedVariables false
set_option linter.unusedSimpArgs false
set_option maxHeartbeats 4000000
set_option maxRecDepth 100000
namespace Go.Proofs.YtfaeojmndaplcaaGreatDoor
open Go Go.RowKit
theorem SlB.byte {B : Nat} {w : World} {A : Option Addr} {n c : Nat} {xs : List Int} (h : SlB du B w (.slice A n c) xs) {i : Nat} {x : Int} (hx : xs[i]? = some x) :
  ∃ b o, A = some ⟨b, o, none⟩ ∧ b < B ∧ b < w.heap.size ∧ w.cell? ⟨b, o + i, none⟩ = some (.int .u8 x) := by
 obtain ⟨b, o, cs, G, h1, h2, h2', ⟨rfl, _⟩, _, h5⟩ := h.at_ hx
 exact ⟨b, o, h1, h2, h2', by simpa [du, Ty.flat] using h5 0 _ rfl⟩
def Rdr (B : Nat) (w : World) (g p : Nat) : Prop :=
 ∃ A n c xs, w.heap[g]? = some (.cells #[.slice A n c, .int .i64 p] 90 (0, 0)) ∧ xs.length = n ∧ B ≤ g ∧ SlB du B w (.slice A n c) xs ∧ (∀ x ∈ xs, 0 ≤ x ∧ x ≤ 255) ∧ n ≤ 2000
theorem Rdr.below {B n : Nat} {w w' : World} {g p : Nat} (h : Rdr B w g p) (hb : Below n w w') (hg : g < n) (hB : B ≤ n) : Rdr B w' g p := by
 obtain ⟨A, L, c, xs, h1, h2, h3, h4, h5, h6⟩ := h
 exact ⟨A, L, c, xs, (hb.block g hg).trans h1, h2, h3, h4.below hb hB, h5, h6⟩
theorem Rdr.lt {B : Nat} {w : World} {g p : Nat} (h : Rdr B w g p) : B ≤ g ∧ g < w.heap.size := by
 obtain ⟨A, L, c, xs, h1, h2, h3, h4, h5, h6⟩ := h
 exact ⟨h3, (zn h1)⟩
theorem Rdr.drewN {B : Nat} {w : World} {g p : Nat} (h : Rdr B w g p) (n : Nat) : Rdr B (w.drewN n) g p :=
 h.below (n := w.heap.size) (below_drewN zm n) h.lt.2 (Nat.le_trans h.lt.1 (Nat.le_of_lt h.lt.2))
def yf (B g p : Nat) (n : Int) (w : World) (e : Ending) (w' : World) : Prop :=
 ∃ m : Int, e = .returned (.int .i64 m) ∧ 0 ≤ m ∧ (1 ≤ n → m < n) ∧ (n < 1 → m = 0) ∧ Rdr B w' g (p + 1) ∧ w.grownBy w' (some g)
theorem bD {n : Int} (h1 : -9223372036854775808 ≤ n) (h2 : n ≤ 9223372036854775807) : IntKind.i64.wrap n = n := IntWalk.i64_in _ ⟨h1, h2⟩
theorem tG {X : Int} (h : 0 ≤ X) (h2 : X ≤ 1000000000000) : 0 ≤ bits .xor .i64 X (X / 64) := by
 obtain ⟨a, rfl⟩ := Int.eq_ofNat_of_zero_le h
 have hx : a ^^^ (a / 64) < 2 ^ 40 := Nat.xor_lt_two_pow (by omega) (by omega)
 have h1 : (BitVec.ofInt 64 (a : Int)).toNat = a := by
  rw [BitVec.ofInt_natCast, BitVec.toNat_ofNat]; exact Nat.mod_eq_of_lt (by omega)
 have e : ((a : Int) / 64) = ((a / 64 : Nat) : Int) := by simp
 have h3 : (BitVec.ofInt 64 ((a / 64 : Nat) : Int)).toNat = a / 64 := by
  rw [BitVec.ofInt_natCast, BitVec.toNat_ofNat]; exact Nat.mod_eq_of_lt (by omega)
 rw [e]
 show 0 ≤ IntKind.i64.wrap ((BitVec.ofInt 64 (a : Int) ^^^ BitVec.ofInt 64 ((a / 64 : Nat) : Int)).toNat : Int)
 rw [BitVec.toNat_xor, h1, h3, bD (by omega) (by omega)]
 omega
theorem tB {a n : Int} (h : 0 ≤ a) (hn : 1 ≤ n) : 0 ≤ a.tmod n ∧ a.tmod n < n := by
 rw [Int.tmod_eq_emod_of_nonneg h]
 exact ⟨Int.emod_nonneg _ (by omega), Int.emod_lt_of_pos _ (by omega)⟩
theorem kt (B : Nat) (w : World) (g p : Nat) (n : Int) (h : Rdr B w g p) (hp : p ≤ 1000000000) :
  Calls Tryz.prog 27 #[.pointer (some ⟨g, 0, none⟩), .int .i64 n] w (yf B g p n w) := by
 obtain ⟨A, L, c, xs, hh, hL, hBg, hs, hx, h2⟩ := h
 have hc0 : w.cell? ⟨g, 0, none⟩ = some (.slice A L c) := by rw [cell_of_row w g 0 _ _ _ hh]; rfl
 have hc1 : w.cell? ⟨g, 1, none⟩ = some (.int .i64 p) := by rw [cell_of_row w g 1 _ _ _ hh]; rfl
 have hf1 : w.frozen? ⟨g, 1, none⟩ = false := frozen_of_row w g 1 _ _ hh
 have hL := hid hL
 have Hh := hid hh; have Hx := hid hx; have Hs := hid hs
 clear hh hx hs
 have hne : ∀ b i, b < B → (w.setCell ⟨g, 1, none⟩ (.int .i64 (↑p + 1))).cell? ⟨b, i, none⟩ = w.cell? ⟨b, i, none⟩ := fun b i hb => World.cell?_setCell_other w _ _ _ (fun e => by injection e with e _ _; omega)
 have Hne := hid hne
 clear hne
 have fin : Rdr B (w.setCell ⟨g, 1, none⟩ (.int .i64 (↑p + 1))) g (p + 1) ∧ w.grownBy (w.setCell ⟨g, 1, none⟩ (.int .i64 (↑p + 1))) (some g) := by
  refine ⟨⟨A, L, c, xs, ?_, hL.out, hBg, ?_, Hx.out, h2⟩, tY (World.grownBy.refl _ _) _ _⟩
  ·rw [heap_setCell_same w g 1 _ _ _ Hh.out]; simp
  ·exact Hs.out.below ((Below.refl B w).setCell hBg _) (Nat.le_refl _)
 have Fin := hid fin
 clear fin
 by_cases hn : n < 1
 ·go_enter Tryz.func27, Tryz.ntmps27
  go_wp2
  go_ret
  exact ⟨0, rfl, by omega, by omega, fun _ => rfl, Fin.out.1, Fin.out.2⟩
 ·by_cases h0 : L = 0
  ·go_enter Tryz.func27, Tryz.ntmps27
   go_wp2
   go_ret
   exact ⟨0, rfl, by omega, by omega, fun _ => rfl, Fin.out.1, Fin.out.2⟩
  ·by_cases hk : p < L
   ·obtain ⟨x, hx⟩ := ai (xs := xs) (k := p) (by rw [hL.out]; exact hk)
    obtain ⟨b, o, rfl, hb, _, hcx⟩ := Hs.out.byte hx
    rw [← Hne.out b _ hb] at hcx
    have hx0 := Hx.out x (List.mem_of_getElem? hx)
    clear hx
    have hx1 := hx0.1
    have hx2 := hx0.2
    clear hx0
    go_enter Tryz.func27, Tryz.ntmps27
    go_wp2
    go_ret
    exact ⟨_, rfl, Int.emod_nonneg _ (by omega), fun _ => Int.emod_lt_of_pos _ (by omega), by omega, Fin.out.1, Fin.out.2⟩
   ·have hm1 : p % L < L := Nat.mod_lt _ (by omega)
    have hm2 : (p * 7 + 3) % L < L := Nat.mod_lt _ (by omega)
    obtain ⟨x, hx⟩ := ai (xs := xs) (k := p % L) (by rw [hL.out]; exact hm1)
    obtain ⟨y, hy⟩ := ai (xs := xs) (k := (p * 7 + 3) % L) (by rw [hL.out]; exact hm2)
    obtain ⟨b, o, rfl, hb, _, hcx⟩ := Hs.out.byte hx
    obtain ⟨b', o', e, hb', _, hcy⟩ := Hs.out.byte hy
    injection e with e; injection e with e1 e2; subst e1 e2
    rw [← Hne.out b _ hb] at hcx hcy
    have hx0 := Hx.out x (List.mem_of_getElem? hx)
    have hy0 := Hx.out y (List.mem_of_getElem? hy)
    clear hx hy
    have hx1 := hx0.1; have hx2 := hx0.2; have hy1 := hy0.1; have hy2 := hy0.2
    clear hx0 hy0
    have hL0 : (0 : Int) < (L : Int) := by omega
    have q0 : 0 ≤ (p : Int) / (L : Int) := Int.ediv_nonneg (by omega) (by omega)
    have q1 : (p : Int) / (L : Int) ≤ 1000000000 := Int.le_trans (Int.ediv_le_self _ (by omega)) (by omega)
    have e1 : (p : Int).tmod (L : Int) = (p : Int) % (L : Int) := Int.tmod_eq_emod_of_nonneg (by omega)
    have e2 : IntKind.i64.wrap ((p : Int) * 7) = (p : Int) * 7 := bD (by omega) (by omega)
    have e3 : IntKind.i64.wrap ((p : Int) * 7 + 3) = (p : Int) * 7 + 3 := bD (by omega) (by omega)
    have e4 : ((p : Int) * 7 + 3).tmod (L : Int) = ((p : Int) * 7 + 3) % (L : Int) := Int.tmod_eq_emod_of_nonneg (by omega)
    have e5 : IntKind.i64.wrap (x * 131) = x * 131 := bD (by omega) (by omega)
    have e6 : IntKind.i64.wrap (y * 1117) = y * 1117 := bD (by omega) (by omega)
    have e7 : IntKind.i64.wrap (x * 131 + y * 1117) = x * 131 + y * 1117 := bD (by omega) (by omega)
    have e8 : IntKind.i64.wrap ((p : Int) * 29) = (p : Int) * 29 := bD (by omega) (by omega)
    have e9 : IntKind.i64.wrap (x * 131 + y * 1117 + (p : Int) * 29) = x * 131 + y * 1117 + (p : Int) * 29 := bD (by omega) (by omega)
    have e10 : (p : Int).tdiv (L : Int) = (p : Int) / (L : Int) := Int.tdiv_eq_ediv_of_nonneg (by omega)
    have e13 : IntKind.i64.wrap ((p : Int) / (L : Int)) = (p : Int) / (L : Int) := bD (by omega) (by omega)
    have e11 : IntKind.i64.wrap ((p : Int) / (L : Int) * 53) = (p : Int) / (L : Int) * 53 := bD (by omega) (by omega)
    have e12 : IntKind.i64.wrap (x * 131 + y * 1117 + (p : Int) * 29 + (p : Int) / (L : Int) * 53) = x * 131 + y * 1117 + (p : Int) * 29 + (p : Int) / (L : Int) * 53 := bD (by omega) (by omega)
    have hX : 0 ≤ x * 131 + y * 1117 + (p : Int) * 29 + (p : Int) / (L : Int) * 53 := by omega
    have hX2 : x * 131 + y * 1117 + (p : Int) * 29 + (p : Int) / (L : Int) * 53 ≤ 1000000000000 := by omega
    have HX := hid hX; have HX2 := hid hX2
    clear hX hX2
    have i1 : (0 : Int) ≤ (p : Int) % (L : Int) := Int.emod_nonneg _ (by omega)
    have i2 : (p : Int) % (L : Int) < (L : Int) := Int.emod_lt_of_pos _ hL0
    have i3 : (0 : Int) ≤ ((p : Int) * 7 + 3) % (L : Int) := Int.emod_nonneg _ (by omega)
    have i4 : ((p : Int) * 7 + 3) % (L : Int) < (L : Int) := Int.emod_lt_of_pos _ hL0
    have t1 : ((p : Int) % (L : Int)).toNat = p % L := by rw [← Int.natCast_emod]; rfl
    have t2 : (((p : Int) * 7 + 3) % (L : Int)).toNat = (p * 7 + 3) % L := by
     rw [show ((p : Int) * 7 + 3) % (L : Int) = (((p * 7 + 3) % L : Nat) : Int) from by simp]; rfl
    go_enter Tryz.func27, Tryz.ntmps27
    go_wp2
    go_quiet (fail)
    clear e1 e2 e3 e4 e5 e6 e7 e8 e9 e10 e11 e12 e13 i1 i2 i3 i4 t1 t2 q0 q1 hm1 hm2
    generalize x * 131 + y * 1117 + (p : Int) * 29 + (p : Int) / (L : Int) * 53 = X at *
    have hX := HX.out; have hX2 := HX2.out
    clear HX HX2 hcx hcy hx1 hx2 hy1 hy2
    go_wp2
    go_ret
    refine ⟨_, rfl, ?_, fun h => ?_, by omega, Fin.out.1.drewN _, qe Fin.out.2 _⟩
    ·exact (tB (tG hX hX2) (by omega)).1
    ·exact (tB (tG hX hX2) (by omega)).2
def ye (w : World) (e : Ending) (w' : World) : Prop := e = .returned (.pointer (some ⟨w.heap.size, 0, none⟩)) ∧ Rdr w.heap.size w' w.heap.size 0 ∧ Below w.heap.size w w'
theorem tm {w : World} {A : Option Addr} {n c : Nat} {xs : List Int} (h : SlB du w.heap.size w (.slice A n c) xs) (hn : n = xs.length) (hx : ∀ x ∈ xs, 0 ≤ x ∧ x ≤ 255) (h2 : n ≤ 2000) :
  Rdr w.heap.size (w.alloc (.cells #[.slice A n c, .int .i64 0] 90)) w.heap.size 0 :=
 ⟨A, n, c, xs, heap_alloc_new _ _, hn.symm, Nat.le_refl _, h.below (zm.alloc (Nat.le_refl _) _) (Nat.le_refl _), hx, h2⟩
theorem yB (v : Value) (xs : List Int) (w : World) (h : SlB du w.heap.size w v xs) (hx : ∀ x ∈ xs, 0 ≤ x ∧ x ≤ 255) : Calls Tryz.prog 26 #[v] w (ye w) := by
 obtain ⟨A, c, rfl, a1, a2, a3⟩ := h.form
 by_cases hn : 2000 < xs.length
 ·have hs := h.take 2000 (by omega)
  have fin := tm hs (by simp; omega) (fun x hm => hx x (List.mem_of_mem_take hm)) (Nat.le_refl _)
  have Fin := hid fin
  clear fin hs hx
  have hc : (2000 : Int) ≤ (c : Int) := by omega
  go_enter Tryz.func26, Tryz.ntmps26
  go_wp2
  go_ret
  exact ⟨rfl, Fin.out, zm.alloc (Nat.le_refl _) _⟩
 ·have Fin := hid (tm h rfl hx (by omega))
  clear hx
  go_enter Tryz.func26, Tryz.ntmps26
  go_wp2
  go_ret
  exact ⟨rfl, Fin.out, zm.alloc (Nat.le_refl _) _⟩
end Go.Proofs.YtfaeojmndaplcaaGreatDoor
