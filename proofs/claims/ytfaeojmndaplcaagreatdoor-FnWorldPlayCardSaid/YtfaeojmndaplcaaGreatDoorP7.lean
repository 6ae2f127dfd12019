/- Texts that the last file leans on (part 7). -/
import Derived.Deep.DeepCutAuto
import Derived.Test.YtfaeojmndaplcaaGreatDoorP0
import Derived.Test.YtfaeojmndaplcaaGreatDoorP1
import Derived.Test.YtfaeojmndaplcaaGreatDoorP3
import Derived.Test.YtfaeojmndaplcaaGreatDoorP6
set_option linter.unusedVariables false
set_option linter.unusedSimpArgs false
set_option maxHeartbeats 4000000
set_option maxRecDepth 100000
namespace Go.Proofs.YtfaeojmndaplcaaGreatDoor
open Go Go.RowKit
theorem SlB.byte {B : Nat} {w : World} {A : Option Addr} {n c : Nat} {xs : List Int} (h : SlB fD B w (.slice A n c) xs) {i : Nat} {x : Int} (hx : xs[i]? = some x) :
  ∃ b o, A = some ⟨b, o, none⟩ ∧ b < B ∧ b < w.heap.size ∧ w.cell? ⟨b, o + i, none⟩ = some (.int .u8 x) := by
 obtain ⟨b, o, cs, G, h1, h2, h2', ⟨rfl, _⟩, _, h5⟩ := h.at_ hx
 exact ⟨b, o, h1, h2, h2', by simpa [fD, Ty.flat] using h5 0 _ rfl⟩
def Rdr (B : Nat) (w : World) (g p : Nat) : Prop :=
 ∃ A n c xs, w.heap[g]? = some (.cells #[.slice A n c, .int .i64 p] 90 (0, 0)) ∧ xs.length = n ∧ B ≤ g ∧ SlB fD B w (.slice A n c) xs ∧ (∀ x ∈ xs, 0 ≤ x ∧ x ≤ 255) ∧ n ≤ 2000
theorem Rdr.below {B n : Nat} {w w' : World} {g p : Nat} (h : Rdr B w g p) (hb : Below n w w') (hg : g < n) (hB : B ≤ n) : Rdr B w' g p := by
 obtain ⟨A, L, c, xs, h1, h2, h3, h4, h5, h6⟩ := h
 exact ⟨A, L, c, xs, (hb.block g hg).trans h1, h2, h3, h4.below hb hB, h5, h6⟩
theorem Rdr.lt {B : Nat} {w : World} {g p : Nat} (h : Rdr B w g p) : B ≤ g ∧ g < w.heap.size := by
 obtain ⟨A, L, c, xs, h1, h2, h3, h4, h5, h6⟩ := h
 exact ⟨h3, (aL h1)⟩
theorem Rdr.drewN {B : Nat} {w : World} {g p : Nat} (h : Rdr B w g p) (n : Nat) : Rdr B (w.drewN n) g p :=
 h.below (n := w.heap.size) (below_drewN ah n) h.lt.2 (Nat.le_trans h.lt.1 (Nat.le_of_lt h.lt.2))
def sw (B g p : Nat) (n : Int) (w : World) (e : Ending) (w' : World) : Prop :=
 ∃ m : Int, e = .returned (.int .i64 m) ∧ 0 ≤ m ∧ (1 ≤ n → m < n) ∧ (n < 1 → m = 0) ∧ Rdr B w' g (p + 1) ∧ w.grownBy w' (some g)
theorem aZ {n : Int} (h1 : -9223372036854775808 ≤ n) (h2 : n ≤ 9223372036854775807) : IntKind.i64.wrap n = n := IntWalk.i64_in _ ⟨h1, h2⟩
theorem pi {X : Int} (h : 0 ≤ X) (h2 : X ≤ 1000000000000) : 0 ≤ bits .xor .i64 X (X / 64) := by
 obtain ⟨a, rfl⟩ := Int.eq_ofNat_of_zero_le h
 have hx : a ^^^ (a / 64) < 2 ^ 40 := Nat.xor_lt_two_pow (by omega) (by omega)
 have h1 : (BitVec.ofInt 64 (a : Int)).toNat = a := by
  rw [BitVec.ofInt_natCast, BitVec.toNat_ofNat]; exact Nat.mod_eq_of_lt (by omega)
 have e : ((a : Int) / 64) = ((a / 64 : Nat) : Int) := by simp
 have h3 : (BitVec.ofInt 64 ((a / 64 : Nat) : Int)).toNat = a / 64 := by
  rw [BitVec.ofInt_natCast, BitVec.toNat_ofNat]; exact Nat.mod_eq_of_lt (by omega)
 rw [e]
 show 0 ≤ IntKind.i64.wrap ((BitVec.ofInt 64 (a : Int) ^^^ BitVec.ofInt 64 ((a / 64 : Nat) : Int)).toNat : Int)
 rw [BitVec.toNat_xor, h1, h3, aZ (by omega) (by omega)]
 omega
theorem pe {a n : Int} (h : 0 ≤ a) (hn : 1 ≤ n) : 0 ≤ a.tmod n ∧ a.tmod n < n := by
 rw [Int.tmod_eq_emod_of_nonneg h]
 exact ⟨Int.emod_nonneg _ (by omega), Int.emod_lt_of_pos _ (by omega)⟩
theorem ay (B : Nat) (w : World) (g p : Nat) (n : Int) (h : Rdr B w g p) (hp : p ≤ 1000000000) :
  Calls Tryz.prog 27 #[.pointer (some ⟨g, 0, none⟩), .int .i64 n] w (sw B g p n w) := by
 obtain ⟨A, L, c, xs, hh, hL, hBg, hs, hx, h2⟩ := h
 have hc0 : w.cell? ⟨g, 0, none⟩ = some (.slice A L c) := by rw [cell_of_row w g 0 _ _ _ hh]; rfl
 have hc1 : w.cell? ⟨g, 1, none⟩ = some (.int .i64 p) := by rw [cell_of_row w g 1 _ _ _ hh]; rfl
 have hf1 : w.frozen? ⟨g, 1, none⟩ = false := frozen_of_row w g 1 _ _ hh
 have hL := hid hL
 have Hh := hid hh; have Hx := hid hx; have Hs := hid hs
 clear hh hx hs
 have hne : ∀ b i, b < B → (w.setCell ⟨g, 1, none⟩ (.int .i64 (↑p + 1))).cell? ⟨b, i, none⟩ = w.cell? ⟨b, i, none⟩ := fun b i hb => World.cell?_setCell_other w _ _ _ (fun e => by injection e with e _ _; omega)
 have Hne := hid hne
 clear hne
 have fin : Rdr B (w.setCell ⟨g, 1, none⟩ (.int .i64 (↑p + 1))) g (p + 1) ∧ w.grownBy (w.setCell ⟨g, 1, none⟩ (.int .i64 (↑p + 1))) (some g) := by
  refine ⟨⟨A, L, c, xs, ?_, hL.out, hBg, ?_, Hx.out, h2⟩, pA (World.grownBy.refl _ _) _ _⟩
  ·rw [heap_setCell_same w g 1 _ _ _ Hh.out]; simp
  ·exact Hs.out.below ((Below.refl B w).setCell hBg _) (Nat.le_refl _)
 have Fin := hid fin
 clear fin
 by_cases hn : n < 1
 ·go_enter Tryz.func27, Tryz.ntmps27
  go_wp2
  go_ret
  exact ⟨0, rfl, by omega, by omega, fun _ => rfl, Fin.out.1, Fin.out.2⟩
 ·by_cases h0 : L = 0
  ·go_enter Tryz.func27, Tryz.ntmps27
   go_wp2
   go_ret
   exact ⟨0, rfl, by omega, by omega, fun _ => rfl, Fin.out.1, Fin.out.2⟩
  ·by_cases hk : p < L
   ·obtain ⟨x, hx⟩ := ak (xs := xs) (k := p) (by rw [hL.out]; exact hk)
    obtain ⟨b, o, rfl, hb, _, hcx⟩ := Hs.out.byte hx
    rw [← Hne.out b _ hb] at hcx
    have hx0 := Hx.out x (List.mem_of_getElem? hx)
    clear hx
    have hx1 := hx0.1
    have hx2 := hx0.2
    clear hx0
    go_enter Tryz.func27, Tryz.ntmps27
    go_wp2
    go_ret
    exact ⟨_, rfl, Int.emod_nonneg _ (by omega), fun _ => Int.emod_lt_of_pos _ (by omega), by omega, Fin.out.1, Fin.out.2⟩
   ·have hm1 : p % L < L := Nat.mod_lt _ (by omega)
    have hm2 : (p * 7 + 3) % L < L := Nat.mod_lt _ (by omega)
    obtain ⟨x, hx⟩ := ak (xs := xs) (k := p % L) (by rw [hL.out]; exact hm1)
    obtain ⟨y, hy⟩ := ak (xs := xs) (k := (p * 7 + 3) % L) (by rw [hL.out]; exact hm2)
    obtain ⟨b, o, rfl, hb, _, hcx⟩ := Hs.out.byte hx
    obtain ⟨b', o', e, hb', _, hcy⟩ := Hs.out.byte hy
    injection e with e; injection e with e1 e2; subst e1 e2
    rw [← Hne.out b _ hb] at hcx hcy
    have hx0 := Hx.out x (List.mem_of_getElem? hx)
    have hy0 := Hx.out y (List.mem_of_getElem? hy)
    clear hx hy
    have hx1 := hx0.1; have hx2 := hx0.2; have hy1 := hy0.1; have hy2 := hy0.2
    clear hx0 hy0
    have hL0 : (0 : Int) < (L : Int) := by omega
    have q0 : 0 ≤ (p : Int) / (L : Int) := Int.ediv_nonneg (by omega) (by omega)
    have q1 : (p : Int) / (L : Int) ≤ 1000000000 := Int.le_trans (Int.ediv_le_self _ (by omega)) (by omega)
    have e1 : (p : Int).tmod (L : Int) = (p : Int) % (L : Int) := Int.tmod_eq_emod_of_nonneg (by omega)
    have e2 : IntKind.i64.wrap ((p : Int) * 7) = (p : Int) * 7 := aZ (by omega) (by omega)
    have e3 : IntKind.i64.wrap ((p : Int) * 7 + 3) = (p : Int) * 7 + 3 := aZ (by omega) (by omega)
    have e4 : ((p : Int) * 7 + 3).tmod (L : Int) = ((p : Int) * 7 + 3) % (L : Int) := Int.tmod_eq_emod_of_nonneg (by omega)
    have e5 : IntKind.i64.wrap (x * 131) = x * 131 := aZ (by omega) (by omega)
    have e6 : IntKind.i64.wrap (y * 1117) = y * 1117 := aZ (by omega) (by omega)
    have e7 : IntKind.i64.wrap (x * 131 + y * 1117) = x * 131 + y * 1117 := aZ (by omega) (by omega)
    have e8 : IntKind.i64.wrap ((p : Int) * 29) = (p : Int) * 29 := aZ (by omega) (by omega)
    have e9 : IntKind.i64.wrap (x * 131 + y * 1117 + (p : Int) * 29) = x * 131 + y * 1117 + (p : Int) * 29 := aZ (by omega) (by omega)
    have e10 : (p : Int).tdiv (L : Int) = (p : Int) / (L : Int) := Int.tdiv_eq_ediv_of_nonneg (by omega)
    have e13 : IntKind.i64.wrap ((p : Int) / (L : Int)) = (p : Int) / (L : Int) := aZ (by omega) (by omega)
    have e11 : IntKind.i64.wrap ((p : Int) / (L : Int) * 53) = (p : Int) / (L : Int) * 53 := aZ (by omega) (by omega)
    have e12 : IntKind.i64.wrap (x * 131 + y * 1117 + (p : Int) * 29 + (p : Int) / (L : Int) * 53) = x * 131 + y * 1117 + (p : Int) * 29 + (p : Int) / (L : Int) * 53 := aZ (by omega) (by omega)
    have hX : 0 ≤ x * 131 + y * 1117 + (p : Int) * 29 + (p : Int) / (L : Int) * 53 := by omega
    have hX2 : x * 131 + y * 1117 + (p : Int) * 29 + (p : Int) / (L : Int) * 53 ≤ 1000000000000 := by omega
    have HX := hid hX; have HX2 := hid hX2
    clear hX hX2
    have i1 : (0 : Int) ≤ (p : Int) % (L : Int) := Int.emod_nonneg _ (by omega)
    have i2 : (p : Int) % (L : Int) < (L : Int) := Int.emod_lt_of_pos _ hL0
    have i3 : (0 : Int) ≤ ((p : Int) * 7 + 3) % (L : Int) := Int.emod_nonneg _ (by omega)
    have i4 : ((p : Int) * 7 + 3) % (L : Int) < (L : Int) := Int.emod_lt_of_pos _ hL0
    have t1 : ((p : Int) % (L : Int)).toNat = p % L := by rw [← Int.natCast_emod]; rfl
    have t2 : (((p : Int) * 7 + 3) % (L : Int)).toNat = (p * 7 + 3) % L := by
     rw [show ((p : Int) * 7 + 3) % (L : Int) = (((p * 7 + 3) % L : Nat) : Int) from by simp]; rfl
    go_enter Tryz.func27, Tryz.ntmps27
    go_wp2
    go_quiet (fail)
    clear e1 e2 e3 e4 e5 e6 e7 e8 e9 e10 e11 e12 e13 i1 i2 i3 i4 t1 t2 q0 q1 hm1 hm2
    generalize x * 131 + y * 1117 + (p : Int) * 29 + (p : Int) / (L : Int) * 53 = X at *
    have hX := HX.out; have hX2 := HX2.out
    clear HX HX2 hcx hcy hx1 hx2 hy1 hy2
    go_wp2
    go_ret
    refine ⟨_, rfl, ?_, fun h => ?_, by omega, Fin.out.1.drewN _, l7 Fin.out.2 _⟩
    ·exact (pe (pi hX hX2) (by omega)).1
    ·exact (pe (pi hX hX2) (by omega)).2
def su (w : World) (e : Ending) (w' : World) : Prop := e = .returned (.pointer (some ⟨w.heap.size, 0, none⟩)) ∧ Rdr w.heap.size w' w.heap.size 0 ∧ Below w.heap.size w w'
theorem oW {w : World} {A : Option Addr} {n c : Nat} {xs : List Int} (h : SlB fD w.heap.size w (.slice A n c) xs) (hn : n = xs.length) (hx : ∀ x ∈ xs, 0 ≤ x ∧ x ≤ 255) (h2 : n ≤ 2000) :
  Rdr w.heap.size (w.alloc (.cells #[.slice A n c, .int .i64 0] 90)) w.heap.size 0 :=
 ⟨A, n, c, xs, heap_alloc_new _ _, hn.symm, Nat.le_refl _, h.below (ah.alloc (Nat.le_refl _) _) (Nat.le_refl _), hx, h2⟩
theorem qM (v : Value) (xs : List Int) (w : World) (h : SlB fD w.heap.size w v xs) (hx : ∀ x ∈ xs, 0 ≤ x ∧ x ≤ 255) : Calls Tryz.prog 26 #[v] w (su w) := by
 obtain ⟨A, c, rfl, a1, a2, a3⟩ := h.form
 by_cases hn : 2000 < xs.length
 ·have hs := h.take 2000 (by omega)
  have fin := oW hs (by simp; omega) (fun x hm => hx x (List.mem_of_mem_take hm)) (Nat.le_refl _)
  have Fin := hid fin
  clear fin hs hx
  have hc : (2000 : Int) ≤ (c : Int) := by omega
  go_enter Tryz.func26, Tryz.ntmps26
  go_wp2
  go_ret
  exact ⟨rfl, Fin.out, ah.alloc (Nat.le_refl _) _⟩
 ·have Fin := hid (oW h rfl hx (by omega))
  clear hx
  go_enter Tryz.func26, Tryz.ntmps26
  go_wp2
  go_ret
  exact ⟨rfl, Fin.out, ah.alloc (Nat.le_refl _) _⟩
def tEv : Ty Ev := Ty.flat 4 (fun e => [.int .i64 e.kind, .int .i64 e.a, .int .i64 e.b, .int .i64 e.c]) (fun _ => rfl) (fun _ u hu => by simp at hu; rcases hu with rfl | rfl | rfl | rfl <;> rfl)
theorem SlB.ev {B n c : Nat} {w : World} {A : Option Addr} {xs : List Ev} (h : SlB tEv B w (.slice A n c) xs) {i : Nat} {x : Ev} (hx : xs[i]? = some x) :
  ∃ b o, A = some ⟨b, o, none⟩ ∧ b < B ∧ b < w.heap.size ∧ w.cell? ⟨b, o + i * 4, none⟩ = some (.int .i64 x.kind) ∧ w.cell? ⟨b, o + i * 4 + 1, none⟩ = some (.int .i64 x.a) ∧ w.cell? ⟨b, o + i * 4 + 2, none⟩ = some (.int .i64 x.b) ∧ w.cell? ⟨b, o + i * 4 + 3, none⟩ = some (.int .i64 x.c) := by
 obtain ⟨b, o, cs, G, h1, h2, h2', ⟨rfl, _⟩, _, h5⟩ := h.at_ hx
 exact ⟨b, o, h1, h2, h2', h5 0 _ rfl, h5 1 _ rfl, h5 2 _ rfl, h5 3 _ rfl⟩
def ti (B g p : Nat) (w : World) (e : Ending) (w' : World) : Prop :=
 ∃ (ev : Ev) (q : Nat), e = .returned (.agg #[.int .i64 ev.kind, .int .i64 ev.a, .int .i64 ev.b, .int .i64 ev.c]) ∧ q ≤ p + 8 ∧ Rdr B w' g q ∧ Tch [g] w w'
def aG (B g q : Nat) (w wx : World) (n : Nat) : Prop :=
 ∃ kd a b c : Int, wx.heap[n]? = some (.cells #[.int .i64 kd, .int .i64 a, .int .i64 b, .int .i64 c] 38 (0, 0)) ∧ Rdr B wx g q ∧ Tch [g] w wx ∧
  wx.heap[w.heap.size + 1]? = some (.cells #[.int .i64 0, .int .i64 0, .int .i64 0, .int .i64 0] 38 (0, 0)) ∧ w.heap.size + 2 ≤ n ∧ g < w.heap.size
section
variable {B g q n : Nat} {w wx w1 : World}
theorem aG.rdr (h : aG B g q w wx n) : Rdr B wx g q := by obtain ⟨_, _, _, _, _, h, _⟩ := h; exact h
theorem aG.pick (h : aG B g q w wx n) (hr : Rdr B w1 g (q + 1)) (hg : wx.grownBy w1 (some g)) : aG B g (q + 1) w w1 n := by
 obtain ⟨kd, a, b, c, h1, _, h3, h4, h5, h6⟩ := h
 exact ⟨kd, a, b, c, au hg h1 (by simp; omega), hr, h3.grow hg (fun k hk _ => by injection hk with hk; subst hk; exact List.mem_cons_self), au hg h4 (by simp; omega), h5, h6⟩
theorem aG.put (h : aG B g q w wx n) (i : Nat) (u : Int) (hi : i < 4) : aG B g q w (wx.setCell ⟨n, i, none⟩ (.int .i64 u)) n := by
 obtain ⟨kd, a, b, c, h1, h2, h3, h4, h5, h6⟩ := h
 have hr : Rdr B (wx.setCell ⟨n, i, none⟩ (.int .i64 u)) g q := h2.below (n := w.heap.size) (ah.setCell (by dsimp only; omega) _) h6 (Nat.le_trans h2.lt.1 (Nat.le_of_lt h6))
 have hT : Tch [g] w (wx.setCell ⟨n, i, none⟩ (.int .i64 u)) := h3.setCell (p := ⟨n, i, none⟩) (.inr (by dsimp only; omega)) _
 have hz := (Below.heap_setCell wx ⟨n, i, none⟩ (.int .i64 u) (w.heap.size + 1) (by dsimp only; omega)).trans h4
 have h1' := aB i (.int .i64 u) h1
 rcases i with _ | _ | _ | _ | i
 ·exact ⟨u, a, b, c, h1', hr, hT, hz, h5, h6⟩
 ·exact ⟨kd, u, b, c, h1', hr, hT, hz, h5, h6⟩
 ·exact ⟨kd, a, u, c, h1', hr, hT, hz, h5, h6⟩
 ·exact ⟨kd, a, b, u, h1', hr, hT, hz, h5, h6⟩
 ·omega
theorem aG.p1 (h : aG B g q w wx n) {u : Int} : aG B g q w (wx.setCell ⟨n, 0, none⟩ (.int .i64 u)) n := h.put 0 u (by decide)
theorem aG.p2 (h : aG B g q w wx n) {u v : Int} : aG B g q w ((wx.setCell ⟨n, 0, none⟩ (.int .i64 u)).setCell ⟨n, 1, none⟩ (.int .i64 v)) n := h.p1.put 1 v (by decide)
theorem aG.p4 (h : aG B g q w wx n) {u v x y : Int} : aG B g q w ((((wx.setCell ⟨n, 0, none⟩ (.int .i64 u)).setCell ⟨n, 1, none⟩ (.int .i64 v)).setCell ⟨n, 2, none⟩ (.int .i64 x)).setCell ⟨n, 3, none⟩ (.int .i64 y)) n := (h.p2.put 2 x (by decide)).put 3 y (by decide)
theorem aG.p3 (h : aG B g q w wx n) {u : Int} : aG B g q w (wx.setCell ⟨n, 2, none⟩ (.int .i64 u)) n := h.put 2 u (by decide)
theorem aG.cells (h : aG B g q w wx n) : ∃ kd a b c : Int, wx.cell? ⟨n, 0, none⟩ = some (.int .i64 kd) ∧ wx.cell? ⟨n, 1, none⟩ = some (.int .i64 a) ∧ wx.cell? ⟨n, 2, none⟩ = some (.int .i64 b) ∧ wx.cell? ⟨n, 3, none⟩ = some (.int .i64 c) ∧
  wx.frozen? ⟨n, 0, none⟩ = false ∧ wx.frozen? ⟨n, 1, none⟩ = false ∧ wx.frozen? ⟨n, 2, none⟩ = false ∧ wx.frozen? ⟨n, 3, none⟩ = false ∧ n < wx.heap.size := by
 obtain ⟨kd, a, b, c, h1, _⟩ := h
 obtain ⟨v0, v1, v2, v3, vf⟩ := aN h1
 exact ⟨kd, a, b, c, v0, v1, v2, v3, vf 0, vf 1, vf 2, vf 3, (aL h1)⟩
end
theorem aG.res {B g q n : Nat} {w wx : World} (h : aG B g q w wx n) (u0 u1 u2 u3 : Value) :
  Rdr B ((((wx.setCell ⟨w.heap.size + 1, 0, none⟩ u0).setCell ⟨w.heap.size + 1, 1, none⟩ u1).setCell ⟨w.heap.size + 1, 2, none⟩ u2).setCell ⟨w.heap.size + 1, 3, none⟩ u3) g q ∧
  Tch [g] w ((((wx.setCell ⟨w.heap.size + 1, 0, none⟩ u0).setCell ⟨w.heap.size + 1, 1, none⟩ u1).setCell ⟨w.heap.size + 1, 2, none⟩ u2).setCell ⟨w.heap.size + 1, 3, none⟩ u3) := by
 obtain ⟨kd, a, b, c, h1, h2, h3, h4, h5, h6⟩ := h
 refine ⟨h2.below (n := w.heap.size) ?_ h6 (Nat.le_trans h2.lt.1 (Nat.le_of_lt h6)), ?_⟩
 ·repeat (refine Below.setCell ?_ (by dsimp only; omega) _)
  exact ah
 ·repeat (refine Tch.setCell ?_ (.inr (by dsimp only; omega)) _)
  exact h3
theorem aG.zero {B g q n : Nat} {w wx : World} (h : aG B g q w wx n) : wx.cell? ⟨w.heap.size + 1, 0, none⟩ = some (.int .i64 0) ∧ wx.cell? ⟨w.heap.size + 1, 1, none⟩ = some (.int .i64 0) ∧ wx.cell? ⟨w.heap.size + 1, 2, none⟩ = some (.int .i64 0) ∧ wx.cell? ⟨w.heap.size + 1, 3, none⟩ = some (.int .i64 0) ∧
  wx.frozen? ⟨w.heap.size + 1, 0, none⟩ = false ∧ wx.frozen? ⟨w.heap.size + 1, 1, none⟩ = false ∧ wx.frozen? ⟨w.heap.size + 1, 2, none⟩ = false ∧ wx.frozen? ⟨w.heap.size + 1, 3, none⟩ = false ∧ w.heap.size + 1 < wx.heap.size ∧ w.heap.size + 2 ≤ n := by
 obtain ⟨kd, a, b, c, h1, h2, h3, h4, h5, h6⟩ := h
 obtain ⟨v0, v1, v2, v3, vf⟩ := aN h4
 exact ⟨v0, v1, v2, v3, vf 0, vf 1, vf 2, vf 3, (aL h4), h5⟩
theorem fY (B : Nat) (x : Wd) (v : Value) (w : World) (g p : Nat) (h : Rdr B w g p) (hp : p ≤ 1000000) (hv : ∃ A1 c1 A2 c2 A3 c3 A4 c4, v = .agg #[.slice A1 x.mixes.length c1, .slice A2 x.sent.length c2, .slice A3 x.net.length c3, .slice A4 x.got.length c4, .int .i64 x.made, .int .i64 x.lost]) :
  Calls Tryz.prog 39 #[.pointer (some ⟨g, 0, none⟩), v] w (ti B g p w) := by
 obtain ⟨A1, c1, A2, c2, A3, c3, A4, c4, rfl⟩ := hv
 obtain ⟨hBg, hgw⟩ := h.lt
 go_enter Tryz.func39, Tryz.ntmps39
 go_upto_region 1 with fail
 generalize hgw' : World.alloc (World.alloc w _) _ = W0
 obtain ⟨e0, ez, hb, sW⟩ := iB hgw'
 have hr := h.below hb hgw (Nat.le_trans hBg (Nat.le_of_lt hgw))
 have hT : Tch [g] w W0 := ⟨hb.os, hb.tape, hb.output, hb.size, fun b hb' _ => hb.block b hb'⟩
 obtain ⟨k0, k1, k2, k3, k4, k5, _⟩ := az e0
 clear hgw' hb e0
 go_cut [5] (fun s5 wx => ∃ n, s5 = .pointer (some ⟨n, 0, none⟩) ∧ aG B g (p + 1) w wx n)
 case first =>
  go_wp2_with fail
  all_goals
   refine (ay B _ g _ _ hr (by omega)).mono ?_
   rintro e w1 ⟨m, rfl, m0, m1, m2, hr, hg⟩
   replace hT := hT.grow hg (fun k hk _ => by injection hk with hk; subst hk; exact List.mem_cons_self)
   replace ez := au hg ez (by simp; omega)
   have s1 := hT.size
   have s2 := hg.size
   clear k0 k1 k2 k3 k4 k5 m1 m2 hg
   go_wp2_with fail
   go_meet
   have hb := ab w1 (.cells #[.int .i64 0, .int .i64 m, .int .i64 0, .int .i64 0] 38)
   exact ⟨_, rfl, 0, m, 0, 0, heap_alloc_new _ _, hr.below hb (by omega) (by omega), hT.trans (Tch.of hb), ac hb ez, by omega, hgw⟩
 case rest =>
  obtain ⟨n, rfl, hbx⟩ := hcut
  go_upto_region 2 with fail
  go_cut [14] (fun s14 wx => ∃ m : Int, s14 = .int .i64 m ∧ 0 ≤ m ∧ m < 16 ∧ aG B g (p + 2) w wx n)
  case first =>
   go_wp2_with fail
   refine (ay B _ g _ _ hbx.rdr (by omega)).mono ?_
   rintro e w1 ⟨m, rfl, m0, m1, m2, hr, hg⟩
   have m1 := m1 (by omega)
   have Hbx := hid (hbx.pick hr hg)
   clear m2 hg hbx hr
   go_wp2_with fail
   go_meet
   exact ⟨m, rfl, m0, m1, Hbx.out⟩
  case rest =>
   obtain ⟨m, rfl, m0, m1, hbx⟩ := hcut
   rename_i hK
   refine hK _ _ ?_
   go_cut [5] (fun s5 wx => s5 = .pointer (some ⟨n, 0, none⟩) ∧ ∃ q, q ≤ p + 5 ∧ aG B g q w wx n)
   case first =>
    obtain ⟨kd, a, b, c, k0, k1, k2, k3, f0, f1, f2, f3, hnw⟩ := hbx.cells
    have Hbx := hid hbx
    clear hbx
    have hm : m = 0 ∨ m = 1 ∨ m = 2 ∨ m = 3 ∨ m = 4 ∨ m = 5 ∨ m = 6 ∨ m = 7 ∨ m = 8 ∨ m = 9 ∨ m = 10 ∨ m = 11 ∨ m = 12 ∨ m = 13 ∨ m = 14 ∨ m = 15 := by omega
    rcases hm with rfl | rfl | rfl | rfl | rfl | rfl | rfl | rfl | rfl | rfl | rfl | rfl | rfl | rfl | rfl | rfl
    ·go_wp2_with fail
     (refine (ay B _ g _ _ (aG.rdr (by with_reducible first | exact Hbx.out | exact Hbx.out.p1 | exact Hbx.out.p4 | exact Hbx.out.p3)) (by omega)).mono ?_; rintro e w1 ⟨x1, rfl, x10, mm1, mm2, hr, hg⟩; have x11 := mm1 (by omega); have hbx := hid (aG.pick (by with_reducible first | exact Hbx.out | exact Hbx.out.p1 | exact Hbx.out.p4 | exact Hbx.out.p3) hr hg); clear Hbx k0 k1 k2 k3 f0 f1 f2 f3 hnw hr hg mm1 mm2; have Hbx := hbx; clear hbx; obtain ⟨kd, a, b, c, k0, k1, k2, k3, f0, f1, f2, f3, hnw⟩ := Hbx.out.cells)
     go_wp2_with fail
     (refine (ay B _ g _ _ (aG.rdr (by with_reducible first | exact Hbx.out | exact Hbx.out.p1 | exact Hbx.out.p4 | exact Hbx.out.p3)) (by omega)).mono ?_; rintro e w1 ⟨x2, rfl, x20, mm1, mm2, hr, hg⟩; have x21 := mm1 (by omega); have hbx := hid (aG.pick (by with_reducible first | exact Hbx.out | exact Hbx.out.p1 | exact Hbx.out.p4 | exact Hbx.out.p3) hr hg); clear Hbx k0 k1 k2 k3 f0 f1 f2 f3 hnw hr hg mm1 mm2; have Hbx := hbx; clear hbx; obtain ⟨kd, a, b, c, k0, k1, k2, k3, f0, f1, f2, f3, hnw⟩ := Hbx.out.cells)
     go_wp2_with fail
     (refine (ay B _ g _ _ (aG.rdr (by with_reducible first | exact Hbx.out | exact Hbx.out.p1 | exact Hbx.out.p4 | exact Hbx.out.p3)) (by omega)).mono ?_; rintro e w1 ⟨x3, rfl, x30, mm1, mm2, hr, hg⟩; have x31 := mm1 (by omega); have hbx := hid (aG.pick (by with_reducible first | exact Hbx.out | exact Hbx.out.p1 | exact Hbx.out.p4 | exact Hbx.out.p3) hr hg); clear Hbx k0 k1 k2 k3 f0 f1 f2 f3 hnw hr hg mm1 mm2; have Hbx := hbx; clear hbx; obtain ⟨kd, a, b, c, k0, k1, k2, k3, f0, f1, f2, f3, hnw⟩ := Hbx.out.cells)
     go_wp2_with fail
     (go_meet; refine ⟨rfl, _, ?_, (by with_reducible first | exact Hbx.out | exact Hbx.out.p1 | exact Hbx.out.p4 | exact Hbx.out.p3)⟩; omega)
    ·go_wp2_with fail
     (refine (ay B _ g _ _ (aG.rdr (by with_reducible first | exact Hbx.out | exact Hbx.out.p1 | exact Hbx.out.p4 | exact Hbx.out.p3)) (by omega)).mono ?_; rintro e w1 ⟨x1, rfl, x10, mm1, mm2, hr, hg⟩; have x11 := mm1 (by omega); have hbx := hid (aG.pick (by with_reducible first | exact Hbx.out | exact Hbx.out.p1 | exact Hbx.out.p4 | exact Hbx.out.p3) hr hg); clear Hbx k0 k1 k2 k3 f0 f1 f2 f3 hnw hr hg mm1 mm2; have Hbx := hbx; clear hbx; obtain ⟨kd, a, b, c, k0, k1, k2, k3, f0, f1, f2, f3, hnw⟩ := Hbx.out.cells)
     go_wp2_with fail
     (refine (ay B _ g _ _ (aG.rdr (by with_reducible first | exact Hbx.out | exact Hbx.out.p1 | exact Hbx.out.p4 | exact Hbx.out.p3)) (by omega)).mono ?_; rintro e w1 ⟨x2, rfl, x20, mm1, mm2, hr, hg⟩; have x21 := mm1 (by omega); have hbx := hid (aG.pick (by with_reducible first | exact Hbx.out | exact Hbx.out.p1 | exact Hbx.out.p4 | exact Hbx.out.p3) hr hg); clear Hbx k0 k1 k2 k3 f0 f1 f2 f3 hnw hr hg mm1 mm2; have Hbx := hbx; clear hbx; obtain ⟨kd, a, b, c, k0, k1, k2, k3, f0, f1, f2, f3, hnw⟩ := Hbx.out.cells)
     go_wp2_with fail
     (refine (ay B _ g _ _ (aG.rdr (by with_reducible first | exact Hbx.out | exact Hbx.out.p1 | exact Hbx.out.p4 | exact Hbx.out.p3)) (by omega)).mono ?_; rintro e w1 ⟨x3, rfl, x30, mm1, mm2, hr, hg⟩; have x31 := mm1 (by omega); have hbx := hid (aG.pick (by with_reducible first | exact Hbx.out | exact Hbx.out.p1 | exact Hbx.out.p4 | exact Hbx.out.p3) hr hg); clear Hbx k0 k1 k2 k3 f0 f1 f2 f3 hnw hr hg mm1 mm2; have Hbx := hbx; clear hbx; obtain ⟨kd, a, b, c, k0, k1, k2, k3, f0, f1, f2, f3, hnw⟩ := Hbx.out.cells)
     go_wp2_with fail
     (go_meet; refine ⟨rfl, _, ?_, (by with_reducible first | exact Hbx.out | exact Hbx.out.p1 | exact Hbx.out.p4 | exact Hbx.out.p3)⟩; omega)
    ·go_wp2_with fail
     (refine (ay B _ g _ _ (aG.rdr (by with_reducible first | exact Hbx.out | exact Hbx.out.p1 | exact Hbx.out.p4 | exact Hbx.out.p3)) (by omega)).mono ?_; rintro e w1 ⟨x1, rfl, x10, mm1, mm2, hr, hg⟩; have x11 := mm1 (by omega); have hbx := hid (aG.pick (by with_reducible first | exact Hbx.out | exact Hbx.out.p1 | exact Hbx.out.p4 | exact Hbx.out.p3) hr hg); clear Hbx k0 k1 k2 k3 f0 f1 f2 f3 hnw hr hg mm1 mm2; have Hbx := hbx; clear hbx; obtain ⟨kd, a, b, c, k0, k1, k2, k3, f0, f1, f2, f3, hnw⟩ := Hbx.out.cells)
     go_wp2_with fail
     (refine (ay B _ g _ _ (aG.rdr (by with_reducible first | exact Hbx.out | exact Hbx.out.p1 | exact Hbx.out.p4 | exact Hbx.out.p3)) (by omega)).mono ?_; rintro e w1 ⟨x2, rfl, x20, mm1, mm2, hr, hg⟩; have x21 := mm1 (by omega); have hbx := hid (aG.pick (by with_reducible first | exact Hbx.out | exact Hbx.out.p1 | exact Hbx.out.p4 | exact Hbx.out.p3) hr hg); clear Hbx k0 k1 k2 k3 f0 f1 f2 f3 hnw hr hg mm1 mm2; have Hbx := hbx; clear hbx; obtain ⟨kd, a, b, c, k0, k1, k2, k3, f0, f1, f2, f3, hnw⟩ := Hbx.out.cells)
     go_wp2_with fail
     (refine (ay B _ g _ _ (aG.rdr (by with_reducible first | exact Hbx.out | exact Hbx.out.p1 | exact Hbx.out.p4 | exact Hbx.out.p3)) (by omega)).mono ?_; rintro e w1 ⟨x3, rfl, x30, mm1, mm2, hr, hg⟩; have x31 := mm1 (by omega); have hbx := hid (aG.pick (by with_reducible first | exact Hbx.out | exact Hbx.out.p1 | exact Hbx.out.p4 | exact Hbx.out.p3) hr hg); clear Hbx k0 k1 k2 k3 f0 f1 f2 f3 hnw hr hg mm1 mm2; have Hbx := hbx; clear hbx; obtain ⟨kd, a, b, c, k0, k1, k2, k3, f0, f1, f2, f3, hnw⟩ := Hbx.out.cells)
     go_wp2_with fail
     (go_meet; refine ⟨rfl, _, ?_, (by with_reducible first | exact Hbx.out | exact Hbx.out.p1 | exact Hbx.out.p4 | exact Hbx.out.p3)⟩; omega)
    ·go_wp2_with fail
     (refine (ay B _ g _ _ (aG.rdr (by with_reducible first | exact Hbx.out | exact Hbx.out.p1 | exact Hbx.out.p4 | exact Hbx.out.p3)) (by omega)).mono ?_; rintro e w1 ⟨x1, rfl, x10, mm1, mm2, hr, hg⟩; have x11 := mm1 (by omega); have hbx := hid (aG.pick (by with_reducible first | exact Hbx.out | exact Hbx.out.p1 | exact Hbx.out.p4 | exact Hbx.out.p3) hr hg); clear Hbx k0 k1 k2 k3 f0 f1 f2 f3 hnw hr hg mm1 mm2; have Hbx := hbx; clear hbx; obtain ⟨kd, a, b, c, k0, k1, k2, k3, f0, f1, f2, f3, hnw⟩ := Hbx.out.cells)
     go_wp2_with fail
     (refine (ay B _ g _ _ (aG.rdr (by with_reducible first | exact Hbx.out | exact Hbx.out.p1 | exact Hbx.out.p4 | exact Hbx.out.p3)) (by omega)).mono ?_; rintro e w1 ⟨x2, rfl, x20, mm1, mm2, hr, hg⟩; have x21 := mm1 (by omega); have hbx := hid (aG.pick (by with_reducible first | exact Hbx.out | exact Hbx.out.p1 | exact Hbx.out.p4 | exact Hbx.out.p3) hr hg); clear Hbx k0 k1 k2 k3 f0 f1 f2 f3 hnw hr hg mm1 mm2; have Hbx := hbx; clear hbx; obtain ⟨kd, a, b, c, k0, k1, k2, k3, f0, f1, f2, f3, hnw⟩ := Hbx.out.cells)
     go_wp2_with fail
     (refine (ay B _ g _ _ (aG.rdr (by with_reducible first | exact Hbx.out | exact Hbx.out.p1 | exact Hbx.out.p4 | exact Hbx.out.p3)) (by omega)).mono ?_; rintro e w1 ⟨x3, rfl, x30, mm1, mm2, hr, hg⟩; have x31 := mm1 (by omega); have hbx := hid (aG.pick (by with_reducible first | exact Hbx.out | exact Hbx.out.p1 | exact Hbx.out.p4 | exact Hbx.out.p3) hr hg); clear Hbx k0 k1 k2 k3 f0 f1 f2 f3 hnw hr hg mm1 mm2; have Hbx := hbx; clear hbx; obtain ⟨kd, a, b, c, k0, k1, k2, k3, f0, f1, f2, f3, hnw⟩ := Hbx.out.cells)
     go_wp2_with fail
     (go_meet; refine ⟨rfl, _, ?_, (by with_reducible first | exact Hbx.out | exact Hbx.out.p1 | exact Hbx.out.p4 | exact Hbx.out.p3)⟩; omega)
    ·go_wp2_with fail
     (go_meet; refine ⟨rfl, _, ?_, (by with_reducible first | exact Hbx.out | exact Hbx.out.p1 | exact Hbx.out.p4 | exact Hbx.out.p3)⟩; omega)
    ·go_wp2_with fail
     (go_meet; refine ⟨rfl, _, ?_, (by with_reducible first | exact Hbx.out | exact Hbx.out.p1 | exact Hbx.out.p4 | exact Hbx.out.p3)⟩; omega)
    ·go_wp2_with fail
     (go_meet; refine ⟨rfl, _, ?_, (by with_reducible first | exact Hbx.out | exact Hbx.out.p1 | exact Hbx.out.p4 | exact Hbx.out.p3)⟩; omega)
    ·go_wp2_with fail
     (go_meet; refine ⟨rfl, _, ?_, (by with_reducible first | exact Hbx.out | exact Hbx.out.p1 | exact Hbx.out.p4 | exact Hbx.out.p3)⟩; omega)
    ·go_wp2_with fail
     (go_meet; refine ⟨rfl, _, ?_, (by with_reducible first | exact Hbx.out | exact Hbx.out.p1 | exact Hbx.out.p4 | exact Hbx.out.p3)⟩; omega)
    ·go_wp2_with fail
     (refine (ay B _ g _ _ (aG.rdr (by with_reducible first | exact Hbx.out | exact Hbx.out.p1 | exact Hbx.out.p4 | exact Hbx.out.p3)) (by omega)).mono ?_; rintro e w1 ⟨x1, rfl, x10, mm1, mm2, hr, hg⟩; have x11 := mm1 (by omega); have hbx := hid (aG.pick (by with_reducible first | exact Hbx.out | exact Hbx.out.p1 | exact Hbx.out.p4 | exact Hbx.out.p3) hr hg); clear Hbx k0 k1 k2 k3 f0 f1 f2 f3 hnw hr hg mm1 mm2; have Hbx := hbx; clear hbx; obtain ⟨kd, a, b, c, k0, k1, k2, k3, f0, f1, f2, f3, hnw⟩ := Hbx.out.cells)
     by_cases hx : x1 = 0
     ·subst hx
      go_wp2_with fail
      (go_meet; refine ⟨rfl, _, ?_, (by with_reducible first | exact Hbx.out | exact Hbx.out.p1 | exact Hbx.out.p4 | exact Hbx.out.p3)⟩; omega)
     ·have hx : (x1 == 0) = false := by simpa using hx
      go_wp2_with fail
      (go_meet; refine ⟨rfl, _, ?_, (by with_reducible first | exact Hbx.out | exact Hbx.out.p1 | exact Hbx.out.p4 | exact Hbx.out.p3)⟩; omega)
    ·go_wp2_with fail
     (go_meet; refine ⟨rfl, _, ?_, (by with_reducible first | exact Hbx.out | exact Hbx.out.p1 | exact Hbx.out.p4 | exact Hbx.out.p3)⟩; omega)
    ·go_wp2_with fail
     (refine (ay B _ g _ _ (aG.rdr (by with_reducible first | exact Hbx.out | exact Hbx.out.p1 | exact Hbx.out.p4 | exact Hbx.out.p3)) (by omega)).mono ?_; rintro e w1 ⟨x1, rfl, x10, mm1, mm2, hr, hg⟩; have x11 := mm1 (by omega); have hbx := hid (aG.pick (by with_reducible first | exact Hbx.out | exact Hbx.out.p1 | exact Hbx.out.p4 | exact Hbx.out.p3) hr hg); clear Hbx k0 k1 k2 k3 f0 f1 f2 f3 hnw hr hg mm1 mm2; have Hbx := hbx; clear hbx; obtain ⟨kd, a, b, c, k0, k1, k2, k3, f0, f1, f2, f3, hnw⟩ := Hbx.out.cells)
     go_wp2_with fail
     (refine (ay B _ g _ _ (aG.rdr (by with_reducible first | exact Hbx.out | exact Hbx.out.p1 | exact Hbx.out.p4 | exact Hbx.out.p3)) (by omega)).mono ?_; rintro e w1 ⟨x2, rfl, x20, mm1, mm2, hr, hg⟩; have x21 := mm1 (by omega); have hbx := hid (aG.pick (by with_reducible first | exact Hbx.out | exact Hbx.out.p1 | exact Hbx.out.p4 | exact Hbx.out.p3) hr hg); clear Hbx k0 k1 k2 k3 f0 f1 f2 f3 hnw hr hg mm1 mm2; have Hbx := hbx; clear hbx; obtain ⟨kd, a, b, c, k0, k1, k2, k3, f0, f1, f2, f3, hnw⟩ := Hbx.out.cells)
     by_cases hx : x2 = 0
     ·subst hx
      go_wp2_with fail
      (go_meet; refine ⟨rfl, _, ?_, (by with_reducible first | exact Hbx.out | exact Hbx.out.p1 | exact Hbx.out.p4 | exact Hbx.out.p3)⟩; omega)
     ·have hx : (x2 == 0) = false := by simpa using hx
      go_wp2_with fail
      (go_meet; refine ⟨rfl, _, ?_, (by with_reducible first | exact Hbx.out | exact Hbx.out.p1 | exact Hbx.out.p4 | exact Hbx.out.p3)⟩; omega)
    ·go_wp2_with fail
     (refine (ay B _ g _ _ (aG.rdr (by with_reducible first | exact Hbx.out | exact Hbx.out.p1 | exact Hbx.out.p4 | exact Hbx.out.p3)) (by omega)).mono ?_; rintro e w1 ⟨x1, rfl, x10, mm1, mm2, hr, hg⟩; have x11 := mm1 (by omega); have hbx := hid (aG.pick (by with_reducible first | exact Hbx.out | exact Hbx.out.p1 | exact Hbx.out.p4 | exact Hbx.out.p3) hr hg); clear Hbx k0 k1 k2 k3 f0 f1 f2 f3 hnw hr hg mm1 mm2; have Hbx := hbx; clear hbx; obtain ⟨kd, a, b, c, k0, k1, k2, k3, f0, f1, f2, f3, hnw⟩ := Hbx.out.cells)
     go_wp2_with fail
     (go_meet; refine ⟨rfl, _, ?_, (by with_reducible first | exact Hbx.out | exact Hbx.out.p1 | exact Hbx.out.p4 | exact Hbx.out.p3)⟩; omega)
    ·go_wp2_with fail
     (refine (ay B _ g _ _ (aG.rdr (by with_reducible first | exact Hbx.out | exact Hbx.out.p1 | exact Hbx.out.p4 | exact Hbx.out.p3)) (by omega)).mono ?_; rintro e w1 ⟨x1, rfl, x10, mm1, mm2, hr, hg⟩; have x11 := mm1 (by omega); have hbx := hid (aG.pick (by with_reducible first | exact Hbx.out | exact Hbx.out.p1 | exact Hbx.out.p4 | exact Hbx.out.p3) hr hg); clear Hbx k0 k1 k2 k3 f0 f1 f2 f3 hnw hr hg mm1 mm2; have Hbx := hbx; clear hbx; obtain ⟨kd, a, b, c, k0, k1, k2, k3, f0, f1, f2, f3, hnw⟩ := Hbx.out.cells)
     go_wp2_with fail
     (go_meet; refine ⟨rfl, _, ?_, (by with_reducible first | exact Hbx.out | exact Hbx.out.p1 | exact Hbx.out.p4 | exact Hbx.out.p3)⟩; omega)
    ·go_wp2_with fail
     (refine (ay B _ g _ _ (aG.rdr (by with_reducible first | exact Hbx.out | exact Hbx.out.p1 | exact Hbx.out.p4 | exact Hbx.out.p3)) (by omega)).mono ?_; rintro e w1 ⟨x1, rfl, x10, mm1, mm2, hr, hg⟩; have x11 := mm1 (by omega); have hbx := hid (aG.pick (by with_reducible first | exact Hbx.out | exact Hbx.out.p1 | exact Hbx.out.p4 | exact Hbx.out.p3) hr hg); clear Hbx k0 k1 k2 k3 f0 f1 f2 f3 hnw hr hg mm1 mm2; have Hbx := hbx; clear hbx; obtain ⟨kd, a, b, c, k0, k1, k2, k3, f0, f1, f2, f3, hnw⟩ := Hbx.out.cells)
     go_wp2_with fail
     (go_meet; refine ⟨rfl, _, ?_, (by with_reducible first | exact Hbx.out | exact Hbx.out.p1 | exact Hbx.out.p4 | exact Hbx.out.p3)⟩; omega)
    ·go_wp2_with fail
     (refine (ay B _ g _ _ (aG.rdr (by with_reducible first | exact Hbx.out | exact Hbx.out.p1 | exact Hbx.out.p4 | exact Hbx.out.p3)) (by omega)).mono ?_; rintro e w1 ⟨x1, rfl, x10, mm1, mm2, hr, hg⟩; have x11 := mm1 (by omega); have hbx := hid (aG.pick (by with_reducible first | exact Hbx.out | exact Hbx.out.p1 | exact Hbx.out.p4 | exact Hbx.out.p3) hr hg); clear Hbx k0 k1 k2 k3 f0 f1 f2 f3 hnw hr hg mm1 mm2; have Hbx := hbx; clear hbx; obtain ⟨kd, a, b, c, k0, k1, k2, k3, f0, f1, f2, f3, hnw⟩ := Hbx.out.cells)
     go_wp2_with fail
     (go_meet; refine ⟨rfl, _, ?_, (by with_reducible first | exact Hbx.out | exact Hbx.out.p1 | exact Hbx.out.p4 | exact Hbx.out.p3)⟩; omega)
   case rest =>
    obtain ⟨rfl, q, hq, hbx⟩ := hcut
    obtain ⟨kd, a, b, c, k0, k1, k2, k3, f0, f1, f2, f3, hnw⟩ := hbx.cells
    have Hbx := hid hbx
    clear hbx
    go_wp2_with fail
    (refine (ay B _ g _ _ (aG.rdr (by with_reducible first | exact Hbx.out | exact Hbx.out.p1 | exact Hbx.out.p4 | exact Hbx.out.p3)) (by omega)).mono ?_; rintro e w1 ⟨x1, rfl, x10, mm1, mm2, hr, hg⟩; have x11 := mm1 (by omega); have hbx := hid (aG.pick (by with_reducible first | exact Hbx.out | exact Hbx.out.p1 | exact Hbx.out.p4 | exact Hbx.out.p3) hr hg); clear Hbx k0 k1 k2 k3 f0 f1 f2 f3 hnw hr hg mm1 mm2; have Hbx := hbx; clear hbx; obtain ⟨kd, a, b, c, k0, k1, k2, k3, f0, f1, f2, f3, hnw⟩ := Hbx.out.cells)
    have hx : x1 = 0 ∨ x1 = 1 ∨ x1 = 2 ∨ (x1 ≠ 0 ∧ x1 ≠ 1 ∧ x1 ≠ 2) := by omega
    obtain ⟨z0, z1, z2, z3, g0, g1, g2, g3, zw, zn⟩ := Hbx.out.zero
    rcases hx with rfl | rfl | rfl | ⟨h0, h1, h2⟩
    ·go_wp2_with fail
     clear z0 z1 z2 z3 g0 g1 g2 g3 zw
     (refine (ay B _ g _ _ (aG.rdr (by with_reducible first | exact Hbx.out | exact Hbx.out.p1 | exact Hbx.out.p4 | exact Hbx.out.p3)) (by omega)).mono ?_; rintro e w1 ⟨x2, rfl, x20, mm1, mm2, hr, hg⟩; have x21 := mm1 (by omega); have hbx := hid (aG.pick (by with_reducible first | exact Hbx.out | exact Hbx.out.p1 | exact Hbx.out.p4 | exact Hbx.out.p3) hr hg); clear Hbx k0 k1 k2 k3 f0 f1 f2 f3 hnw hr hg mm1 mm2; have Hbx := hbx; clear hbx; obtain ⟨kd, a, b, c, k0, k1, k2, k3, f0, f1, f2, f3, hnw⟩ := Hbx.out.cells)
     obtain ⟨z0, z1, z2, z3, g0, g1, g2, g3, zw, zn⟩ := Hbx.out.zero
     have e1 : IntKind.i64.wrap (x2 - 1) = x2 - 1 := aZ (by omega) (by omega)
     go_wp2_with fail
     have hp := Hbx.out.put 0 (x2 - 1) (by omega)
     obtain ⟨z0, z1, z2, z3, g0, g1, g2, g3, zw, zn⟩ := hp.zero
     have hF := hp.res (.int .i64 (x2 - 1)) (.int .i64 (a)) (.int .i64 (b)) (.int .i64 (c))
     refine bodyPost_ret (v := .agg #[.int .i64 (x2 - 1), .int .i64 (a), .int .i64 (b), .int .i64 (c)]) (by simp [results, Tryz.results39, go_sem, z0, z1, z2, z3]) rfl ⟨⟨x2 - 1, a, b, c⟩, _, rfl, ?_, hF.1, hF.2⟩
     omega
    ·go_wp2_with fail
     clear z0 z1 z2 z3 g0 g1 g2 g3 zw
     (refine (ay B _ g _ _ (aG.rdr (by with_reducible first | exact Hbx.out | exact Hbx.out.p1 | exact Hbx.out.p4 | exact Hbx.out.p3)) (by omega)).mono ?_; rintro e w1 ⟨x2, rfl, x20, mm1, mm2, hr, hg⟩; have x21 := mm1 (by omega); have hbx := hid (aG.pick (by with_reducible first | exact Hbx.out | exact Hbx.out.p1 | exact Hbx.out.p4 | exact Hbx.out.p3) hr hg); clear Hbx k0 k1 k2 k3 f0 f1 f2 f3 hnw hr hg mm1 mm2; have Hbx := hbx; clear hbx; obtain ⟨kd, a, b, c, k0, k1, k2, k3, f0, f1, f2, f3, hnw⟩ := Hbx.out.cells)
     obtain ⟨z0, z1, z2, z3, g0, g1, g2, g3, zw, zn⟩ := Hbx.out.zero
     have e1 : IntKind.i64.wrap (x2 - 2) = x2 - 2 := aZ (by omega) (by omega)
     go_wp2_with fail
     have hp := Hbx.out.put 1 (x2 - 2) (by omega)
     obtain ⟨z0, z1, z2, z3, g0, g1, g2, g3, zw, zn⟩ := hp.zero
     have hF := hp.res (.int .i64 (kd)) (.int .i64 (x2 - 2)) (.int .i64 (b)) (.int .i64 (c))
     refine bodyPost_ret (v := .agg #[.int .i64 (kd), .int .i64 (x2 - 2), .int .i64 (b), .int .i64 (c)]) (by simp [results, Tryz.results39, go_sem, z0, z1, z2, z3]) rfl ⟨⟨kd, x2 - 2, b, c⟩, _, rfl, ?_, hF.1, hF.2⟩
     omega
    ·go_wp2_with fail
     clear z0 z1 z2 z3 g0 g1 g2 g3 zw
     (refine (ay B _ g _ _ (aG.rdr (by with_reducible first | exact Hbx.out | exact Hbx.out.p1 | exact Hbx.out.p4 | exact Hbx.out.p3)) (by omega)).mono ?_; rintro e w1 ⟨x2, rfl, x20, mm1, mm2, hr, hg⟩; have x21 := mm1 (by omega); have hbx := hid (aG.pick (by with_reducible first | exact Hbx.out | exact Hbx.out.p1 | exact Hbx.out.p4 | exact Hbx.out.p3) hr hg); clear Hbx k0 k1 k2 k3 f0 f1 f2 f3 hnw hr hg mm1 mm2; have Hbx := hbx; clear hbx; obtain ⟨kd, a, b, c, k0, k1, k2, k3, f0, f1, f2, f3, hnw⟩ := Hbx.out.cells)
     obtain ⟨z0, z1, z2, z3, g0, g1, g2, g3, zw, zn⟩ := Hbx.out.zero
     have e1 : IntKind.i64.wrap (x2 - 1) = x2 - 1 := aZ (by omega) (by omega)
     go_wp2_with fail
     have hp := Hbx.out.put 2 (x2 - 1) (by omega)
     obtain ⟨z0, z1, z2, z3, g0, g1, g2, g3, zw, zn⟩ := hp.zero
     have hF := hp.res (.int .i64 (kd)) (.int .i64 (a)) (.int .i64 (x2 - 1)) (.int .i64 (c))
     refine bodyPost_ret (v := .agg #[.int .i64 (kd), .int .i64 (a), .int .i64 (x2 - 1), .int .i64 (c)]) (by simp [results, Tryz.results39, go_sem, z0, z1, z2, z3]) rfl ⟨⟨kd, a, x2 - 1, c⟩, _, rfl, ?_, hF.1, hF.2⟩
     omega
    ·have h0 : (x1 == 0) = false := by simpa using h0
     have h1 : (x1 == 1) = false := by simpa using h1
     have h2 : (x1 == 2) = false := by simpa using h2
     go_wp2_with fail
     have hF := Hbx.out.res (.int .i64 kd) (.int .i64 a) (.int .i64 b) (.int .i64 c)
     refine bodyPost_ret (v := .agg #[.int .i64 kd, .int .i64 a, .int .i64 b, .int .i64 c]) (by simp [results, Tryz.results39, go_sem, z0, z1, z2, z3]) rfl ⟨⟨kd, a, b, c⟩, _, rfl, ?_, hF.1, hF.2⟩
     omega
end Go.Proofs.YtfaeojmndaplcaaGreatDoor
