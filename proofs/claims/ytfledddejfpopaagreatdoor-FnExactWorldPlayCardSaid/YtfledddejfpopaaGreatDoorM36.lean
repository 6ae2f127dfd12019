/- Texts that the last file leans on (part 36). -/
import Derived.Test.YtfledddejfpopaaGreatDoorM11
import Derived.Test.YtfledddejfpopaaGreatDoorM31
import Derived.Test.YtfledddejfpopaaGreatDoorM4
import Derived.Test.YtfledddejfpopaaGreatDoorM5
set_option linter.unusedVariables false
set_option linter.unusedSimpArgs false
set_option maxHeartbeats 4000000
set_option maxRecDepth 100000
namespace Go.Proofs.YtfledddejfpopaaGreatDoor
open Go Go.RowKit
section
open Go.ChangeShapes Go.WideShapes Go.ChangeAt Go.Deep
theorem vM : cT Tryz.prog tEv.sl 22 (fun xs => ∀ x ∈ xs, True) := iU sg Tryz.underlying22 (by kernel_rfl) (by decide)
theorem vS (v : Value) (xs : List Ev) (l : Int) (w : World) (h : SlB tEv w.heap.size w v xs) (hl0 : 0 ≤ l) (hl1 : l ≤ 1048576) : Calls Tryz.prog 6 #[v, .int .i64 l] w (Szd (cd xs.length) l w) := by
 obtain ⟨A, c, rfl, a1, a2, a3⟩ := h.form
 clear a2
 by_cases hlt : l - (xs.length : Int) < 0
 ·go_enter Tryz.func6, Tryz.ntmps6
  go_wp2
  go_ret
  exact ⟨-1, rfl, .inl rfl, Below.refl _ _⟩
 ·go_enter Tryz.func6, Tryz.ntmps6
  go_wp2
  go_ret
  exact ⟨l - xs.length, rfl, .inr ⟨by omega, by omega, by unfold cd; omega⟩, Below.refl _ _⟩
def zEv : Array Value := #[.int .i64 0, .int .i64 0, .int .i64 0, .int .i64 0]
theorem wg : (Tryz.prog.info? 50).map (fun i => (i.zero, i.size, i.bytes)) = some (some (.agg #[.int .i64 0, .int .i64 0, .int .i64 0, .int .i64 0]), 4, 32) := by kernel_rfl
theorem toEventS_c (v : Value) (xs : List Ev) (w : World) (h : SlB tEv w.heap.size w v xs) (hb : cd xs.length) :
  Calls Tryz.prog 8 #[v] w fun e w' => ∃ v', e = .returned v' ∧ NewS tEv 50 w.heap.size w' v' xs ∧ Below w.heap.size w w' := by
 obtain ⟨i0, hi, hz0, hz1, hz2⟩ := info_parts wg
 obtain ⟨A, c, rfl, h1, h2, h3⟩ := h.form
 unfold cd at hb
 clear h2
 go_enter Tryz.func8, Tryz.ntmps8
 go_wp2_with
  (at_make; refine dV rfl _ _ 31 rfl tEv (B := w.heap.size) Tryz.underlying31 hi hz0 (zs := zEv) rfl hz1 xs.length rfl rfl rfl rfl (by rw [hz2]; omega) (by unfold maxLen; omega) (Nat.le_refl _) ?_; intro w1 ho1 hg1)
 go_loopw [4] (fun i wr => ∃ j : Nat, j ≤ xs.length ∧ i = .int .i64 j ∧ Fil tEv 50 w.heap.size zEv xs.length wr w.heap.size (xs.take j) ∧ Below w.heap.size w wr) (fun i _ => xs.length - (intOf i).toNat)
 case atStart => exact ⟨0, by omega, rfl, by simpa using ho1, (Below.refl _ _).grown hg1 (Nat.le_refl _) (by simp)⟩
 case round =>
  obtain ⟨j, hj, rfl, ho, hbw⟩ := hrel
  by_cases hlt : j < xs.length
  ·obtain ⟨x, hx⟩ := ah hlt
   obtain ⟨b, o, rfl, hbB, hbz, k0, k1, k2, k3⟩ := (h.go hbw).ev hx
   have Hx := hid hx
   have Ho := hid ho; have Hb := hid hbw
   clear hx ho hbw h ho1 hg1
   go_wp2_with fail
   refine (iO x _).mono ?_
   rintro e w2 ⟨rfl, hb2⟩
   have n2 : ao tEv wr.heap.size w2 _ x := qJ (f := fun s : Ev => [Value.int .i64 s.kind, .int .i64 s.a, .int .i64 s.b, .int .i64 s.c]) wr.heap.size w2 x
   have hlen : (xs.take j).length = j := by simp; omega
   have hgo := Ho.out.go hb2
   have fa := fun d u hu => hgo.at_ rfl (by rw [hlen]; exact hlt) d u hu
   rw [hlen] at fa
   have zf := fun d => hgo.frozen (j * 4 + d)
   have f0 : w2.cell? ⟨w.heap.size, j * 4, none⟩ = some (Value.int .i64 0) := fa 0 _ rfl; have z0 : w2.frozen? ⟨w.heap.size, j * 4, none⟩ = false := zf 0; have f1 : w2.cell? ⟨w.heap.size, j * 4 + 1, none⟩ = some (Value.int .i64 0) := fa 1 _ rfl; have z1 : w2.frozen? ⟨w.heap.size, j * 4 + 1, none⟩ = false := zf 1; have f2 : w2.cell? ⟨w.heap.size, j * 4 + 2, none⟩ = some (Value.int .i64 0) := fa 2 _ rfl; have z2 : w2.frozen? ⟨w.heap.size, j * 4 + 2, none⟩ = false := zf 2; have f3 : w2.cell? ⟨w.heap.size, j * 4 + 3, none⟩ = some (Value.int .i64 0) := fa 3 _ rfl; have z3 : w2.frozen? ⟨w.heap.size, j * 4 + 3, none⟩ = false := zf 3
   have R := hid (Ho.out.round (by rw [hlen]; exact hlt) hb2 n2)
   have Hb2 := hid (bt Hb.out hb2)
   clear hgo n2 hb2 Ho Hb hlen fa zf
   go_wp2
   go_roundw
   case rel => exact ⟨j + 1, by omega, by go_num, by rw [ax Hx.out]; have := R.out; rw [show (xs.take j).length = j from by simp; omega] at this; exact this, by
    have := dM Hb2.out w.heap.size (j * 4) [.int .i64 x.kind, .int .i64 x.a, .int .i64 x.b, .int .i64 x.c] (Nat.le_refl _)
    exact this⟩
   case measure => simp [intOf]; omega
  ·have Ho := hid ho; have Hb := hid hbw
   clear ho hbw
   have hjl : j = xs.length := by omega
   subst hjl
   go_wp2
   go_ret
   exact ⟨_, rfl, by simpa using Ho.out.done (by simp), Hb.out⟩
theorem vU (x : Ev) (w : World) : Calls Tryz.prog 29 #[.agg #[.int .i64 x.kind, .int .i64 x.a, .int .i64 x.b, .int .i64 x.c], .agg #[.int .i64 x.kind, .int .i64 x.a, .int .i64 x.b, .int .i64 x.c]] w (ok true w.heap.size w) := by
 have g1 : (x.kind != x.kind) = false := by simp
 have g2 : (x.a != x.a) = false := by simp
 have g3 : (x.b != x.b) = false := by simp
 have g4 : (x.c != x.c) = false := by simp
 go_enter Tryz.func29, Tryz.ntmps29
 go_wp2
 go_ret
 exact ⟨rfl, be⟩
theorem vP (v1 v2 : Value) (xs : List Ev) (w : World) (h1 : SlB tEv w.heap.size w v1 xs) (h2 : SlB tEv w.heap.size w v2 xs) : Calls Tryz.prog 11 #[v1, v2] w (ok true w.heap.size w) := by
 obtain ⟨A1, c1, rfl, a1, a2, a3⟩ := h1.form
 obtain ⟨A2, c2, rfl, b1, b2, b3⟩ := h2.form
 clear a2 b2
 go_enter Tryz.func11, Tryz.ntmps11
 go_wp2
 go_loopw [5] (fun i wr => ∃ k : Nat, k ≤ xs.length ∧ i = .int .i64 k ∧ Below w.heap.size w wr) (fun i _ => xs.length - (intOf i).toNat)
 case atStart => exact ⟨0, by omega, rfl, Below.refl _ _⟩
 case round =>
  obtain ⟨k, hk, rfl, hb⟩ := hrel
  have r1 := h1.go hb
  have r2 := h2.go hb
  have Hb := hid hb
  clear hb
  by_cases hlt : k < xs.length
  ·obtain ⟨x, hx⟩ := ah hlt
   obtain ⟨b, o, rfl, _, _, p1, p2, p3, p4⟩ := r1.ev hx
   obtain ⟨b', o', rfl, _, _, q1, q2, q3, q4⟩ := r2.ev hx
   clear hx r1 r2 h1 h2
   go_wp2
   go_still_tail 8, (by kernel_rfl)
   change wpList _ _ _ _ _ wr.drew
   have hd : Below wr.heap.size wr wr.drew := below_drewN (Below.refl _ _) 1
   generalize wr.drew = wt at *
   have Hd := hid (bt Hb.out hd)
   clear hd
   go_wp2_with (go_at_call 29; refine (vU x _).mono ?_; rintro e w5 ⟨rfl, hb5⟩)
   go_roundw
   case rel => exact ⟨k + 1, by omega, by go_num, bt Hd.out hb5⟩
   case measure => simp [intOf]; omega
  ·go_wp2
   go_ret
   exact ⟨rfl, Hb.out⟩
section
variable {e B g n c : Nat} {w : World} {G : List Nat}
theorem Own.evMark {xs : List Ev} {i : Nat} {x : Ev} (h : Own tEv e B w (.slice (some ⟨g, 0, none⟩) n c) xs G) (hx : xs[i]? = some x) : w.cell? ⟨g, i * 4, none⟩ = some (.int .i64 x.kind) ∧ w.cell? ⟨g, i * 4 + 1, none⟩ = some (.int .i64 x.a) ∧ w.cell? ⟨g, i * 4 + 2, none⟩ = some (.int .i64 x.b) ∧ w.cell? ⟨g, i * 4 + 3, none⟩ = some (.int .i64 x.c) ∧ ∀ k0 k1 k2 k3 : Int,
  Own tEv e B ((((w.setCell ⟨g, i * 4, none⟩ (.int .i64 k0)).setCell ⟨g, i * 4 + 1, none⟩ (.int .i64 k1)).setCell ⟨g, i * 4 + 2, none⟩ (.int .i64 k2)).setCell ⟨g, i * 4 + 3, none⟩ (.int .i64 k3)) (.slice (some ⟨g, 0, none⟩) n c) (xs.set i ⟨k0, k1, k2, k3⟩) G ∧ Tch (g :: G) w ((((w.setCell ⟨g, i * 4, none⟩ (.int .i64 k0)).setCell ⟨g, i * 4 + 1, none⟩ (.int .i64 k1)).setCell ⟨g, i * 4 + 2, none⟩ (.int .i64 k2)).setCell ⟨g, i * 4 + 3, none⟩ (.int .i64 k3)) := by
 obtain ⟨g', cs, G', h1, h2, h3, _, ⟨rfl, _⟩, _, h4, h5⟩ := h.at_ hx
 injection h1 with h1; injection h1 with h1; subst h1
 refine ⟨h4 0 _ rfl, h4 1 _ rfl, h4 2 _ rfl, h4 3 _ rfl, fun k0 k1 k2 k3 => ⟨?_, ((((Tch.refl _ w).setCell (p := ⟨g, i * 4, none⟩) (.inl List.mem_cons_self) _).setCell (p := ⟨g, i * 4 + 1, none⟩) (.inl List.mem_cons_self) _).setCell (p := ⟨g, i * 4 + 2, none⟩) (.inl List.mem_cons_self) _).setCell (p := ⟨g, i * 4 + 3, none⟩) (.inl List.mem_cons_self) _⟩⟩
 have p1 := h.cell1 (u := .int .i64 k0) (x' := ⟨k0, x.a, x.b, x.c⟩) (j := 0) hx (by decide) (fun w' cx F0 hE => by obtain ⟨rfl, rfl⟩ := hE; exact ⟨rfl, rfl⟩)
 have p2 := p1.cell1 (u := .int .i64 k1) (x' := ⟨k0, k1, x.b, x.c⟩) (j := 1) (bW hx) (by decide) (fun w' cx F0 hE => by obtain ⟨rfl, rfl⟩ := hE; exact ⟨rfl, rfl⟩)
 have p3 := p2.cell1 (u := .int .i64 k2) (x' := ⟨k0, k1, k2, x.c⟩) (j := 2) (bW (bW hx)) (by decide) (fun w' cx F0 hE => by obtain ⟨rfl, rfl⟩ := hE; exact ⟨rfl, rfl⟩)
 have p4 := p3.cell1 (u := .int .i64 k3) (x' := ⟨k0, k1, k2, k3⟩) (j := 3) (bW (bW (bW hx))) (by decide) (fun w' cx F0 hE => by obtain ⟨rfl, rfl⟩ := hE; exact ⟨rfl, rfl⟩)
 rw [List.set_set, List.set_set, List.set_set] at p4
 exact p4
end
def cEv (_ : Ev) : Nat := 4
def wh (k : Int) (_ : Ev) : Ev := ⟨k, k + 1, k + 1 + 1, k + 1 + 1 + 1⟩
theorem vJ (e : Nat) (v : Value) (xs : List Ev) (G : List Nat) (k : Int) (w : World) (h : Own tEv e 0 w v xs G) (hk0 : 0 ≤ k) (hk1 : k + ay cEv xs ≤ 4611686018427387904) :
  Calls Tryz.prog 12 #[v, .int .i64 k] w fun e' w' => e' = .returned (.int .i64 (k + ay cEv xs)) ∧ Tch (v.ownBlock.toList ++ G) w w' := by
 obtain ⟨A, c, rfl, a1, a2, a3⟩ := h.form
 clear a2
 go_enter Tryz.func12, Tryz.ntmps12
 go_wp2
 go_loopw [1, 5] (fun kv i wr => ∃ j : Nat, j ≤ xs.length ∧ i = .int .i64 j ∧ kv = .int .i64 (k + (ay cEv (xs.take j) : Int)) ∧ Own tEv e 0 wr (.slice A xs.length c) (mkL wh cEv k (xs.take j) ++ xs.drop j) G ∧ Tch ((Value.slice A xs.length c).ownBlock.toList ++ G) w wr) (fun _ i _ => xs.length - (intOf i).toNat)
 case atStart => exact ⟨0, by omega, rfl, by simp [ay], by simpa [mkL] using h, Tch.refl _ _⟩
 case round =>
  obtain ⟨j, hj, rfl, rfl, ho, hg⟩ := hrel
  by_cases hlt : j < xs.length
  ·obtain ⟨x, hx⟩ := ah hlt
   obtain ⟨g, rfl⟩ := Own.addr ho (by rw [hZ _ _ _ hj]; omega)
   obtain ⟨g1, g2, hfz⟩ := ho.gcell
   obtain ⟨q0, q1, q2, q3, hm⟩ := ho.evMark (mb wh cEv k hx)
   have hct := dq cEv hx
   have hcl := eF cEv xs (j + 1)
   have hcp : cEv x = 4 := rfl
   have Hset := hid (je wh cEv k hx)
   have Hct := hid hct; have Hg := hid hg; have Hm := hid hm
   have f0 := hfz (j * 4); have f1 := hfz (j * 4 + 1); have f2 := hfz (j * 4 + 2); have f3 := hfz (j * 4 + 3)
   have hkk : k + (ay cEv (xs.take j) : Int) + 4 ≤ 4611686018427387904 := by omega
   have hkl : 0 ≤ k + (ay cEv (xs.take j) : Int) := by omega
   have Hcp := hid hcp
   clear hx h ho hg hm hct hfz hcl hcp
   generalize hkg : k + (ay cEv (xs.take j) : Int) = kk at *
   have Hkg := hid hkg
   clear hkg hk1
   have Hm4 := hid (Hm.out kk (kk + 1) (kk + 1 + 1) (kk + 1 + 1 + 1))
   go_wp2_with fail
   go_roundw
   case rel => exact ⟨j + 1, by omega, by go_num, by rw [Hct.out, Hcp.out, ← Hkg.out]; go_num, by rw [← Hset.out]; exact Hm4.out.1, Hg.out.trans (Hm4.out.2.mono (fun b hb => by simpa [Value.ownBlock] using hb))⟩
   case measure => simp [intOf]; omega
  ·have Hg := hid hg
   clear ho hg
   have hjl : j = xs.length := by omega
   subst hjl
   go_wp2
   go_ret
   exact ⟨by rw [List.take_length]; rfl, Hg.out⟩
end
end Go.Proofs.YtfledddejfpopaaGreatDoor
