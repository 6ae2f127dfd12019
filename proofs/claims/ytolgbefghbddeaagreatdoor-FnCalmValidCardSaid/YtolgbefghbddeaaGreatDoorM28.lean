/- Texts that the last file leans on (part 28). -/
import Derived.Test.YtolgbefghbddeaaGreatDoorM20
import Derived.Test.YtolgbefghbddeaaGreatDoorM22
import Derived.Test.YtolgbefghbddeaaGreatDoorM26
import Derived.Test.YtolgbefghbddeaaGreatDoorM27
import Derived.Test.YtolgbefghbddeaaGreatDoorM6
set_option linter.unusedVariables false
set_option linter.unusedSimpArgs false
set_option maxHeartbeats 4000000
set_option maxRecDepth 100000
namespace Go.Proofs.YtolgbefghbddeaaGreatDoor
open Go Go.RowKit
theorem qr (R : Nat → Prop) (x : Wd) (v : Value) (kd a b c : Int) (w : World) (hv : WdR R w v x) (hk : kd = 1) (hm : 999 ≤ x.made) :
  Calls Tryz.prog 40 #[v, .agg #[.int .i64 kd, .int .i64 a, .int .i64 b, .int .i64 c]] w (cd w R x) := by
 have i1 : (kd == 1) = true := by simp [hk]
 have i2 : decide (x.made < 999) = false := decide_eq_false (by omega)
 clear hk
 obtain ⟨A1, c1, A2, c2, A3, c3, A4, c4, rfl⟩ := hv.form
 go_enter Tryz.func40, Tryz.ntmps40
 go_upto_region 1 with fail
 generalize hgw : World.alloc (World.alloc (World.alloc w _) _) _ = W0; obtain ⟨e0, e1, e2, hW0, sW0⟩ := kN hgw; clear hgw
 have HV := hid (hv.off 3 hW0)
 obtain ⟨k0, k1, k2, k3, k4, k5, _⟩ := ai e0
 obtain ⟨v0, v1, v2, v3, _⟩ := aO e1
 obtain ⟨q0, q1, q2, q3, q4, q5, qf, qf0, qf1, qf2, qf3, qf4, qf5⟩ := bm e2
 have z0 : w.heap.size < W0.heap.size := by omega
 have z1 : w.heap.size + 1 < W0.heap.size := by omega
 have z2 : w.heap.size + 1 + 1 < W0.heap.size := by omega
 have HW0 := hid hW0; have E2 := hid e2
 clear hv hW0 e0 e1 e2 qf
 go_wp2_with fail
 refine bodyPost_ret (v := .agg #[.slice A1 x.mixes.length c1, .slice A2 x.sent.length c2, .slice A3 x.net.length c3, .slice A4 x.got.length c4, .int .i64 x.made, .int .i64 x.lost]) (by simp [results, Tryz.results40, go_sem, q0, q1, q2, q3, q4, q5]) rfl ⟨_, rfl, ?_, ?_⟩
 ·refine WdR.mono (R := br R w.heap.size (w.heap.size + 3)) ?_ (fun b _ h => h.1)
  repeat (refine WdR.set ?_ (aR (by dsimp only; omega) (by dsimp only; omega)))
  exact HV.out
 ·repeat (refine Below.setCell ?_ (by dsimp only; omega) _)
  exact HW0.out
theorem qs (R : Nat → Prop) (x : Wd) (v : Value) (kd a b c : Int) (w : World) (hR : ∀ b, w.heap.size ≤ b → R b) (hv : WdR R w v x) (hx : VD 0 x) (hk : kd = 1) (hm : x.made < 999) :
  Calls Tryz.prog 40 #[v, .agg #[.int .i64 kd, .int .i64 a, .int .i64 b, .int .i64 c]] w (cd w R (dA x a b c)) := by
 have i1 : (kd == 1) = true := by simp [hk]
 have i2 : decide (x.made < 999) = true := decide_eq_true hm
 have Hx := hid hx
 clear hk hx
 obtain ⟨A1, c1, A2, c2, A3, c3, A4, c4, rfl⟩ := hv.form
 go_enter Tryz.func40, Tryz.ntmps40
 go_upto_region 1 with fail
 generalize hgw : World.alloc (World.alloc (World.alloc w _) _) _ = W0; obtain ⟨e0, e1, e2, hW0, sW0⟩ := kN hgw; clear hgw
 have HV := hid (hv.off 3 hW0)
 obtain ⟨k0, k1, k2, k3, k4, k5, _⟩ := ai e0
 obtain ⟨v0, v1, v2, v3, _⟩ := aO e1
 obtain ⟨q0, q1, q2, q3, q4, q5, qf, qf0, qf1, qf2, qf3, qf4, qf5⟩ := bm e2
 have z0 : w.heap.size < W0.heap.size := by omega
 have z1 : w.heap.size + 1 < W0.heap.size := by omega
 have z2 : w.heap.size + 1 + 1 < W0.heap.size := by omega
 have HW0 := hid hW0; have E2 := hid e2
 clear hv hW0 e0 e1 e2 qf
 go_wp2_with fail
 refine (sj (br R w.heap.size (w.heap.size + 3)) x _ a b c _ (fun b hb => ⟨hR b (by omega), .inr (by omega)⟩) HV.out Hx.out hm).mono ?_
 rintro e w9 ⟨v9, rfl, hw9, hb9⟩
 obtain ⟨b1', f1, b2', f2, b3', f3, b4', f4, rfl⟩ := hw9.form
 clear q0 q1 q2 q3 q4 q5 qf0 qf1 qf2 qf3 qf4 qf5
 obtain ⟨q0, q1, q2, q3, q4, q5, qf, qf0, qf1, qf2, qf3, qf4, qf5⟩ := bm (ab hb9 E2.out)
 have y2 : w.heap.size + 1 + 1 < w9.heap.size := by have := hb9.size; omega
 have HF := hid (bt HW0.out hb9); have HR := hid hw9
 clear hb9 hw9 qf E2 k0 k1 k2 k3 k4 k5 v0 v1 v2 v3
 generalize dA x a b c = y at *
 go_wp2_with fail
 refine bodyPost_ret (v := .agg #[.slice b1' y.mixes.length f1, .slice b2' y.sent.length f2, .slice b3' y.net.length f3, .slice b4' y.got.length f4, .int .i64 y.made, .int .i64 y.lost]) (by simp [results, Tryz.results40, go_sem, q0, q1, q2, q3, q4, q5]) rfl ⟨_, rfl, ?_, ?_⟩
 ·refine WdR.mono (R := br R w.heap.size (w.heap.size + 3)) ?_ (fun b _ h => h.1)
  repeat (refine WdR.set ?_ (aR (by dsimp only; omega) (by dsimp only; omega)))
  exact HR.out
 ·repeat (refine Below.setCell ?_ (by dsimp only; omega) _)
  exact HF.out
theorem sg (R : Nat → Prop) (x : Wd) (v : Value) (kd a b c : Int) (w : World) (hR : ∀ b, w.heap.size ≤ b → R b) (hv : WdR R w v x) (hx : VD 0 x) (h2 : kd = 2 ∨ kd = 3 ∨ kd = 4 ∨ kd = 5) :
  Calls Tryz.prog 40 #[v, .agg #[.int .i64 kd, .int .i64 a, .int .i64 b, .int .i64 c]] w (cd w R (dI x ⟨kd, a, b, c⟩)) := by
 have i1 : (kd == 1) = false := by simp; omega
 have Hx := hid hx
 clear hx
 obtain ⟨A1, c1, A2, c2, A3, c3, A4, c4, rfl⟩ := hv.form
 go_enter Tryz.func40, Tryz.ntmps40
 go_upto_region 1 with fail
 generalize hgw : World.alloc (World.alloc (World.alloc w _) _) _ = W0; obtain ⟨e0, e1, e2, hW0, sW0⟩ := kN hgw; clear hgw
 have HV := hid (hv.off 3 hW0)
 obtain ⟨k0, k1, k2, k3, k4, k5, _⟩ := ai e0
 obtain ⟨v0, v1, v2, v3, _⟩ := aO e1
 obtain ⟨q0, q1, q2, q3, q4, q5, qf, qf0, qf1, qf2, qf3, qf4, qf5⟩ := bm e2
 have z0 : w.heap.size < W0.heap.size := by omega
 have z1 : w.heap.size + 1 < W0.heap.size := by omega
 have z2 : w.heap.size + 1 + 1 < W0.heap.size := by omega
 have HW0 := hid hW0; have E2 := hid e2
 clear hv hW0 e0 e1 e2 qf
 rcases h2 with hk | hk | hk | hk
 ·have j2 : (kd == 2) = true := by simp [hk]
  clear hk
  go_wp2_with fail
  refine (gG (br R w.heap.size (w.heap.size + 3)) x _ ⟨kd, a, b, c⟩ _ (fun b hb => ⟨hR b (by omega), .inr (by omega)⟩) HV.out Hx.out).mono ?_
  rintro e w9 ⟨v9, rfl, hw9, hb9⟩
  obtain ⟨b1', f1, b2', f2, b3', f3, b4', f4, rfl⟩ := hw9.form
  clear q0 q1 q2 q3 q4 q5 qf0 qf1 qf2 qf3 qf4 qf5
  obtain ⟨q0, q1, q2, q3, q4, q5, qf, qf0, qf1, qf2, qf3, qf4, qf5⟩ := bm (ab hb9 E2.out)
  have y2 : w.heap.size + 1 + 1 < w9.heap.size := by have := hb9.size; omega
  have HF := hid (bt HW0.out hb9); have HR := hid hw9
  clear hb9 hw9 qf E2 k0 k1 k2 k3 k4 k5 v0 v1 v2 v3
  generalize dI x ⟨kd, a, b, c⟩ = y at *
  go_wp2_with fail
  refine bodyPost_ret (v := .agg #[.slice b1' y.mixes.length f1, .slice b2' y.sent.length f2, .slice b3' y.net.length f3, .slice b4' y.got.length f4, .int .i64 y.made, .int .i64 y.lost]) (by simp [results, Tryz.results40, go_sem, q0, q1, q2, q3, q4, q5]) rfl ⟨_, rfl, ?_, ?_⟩
  ·refine WdR.mono (R := br R w.heap.size (w.heap.size + 3)) ?_ (fun b _ h => h.1)
   repeat (refine WdR.set ?_ (aR (by dsimp only; omega) (by dsimp only; omega)))
   exact HR.out
  ·repeat (refine Below.setCell ?_ (by dsimp only; omega) _)
   exact HF.out
 ·have j2 : (kd == 2) = false := by simp [hk]
  have j3 : (kd == 3) = true := by simp [hk]
  clear hk
  go_wp2_with fail
  refine (gG (br R w.heap.size (w.heap.size + 3)) x _ ⟨kd, a, b, c⟩ _ (fun b hb => ⟨hR b (by omega), .inr (by omega)⟩) HV.out Hx.out).mono ?_
  rintro e w9 ⟨v9, rfl, hw9, hb9⟩
  obtain ⟨b1', f1, b2', f2, b3', f3, b4', f4, rfl⟩ := hw9.form
  clear q0 q1 q2 q3 q4 q5 qf0 qf1 qf2 qf3 qf4 qf5
  obtain ⟨q0, q1, q2, q3, q4, q5, qf, qf0, qf1, qf2, qf3, qf4, qf5⟩ := bm (ab hb9 E2.out)
  have y2 : w.heap.size + 1 + 1 < w9.heap.size := by have := hb9.size; omega
  have HF := hid (bt HW0.out hb9); have HR := hid hw9
  clear hb9 hw9 qf E2 k0 k1 k2 k3 k4 k5 v0 v1 v2 v3
  generalize dI x ⟨kd, a, b, c⟩ = y at *
  go_wp2_with fail
  refine bodyPost_ret (v := .agg #[.slice b1' y.mixes.length f1, .slice b2' y.sent.length f2, .slice b3' y.net.length f3, .slice b4' y.got.length f4, .int .i64 y.made, .int .i64 y.lost]) (by simp [results, Tryz.results40, go_sem, q0, q1, q2, q3, q4, q5]) rfl ⟨_, rfl, ?_, ?_⟩
  ·refine WdR.mono (R := br R w.heap.size (w.heap.size + 3)) ?_ (fun b _ h => h.1)
   repeat (refine WdR.set ?_ (aR (by dsimp only; omega) (by dsimp only; omega)))
   exact HR.out
  ·repeat (refine Below.setCell ?_ (by dsimp only; omega) _)
   exact HF.out
 ·have j2 : (kd == 2) = false := by simp [hk]
  have j3 : (kd == 3) = false := by simp [hk]
  have j4 : (kd == 4) = true := by simp [hk]
  clear hk
  go_wp2_with fail
  refine (gG (br R w.heap.size (w.heap.size + 3)) x _ ⟨kd, a, b, c⟩ _ (fun b hb => ⟨hR b (by omega), .inr (by omega)⟩) HV.out Hx.out).mono ?_
  rintro e w9 ⟨v9, rfl, hw9, hb9⟩
  obtain ⟨b1', f1, b2', f2, b3', f3, b4', f4, rfl⟩ := hw9.form
  clear q0 q1 q2 q3 q4 q5 qf0 qf1 qf2 qf3 qf4 qf5
  obtain ⟨q0, q1, q2, q3, q4, q5, qf, qf0, qf1, qf2, qf3, qf4, qf5⟩ := bm (ab hb9 E2.out)
  have y2 : w.heap.size + 1 + 1 < w9.heap.size := by have := hb9.size; omega
  have HF := hid (bt HW0.out hb9); have HR := hid hw9
  clear hb9 hw9 qf E2 k0 k1 k2 k3 k4 k5 v0 v1 v2 v3
  generalize dI x ⟨kd, a, b, c⟩ = y at *
  go_wp2_with fail
  refine bodyPost_ret (v := .agg #[.slice b1' y.mixes.length f1, .slice b2' y.sent.length f2, .slice b3' y.net.length f3, .slice b4' y.got.length f4, .int .i64 y.made, .int .i64 y.lost]) (by simp [results, Tryz.results40, go_sem, q0, q1, q2, q3, q4, q5]) rfl ⟨_, rfl, ?_, ?_⟩
  ·refine WdR.mono (R := br R w.heap.size (w.heap.size + 3)) ?_ (fun b _ h => h.1)
   repeat (refine WdR.set ?_ (aR (by dsimp only; omega) (by dsimp only; omega)))
   exact HR.out
  ·repeat (refine Below.setCell ?_ (by dsimp only; omega) _)
   exact HF.out
 ·have j2 : (kd == 2) = false := by simp [hk]
  have j3 : (kd == 3) = false := by simp [hk]
  have j4 : (kd == 4) = false := by simp [hk]
  have j5 : (kd == 5) = true := by simp [hk]
  clear hk
  go_wp2_with fail
  refine (gG (br R w.heap.size (w.heap.size + 3)) x _ ⟨kd, a, b, c⟩ _ (fun b hb => ⟨hR b (by omega), .inr (by omega)⟩) HV.out Hx.out).mono ?_
  rintro e w9 ⟨v9, rfl, hw9, hb9⟩
  obtain ⟨b1', f1, b2', f2, b3', f3, b4', f4, rfl⟩ := hw9.form
  clear q0 q1 q2 q3 q4 q5 qf0 qf1 qf2 qf3 qf4 qf5
  obtain ⟨q0, q1, q2, q3, q4, q5, qf, qf0, qf1, qf2, qf3, qf4, qf5⟩ := bm (ab hb9 E2.out)
  have y2 : w.heap.size + 1 + 1 < w9.heap.size := by have := hb9.size; omega
  have HF := hid (bt HW0.out hb9); have HR := hid hw9
  clear hb9 hw9 qf E2 k0 k1 k2 k3 k4 k5 v0 v1 v2 v3
  generalize dI x ⟨kd, a, b, c⟩ = y at *
  go_wp2_with fail
  refine bodyPost_ret (v := .agg #[.slice b1' y.mixes.length f1, .slice b2' y.sent.length f2, .slice b3' y.net.length f3, .slice b4' y.got.length f4, .int .i64 y.made, .int .i64 y.lost]) (by simp [results, Tryz.results40, go_sem, q0, q1, q2, q3, q4, q5]) rfl ⟨_, rfl, ?_, ?_⟩
  ·refine WdR.mono (R := br R w.heap.size (w.heap.size + 3)) ?_ (fun b _ h => h.1)
   repeat (refine WdR.set ?_ (aR (by dsimp only; omega) (by dsimp only; omega)))
   exact HR.out
  ·repeat (refine Below.setCell ?_ (by dsimp only; omega) _)
   exact HF.out
theorem pt (R : Nat → Prop) (x : Wd) (v : Value) (kd : Int) (k : Nat) (b c : Int) (w : World) (hR : ∀ b, w.heap.size ≤ b → R b) (hv : WdR R w v x) (hx : VD 0 x) (hk : kd = 6) (hk3 : k < 3) :
  Calls Tryz.prog 40 #[v, .agg #[.int .i64 kd, .int .i64 k, .int .i64 b, .int .i64 c]] w (cd w R (bQ x k false)) := by
 have i1 : (kd == 1) = false := by simp [hk]
 have j2 : (kd == 2) = false := by simp [hk]
 have j3 : (kd == 3) = false := by simp [hk]
 have j4 : (kd == 4) = false := by simp [hk]
 have j5 : (kd == 5) = false := by simp [hk]
 have j6 : (kd == 6) = true := by simp [hk]
 have hw : win (k : Int) 0 2 = true := aQ.2 (by omega)
 have Hx := hid hx
 clear hk hx
 obtain ⟨a, ha⟩ : ∃ a : Int, a = (k : Int) := ⟨_, rfl⟩
 rw [← ha] at hw ⊢
 have Ha := hid ha
 clear ha
 obtain ⟨A1, c1, A2, c2, A3, c3, A4, c4, rfl⟩ := hv.form
 go_enter Tryz.func40, Tryz.ntmps40
 go_upto_region 1 with fail
 generalize hgw : World.alloc (World.alloc (World.alloc w _) _) _ = W0; obtain ⟨e0, e1, e2, hW0, sW0⟩ := kN hgw; clear hgw
 have HV := hid (hv.off 3 hW0)
 obtain ⟨k0, k1, k2, k3, k4, k5, _⟩ := ai e0
 obtain ⟨v0, v1, v2, v3, _⟩ := aO e1
 obtain ⟨q0, q1, q2, q3, q4, q5, qf, qf0, qf1, qf2, qf3, qf4, qf5⟩ := bm e2
 have z0 : w.heap.size < W0.heap.size := by omega
 have z1 : w.heap.size + 1 < W0.heap.size := by omega
 have z2 : w.heap.size + 1 + 1 < W0.heap.size := by omega
 have HW0 := hid hW0; have E2 := hid e2
 clear hv hW0 e0 e1 e2 qf
 go_wp2_with (go_at_call 42; refine (aX _ _ _ _).mono ?_; rw [hw]; rintro e w' ⟨rfl, rfl⟩)
 obtain rfl := Ha.out
 refine (lO (br R w.heap.size (w.heap.size + 3)) x _ k false _ (fun b hb => ⟨hR b (by omega), .inr (by omega)⟩) HV.out Hx.out hk3).mono ?_
 rintro e w9 ⟨v9, rfl, hw9, hb9⟩
 obtain ⟨b1', f1, b2', f2, b3', f3, b4', f4, rfl⟩ := hw9.form
 clear q0 q1 q2 q3 q4 q5 qf0 qf1 qf2 qf3 qf4 qf5
 obtain ⟨q0, q1, q2, q3, q4, q5, qf, qf0, qf1, qf2, qf3, qf4, qf5⟩ := bm (ab hb9 E2.out)
 have y2 : w.heap.size + 1 + 1 < w9.heap.size := by have := hb9.size; omega
 have HF := hid (bt HW0.out hb9); have HR := hid hw9
 clear hb9 hw9 qf E2 k0 k1 k2 k3 k4 k5 v0 v1 v2 v3
 generalize bQ x k false = y at *
 go_wp2_with fail
 refine bodyPost_ret (v := .agg #[.slice b1' y.mixes.length f1, .slice b2' y.sent.length f2, .slice b3' y.net.length f3, .slice b4' y.got.length f4, .int .i64 y.made, .int .i64 y.lost]) (by simp [results, Tryz.results40, go_sem, q0, q1, q2, q3, q4, q5]) rfl ⟨_, rfl, ?_, ?_⟩
 ·refine WdR.mono (R := br R w.heap.size (w.heap.size + 3)) ?_ (fun b _ h => h.1)
  repeat (refine WdR.set ?_ (aR (by dsimp only; omega) (by dsimp only; omega)))
  exact HR.out
 ·repeat (refine Below.setCell ?_ (by dsimp only; omega) _)
  exact HF.out
theorem mL (R : Nat → Prop) (x : Wd) (v : Value) (kd a b c : Int) (w : World) (hv : WdR R w v x) (hk : kd = 6) (hw : win a 0 2 = false) :
  Calls Tryz.prog 40 #[v, .agg #[.int .i64 kd, .int .i64 a, .int .i64 b, .int .i64 c]] w (cd w R x) := by
 have i1 : (kd == 1) = false := by simp [hk]
 have j2 : (kd == 2) = false := by simp [hk]
 have j3 : (kd == 3) = false := by simp [hk]
 have j4 : (kd == 4) = false := by simp [hk]
 have j5 : (kd == 5) = false := by simp [hk]
 have j6 : (kd == 6) = true := by simp [hk]
 clear hk
 obtain ⟨A1, c1, A2, c2, A3, c3, A4, c4, rfl⟩ := hv.form
 go_enter Tryz.func40, Tryz.ntmps40
 go_upto_region 1 with fail
 generalize hgw : World.alloc (World.alloc (World.alloc w _) _) _ = W0; obtain ⟨e0, e1, e2, hW0, sW0⟩ := kN hgw; clear hgw
 have HV := hid (hv.off 3 hW0)
 obtain ⟨k0, k1, k2, k3, k4, k5, _⟩ := ai e0
 obtain ⟨v0, v1, v2, v3, _⟩ := aO e1
 obtain ⟨q0, q1, q2, q3, q4, q5, qf, qf0, qf1, qf2, qf3, qf4, qf5⟩ := bm e2
 have z0 : w.heap.size < W0.heap.size := by omega
 have z1 : w.heap.size + 1 < W0.heap.size := by omega
 have z2 : w.heap.size + 1 + 1 < W0.heap.size := by omega
 have HW0 := hid hW0; have E2 := hid e2
 clear hv hW0 e0 e1 e2 qf
 go_wp2_with (go_at_call 42; refine (aX _ _ _ _).mono ?_; rw [hw]; rintro e w' ⟨rfl, rfl⟩)
 refine bodyPost_ret (v := .agg #[.slice A1 x.mixes.length c1, .slice A2 x.sent.length c2, .slice A3 x.net.length c3, .slice A4 x.got.length c4, .int .i64 x.made, .int .i64 x.lost]) (by simp [results, Tryz.results40, go_sem, q0, q1, q2, q3, q4, q5]) rfl ⟨_, rfl, ?_, ?_⟩
 ·refine WdR.mono (R := br R w.heap.size (w.heap.size + 3)) ?_ (fun b _ h => h.1)
  repeat (refine WdR.set ?_ (aR (by dsimp only; omega) (by dsimp only; omega)))
  exact HV.out
 ·repeat (refine Below.setCell ?_ (by dsimp only; omega) _)
  exact HW0.out
theorem pu (R : Nat → Prop) (x : Wd) (v : Value) (kd a b c : Int) (w : World) (hv : WdR R w v x) (h1 : kd ≠ 1) (h2 : ¬ (kd = 2 ∨ kd = 3 ∨ kd = 4 ∨ kd = 5)) (h6 : kd ≠ 6) :
  Calls Tryz.prog 40 #[v, .agg #[.int .i64 kd, .int .i64 a, .int .i64 b, .int .i64 c]] w (cd w R x) := by
 have i1 : (kd == 1) = false := by simp; omega
 have j2 : (kd == 2) = false := by simp; omega
 have j3 : (kd == 3) = false := by simp; omega
 have j4 : (kd == 4) = false := by simp; omega
 have j5 : (kd == 5) = false := by simp; omega
 have j6 : (kd == 6) = false := by simp; omega
 clear h1 h2 h6
 obtain ⟨A1, c1, A2, c2, A3, c3, A4, c4, rfl⟩ := hv.form
 go_enter Tryz.func40, Tryz.ntmps40
 go_upto_region 1 with fail
 generalize hgw : World.alloc (World.alloc (World.alloc w _) _) _ = W0; obtain ⟨e0, e1, e2, hW0, sW0⟩ := kN hgw; clear hgw
 have HV := hid (hv.off 3 hW0)
 obtain ⟨k0, k1, k2, k3, k4, k5, _⟩ := ai e0
 obtain ⟨v0, v1, v2, v3, _⟩ := aO e1
 obtain ⟨q0, q1, q2, q3, q4, q5, qf, qf0, qf1, qf2, qf3, qf4, qf5⟩ := bm e2
 have z0 : w.heap.size < W0.heap.size := by omega
 have z1 : w.heap.size + 1 < W0.heap.size := by omega
 have z2 : w.heap.size + 1 + 1 < W0.heap.size := by omega
 have HW0 := hid hW0; have E2 := hid e2
 clear hv hW0 e0 e1 e2 qf
 go_wp2_with fail
 refine bodyPost_ret (v := .agg #[.slice A1 x.mixes.length c1, .slice A2 x.sent.length c2, .slice A3 x.net.length c3, .slice A4 x.got.length c4, .int .i64 x.made, .int .i64 x.lost]) (by simp [results, Tryz.results40, go_sem, q0, q1, q2, q3, q4, q5]) rfl ⟨_, rfl, ?_, ?_⟩
 ·refine WdR.mono (R := br R w.heap.size (w.heap.size + 3)) ?_ (fun b _ h => h.1)
  repeat (refine WdR.set ?_ (aR (by dsimp only; omega) (by dsimp only; omega)))
  exact HV.out
 ·repeat (refine Below.setCell ?_ (by dsimp only; omega) _)
  exact HW0.out
theorem rp (R : Nat → Prop) (x : Wd) (v : Value) (e : Ev) (w : World) (hR : ∀ b, w.heap.size ≤ b → R b) (hv : WdR R w v x) (hx : VD 0 x) :
  Calls Tryz.prog 40 #[v, .agg #[.int .i64 e.kind, .int .i64 e.a, .int .i64 e.b, .int .i64 e.c]] w (cd w R (doW x e)) := by
 obtain ⟨kd, a, b, c⟩ := e
 dsimp only
 by_cases h1 : kd = 1
 ·rw [show doW x ⟨kd, a, b, c⟩ = dA x a b c from by unfold doW; rw [if_pos h1]]
  by_cases hm : x.made < 999
  ·exact qs R x v kd a b c w hR hv hx h1 hm
  ·rw [show dA x a b c = x from by unfold dA; rw [if_neg (fun h => hm h.2.2.2.2)]]
   exact qr R x v kd a b c w hv h1 (by omega)
 ·by_cases h2 : kd = 2 ∨ kd = 3 ∨ kd = 4 ∨ kd = 5
  ·rw [show doW x ⟨kd, a, b, c⟩ = dI x ⟨kd, a, b, c⟩ from by unfold doW; rw [if_neg h1, if_pos h2]]
   exact sg R x v kd a b c w hR hv hx h2
  ·by_cases h6 : kd = 6
   ·cases hw : win a 0 2 with
    | false =>
     rw [show doW x ⟨kd, a, b, c⟩ = x from by unfold doW; rw [if_neg h1, if_neg h2, if_neg (fun h => by rw [hw] at h; cases h.2)]]
     exact mL R x v kd a b c w hv h6 hw
    | true =>
     obtain ⟨k, rfl⟩ : ∃ k : Nat, a = (k : Int) := ⟨a.toNat, by have := aQ.1 hw; omega⟩
     rw [show doW x ⟨kd, k, b, c⟩ = bQ x k false from by unfold doW; rw [if_neg h1, if_neg h2, if_pos ⟨h6, hw⟩, Int.toNat_natCast]]
     exact pt R x v kd k b c w hR hv hx h6 (by have := aQ.1 hw; omega)
   ·rw [show doW x ⟨kd, a, b, c⟩ = x from by unfold doW; rw [if_neg h1, if_neg h2, if_neg (fun h => h6 h.1)]]
    exact pu R x v kd a b c w hv h1 h2 h6
theorem vE (B : Nat) (w : World) : WdB B w (.agg #[.slice none 0 0, .slice none 0 0, .slice none 0 0, .slice none 0 0, .int .i64 0, .int .i64 0]) zWd :=
 ⟨_, _, _, _, rfl, ⟨[], Sl.nil _ _ (by decide), fun _ h => by cases h⟩, ⟨[], Sl.nil _ _ (by decide), fun _ h => by cases h⟩, ⟨[], Sl.nil _ _ (by decide), fun _ h => by cases h⟩, ⟨[], Sl.nil _ _ (by decide), fun _ h => by cases h⟩⟩
def qU (w : World) (x : Wd) (e : Ending) (w' : World) : Prop := ∃ um us un ug, e = .returned (.agg #[um, us, un, ug, .int .i64 x.made, .int .i64 x.lost]) ∧ aG oWd w.heap.size w' [um, us, un, ug, .int .i64 x.made, .int .i64 x.lost] x ∧ Below w.heap.size w w'
theorem lx (B : Nat) (w : World) : aG oWd B w [.slice none 0 0, .slice none 0 0, .slice none 0 0, .slice none 0 0, .int .i64 0, .int .i64 0] zWd := by
 refine ⟨[], ⟨[_], _, [], _, rfl, rfl, ⟨_, [], rfl, Own.nil _ _, rfl⟩, [_], _, [], _, rfl, rfl, ⟨_, [], rfl, Own.nil _ _, rfl⟩, [_], _, [], _, rfl, rfl, ⟨_, [], rfl, Own.nil _ _, rfl⟩, [_], _, [], _, rfl, rfl, ⟨_, [], rfl, Own.nil _ _, rfl⟩, [_], [_], [], [], rfl, rfl, ⟨rfl, rfl⟩, ⟨rfl, rfl⟩⟩, List.nodup_nil, fun _ h => by cases h⟩
theorem ei (x : Wd) (v : Value) (e : Ev) (w : World) (h : WdB w.heap.size w v x) (hgl : x.got.length ≤ 1073741824) :
  Calls Tryz.prog 17 #[v, .agg #[.int .i64 e.kind, .int .i64 e.a, .int .i64 e.b, .int .i64 e.c]] w (qU w (aW x e)) := by
 have H := hid (fun (wx : World) (hb : Below w.heap.size w wx) => h.go hb)
 obtain ⟨A1, c1, A2, c2, A3, c3, A4, c4, rfl⟩ := (WdR.of_wdB (R := fun _ => True) h (fun _ _ => trivial)).form
 clear h
 obtain ⟨z, hz⟩ : ∃ z, z = aW x e := ⟨_, rfl⟩
 rw [← hz]
 have Hz := hid hz
 clear hz
 go_enter Tryz.func17, Tryz.ntmps17
 go_wp2_with fail
 refine (cQ x _ _ (H.out _ (by repeat (first | exact ah | apply ae | refine bA ?_ (by omega) | refine Below.setCell ?_ (by first | omega | simp <;> omega) _))) hgl).mono ?_
 rintro e' w1 ⟨rfl, hb1⟩
 obtain ⟨e0, e1, e2⟩ := fF hb1
 have hc1 : Below w.heap.size w w1 := bt (by repeat (first | exact ah | apply ae | refine bA ?_ (by omega) | refine Below.setCell ?_ (by first | omega | simp <;> omega) _)) hb1
 obtain ⟨k0, k1, k2, k3, k4, k5, _⟩ := ai e0
 obtain ⟨v0, v1, v2, v3, _⟩ := aO e1
 obtain ⟨q0, q1, q2, q3, q4, q5, qf, qf0, qf1, qf2, qf3, qf4, qf5⟩ := bm e2
 have z2 : w.heap.size + 1 + 1 < w1.heap.size := (al e2)
 have z1 : w.heap.size + 1 < w1.heap.size := by omega
 have z0 : w.heap.size < w1.heap.size := by omega
 cases hv : wdB x with
 | false =>
  have hs : aW x e = zWd := by unfold aW; rw [hv]; rfl
  obtain rfl := Hz.out.trans hs
  clear Hz
  have Hc1 := hid hc1
  clear hb1 hc1 e0 e1 e2 qf hv hs
  go_wp2_with fail
  refine bodyPost_ret (v := .agg #[.slice none 0 0, .slice none 0 0, .slice none 0 0, .slice none 0 0, .int .i64 0, .int .i64 0]) (by simp [results, Tryz.results17, go_sem, q0, q1, q2, q3, q4, q5]) rfl ⟨_, _, _, _, rfl, lx _ _, ?_⟩
  repeat (refine Below.setCell ?_ (by dsimp only; omega) _)
  exact Hc1.out
 | true =>
  have hx := cD.1 hv
  have hs : aW x e = doW x e := by unfold aW; rw [hv]; rfl
  obtain rfl := Hz.out.trans hs
  clear Hz
  have Hx := hid hx; have Hd := hid (hx.do_ e); have Hc1 := hid hc1; have E2 := hid e2
  have Hwd := hid (WdR.of_wdB (R := fun _ => True) (H.out _ hc1) (fun _ _ => trivial))
  clear hb1 hc1 e0 e1 e2 qf hv hs hx
  go_wp2_with fail
  refine (rp (fun _ => True) x _ e _ (fun _ _ => trivial) Hwd.out Hx.out).mono ?_
  rintro e' w9 ⟨v9, rfl, hw9, hb9⟩
  generalize doW x e = y at *
  have HW9 := hid hw9.wdB
  have e2' := ab hb9 E2.out
  have Hc9 := hid (bt Hc1.out hb9)
  clear hw9 hb9 E2 k0 k1 k2 k3 k4 k5 v0 v1 v2 v3 q0 q1 q2 q3 q4 q5 qf0 qf1 qf2 qf3 qf4 qf5
  go_wp2_with fail
  refine (dQ y _ _ HW9.out Hd.out.sm).mono ?_
  rintro e' w10 ⟨um, us, un, ug, rfl, n1, hb10⟩
  obtain ⟨B1, d1, B2, d2, B3, d3, B4, d4, rfl, rfl, rfl, rfl⟩ := aD n1
  have z29 : w.heap.size + 1 + 1 < w9.heap.size := (al e2')
  obtain ⟨q0, q1, q2, q3, q4, q5, qf, qf0, qf1, qf2, qf3, qf4, qf5⟩ := bm (ab hb10 e2')
  have z2' : w.heap.size + 1 + 1 < w10.heap.size := by have := hb10.size; omega
  have N1 := hid n1; have Hc10 := hid (bt Hc9.out hb10)
  clear n1 hb10 e2' qf Hc9 HW9
  go_wp2_with fail
  refine bodyPost_ret (v := .agg #[.slice B1 y.mixes.length d1, .slice B2 y.sent.length d2, .slice B3 y.net.length d3, .slice B4 y.got.length d4, .int .i64 y.made, .int .i64 y.lost]) (by simp [results, Tryz.results17, go_sem, q0, q1, q2, q3, q4, q5]) rfl ⟨_, _, _, _, rfl, aG.base (B := w9.heap.size) ?_ (by omega), ?_⟩
  ·repeat (refine aG.set ?_ (by dsimp only; omega))
   exact N1.out
  ·repeat (refine Below.setCell ?_ (by dsimp only; omega) _)
   exact Hc10.out
theorem gV (l : List Mx) (k : Nat) : ao (l.take k) ≤ ao l := by
 induction l generalizing k with
 | nil => simp
 | cons m l ih =>
  cases k with
  | zero => simp [ao]
  | succ k =>
   have := ih k
   simp only [ao, List.take_succ_cons, List.map_cons, List.sum_cons] at *
   omega
theorem lN (x : Wd) (v : Value) (w : World) (h : WdB w.heap.size w v x) (hp : (x.net.length : Int) + ao x.mixes ≤ 4611686018427387904) : Calls Tryz.prog 59 #[v] w (ok (!fX x) w.heap.size w) := by
 obtain ⟨vm, vs, vn, vg, rfl, hm, hs, hn, hg⟩ := h
 obtain ⟨A1, c1, rfl, _, _, m3⟩ := hm.form
 obtain ⟨A3, c3, rfl, _, _, _⟩ := hn.form
 have hr := hm.go (ac w (Obj.cells #[Value.slice A1 x.mixes.length c1, vs, .slice A3 x.net.length c3, vg, Value.int IntKind.i64 x.made, Value.int IntKind.i64 x.lost] 27))
 go_enter Tryz.func59, Tryz.ntmps59
 go_wp2_with fail
 go_loop [3, 4] (fun nv i => ∃ k : Nat, k ≤ x.mixes.length ∧ i = .int .i64 k ∧ nv = .int .i64 ((x.net.length : Int) + ao (x.mixes.take k))) (fun _ i => x.mixes.length - (intOf i).toNat)
 case atStart => exact ⟨0, by omega, rfl, by simp [ao]⟩
 case round =>
  obtain ⟨k, hk, rfl, rfl⟩ := hrel
  have hq := gV x.mixes k
  have hq2 := gV x.mixes (k + 1)
  by_cases hlt : k < x.mixes.length
  ·obtain ⟨y, hx⟩ := am hlt
   obtain ⟨b, o, us, up, rfl, _, _, s1, s2, q0, q1, q2⟩ := hr.mx hx
   obtain ⟨Ab, cb, rfl, _, _, _⟩ := s2.form
   have ht : ao (x.mixes.take (k + 1)) = ao (x.mixes.take k) + y.pool.length := by rw [aS hx, ef]
   have Ht := hid ht
   rw [ht] at hq2
   clear hx hr s1 s2 ht hm
   generalize ao (x.mixes.take k) = q at *
   go_wp2
   go_round
   case rel => exact ⟨k + 1, by omega, by go_num, by rw [Ht.out]; go_num⟩
   case measure => simp [intOf]; omega
  ·have Hq := hid (show x.mixes.take k = x.mixes from aT hk hlt)
   go_wp2
   go_ret
   refine ⟨aj ?_, ac _ _⟩
   rw [Hq.out]
   unfold fX
   by_cases h0 : 0 < x.net.length + ao x.mixes
   ·rw [decide_eq_true h0]; simp; omega
   ·rw [decide_eq_false h0]; simp; omega
theorem wP {w : World} {n t : Nat} {a b c d e f g k : Value} (h : w.heap[n]? = some (.cells #[a, b, c, d, e, f, g, k] t (0, 0))) :
  w.cell? ⟨n, 0, none⟩ = some a ∧ w.cell? ⟨n, 1, none⟩ = some b ∧ w.cell? ⟨n, 2, none⟩ = some c ∧ w.cell? ⟨n, 3, none⟩ = some d ∧ w.cell? ⟨n, 4, none⟩ = some e ∧ w.cell? ⟨n, 5, none⟩ = some f ∧ w.cell? ⟨n, 6, none⟩ = some g ∧ w.cell? ⟨n, 7, none⟩ = some k ∧ ∀ j, w.frozen? ⟨n, j, none⟩ = false :=
 ⟨by rw [cell_of_row w n 0 _ _ _ h]; rfl, by rw [cell_of_row w n 1 _ _ _ h]; rfl, by rw [cell_of_row w n 2 _ _ _ h]; rfl, by rw [cell_of_row w n 3 _ _ _ h]; rfl, by rw [cell_of_row w n 4 _ _ _ h]; rfl, by rw [cell_of_row w n 5 _ _ _ h]; rfl, by rw [cell_of_row w n 6 _ _ _ h]; rfl, by rw [cell_of_row w n 7 _ _ _ h]; rfl, fun j => frozen_of_row w n j _ _ h⟩
theorem Rn.ofNew8 {B B0 t : Nat} {w : World} {x : Wd} {um us un ug a0 a1 : Value} (h : aG oWd B w [um, us, un, ug, .int .i64 x.made, .int .i64 x.lost] x) (hB : B0 ≤ B) (hBw : B0 ≤ w.heap.size) :
  ∃ F, Rn B0 (w.alloc (.cells #[a0, a1, um, us, un, ug, .int .i64 x.made, .int .i64 x.lost] t)) w.heap.size 2 x F ∧ ∀ c ∈ F, c = w.heap.size ∨ B ≤ c := by
 obtain ⟨Fm, Fs, Fn, Fg, h1, h2, h3, h4, n1, n2⟩ := dS h
 have l1 := eV.lt h1; have l2 := ct.lt h2; have l3 := eX.lt h3; have l4 := ct.lt h4
 have hlt : ∀ c ∈ Fm ++ (Fs ++ (Fn ++ Fg)), c < w.heap.size := fun c hc => by
  simp only [List.mem_append] at hc
  rcases hc with h | h | h | h
  ·exact l1 c h
  ·exact l2 c h
  ·exact l3 c h
  ·exact l4 c h
 have hb := ac w (.cells #[a0, a1, um, us, un, ug, .int .i64 x.made, .int .i64 x.lost] t)
 obtain ⟨_, _, q0, q1, q2, q3, q4, q5, qf⟩ := wP (heap_alloc_new w (.cells #[a0, a1, um, us, un, ug, .int .i64 x.made, .int .i64 x.lost] t))
 refine ⟨_, ⟨um, us, un, ug, Fm, Fs, Fn, Fg, ⟨q0, q1, q2, q3, q4, q5, qf, eV.keep h1 (fun c hc => hb.block c (l1 c hc)), ct.keep h2 (fun c hc => hb.block c (l2 c hc)), eX.keep h3 (fun c hc => hb.block c (l3 c hc)), ct.keep h4 (fun c hc => hb.block c (l4 c hc)), List.nodup_cons.2 ⟨fun hm => by have := hlt _ hm; omega, n1⟩, fun c hc => ?_⟩, rfl⟩, fun c hc => ?_⟩
 ·rcases List.mem_cons.1 hc with rfl | hc
  ·exact hBw
  ·exact Nat.le_trans hB (n2 c hc)
 ·rcases List.mem_cons.1 hc with rfl | hc
  ·exact .inl rfl
  ·exact .inr (n2 c hc)
theorem Rn.new {B b o : Nat} {w : World} {x : Wd} {F : List Nat} (h : Rn B w b o x F) : ∃ um us un ug, w.cell? ⟨b, o, none⟩ = some um ∧ w.cell? ⟨b, o + 1, none⟩ = some us ∧ w.cell? ⟨b, o + 2, none⟩ = some un ∧ w.cell? ⟨b, o + 3, none⟩ = some ug ∧ w.cell? ⟨b, o + 4, none⟩ = some (.int .i64 x.made) ∧ w.cell? ⟨b, o + 5, none⟩ = some (.int .i64 x.lost) ∧ b < w.heap.size ∧ aG oWd B w [um, us, un, ug, .int .i64 x.made, .int .i64 x.lost] x := by
 obtain ⟨um, us, un, ug, _, _, _, _, hr, _⟩ := h
 exact ⟨um, us, un, ug, hr.c0, hr.c1, hr.c2, hr.c3, hr.c4, hr.c5, hr.blk, hr.newA⟩
theorem bE (x : Wd) (v : Value) (ev : Ev) (w : World) (hg : dj w) (h : WdB w.heap.size w v x) (hgl : x.got.length ≤ 1073741824) :
  Calls Tryz.prog 16 #[v, .agg #[.int .i64 ev.kind, .int .i64 ev.a, .int .i64 ev.b, .int .i64 ev.c]] w (qU w (aW x ev)) := by
 have hw0 : 0 < w.heap.size := World.block_lt_of_cell? _ _ hg
 have H := hid (fun (wx : World) (hb : Below w.heap.size w wx) => h.go hb)
 have Hg := hid (fun (wx : World) (hb : Below w.heap.size w wx) => hg.go hb)
 obtain ⟨A1, c1, A2, c2, A3, c3, A4, c4, rfl⟩ := (WdR.of_wdB (R := fun _ => True) h (fun _ _ => trivial)).form
 clear h hg
 obtain ⟨z, hz⟩ : ∃ z, z = aW x ev := ⟨_, rfl⟩
 rw [← hz]
 have Hz := hid hz
 clear hz
 go_enter Tryz.func16, Tryz.ntmps16
 go_wp2_with fail
 refine (gD x _ _ (H.out _ (by repeat (first | exact ah | apply ae | refine bA ?_ (by omega) | refine Below.setCell ?_ (by first | omega | simp <;> omega) _))) hgl).mono ?_
 rintro e' w1 ⟨rfl, hb1⟩
 obtain ⟨e0, e1, e2⟩ := fF hb1
 have hc1 : Below w.heap.size w w1 := bt (by repeat (first | exact ah | apply ae | refine bA ?_ (by omega) | refine Below.setCell ?_ (by first | omega | simp <;> omega) _)) hb1
 obtain ⟨k0, k1, k2, k3, k4, k5, _⟩ := ai e0
 obtain ⟨v0, v1, v2, v3, _⟩ := aO e1
 obtain ⟨q0, q1, q2, q3, q4, q5, qf, qf0, qf1, qf2, qf3, qf4, qf5⟩ := bm e2
 have z2 : w.heap.size + 1 + 1 < w1.heap.size := (al e2)
 have z1 : w.heap.size + 1 < w1.heap.size := by omega
 have z0 : w.heap.size < w1.heap.size := by omega
 cases hv : wdB x with
 | false =>
  have hs : aW x ev = zWd := by unfold aW; rw [hv]; rfl
  obtain rfl := Hz.out.trans hs
  clear Hz
  have Hc1 := hid hc1
  clear hb1 hc1 e0 e1 e2 qf hv hs
  go_wp2_with fail
  refine bodyPost_ret (v := .agg #[.slice none 0 0, .slice none 0 0, .slice none 0 0, .slice none 0 0, .int .i64 0, .int .i64 0]) (by simp [results, Tryz.results16, go_sem, q0, q1, q2, q3, q4, q5]) rfl ⟨_, _, _, _, rfl, lx _ _, ?_⟩
  repeat (refine Below.setCell ?_ (by dsimp only; omega) _)
  exact Hc1.out
 | true =>
  have hx := cD.1 hv
  have hs : aW x ev = doW x ev := by unfold aW; rw [hv]; rfl
  obtain rfl := Hz.out.trans hs
  clear Hz
  have Hx := hid hx; have Hc1 := hid hc1; have E1 := hid e1; have E2 := hid e2
  clear hb1 hc1 e0 e1 e2 qf hv hs hx q0 q1 q2 q3 q4 q5 qf0 qf1 qf2 qf3 qf4 qf5
  go_wp2_with fail
  refine (kZ x _ _ (H.out _ Hc1.out) Hx.out).mono ?_
  rintro e' w3 ⟨um, us, un, ug, rfl, n3, hb3⟩
  obtain ⟨B1, d1, B2, d2, B3, d3, B4, d4, rfl, rfl, rfl, rfl⟩ := aD n3
  have hc3 := bt Hc1.out hb3
  have e13 := ab hb3 E1.out
  have e23 := ab hb3 E2.out
  have s3 := hb3.size
  obtain ⟨F, hrn, hF⟩ := Rn.ofNew8 (B0 := w1.heap.size) (a0 := .int .i32 0) (a1 := .int .u32 0) (t := 71) n3 (Nat.le_refl _) s3
  have hb4 := ac w3 (.cells #[.int .i32 0, .int .u32 0, .slice B1 x.mixes.length d1, .slice B2 x.sent.length d2, .slice B3 x.net.length d3, .slice B4 x.got.length d4, .int .i64 x.made, .int .i64 x.lost] 71)
  have e14 := ab hb4 e13
  have e24 := ab hb4 e23
  have hl8 := (wP (heap_alloc_new w3 (.cells #[.int .i32 0, .int .u32 0, .slice B1 x.mixes.length d1, .slice B2 x.sent.length d2, .slice B3 x.net.length d3, .slice B4 x.got.length d4, .int .i64 x.made, .int .i64 x.lost] 71))).1
  have s4 : (w3.alloc (.cells #[.int .i32 0, .int .u32 0, .slice B1 x.mixes.length d1, .slice B2 x.sent.length d2, .slice B3 x.net.length d3, .slice B4 x.got.length d4, .int .i64 x.made, .int .i64 x.lost] 71)).heap.size = w3.heap.size + 1 := by simp
  obtain ⟨v0, v1, v2, v3, _⟩ := aO e14
  have Hrn := hid hrn; have HF := hid hF; have E14 := hid e14; have E24 := hid e24; have Hl8 := hid hl8; have Hc4 := hid (bt hc3 hb4)
  have z14 : w.heap.size + 1 < (w3.alloc (.cells #[.int .i32 0, .int .u32 0, .slice B1 x.mixes.length d1, .slice B2 x.sent.length d2, .slice B3 x.net.length d3, .slice B4 x.got.length d4, .int .i64 x.made, .int .i64 x.lost] 71)).heap.size := by omega
  clear k0 k1 k2 k3 k4 k5 hb3 hrn hF e14 e24 hl8 e13 e23 hc3 n3 hb4 E1 E2
  go_wp2_with fail
  have hg4 := Hg.out _ Hc4.out
  have hB4 : w1.heap.size ≤ (w3.alloc (.cells #[.int .i32 0, .int .u32 0, .slice B1 x.mixes.length d1, .slice B2 x.sent.length d2, .slice B3 x.net.length d3, .slice B4 x.got.length d4, .int .i64 x.made, .int .i64 x.lost] 71)).heap.size := by omega
  generalize w3.alloc (.cells #[.int .i32 0, .int .u32 0, .slice B1 x.mixes.length d1, .slice B2 x.sent.length d2, .slice B3 x.net.length d3, .slice B4 x.got.length d4, .int .i64 x.made, .int .i64 x.lost] 71) = W4 at *
  refine (ux w1.heap.size w3.heap.size x F ev W4 Hrn.out Hx.out hB4 (by omega) hg4 Hl8.out).mono ?_
  rintro e' w5 ⟨rfl, F', hrn5, hF5, hT5⟩
  generalize doW x ev = y at *
  obtain ⟨um5, us5, un5, ug5, c0, c1, c2, c3, c4, c5, hb5, n5⟩ := hrn5.new
  obtain ⟨D1, f1, D2, f2, D3, f3, D4, f4, rfl, rfl, rfl, rfl⟩ := aD n5
  have e25 := hT5.row E24.out (fun hm => by rcases HF.out _ hm with h | h <;> omega)
  have hc5 : Below w.heap.size w w5 := Hc4.out.trans ((hT5.below hB4 (fun c hc => by rcases HF.out c hc with h | h <;> omega)).mono (by omega))
  obtain ⟨q0, q1, q2, q3, q4, q5, qf, qf0, qf1, qf2, qf3, qf4, qf5⟩ := bm e25
  have z25 : w.heap.size + 1 + 1 < w5.heap.size := (al e25)
  have N5 := hid n5; have Hc5 := hid hc5
  clear hrn5 hF5 hT5 n5 e25 qf hc5 v0 v1 v2 v3
  go_wp2_with fail
  refine bodyPost_ret (v := .agg #[.slice D1 y.mixes.length f1, .slice D2 y.sent.length f2, .slice D3 y.net.length f3, .slice D4 y.got.length f4, .int .i64 y.made, .int .i64 y.lost]) (by simp [results, Tryz.results16, go_sem, q0, q1, q2, q3, q4, q5]) rfl ⟨_, _, _, _, rfl, ?_, ?_⟩
  ·refine aG.base (B := w1.heap.size) ?_ (by omega)
   repeat (refine aG.set ?_ (by dsimp only; omega))
   exact N5.out
  ·repeat (refine Below.setCell ?_ (by dsimp only; omega) _)
   exact Hc5.out
def dP (B C : Nat) (w : World) (um us un ug : Value) (x : Wd) : Prop :=
 ∃ Fm Fs Fn Fg, (eV.E w [um] x.mixes Fm ∧ ct.E w [us] x.sent Fs ∧ eX.E w [un] x.net Fn ∧ ct.E w [ug] x.got Fg) ∧ (Fm ++ (Fs ++ (Fn ++ Fg))).Nodup ∧ ∀ c ∈ Fm ++ (Fs ++ (Fn ++ Fg)), B ≤ c ∧ c < C
section
variable {B C n : Nat} {w w' : World} {um us un ug : Value} {x : Wd}
theorem dP.of (h : aG oWd B w [um, us, un, ug, .int .i64 x.made, .int .i64 x.lost] x) : dP B w.heap.size w um us un ug x := by
 obtain ⟨Fm, Fs, Fn, Fg, h1, h2, h3, h4, n1, n2⟩ := dS h
 refine ⟨Fm, Fs, Fn, Fg, ⟨h1, h2, h3, h4⟩, n1, fun c hc => ⟨n2 c hc, ?_⟩⟩
 simp only [List.mem_append] at hc
 rcases hc with h | h | h | h
 ·exact eV.lt h1 c h
 ·exact ct.lt h2 c h
 ·exact eX.lt h3 c h
 ·exact ct.lt h4 c h
theorem dP.new (h : dP B C w um us un ug x) : aG oWd B w [um, us, un, ug, .int .i64 x.made, .int .i64 x.lost] x := by
 obtain ⟨Fm, Fs, Fn, Fg, ⟨h1, h2, h3, h4⟩, n1, n2⟩ := h
 exact ⟨Fm ++ (Fs ++ (Fn ++ (Fg ++ ([] ++ [])))), ⟨[um], _, Fm, _, rfl, rfl, h1, [us], _, Fs, _, rfl, rfl, h2, [un], _, Fn, _, rfl, rfl, h3, [ug], _, Fg, _, rfl, rfl, h4, [_], [_], [], [], rfl, rfl, ⟨rfl, rfl⟩, ⟨rfl, rfl⟩⟩, by simpa using n1, fun c hc => (n2 c (by simpa using hc)).1⟩
theorem dP.wdB (h : dP B C w um us un ug x) : WdB w.heap.size w (.agg #[um, us, un, ug, .int .i64 x.made, .int .i64 x.lost]) x := jT h.new
theorem dP.keep (h : dP B C w um us un ug x) (hk : ∀ c, B ≤ c → c < C → w'.heap[c]? = w.heap[c]?) : dP B C w' um us un ug x := by
 obtain ⟨Fm, Fs, Fn, Fg, ⟨h1, h2, h3, h4⟩, n1, n2⟩ := h
 have k : ∀ c ∈ Fm ++ (Fs ++ (Fn ++ Fg)), w'.heap[c]? = w.heap[c]? := fun c hc => hk c (n2 c hc).1 (n2 c hc).2
 exact ⟨Fm, Fs, Fn, Fg, ⟨eV.keep h1 (fun c hc => k c (by simp [hc])), ct.keep h2 (fun c hc => k c (by simp [hc])), eX.keep h3 (fun c hc => k c (by simp [hc])), ct.keep h4 (fun c hc => k c (by simp [hc]))⟩, n1, n2⟩
theorem dP.go (h : dP B C w um us un ug x) (hb : Below n w w') (hC : C ≤ n) : dP B C w' um us un ug x := h.keep (fun c _ hc => hb.block c (by omega))
theorem dP.form (h : dP B C w um us un ug x) : ∃ A1 c1 A2 c2 A3 c3 A4 c4, um = .slice A1 x.mixes.length c1 ∧ us = .slice A2 x.sent.length c2 ∧ un = .slice A3 x.net.length c3 ∧ ug = .slice A4 x.got.length c4 := aD h.new
end
theorem bK {B n t : Nat} {w0 w W : World} {x : Wd} {um us un ug : Value} (n1 : aG oWd B w [um, us, un, ug, .int .i64 x.made, .int .i64 x.lost] x) (hb : Below n w0 w) (hs : n ≤ w.heap.size) (h : w.alloc (.cells #[um, us, un, ug, .int .i64 x.made, .int .i64 x.lost] t) = W) :
  W.heap[w.heap.size]? = some (.cells #[um, us, un, ug, .int .i64 x.made, .int .i64 x.lost] t (0, 0)) ∧ dP B w.heap.size W um us un ug x ∧ Below w.heap.size w W ∧ Below n w0 W ∧ W.heap.size = w.heap.size + 1 := by
 subst h
 have hb1 := ac w (.cells #[um, us, un, ug, .int .i64 x.made, .int .i64 x.lost] t)
 exact ⟨heap_alloc_new _ _, (dP.of n1).go hb1 (Nat.le_refl _), hb1, hb.trans (hb1.mono hs), by simp⟩
end Go.Proofs.YtolgbefghbddeaaGreatDoor
