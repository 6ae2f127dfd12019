/- Texts that the last file leans on (part 27). -/
import Derived.Test.YtfaeojmndaplcaaGreatDoorM19
import Derived.Test.YtfaeojmndaplcaaGreatDoorM21
import Derived.Test.YtfaeojmndaplcaaGreatDoorM25
import Derived.Test.YtfaeojmndaplcaaGreatDoorM26
import Derived.Test.YtfaeojmndaplcaaGreatDoorM5
set_option linter.unusedVariables false
set_option linter.unusedSimpArgs false
set_option maxHeartbeats 4000000
set_option maxRecDepth 100000
namespace Go.Proofs.YtfaeojmndaplcaaGreatDoor
open Go Go.RowKit
theorem rS (R : Nat → Prop) (x : Wd) (v : Value) (kd a b c : Int) (w : World) (hv : WdR R w v x) (hk : kd = 1) (hm : 999 ≤ x.made) :
  Calls Tryz.prog 40 #[v, .agg #[.int .i64 kd, .int .i64 a, .int .i64 b, .int .i64 c]] w (b6 w R x) := by
 have i1 : (kd == 1) = true := by simp [hk]
 have i2 : decide (x.made < 999) = false := decide_eq_false (by omega)
 clear hk
 obtain ⟨A1, c1, A2, c2, A3, c3, A4, c4, rfl⟩ := hv.form
 go_enter Tryz.func40, Tryz.ntmps40
 go_upto_region 1 with fail
 generalize hgw : World.alloc (World.alloc (World.alloc w _) _) _ = W0; obtain ⟨e0, e1, e2, hW0, sW0⟩ := mL hgw; clear hgw
 have HV := hid (hv.off 3 hW0)
 obtain ⟨k0, k1, k2, k3, k4, k5, _⟩ := aC e0
 obtain ⟨v0, v1, v2, v3, _⟩ := bh e1
 obtain ⟨q0, q1, q2, q3, q4, q5, qf, qf0, qf1, qf2, qf3, qf4, qf5⟩ := bs e2
 have z0 : w.heap.size < W0.heap.size := by omega
 have z1 : w.heap.size + 1 < W0.heap.size := by omega
 have z2 : w.heap.size + 1 + 1 < W0.heap.size := by omega
 have HW0 := hid hW0; have E2 := hid e2
 clear hv hW0 e0 e1 e2 qf
 go_wp2_with fail
 refine bodyPost_ret (v := .agg #[.slice A1 x.mixes.length c1, .slice A2 x.sent.length c2, .slice A3 x.net.length c3, .slice A4 x.got.length c4, .int .i64 x.made, .int .i64 x.lost]) (by simp [results, Tryz.results40, go_sem, q0, q1, q2, q3, q4, q5]) rfl ⟨_, rfl, ?_, ?_⟩
 ·refine WdR.mono (R := be R w.heap.size (w.heap.size + 3)) ?_ (fun b _ h => h.1)
  repeat (refine WdR.set ?_ (aE (by dsimp only; omega) (by dsimp only; omega)))
  exact HV.out
 ·repeat (refine Below.setCell ?_ (by dsimp only; omega) _)
  exact HW0.out
theorem rT (R : Nat → Prop) (x : Wd) (v : Value) (kd a b c : Int) (w : World) (hR : ∀ b, w.heap.size ≤ b → R b) (hv : WdR R w v x) (hx : VD 0 x) (hk : kd = 1) (hm : x.made < 999) :
  Calls Tryz.prog 40 #[v, .agg #[.int .i64 kd, .int .i64 a, .int .i64 b, .int .i64 c]] w (b6 w R (dT x a b c)) := by
 have i1 : (kd == 1) = true := by simp [hk]
 have i2 : decide (x.made < 999) = true := decide_eq_true hm
 have Hx := hid hx
 clear hk hx
 obtain ⟨A1, c1, A2, c2, A3, c3, A4, c4, rfl⟩ := hv.form
 go_enter Tryz.func40, Tryz.ntmps40
 go_upto_region 1 with fail
 generalize hgw : World.alloc (World.alloc (World.alloc w _) _) _ = W0; obtain ⟨e0, e1, e2, hW0, sW0⟩ := mL hgw; clear hgw
 have HV := hid (hv.off 3 hW0)
 obtain ⟨k0, k1, k2, k3, k4, k5, _⟩ := aC e0
 obtain ⟨v0, v1, v2, v3, _⟩ := bh e1
 obtain ⟨q0, q1, q2, q3, q4, q5, qf, qf0, qf1, qf2, qf3, qf4, qf5⟩ := bs e2
 have z0 : w.heap.size < W0.heap.size := by omega
 have z1 : w.heap.size + 1 < W0.heap.size := by omega
 have z2 : w.heap.size + 1 + 1 < W0.heap.size := by omega
 have HW0 := hid hW0; have E2 := hid e2
 clear hv hW0 e0 e1 e2 qf
 go_wp2_with fail
 refine (uk (be R w.heap.size (w.heap.size + 3)) x _ a b c _ (fun b hb => ⟨hR b (by omega), .inr (by omega)⟩) HV.out Hx.out hm).mono ?_
 rintro e w9 ⟨v9, rfl, hw9, hb9⟩
 obtain ⟨b1', f1, b2', f2, b3', f3, b4', f4, rfl⟩ := hw9.form
 clear q0 q1 q2 q3 q4 q5 qf0 qf1 qf2 qf3 qf4 qf5
 obtain ⟨q0, q1, q2, q3, q4, q5, qf, qf0, qf1, qf2, qf3, qf4, qf5⟩ := bs (ac hb9 E2.out)
 have y2 : w.heap.size + 1 + 1 < w9.heap.size := by have := hb9.size; omega
 have HF := hid (bt HW0.out hb9); have HR := hid hw9
 clear hb9 hw9 qf E2 k0 k1 k2 k3 k4 k5 v0 v1 v2 v3
 generalize dT x a b c = y at *
 go_wp2_with fail
 refine bodyPost_ret (v := .agg #[.slice b1' y.mixes.length f1, .slice b2' y.sent.length f2, .slice b3' y.net.length f3, .slice b4' y.got.length f4, .int .i64 y.made, .int .i64 y.lost]) (by simp [results, Tryz.results40, go_sem, q0, q1, q2, q3, q4, q5]) rfl ⟨_, rfl, ?_, ?_⟩
 ·refine WdR.mono (R := be R w.heap.size (w.heap.size + 3)) ?_ (fun b _ h => h.1)
  repeat (refine WdR.set ?_ (aE (by dsimp only; omega) (by dsimp only; omega)))
  exact HR.out
 ·repeat (refine Below.setCell ?_ (by dsimp only; omega) _)
  exact HF.out
theorem ui (R : Nat → Prop) (x : Wd) (v : Value) (kd a b c : Int) (w : World) (hR : ∀ b, w.heap.size ≤ b → R b) (hv : WdR R w v x) (hx : VD 0 x) (h2 : kd = 2 ∨ kd = 3 ∨ kd = 4 ∨ kd = 5) :
  Calls Tryz.prog 40 #[v, .agg #[.int .i64 kd, .int .i64 a, .int .i64 b, .int .i64 c]] w (b6 w R (eS x ⟨kd, a, b, c⟩)) := by
 have i1 : (kd == 1) = false := by simp; omega
 have Hx := hid hx
 clear hx
 obtain ⟨A1, c1, A2, c2, A3, c3, A4, c4, rfl⟩ := hv.form
 go_enter Tryz.func40, Tryz.ntmps40
 go_upto_region 1 with fail
 generalize hgw : World.alloc (World.alloc (World.alloc w _) _) _ = W0; obtain ⟨e0, e1, e2, hW0, sW0⟩ := mL hgw; clear hgw
 have HV := hid (hv.off 3 hW0)
 obtain ⟨k0, k1, k2, k3, k4, k5, _⟩ := aC e0
 obtain ⟨v0, v1, v2, v3, _⟩ := bh e1
 obtain ⟨q0, q1, q2, q3, q4, q5, qf, qf0, qf1, qf2, qf3, qf4, qf5⟩ := bs e2
 have z0 : w.heap.size < W0.heap.size := by omega
 have z1 : w.heap.size + 1 < W0.heap.size := by omega
 have z2 : w.heap.size + 1 + 1 < W0.heap.size := by omega
 have HW0 := hid hW0; have E2 := hid e2
 clear hv hW0 e0 e1 e2 qf
 rcases h2 with hk | hk | hk | hk
 ·have j2 : (kd == 2) = true := by simp [hk]
  clear hk
  go_wp2_with fail
  refine (iR (be R w.heap.size (w.heap.size + 3)) x _ ⟨kd, a, b, c⟩ _ (fun b hb => ⟨hR b (by omega), .inr (by omega)⟩) HV.out Hx.out).mono ?_
  rintro e w9 ⟨v9, rfl, hw9, hb9⟩
  obtain ⟨b1', f1, b2', f2, b3', f3, b4', f4, rfl⟩ := hw9.form
  clear q0 q1 q2 q3 q4 q5 qf0 qf1 qf2 qf3 qf4 qf5
  obtain ⟨q0, q1, q2, q3, q4, q5, qf, qf0, qf1, qf2, qf3, qf4, qf5⟩ := bs (ac hb9 E2.out)
  have y2 : w.heap.size + 1 + 1 < w9.heap.size := by have := hb9.size; omega
  have HF := hid (bt HW0.out hb9); have HR := hid hw9
  clear hb9 hw9 qf E2 k0 k1 k2 k3 k4 k5 v0 v1 v2 v3
  generalize eS x ⟨kd, a, b, c⟩ = y at *
  go_wp2_with fail
  refine bodyPost_ret (v := .agg #[.slice b1' y.mixes.length f1, .slice b2' y.sent.length f2, .slice b3' y.net.length f3, .slice b4' y.got.length f4, .int .i64 y.made, .int .i64 y.lost]) (by simp [results, Tryz.results40, go_sem, q0, q1, q2, q3, q4, q5]) rfl ⟨_, rfl, ?_, ?_⟩
  ·refine WdR.mono (R := be R w.heap.size (w.heap.size + 3)) ?_ (fun b _ h => h.1)
   repeat (refine WdR.set ?_ (aE (by dsimp only; omega) (by dsimp only; omega)))
   exact HR.out
  ·repeat (refine Below.setCell ?_ (by dsimp only; omega) _)
   exact HF.out
 ·have j2 : (kd == 2) = false := by simp [hk]
  have j3 : (kd == 3) = true := by simp [hk]
  clear hk
  go_wp2_with fail
  refine (iR (be R w.heap.size (w.heap.size + 3)) x _ ⟨kd, a, b, c⟩ _ (fun b hb => ⟨hR b (by omega), .inr (by omega)⟩) HV.out Hx.out).mono ?_
  rintro e w9 ⟨v9, rfl, hw9, hb9⟩
  obtain ⟨b1', f1, b2', f2, b3', f3, b4', f4, rfl⟩ := hw9.form
  clear q0 q1 q2 q3 q4 q5 qf0 qf1 qf2 qf3 qf4 qf5
  obtain ⟨q0, q1, q2, q3, q4, q5, qf, qf0, qf1, qf2, qf3, qf4, qf5⟩ := bs (ac hb9 E2.out)
  have y2 : w.heap.size + 1 + 1 < w9.heap.size := by have := hb9.size; omega
  have HF := hid (bt HW0.out hb9); have HR := hid hw9
  clear hb9 hw9 qf E2 k0 k1 k2 k3 k4 k5 v0 v1 v2 v3
  generalize eS x ⟨kd, a, b, c⟩ = y at *
  go_wp2_with fail
  refine bodyPost_ret (v := .agg #[.slice b1' y.mixes.length f1, .slice b2' y.sent.length f2, .slice b3' y.net.length f3, .slice b4' y.got.length f4, .int .i64 y.made, .int .i64 y.lost]) (by simp [results, Tryz.results40, go_sem, q0, q1, q2, q3, q4, q5]) rfl ⟨_, rfl, ?_, ?_⟩
  ·refine WdR.mono (R := be R w.heap.size (w.heap.size + 3)) ?_ (fun b _ h => h.1)
   repeat (refine WdR.set ?_ (aE (by dsimp only; omega) (by dsimp only; omega)))
   exact HR.out
  ·repeat (refine Below.setCell ?_ (by dsimp only; omega) _)
   exact HF.out
 ·have j2 : (kd == 2) = false := by simp [hk]
  have j3 : (kd == 3) = false := by simp [hk]
  have j4 : (kd == 4) = true := by simp [hk]
  clear hk
  go_wp2_with fail
  refine (iR (be R w.heap.size (w.heap.size + 3)) x _ ⟨kd, a, b, c⟩ _ (fun b hb => ⟨hR b (by omega), .inr (by omega)⟩) HV.out Hx.out).mono ?_
  rintro e w9 ⟨v9, rfl, hw9, hb9⟩
  obtain ⟨b1', f1, b2', f2, b3', f3, b4', f4, rfl⟩ := hw9.form
  clear q0 q1 q2 q3 q4 q5 qf0 qf1 qf2 qf3 qf4 qf5
  obtain ⟨q0, q1, q2, q3, q4, q5, qf, qf0, qf1, qf2, qf3, qf4, qf5⟩ := bs (ac hb9 E2.out)
  have y2 : w.heap.size + 1 + 1 < w9.heap.size := by have := hb9.size; omega
  have HF := hid (bt HW0.out hb9); have HR := hid hw9
  clear hb9 hw9 qf E2 k0 k1 k2 k3 k4 k5 v0 v1 v2 v3
  generalize eS x ⟨kd, a, b, c⟩ = y at *
  go_wp2_with fail
  refine bodyPost_ret (v := .agg #[.slice b1' y.mixes.length f1, .slice b2' y.sent.length f2, .slice b3' y.net.length f3, .slice b4' y.got.length f4, .int .i64 y.made, .int .i64 y.lost]) (by simp [results, Tryz.results40, go_sem, q0, q1, q2, q3, q4, q5]) rfl ⟨_, rfl, ?_, ?_⟩
  ·refine WdR.mono (R := be R w.heap.size (w.heap.size + 3)) ?_ (fun b _ h => h.1)
   repeat (refine WdR.set ?_ (aE (by dsimp only; omega) (by dsimp only; omega)))
   exact HR.out
  ·repeat (refine Below.setCell ?_ (by dsimp only; omega) _)
   exact HF.out
 ·have j2 : (kd == 2) = false := by simp [hk]
  have j3 : (kd == 3) = false := by simp [hk]
  have j4 : (kd == 4) = false := by simp [hk]
  have j5 : (kd == 5) = true := by simp [hk]
  clear hk
  go_wp2_with fail
  refine (iR (be R w.heap.size (w.heap.size + 3)) x _ ⟨kd, a, b, c⟩ _ (fun b hb => ⟨hR b (by omega), .inr (by omega)⟩) HV.out Hx.out).mono ?_
  rintro e w9 ⟨v9, rfl, hw9, hb9⟩
  obtain ⟨b1', f1, b2', f2, b3', f3, b4', f4, rfl⟩ := hw9.form
  clear q0 q1 q2 q3 q4 q5 qf0 qf1 qf2 qf3 qf4 qf5
  obtain ⟨q0, q1, q2, q3, q4, q5, qf, qf0, qf1, qf2, qf3, qf4, qf5⟩ := bs (ac hb9 E2.out)
  have y2 : w.heap.size + 1 + 1 < w9.heap.size := by have := hb9.size; omega
  have HF := hid (bt HW0.out hb9); have HR := hid hw9
  clear hb9 hw9 qf E2 k0 k1 k2 k3 k4 k5 v0 v1 v2 v3
  generalize eS x ⟨kd, a, b, c⟩ = y at *
  go_wp2_with fail
  refine bodyPost_ret (v := .agg #[.slice b1' y.mixes.length f1, .slice b2' y.sent.length f2, .slice b3' y.net.length f3, .slice b4' y.got.length f4, .int .i64 y.made, .int .i64 y.lost]) (by simp [results, Tryz.results40, go_sem, q0, q1, q2, q3, q4, q5]) rfl ⟨_, rfl, ?_, ?_⟩
  ·refine WdR.mono (R := be R w.heap.size (w.heap.size + 3)) ?_ (fun b _ h => h.1)
   repeat (refine WdR.set ?_ (aE (by dsimp only; omega) (by dsimp only; omega)))
   exact HR.out
  ·repeat (refine Below.setCell ?_ (by dsimp only; omega) _)
   exact HF.out
theorem qp (R : Nat → Prop) (x : Wd) (v : Value) (kd : Int) (k : Nat) (b c : Int) (w : World) (hR : ∀ b, w.heap.size ≤ b → R b) (hv : WdR R w v x) (hx : VD 0 x) (hk : kd = 6) (hk3 : k < 3) :
  Calls Tryz.prog 40 #[v, .agg #[.int .i64 kd, .int .i64 k, .int .i64 b, .int .i64 c]] w (b6 w R (cJ x k false)) := by
 have i1 : (kd == 1) = false := by simp [hk]
 have j2 : (kd == 2) = false := by simp [hk]
 have j3 : (kd == 3) = false := by simp [hk]
 have j4 : (kd == 4) = false := by simp [hk]
 have j5 : (kd == 5) = false := by simp [hk]
 have j6 : (kd == 6) = true := by simp [hk]
 have hw : win (k : Int) 0 2 = true := aH.2 (by omega)
 have Hx := hid hx
 clear hk hx
 obtain ⟨a, ha⟩ : ∃ a : Int, a = (k : Int) := ⟨_, rfl⟩
 rw [← ha] at hw ⊢
 have Ha := hid ha
 clear ha
 obtain ⟨A1, c1, A2, c2, A3, c3, A4, c4, rfl⟩ := hv.form
 go_enter Tryz.func40, Tryz.ntmps40
 go_upto_region 1 with fail
 generalize hgw : World.alloc (World.alloc (World.alloc w _) _) _ = W0; obtain ⟨e0, e1, e2, hW0, sW0⟩ := mL hgw; clear hgw
 have HV := hid (hv.off 3 hW0)
 obtain ⟨k0, k1, k2, k3, k4, k5, _⟩ := aC e0
 obtain ⟨v0, v1, v2, v3, _⟩ := bh e1
 obtain ⟨q0, q1, q2, q3, q4, q5, qf, qf0, qf1, qf2, qf3, qf4, qf5⟩ := bs e2
 have z0 : w.heap.size < W0.heap.size := by omega
 have z1 : w.heap.size + 1 < W0.heap.size := by omega
 have z2 : w.heap.size + 1 + 1 < W0.heap.size := by omega
 have HW0 := hid hW0; have E2 := hid e2
 clear hv hW0 e0 e1 e2 qf
 go_wp2_with (go_at_call 68; refine (aU _ _ _ _).mono ?_; rw [hw]; rintro e w' ⟨rfl, rfl⟩)
 obtain rfl := Ha.out
 refine (mD (be R w.heap.size (w.heap.size + 3)) x _ k false _ (fun b hb => ⟨hR b (by omega), .inr (by omega)⟩) HV.out Hx.out hk3).mono ?_
 rintro e w9 ⟨v9, rfl, hw9, hb9⟩
 obtain ⟨b1', f1, b2', f2, b3', f3, b4', f4, rfl⟩ := hw9.form
 clear q0 q1 q2 q3 q4 q5 qf0 qf1 qf2 qf3 qf4 qf5
 obtain ⟨q0, q1, q2, q3, q4, q5, qf, qf0, qf1, qf2, qf3, qf4, qf5⟩ := bs (ac hb9 E2.out)
 have y2 : w.heap.size + 1 + 1 < w9.heap.size := by have := hb9.size; omega
 have HF := hid (bt HW0.out hb9); have HR := hid hw9
 clear hb9 hw9 qf E2 k0 k1 k2 k3 k4 k5 v0 v1 v2 v3
 generalize cJ x k false = y at *
 go_wp2_with fail
 refine bodyPost_ret (v := .agg #[.slice b1' y.mixes.length f1, .slice b2' y.sent.length f2, .slice b3' y.net.length f3, .slice b4' y.got.length f4, .int .i64 y.made, .int .i64 y.lost]) (by simp [results, Tryz.results40, go_sem, q0, q1, q2, q3, q4, q5]) rfl ⟨_, rfl, ?_, ?_⟩
 ·refine WdR.mono (R := be R w.heap.size (w.heap.size + 3)) ?_ (fun b _ h => h.1)
  repeat (refine WdR.set ?_ (aE (by dsimp only; omega) (by dsimp only; omega)))
  exact HR.out
 ·repeat (refine Below.setCell ?_ (by dsimp only; omega) _)
  exact HF.out
theorem nS (R : Nat → Prop) (x : Wd) (v : Value) (kd a b c : Int) (w : World) (hv : WdR R w v x) (hk : kd = 6) (hw : win a 0 2 = false) :
  Calls Tryz.prog 40 #[v, .agg #[.int .i64 kd, .int .i64 a, .int .i64 b, .int .i64 c]] w (b6 w R x) := by
 have i1 : (kd == 1) = false := by simp [hk]
 have j2 : (kd == 2) = false := by simp [hk]
 have j3 : (kd == 3) = false := by simp [hk]
 have j4 : (kd == 4) = false := by simp [hk]
 have j5 : (kd == 5) = false := by simp [hk]
 have j6 : (kd == 6) = true := by simp [hk]
 clear hk
 obtain ⟨A1, c1, A2, c2, A3, c3, A4, c4, rfl⟩ := hv.form
 go_enter Tryz.func40, Tryz.ntmps40
 go_upto_region 1 with fail
 generalize hgw : World.alloc (World.alloc (World.alloc w _) _) _ = W0; obtain ⟨e0, e1, e2, hW0, sW0⟩ := mL hgw; clear hgw
 have HV := hid (hv.off 3 hW0)
 obtain ⟨k0, k1, k2, k3, k4, k5, _⟩ := aC e0
 obtain ⟨v0, v1, v2, v3, _⟩ := bh e1
 obtain ⟨q0, q1, q2, q3, q4, q5, qf, qf0, qf1, qf2, qf3, qf4, qf5⟩ := bs e2
 have z0 : w.heap.size < W0.heap.size := by omega
 have z1 : w.heap.size + 1 < W0.heap.size := by omega
 have z2 : w.heap.size + 1 + 1 < W0.heap.size := by omega
 have HW0 := hid hW0; have E2 := hid e2
 clear hv hW0 e0 e1 e2 qf
 go_wp2_with (go_at_call 68; refine (aU _ _ _ _).mono ?_; rw [hw]; rintro e w' ⟨rfl, rfl⟩)
 refine bodyPost_ret (v := .agg #[.slice A1 x.mixes.length c1, .slice A2 x.sent.length c2, .slice A3 x.net.length c3, .slice A4 x.got.length c4, .int .i64 x.made, .int .i64 x.lost]) (by simp [results, Tryz.results40, go_sem, q0, q1, q2, q3, q4, q5]) rfl ⟨_, rfl, ?_, ?_⟩
 ·refine WdR.mono (R := be R w.heap.size (w.heap.size + 3)) ?_ (fun b _ h => h.1)
  repeat (refine WdR.set ?_ (aE (by dsimp only; omega) (by dsimp only; omega)))
  exact HV.out
 ·repeat (refine Below.setCell ?_ (by dsimp only; omega) _)
  exact HW0.out
theorem qq (R : Nat → Prop) (x : Wd) (v : Value) (kd a b c : Int) (w : World) (hv : WdR R w v x) (h1 : kd ≠ 1) (h2 : ¬ (kd = 2 ∨ kd = 3 ∨ kd = 4 ∨ kd = 5)) (h6 : kd ≠ 6) :
  Calls Tryz.prog 40 #[v, .agg #[.int .i64 kd, .int .i64 a, .int .i64 b, .int .i64 c]] w (b6 w R x) := by
 have i1 : (kd == 1) = false := by simp; omega
 have j2 : (kd == 2) = false := by simp; omega
 have j3 : (kd == 3) = false := by simp; omega
 have j4 : (kd == 4) = false := by simp; omega
 have j5 : (kd == 5) = false := by simp; omega
 have j6 : (kd == 6) = false := by simp; omega
 clear h1 h2 h6
 obtain ⟨A1, c1, A2, c2, A3, c3, A4, c4, rfl⟩ := hv.form
 go_enter Tryz.func40, Tryz.ntmps40
 go_upto_region 1 with fail
 generalize hgw : World.alloc (World.alloc (World.alloc w _) _) _ = W0; obtain ⟨e0, e1, e2, hW0, sW0⟩ := mL hgw; clear hgw
 have HV := hid (hv.off 3 hW0)
 obtain ⟨k0, k1, k2, k3, k4, k5, _⟩ := aC e0
 obtain ⟨v0, v1, v2, v3, _⟩ := bh e1
 obtain ⟨q0, q1, q2, q3, q4, q5, qf, qf0, qf1, qf2, qf3, qf4, qf5⟩ := bs e2
 have z0 : w.heap.size < W0.heap.size := by omega
 have z1 : w.heap.size + 1 < W0.heap.size := by omega
 have z2 : w.heap.size + 1 + 1 < W0.heap.size := by omega
 have HW0 := hid hW0; have E2 := hid e2
 clear hv hW0 e0 e1 e2 qf
 go_wp2_with fail
 refine bodyPost_ret (v := .agg #[.slice A1 x.mixes.length c1, .slice A2 x.sent.length c2, .slice A3 x.net.length c3, .slice A4 x.got.length c4, .int .i64 x.made, .int .i64 x.lost]) (by simp [results, Tryz.results40, go_sem, q0, q1, q2, q3, q4, q5]) rfl ⟨_, rfl, ?_, ?_⟩
 ·refine WdR.mono (R := be R w.heap.size (w.heap.size + 3)) ?_ (fun b _ h => h.1)
  repeat (refine WdR.set ?_ (aE (by dsimp only; omega) (by dsimp only; omega)))
  exact HV.out
 ·repeat (refine Below.setCell ?_ (by dsimp only; omega) _)
  exact HW0.out
theorem xz (R : Nat → Prop) (x : Wd) (v : Value) (e : Ev) (w : World) (hR : ∀ b, w.heap.size ≤ b → R b) (hv : WdR R w v x) (hx : VD 0 x) :
  Calls Tryz.prog 40 #[v, .agg #[.int .i64 e.kind, .int .i64 e.a, .int .i64 e.b, .int .i64 e.c]] w (b6 w R (doW x e)) := by
 obtain ⟨kd, a, b, c⟩ := e
 dsimp only
 by_cases h1 : kd = 1
 ·rw [show doW x ⟨kd, a, b, c⟩ = dT x a b c from by unfold doW; rw [if_pos h1]]
  by_cases hm : x.made < 999
  ·exact rT R x v kd a b c w hR hv hx h1 hm
  ·rw [show dT x a b c = x from by unfold dT; rw [if_neg (fun h => hm h.2.2.2.2)]]
   exact rS R x v kd a b c w hv h1 (by omega)
 ·by_cases h2 : kd = 2 ∨ kd = 3 ∨ kd = 4 ∨ kd = 5
  ·rw [show doW x ⟨kd, a, b, c⟩ = eS x ⟨kd, a, b, c⟩ from by unfold doW; rw [if_neg h1, if_pos h2]]
   exact ui R x v kd a b c w hR hv hx h2
  ·by_cases h6 : kd = 6
   ·cases hw : win a 0 2 with
    | false =>
     rw [show doW x ⟨kd, a, b, c⟩ = x from by unfold doW; rw [if_neg h1, if_neg h2, if_neg (fun h => by rw [hw] at h; cases h.2)]]
     exact nS R x v kd a b c w hv h6 hw
    | true =>
     obtain ⟨k, rfl⟩ : ∃ k : Nat, a = (k : Int) := ⟨a.toNat, by have := aH.1 hw; omega⟩
     rw [show doW x ⟨kd, k, b, c⟩ = cJ x k false from by unfold doW; rw [if_neg h1, if_neg h2, if_pos ⟨h6, hw⟩, Int.toNat_natCast]]
     exact qp R x v kd k b c w hR hv hx h6 (by have := aH.1 hw; omega)
   ·rw [show doW x ⟨kd, a, b, c⟩ = x from by unfold doW; rw [if_neg h1, if_neg h2, if_neg (fun h => h6 h.1)]]
    exact qq R x v kd a b c w hv h1 h2 h6
def uY (w : World) (x : Wd) (e : Ending) (w' : World) : Prop := ∃ um us un ug, e = .returned (.agg #[um, us, un, ug, .int .i64 x.made, .int .i64 x.lost]) ∧ aJ oWd w.heap.size w' [um, us, un, ug, .int .i64 x.made, .int .i64 x.lost] x ∧ Below w.heap.size w w'
theorem pN (B : Nat) (w : World) : aJ oWd B w [.slice none 0 0, .slice none 0 0, .slice none 0 0, .slice none 0 0, .int .i64 0, .int .i64 0] zWd := by
 refine ⟨[], ⟨[_], _, [], _, rfl, rfl, ⟨_, [], rfl, Own.nil _ _, rfl⟩, [_], _, [], _, rfl, rfl, ⟨_, [], rfl, Own.nil _ _, rfl⟩, [_], _, [], _, rfl, rfl, ⟨_, [], rfl, Own.nil _ _, rfl⟩, [_], _, [], _, rfl, rfl, ⟨_, [], rfl, Own.nil _ _, rfl⟩, [_], [_], [], [], rfl, rfl, ⟨rfl, rfl⟩, ⟨rfl, rfl⟩⟩, List.nodup_nil, fun _ h => by cases h⟩
theorem jd (l : List Mx) (k : Nat) : aO (l.take k) ≤ aO l := by
 induction l generalizing k with
 | nil => simp
 | cons m l ih =>
  cases k with
  | zero => simp [aO]
  | succ k =>
   have := ih k
   simp only [aO, List.take_succ_cons, List.map_cons, List.sum_cons] at *
   omega
theorem mC (x : Wd) (v : Value) (w : World) (h : WdB w.heap.size w v x) (hp : (x.net.length : Int) + aO x.mixes ≤ 4611686018427387904) : Calls Tryz.prog 108 #[v] w (ok (!gY x) w.heap.size w) := by
 obtain ⟨vm, vs, vn, vg, rfl, hm, hs, hn, hg⟩ := h
 obtain ⟨A1, c1, rfl, _, _, m3⟩ := hm.form
 obtain ⟨A3, c3, rfl, _, _, _⟩ := hn.form
 have hr := hm.go (ab w (Obj.cells #[Value.slice A1 x.mixes.length c1, vs, .slice A3 x.net.length c3, vg, Value.int IntKind.i64 x.made, Value.int IntKind.i64 x.lost] 33))
 go_enter Tryz.func108, Tryz.ntmps108
 go_wp2_with fail
 go_loop [3, 4] (fun nv i => ∃ k : Nat, k ≤ x.mixes.length ∧ i = .int .i64 k ∧ nv = .int .i64 ((x.net.length : Int) + aO (x.mixes.take k))) (fun _ i => x.mixes.length - (intOf i).toNat)
 case atStart => exact ⟨0, by omega, rfl, by simp [aO]⟩
 case round =>
  obtain ⟨k, hk, rfl, rfl⟩ := hrel
  have hq := jd x.mixes k
  have hq2 := jd x.mixes (k + 1)
  by_cases hlt : k < x.mixes.length
  ·obtain ⟨y, hx⟩ := ai hlt
   obtain ⟨b, o, us, up, rfl, _, _, s1, s2, q0, q1, q2⟩ := hr.mx hx
   obtain ⟨Ab, cb, rfl, _, _, _⟩ := s2.form
   have ht : aO (x.mixes.take (k + 1)) = aO (x.mixes.take k) + y.pool.length := by rw [aK hx, fa]
   have Ht := hid ht
   rw [ht] at hq2
   clear hx hr s1 s2 ht hm
   generalize aO (x.mixes.take k) = q at *
   go_wp2
   go_round
   case rel => exact ⟨k + 1, by omega, by go_num, by rw [Ht.out]; go_num⟩
   case measure => simp [intOf]; omega
  ·have Hq := hid (show x.mixes.take k = x.mixes from aV hk hlt)
   go_wp2
   go_ret
   refine ⟨ah ?_, ab _ _⟩
   rw [Hq.out]
   unfold gY
   by_cases h0 : 0 < x.net.length + aO x.mixes
   ·rw [decide_eq_true h0]; simp; omega
   ·rw [decide_eq_false h0]; simp; omega
theorem y9 {w : World} {n t : Nat} {a b c d e f g k : Value} (h : w.heap[n]? = some (.cells #[a, b, c, d, e, f, g, k] t (0, 0))) :
  w.cell? ⟨n, 0, none⟩ = some a ∧ w.cell? ⟨n, 1, none⟩ = some b ∧ w.cell? ⟨n, 2, none⟩ = some c ∧ w.cell? ⟨n, 3, none⟩ = some d ∧ w.cell? ⟨n, 4, none⟩ = some e ∧ w.cell? ⟨n, 5, none⟩ = some f ∧ w.cell? ⟨n, 6, none⟩ = some g ∧ w.cell? ⟨n, 7, none⟩ = some k ∧ ∀ j, w.frozen? ⟨n, j, none⟩ = false :=
 ⟨by rw [cell_of_row w n 0 _ _ _ h]; rfl, by rw [cell_of_row w n 1 _ _ _ h]; rfl, by rw [cell_of_row w n 2 _ _ _ h]; rfl, by rw [cell_of_row w n 3 _ _ _ h]; rfl, by rw [cell_of_row w n 4 _ _ _ h]; rfl, by rw [cell_of_row w n 5 _ _ _ h]; rfl, by rw [cell_of_row w n 6 _ _ _ h]; rfl, by rw [cell_of_row w n 7 _ _ _ h]; rfl, fun j => frozen_of_row w n j _ _ h⟩
theorem Rn.ofNew8 {B B0 t : Nat} {w : World} {x : Wd} {um us un ug a0 a1 : Value} (h : aJ oWd B w [um, us, un, ug, .int .i64 x.made, .int .i64 x.lost] x) (hB : B0 ≤ B) (hBw : B0 ≤ w.heap.size) :
  ∃ F, Rn B0 (w.alloc (.cells #[a0, a1, um, us, un, ug, .int .i64 x.made, .int .i64 x.lost] t)) w.heap.size 2 x F ∧ ∀ c ∈ F, c = w.heap.size ∨ B ≤ c := by
 obtain ⟨Fm, Fs, Fn, Fg, h1, h2, h3, h4, n1, n2⟩ := fE h
 have l1 := gy.lt h1; have l2 := cX.lt h2; have l3 := gA.lt h3; have l4 := cX.lt h4
 have hlt : ∀ c ∈ Fm ++ (Fs ++ (Fn ++ Fg)), c < w.heap.size := fun c hc => by
  simp only [List.mem_append] at hc
  rcases hc with h | h | h | h
  ·exact l1 c h
  ·exact l2 c h
  ·exact l3 c h
  ·exact l4 c h
 have hb := ab w (.cells #[a0, a1, um, us, un, ug, .int .i64 x.made, .int .i64 x.lost] t)
 obtain ⟨_, _, q0, q1, q2, q3, q4, q5, qf⟩ := y9 (heap_alloc_new w (.cells #[a0, a1, um, us, un, ug, .int .i64 x.made, .int .i64 x.lost] t))
 refine ⟨_, ⟨um, us, un, ug, Fm, Fs, Fn, Fg, ⟨q0, q1, q2, q3, q4, q5, qf, gy.keep h1 (fun c hc => hb.block c (l1 c hc)), cX.keep h2 (fun c hc => hb.block c (l2 c hc)), gA.keep h3 (fun c hc => hb.block c (l3 c hc)), cX.keep h4 (fun c hc => hb.block c (l4 c hc)), List.nodup_cons.2 ⟨fun hm => by have := hlt _ hm; omega, n1⟩, fun c hc => ?_⟩, rfl⟩, fun c hc => ?_⟩
 ·rcases List.mem_cons.1 hc with rfl | hc
  ·exact hBw
  ·exact Nat.le_trans hB (n2 c hc)
 ·rcases List.mem_cons.1 hc with rfl | hc
  ·exact .inl rfl
  ·exact .inr (n2 c hc)
theorem Rn.new {B b o : Nat} {w : World} {x : Wd} {F : List Nat} (h : Rn B w b o x F) : ∃ um us un ug, w.cell? ⟨b, o, none⟩ = some um ∧ w.cell? ⟨b, o + 1, none⟩ = some us ∧ w.cell? ⟨b, o + 2, none⟩ = some un ∧ w.cell? ⟨b, o + 3, none⟩ = some ug ∧ w.cell? ⟨b, o + 4, none⟩ = some (.int .i64 x.made) ∧ w.cell? ⟨b, o + 5, none⟩ = some (.int .i64 x.lost) ∧ b < w.heap.size ∧ aJ oWd B w [um, us, un, ug, .int .i64 x.made, .int .i64 x.lost] x := by
 obtain ⟨um, us, un, ug, _, _, _, _, hr, _⟩ := h
 exact ⟨um, us, un, ug, hr.c0, hr.c1, hr.c2, hr.c3, hr.c4, hr.c5, hr.blk, hr.newA⟩
theorem vS (x : Wd) (v : Value) (ev : Ev) (w : World) (hg : bx w) (h : WdB w.heap.size w v x) (hgl : x.got.length ≤ 1073741824) :
  Calls Tryz.prog 25 #[v, .agg #[.int .i64 ev.kind, .int .i64 ev.a, .int .i64 ev.b, .int .i64 ev.c]] w (uY w (lj x ev)) := by
 have hw0 : 0 < w.heap.size := World.block_lt_of_cell? _ _ hg
 have H := hid (fun (wx : World) (hb : Below w.heap.size w wx) => h.go hb)
 have Hg := hid (fun (wx : World) (hb : Below w.heap.size w wx) => hg.go hb)
 obtain ⟨A1, c1, A2, c2, A3, c3, A4, c4, rfl⟩ := (WdR.of_wdB (R := fun _ => True) h (fun _ _ => trivial)).form
 clear h hg
 obtain ⟨z, hz⟩ : ∃ z, z = lj x ev := ⟨_, rfl⟩
 rw [← hz]
 have Hz := hid hz
 clear hz
 go_enter Tryz.func25, Tryz.ntmps25
 go_wp2_with fail
 refine (qi x _ _ (H.out _ (by repeat (first | exact zm | apply ae | refine bA ?_ (by omega) | refine Below.setCell ?_ (by first | omega | simp <;> omega) _))) hgl).mono ?_
 rintro e' w1 ⟨rfl, hb1⟩
 obtain ⟨e0, e1, e2⟩ := gH hb1
 have hc1 : Below w.heap.size w w1 := bt (by repeat (first | exact zm | apply ae | refine bA ?_ (by omega) | refine Below.setCell ?_ (by first | omega | simp <;> omega) _)) hb1
 obtain ⟨k0, k1, k2, k3, k4, k5, _⟩ := aC e0
 obtain ⟨v0, v1, v2, v3, _⟩ := bh e1
 obtain ⟨q0, q1, q2, q3, q4, q5, qf, qf0, qf1, qf2, qf3, qf4, qf5⟩ := bs e2
 have z2 : w.heap.size + 1 + 1 < w1.heap.size := (zn e2)
 have z1 : w.heap.size + 1 < w1.heap.size := by omega
 have z0 : w.heap.size < w1.heap.size := by omega
 cases hv : wdB x with
 | false =>
  have hs : lj x ev = zWd := by unfold lj; rw [hv]; rfl
  obtain rfl := Hz.out.trans hs
  clear Hz
  have Hc1 := hid hc1
  clear hb1 hc1 e0 e1 e2 qf hv hs
  go_wp2_with fail
  refine bodyPost_ret (v := .agg #[.slice none 0 0, .slice none 0 0, .slice none 0 0, .slice none 0 0, .int .i64 0, .int .i64 0]) (by simp [results, Tryz.results25, go_sem, q0, q1, q2, q3, q4, q5]) rfl ⟨_, _, _, _, rfl, pN _ _, ?_⟩
  repeat (refine Below.setCell ?_ (by dsimp only; omega) _)
  exact Hc1.out
 | true =>
  have hx := gV.1 hv
  have hs : lj x ev = doW x ev := by unfold lj; rw [hv]; rfl
  obtain rfl := Hz.out.trans hs
  clear Hz
  have Hx := hid hx; have Hc1 := hid hc1; have E1 := hid e1; have E2 := hid e2
  clear hb1 hc1 e0 e1 e2 qf hv hs hx q0 q1 q2 q3 q4 q5 qf0 qf1 qf2 qf3 qf4 qf5
  go_wp2_with fail
  refine (lK x _ _ (H.out _ Hc1.out) Hx.out).mono ?_
  rintro e' w3 ⟨um, us, un, ug, rfl, n3, hb3⟩
  obtain ⟨B1, d1, B2, d2, B3, d3, B4, d4, rfl, rfl, rfl, rfl⟩ := cQ n3
  have hc3 := bt Hc1.out hb3
  have e13 := ac hb3 E1.out
  have e23 := ac hb3 E2.out
  have s3 := hb3.size
  obtain ⟨F, hrn, hF⟩ := Rn.ofNew8 (B0 := w1.heap.size) (a0 := .int .i32 0) (a1 := .int .u32 0) (t := 87) n3 (Nat.le_refl _) s3
  have hb4 := ab w3 (.cells #[.int .i32 0, .int .u32 0, .slice B1 x.mixes.length d1, .slice B2 x.sent.length d2, .slice B3 x.net.length d3, .slice B4 x.got.length d4, .int .i64 x.made, .int .i64 x.lost] 87)
  have e14 := ac hb4 e13
  have e24 := ac hb4 e23
  have hl8 := (y9 (heap_alloc_new w3 (.cells #[.int .i32 0, .int .u32 0, .slice B1 x.mixes.length d1, .slice B2 x.sent.length d2, .slice B3 x.net.length d3, .slice B4 x.got.length d4, .int .i64 x.made, .int .i64 x.lost] 87))).1
  have s4 : (w3.alloc (.cells #[.int .i32 0, .int .u32 0, .slice B1 x.mixes.length d1, .slice B2 x.sent.length d2, .slice B3 x.net.length d3, .slice B4 x.got.length d4, .int .i64 x.made, .int .i64 x.lost] 87)).heap.size = w3.heap.size + 1 := by simp
  obtain ⟨v0, v1, v2, v3, _⟩ := bh e14
  have Hrn := hid hrn; have HF := hid hF; have E14 := hid e14; have E24 := hid e24; have Hl8 := hid hl8; have Hc4 := hid (bt hc3 hb4)
  have z14 : w.heap.size + 1 < (w3.alloc (.cells #[.int .i32 0, .int .u32 0, .slice B1 x.mixes.length d1, .slice B2 x.sent.length d2, .slice B3 x.net.length d3, .slice B4 x.got.length d4, .int .i64 x.made, .int .i64 x.lost] 87)).heap.size := by omega
  clear k0 k1 k2 k3 k4 k5 hb3 hrn hF e14 e24 hl8 e13 e23 hc3 n3 hb4 E1 E2
  go_wp2_with fail
  have hg4 := Hg.out _ Hc4.out
  have hB4 : w1.heap.size ≤ (w3.alloc (.cells #[.int .i32 0, .int .u32 0, .slice B1 x.mixes.length d1, .slice B2 x.sent.length d2, .slice B3 x.net.length d3, .slice B4 x.got.length d4, .int .i64 x.made, .int .i64 x.lost] 87)).heap.size := by omega
  generalize w3.alloc (.cells #[.int .i32 0, .int .u32 0, .slice B1 x.mixes.length d1, .slice B2 x.sent.length d2, .slice B3 x.net.length d3, .slice B4 x.got.length d4, .int .i64 x.made, .int .i64 x.lost] 87) = W4 at *
  refine (xb w1.heap.size w3.heap.size x F ev W4 Hrn.out Hx.out hB4 (by omega) hg4 Hl8.out).mono ?_
  rintro e' w5 ⟨rfl, F', hrn5, hF5, hT5⟩
  generalize doW x ev = y at *
  obtain ⟨um5, us5, un5, ug5, c0, c1, c2, c3, c4, c5, hb5, n5⟩ := hrn5.new
  obtain ⟨D1, f1, D2, f2, D3, f3, D4, f4, rfl, rfl, rfl, rfl⟩ := cQ n5
  have e25 := hT5.row E24.out (fun hm => by rcases HF.out _ hm with h | h <;> omega)
  have hc5 : Below w.heap.size w w5 := Hc4.out.trans ((hT5.below hB4 (fun c hc => by rcases HF.out c hc with h | h <;> omega)).mono (by omega))
  obtain ⟨q0, q1, q2, q3, q4, q5, qf, qf0, qf1, qf2, qf3, qf4, qf5⟩ := bs e25
  have z25 : w.heap.size + 1 + 1 < w5.heap.size := (zn e25)
  have N5 := hid n5; have Hc5 := hid hc5
  clear hrn5 hF5 hT5 n5 e25 qf hc5 v0 v1 v2 v3
  go_wp2_with fail
  refine bodyPost_ret (v := .agg #[.slice D1 y.mixes.length f1, .slice D2 y.sent.length f2, .slice D3 y.net.length f3, .slice D4 y.got.length f4, .int .i64 y.made, .int .i64 y.lost]) (by simp [results, Tryz.results25, go_sem, q0, q1, q2, q3, q4, q5]) rfl ⟨_, _, _, _, rfl, ?_, ?_⟩
  ·refine aJ.base (B := w1.heap.size) ?_ (by omega)
   repeat (refine aJ.set ?_ (by dsimp only; omega))
   exact N5.out
  ·repeat (refine Below.setCell ?_ (by dsimp only; omega) _)
   exact Hc5.out
def pQ (B C : Nat) (w : World) (um us un ug : Value) (x : Wd) : Prop :=
 ∃ Fm Fs Fn Fg, (gy.E w [um] x.mixes Fm ∧ cX.E w [us] x.sent Fs ∧ gA.E w [un] x.net Fn ∧ cX.E w [ug] x.got Fg) ∧ (Fm ++ (Fs ++ (Fn ++ Fg))).Nodup ∧ ∀ c ∈ Fm ++ (Fs ++ (Fn ++ Fg)), B ≤ c ∧ c < C
section
variable {B C n : Nat} {w w' : World} {um us un ug : Value} {x : Wd}
theorem pQ.new (h : pQ B C w um us un ug x) : aJ oWd B w [um, us, un, ug, .int .i64 x.made, .int .i64 x.lost] x := by
 obtain ⟨Fm, Fs, Fn, Fg, ⟨h1, h2, h3, h4⟩, n1, n2⟩ := h
 exact ⟨Fm ++ (Fs ++ (Fn ++ (Fg ++ ([] ++ [])))), ⟨[um], _, Fm, _, rfl, rfl, h1, [us], _, Fs, _, rfl, rfl, h2, [un], _, Fn, _, rfl, rfl, h3, [ug], _, Fg, _, rfl, rfl, h4, [_], [_], [], [], rfl, rfl, ⟨rfl, rfl⟩, ⟨rfl, rfl⟩⟩, by simpa using n1, fun c hc => (n2 c (by simpa using hc)).1⟩
theorem pQ.wdB (h : pQ B C w um us un ug x) : WdB w.heap.size w (.agg #[um, us, un, ug, .int .i64 x.made, .int .i64 x.lost]) x := qH h.new
end
end Go.Proofs.YtfaeojmndaplcaaGreatDoor
