/- Texts that the last file leans on (part 30). -/
import Derived.Test.YtfmibcofgckldaaGreatDoorM0
import Derived.Test.YtfmibcofgckldaaGreatDoorM2
import Derived.Test.YtfmibcofgckldaaGreatDoorM21
import Derived.Test.YtfmibcofgckldaaGreatDoorM24
set_option linter.unusedVariables false
set_option linter.unusedSimpArgs false
set_option maxHeartbeats 4000000
set_option maxRecDepth 100000
namespace Go.Proofs.YtfmibcofgckldaaGreatDoor
open Go Go.RowKit
theorem oG (R : Nat → Prop) (x : Wd) (v : Value) (kd a b c : Int) (w : World) (hv : WdR R w v x) (hk : kd = 1) (hm : 999 ≤ x.made) :
  Calls Tryz.prog 26 #[v, .agg #[.int .i64 kd, .int .i64 a, .int .i64 b, .int .i64 c]] w (bJ w R x) := by
 have i1 : (kd == 1) = true := by simp [hk]
 have i2 : decide (x.made < 999) = false := decide_eq_false (by omega)
 clear hk
 obtain ⟨A1, c1, A2, c2, A3, c3, A4, c4, rfl⟩ := hv.form
 go_enter Tryz.func26, Tryz.ntmps26
 go_upto_region 1 with fail
 generalize hgw : World.alloc (World.alloc (World.alloc w _) _) _ = W0; obtain ⟨e0, e1, e2, hW0, sW0⟩ := vB hgw; clear hgw
 have HV := hid (hv.off 3 hW0)
 obtain ⟨k0, k1, k2, k3, k4, k5, _⟩ := al e0
 obtain ⟨v0, v1, v2, v3, _⟩ := aQ e1
 obtain ⟨q0, q1, q2, q3, q4, q5, qf, qf0, qf1, qf2, qf3, qf4, qf5⟩ := row6f e2
 have z0 : w.heap.size < W0.heap.size := by omega
 have z1 : w.heap.size + 1 < W0.heap.size := by omega
 have z2 : w.heap.size + 1 + 1 < W0.heap.size := by omega
 have HW0 := hid hW0; have E2 := hid e2
 clear hv hW0 e0 e1 e2 qf
 go_wp2_with fail
 refine bodyPost_ret (v := .agg #[.slice A1 x.mixes.length c1, .slice A2 x.sent.length c2, .slice A3 x.net.length c3, .slice A4 x.got.length c4, .int .i64 x.made, .int .i64 x.lost]) (by simp [results, Tryz.results26, go_sem, q0, q1, q2, q3, q4, q5]) rfl ⟨_, rfl, ?_, ?_⟩
 ·refine WdR.mono (R := bi R w.heap.size (w.heap.size + 3)) ?_ (fun b _ h => h.1)
  repeat (refine WdR.set ?_ (aF (by dsimp only; omega) (by dsimp only; omega)))
  exact HV.out
 ·repeat (refine Below.setCell ?_ (by dsimp only; omega) _)
  exact HW0.out
theorem oH (R : Nat → Prop) (x : Wd) (v : Value) (kd a b c : Int) (w : World) (hR : ∀ b, w.heap.size ≤ b → R b) (hv : WdR R w v x) (hx : VD 0 x) (hk : kd = 1) (hm : x.made < 999) :
  Calls Tryz.prog 26 #[v, .agg #[.int .i64 kd, .int .i64 a, .int .i64 b, .int .i64 c]] w (bJ w R (cU x a b c)) := by
 have i1 : (kd == 1) = true := by simp [hk]
 have i2 : decide (x.made < 999) = true := decide_eq_true hm
 have Hx := hid hx
 clear hk hx
 obtain ⟨A1, c1, A2, c2, A3, c3, A4, c4, rfl⟩ := hv.form
 go_enter Tryz.func26, Tryz.ntmps26
 go_upto_region 1 with fail
 generalize hgw : World.alloc (World.alloc (World.alloc w _) _) _ = W0; obtain ⟨e0, e1, e2, hW0, sW0⟩ := vB hgw; clear hgw
 have HV := hid (hv.off 3 hW0)
 obtain ⟨k0, k1, k2, k3, k4, k5, _⟩ := al e0
 obtain ⟨v0, v1, v2, v3, _⟩ := aQ e1
 obtain ⟨q0, q1, q2, q3, q4, q5, qf, qf0, qf1, qf2, qf3, qf4, qf5⟩ := row6f e2
 have z0 : w.heap.size < W0.heap.size := by omega
 have z1 : w.heap.size + 1 < W0.heap.size := by omega
 have z2 : w.heap.size + 1 + 1 < W0.heap.size := by omega
 have HW0 := hid hW0; have E2 := hid e2
 clear hv hW0 e0 e1 e2 qf
 go_wp2_with fail
 refine (qv (bi R w.heap.size (w.heap.size + 3)) x _ a b c _ (fun b hb => ⟨hR b (by omega), .inr (by omega)⟩) HV.out Hx.out hm).mono ?_
 rintro e w9 ⟨v9, rfl, hw9, hb9⟩
 obtain ⟨b1', f1, b2', f2, b3', f3, b4', f4, rfl⟩ := hw9.form
 clear q0 q1 q2 q3 q4 q5 qf0 qf1 qf2 qf3 qf4 qf5
 obtain ⟨q0, q1, q2, q3, q4, q5, qf, qf0, qf1, qf2, qf3, qf4, qf5⟩ := row6f (heap_go hb9 E2.out)
 have y2 : w.heap.size + 1 + 1 < w9.heap.size := by have := hb9.size; omega
 have HF := hid (bt HW0.out hb9); have HR := hid hw9
 clear hb9 hw9 qf E2 k0 k1 k2 k3 k4 k5 v0 v1 v2 v3
 generalize cU x a b c = y at *
 go_wp2_with fail
 refine bodyPost_ret (v := .agg #[.slice b1' y.mixes.length f1, .slice b2' y.sent.length f2, .slice b3' y.net.length f3, .slice b4' y.got.length f4, .int .i64 y.made, .int .i64 y.lost]) (by simp [results, Tryz.results26, go_sem, q0, q1, q2, q3, q4, q5]) rfl ⟨_, rfl, ?_, ?_⟩
 ·refine WdR.mono (R := bi R w.heap.size (w.heap.size + 3)) ?_ (fun b _ h => h.1)
  repeat (refine WdR.set ?_ (aF (by dsimp only; omega) (by dsimp only; omega)))
  exact HR.out
 ·repeat (refine Below.setCell ?_ (by dsimp only; omega) _)
  exact HF.out
theorem qt (R : Nat → Prop) (x : Wd) (v : Value) (kd a b c : Int) (w : World) (hR : ∀ b, w.heap.size ≤ b → R b) (hv : WdR R w v x) (hx : VD 0 x) (h2 : kd = 2 ∨ kd = 3 ∨ kd = 4 ∨ kd = 5) :
  Calls Tryz.prog 26 #[v, .agg #[.int .i64 kd, .int .i64 a, .int .i64 b, .int .i64 c]] w (bJ w R (eE x ⟨kd, a, b, c⟩)) := by
 have i1 : (kd == 1) = false := by simp; omega
 have Hx := hid hx
 clear hx
 obtain ⟨A1, c1, A2, c2, A3, c3, A4, c4, rfl⟩ := hv.form
 go_enter Tryz.func26, Tryz.ntmps26
 go_upto_region 1 with fail
 generalize hgw : World.alloc (World.alloc (World.alloc w _) _) _ = W0; obtain ⟨e0, e1, e2, hW0, sW0⟩ := vB hgw; clear hgw
 have HV := hid (hv.off 3 hW0)
 obtain ⟨k0, k1, k2, k3, k4, k5, _⟩ := al e0
 obtain ⟨v0, v1, v2, v3, _⟩ := aQ e1
 obtain ⟨q0, q1, q2, q3, q4, q5, qf, qf0, qf1, qf2, qf3, qf4, qf5⟩ := row6f e2
 have z0 : w.heap.size < W0.heap.size := by omega
 have z1 : w.heap.size + 1 < W0.heap.size := by omega
 have z2 : w.heap.size + 1 + 1 < W0.heap.size := by omega
 have HW0 := hid hW0; have E2 := hid e2
 clear hv hW0 e0 e1 e2 qf
 rcases h2 with hk | hk | hk | hk
 ·have j2 : (kd == 2) = true := by simp [hk]
  clear hk
  go_wp2_with fail
  refine (l51Net_c (bi R w.heap.size (w.heap.size + 3)) x _ ⟨kd, a, b, c⟩ _ (fun b hb => ⟨hR b (by omega), .inr (by omega)⟩) HV.out Hx.out).mono ?_
  rintro e w9 ⟨v9, rfl, hw9, hb9⟩
  obtain ⟨b1', f1, b2', f2, b3', f3, b4', f4, rfl⟩ := hw9.form
  clear q0 q1 q2 q3 q4 q5 qf0 qf1 qf2 qf3 qf4 qf5
  obtain ⟨q0, q1, q2, q3, q4, q5, qf, qf0, qf1, qf2, qf3, qf4, qf5⟩ := row6f (heap_go hb9 E2.out)
  have y2 : w.heap.size + 1 + 1 < w9.heap.size := by have := hb9.size; omega
  have HF := hid (bt HW0.out hb9); have HR := hid hw9
  clear hb9 hw9 qf E2 k0 k1 k2 k3 k4 k5 v0 v1 v2 v3
  generalize eE x ⟨kd, a, b, c⟩ = y at *
  go_wp2_with fail
  refine bodyPost_ret (v := .agg #[.slice b1' y.mixes.length f1, .slice b2' y.sent.length f2, .slice b3' y.net.length f3, .slice b4' y.got.length f4, .int .i64 y.made, .int .i64 y.lost]) (by simp [results, Tryz.results26, go_sem, q0, q1, q2, q3, q4, q5]) rfl ⟨_, rfl, ?_, ?_⟩
  ·refine WdR.mono (R := bi R w.heap.size (w.heap.size + 3)) ?_ (fun b _ h => h.1)
   repeat (refine WdR.set ?_ (aF (by dsimp only; omega) (by dsimp only; omega)))
   exact HR.out
  ·repeat (refine Below.setCell ?_ (by dsimp only; omega) _)
   exact HF.out
 ·have j2 : (kd == 2) = false := by simp [hk]
  have j3 : (kd == 3) = true := by simp [hk]
  clear hk
  go_wp2_with fail
  refine (l51Net_c (bi R w.heap.size (w.heap.size + 3)) x _ ⟨kd, a, b, c⟩ _ (fun b hb => ⟨hR b (by omega), .inr (by omega)⟩) HV.out Hx.out).mono ?_
  rintro e w9 ⟨v9, rfl, hw9, hb9⟩
  obtain ⟨b1', f1, b2', f2, b3', f3, b4', f4, rfl⟩ := hw9.form
  clear q0 q1 q2 q3 q4 q5 qf0 qf1 qf2 qf3 qf4 qf5
  obtain ⟨q0, q1, q2, q3, q4, q5, qf, qf0, qf1, qf2, qf3, qf4, qf5⟩ := row6f (heap_go hb9 E2.out)
  have y2 : w.heap.size + 1 + 1 < w9.heap.size := by have := hb9.size; omega
  have HF := hid (bt HW0.out hb9); have HR := hid hw9
  clear hb9 hw9 qf E2 k0 k1 k2 k3 k4 k5 v0 v1 v2 v3
  generalize eE x ⟨kd, a, b, c⟩ = y at *
  go_wp2_with fail
  refine bodyPost_ret (v := .agg #[.slice b1' y.mixes.length f1, .slice b2' y.sent.length f2, .slice b3' y.net.length f3, .slice b4' y.got.length f4, .int .i64 y.made, .int .i64 y.lost]) (by simp [results, Tryz.results26, go_sem, q0, q1, q2, q3, q4, q5]) rfl ⟨_, rfl, ?_, ?_⟩
  ·refine WdR.mono (R := bi R w.heap.size (w.heap.size + 3)) ?_ (fun b _ h => h.1)
   repeat (refine WdR.set ?_ (aF (by dsimp only; omega) (by dsimp only; omega)))
   exact HR.out
  ·repeat (refine Below.setCell ?_ (by dsimp only; omega) _)
   exact HF.out
 ·have j2 : (kd == 2) = false := by simp [hk]
  have j3 : (kd == 3) = false := by simp [hk]
  have j4 : (kd == 4) = true := by simp [hk]
  clear hk
  go_wp2_with fail
  refine (l51Net_c (bi R w.heap.size (w.heap.size + 3)) x _ ⟨kd, a, b, c⟩ _ (fun b hb => ⟨hR b (by omega), .inr (by omega)⟩) HV.out Hx.out).mono ?_
  rintro e w9 ⟨v9, rfl, hw9, hb9⟩
  obtain ⟨b1', f1, b2', f2, b3', f3, b4', f4, rfl⟩ := hw9.form
  clear q0 q1 q2 q3 q4 q5 qf0 qf1 qf2 qf3 qf4 qf5
  obtain ⟨q0, q1, q2, q3, q4, q5, qf, qf0, qf1, qf2, qf3, qf4, qf5⟩ := row6f (heap_go hb9 E2.out)
  have y2 : w.heap.size + 1 + 1 < w9.heap.size := by have := hb9.size; omega
  have HF := hid (bt HW0.out hb9); have HR := hid hw9
  clear hb9 hw9 qf E2 k0 k1 k2 k3 k4 k5 v0 v1 v2 v3
  generalize eE x ⟨kd, a, b, c⟩ = y at *
  go_wp2_with fail
  refine bodyPost_ret (v := .agg #[.slice b1' y.mixes.length f1, .slice b2' y.sent.length f2, .slice b3' y.net.length f3, .slice b4' y.got.length f4, .int .i64 y.made, .int .i64 y.lost]) (by simp [results, Tryz.results26, go_sem, q0, q1, q2, q3, q4, q5]) rfl ⟨_, rfl, ?_, ?_⟩
  ·refine WdR.mono (R := bi R w.heap.size (w.heap.size + 3)) ?_ (fun b _ h => h.1)
   repeat (refine WdR.set ?_ (aF (by dsimp only; omega) (by dsimp only; omega)))
   exact HR.out
  ·repeat (refine Below.setCell ?_ (by dsimp only; omega) _)
   exact HF.out
 ·have j2 : (kd == 2) = false := by simp [hk]
  have j3 : (kd == 3) = false := by simp [hk]
  have j4 : (kd == 4) = false := by simp [hk]
  have j5 : (kd == 5) = true := by simp [hk]
  clear hk
  go_wp2_with fail
  refine (l51Net_c (bi R w.heap.size (w.heap.size + 3)) x _ ⟨kd, a, b, c⟩ _ (fun b hb => ⟨hR b (by omega), .inr (by omega)⟩) HV.out Hx.out).mono ?_
  rintro e w9 ⟨v9, rfl, hw9, hb9⟩
  obtain ⟨b1', f1, b2', f2, b3', f3, b4', f4, rfl⟩ := hw9.form
  clear q0 q1 q2 q3 q4 q5 qf0 qf1 qf2 qf3 qf4 qf5
  obtain ⟨q0, q1, q2, q3, q4, q5, qf, qf0, qf1, qf2, qf3, qf4, qf5⟩ := row6f (heap_go hb9 E2.out)
  have y2 : w.heap.size + 1 + 1 < w9.heap.size := by have := hb9.size; omega
  have HF := hid (bt HW0.out hb9); have HR := hid hw9
  clear hb9 hw9 qf E2 k0 k1 k2 k3 k4 k5 v0 v1 v2 v3
  generalize eE x ⟨kd, a, b, c⟩ = y at *
  go_wp2_with fail
  refine bodyPost_ret (v := .agg #[.slice b1' y.mixes.length f1, .slice b2' y.sent.length f2, .slice b3' y.net.length f3, .slice b4' y.got.length f4, .int .i64 y.made, .int .i64 y.lost]) (by simp [results, Tryz.results26, go_sem, q0, q1, q2, q3, q4, q5]) rfl ⟨_, rfl, ?_, ?_⟩
  ·refine WdR.mono (R := bi R w.heap.size (w.heap.size + 3)) ?_ (fun b _ h => h.1)
   repeat (refine WdR.set ?_ (aF (by dsimp only; omega) (by dsimp only; omega)))
   exact HR.out
  ·repeat (refine Below.setCell ?_ (by dsimp only; omega) _)
   exact HF.out
theorem mN (R : Nat → Prop) (x : Wd) (v : Value) (kd : Int) (k : Nat) (b c : Int) (w : World) (hR : ∀ b, w.heap.size ≤ b → R b) (hv : WdR R w v x) (hx : VD 0 x) (hk : kd = 6) (hk3 : k < 3) :
  Calls Tryz.prog 26 #[v, .agg #[.int .i64 kd, .int .i64 k, .int .i64 b, .int .i64 c]] w (bJ w R (cG x k false)) := by
 have i1 : (kd == 1) = false := by simp [hk]
 have j2 : (kd == 2) = false := by simp [hk]
 have j3 : (kd == 3) = false := by simp [hk]
 have j4 : (kd == 4) = false := by simp [hk]
 have j5 : (kd == 5) = false := by simp [hk]
 have j6 : (kd == 6) = true := by simp [hk]
 have hw : win (k : Int) 0 2 = true := ar.2 (by omega)
 have Hx := hid hx
 clear hk hx
 obtain ⟨a, ha⟩ : ∃ a : Int, a = (k : Int) := ⟨_, rfl⟩
 rw [← ha] at hw ⊢
 have Ha := hid ha
 clear ha
 obtain ⟨A1, c1, A2, c2, A3, c3, A4, c4, rfl⟩ := hv.form
 go_enter Tryz.func26, Tryz.ntmps26
 go_upto_region 1 with fail
 generalize hgw : World.alloc (World.alloc (World.alloc w _) _) _ = W0; obtain ⟨e0, e1, e2, hW0, sW0⟩ := vB hgw; clear hgw
 have HV := hid (hv.off 3 hW0)
 obtain ⟨k0, k1, k2, k3, k4, k5, _⟩ := al e0
 obtain ⟨v0, v1, v2, v3, _⟩ := aQ e1
 obtain ⟨q0, q1, q2, q3, q4, q5, qf, qf0, qf1, qf2, qf3, qf4, qf5⟩ := row6f e2
 have z0 : w.heap.size < W0.heap.size := by omega
 have z1 : w.heap.size + 1 < W0.heap.size := by omega
 have z2 : w.heap.size + 1 + 1 < W0.heap.size := by omega
 have HW0 := hid hW0; have E2 := hid e2
 clear hv hW0 e0 e1 e2 qf
 go_wp2_with (go_at_call 45; refine (aL _ _ _ _).mono ?_; rw [hw]; rintro e w' ⟨rfl, rfl⟩)
 obtain rfl := Ha.out
 refine (oI (bi R w.heap.size (w.heap.size + 3)) x _ k false _ (fun b hb => ⟨hR b (by omega), .inr (by omega)⟩) HV.out Hx.out hk3).mono ?_
 rintro e w9 ⟨v9, rfl, hw9, hb9⟩
 obtain ⟨b1', f1, b2', f2, b3', f3, b4', f4, rfl⟩ := hw9.form
 clear q0 q1 q2 q3 q4 q5 qf0 qf1 qf2 qf3 qf4 qf5
 obtain ⟨q0, q1, q2, q3, q4, q5, qf, qf0, qf1, qf2, qf3, qf4, qf5⟩ := row6f (heap_go hb9 E2.out)
 have y2 : w.heap.size + 1 + 1 < w9.heap.size := by have := hb9.size; omega
 have HF := hid (bt HW0.out hb9); have HR := hid hw9
 clear hb9 hw9 qf E2 k0 k1 k2 k3 k4 k5 v0 v1 v2 v3
 generalize cG x k false = y at *
 go_wp2_with fail
 refine bodyPost_ret (v := .agg #[.slice b1' y.mixes.length f1, .slice b2' y.sent.length f2, .slice b3' y.net.length f3, .slice b4' y.got.length f4, .int .i64 y.made, .int .i64 y.lost]) (by simp [results, Tryz.results26, go_sem, q0, q1, q2, q3, q4, q5]) rfl ⟨_, rfl, ?_, ?_⟩
 ·refine WdR.mono (R := bi R w.heap.size (w.heap.size + 3)) ?_ (fun b _ h => h.1)
  repeat (refine WdR.set ?_ (aF (by dsimp only; omega) (by dsimp only; omega)))
  exact HR.out
 ·repeat (refine Below.setCell ?_ (by dsimp only; omega) _)
  exact HF.out
theorem kG (R : Nat → Prop) (x : Wd) (v : Value) (kd a b c : Int) (w : World) (hv : WdR R w v x) (hk : kd = 6) (hw : win a 0 2 = false) :
  Calls Tryz.prog 26 #[v, .agg #[.int .i64 kd, .int .i64 a, .int .i64 b, .int .i64 c]] w (bJ w R x) := by
 have i1 : (kd == 1) = false := by simp [hk]
 have j2 : (kd == 2) = false := by simp [hk]
 have j3 : (kd == 3) = false := by simp [hk]
 have j4 : (kd == 4) = false := by simp [hk]
 have j5 : (kd == 5) = false := by simp [hk]
 have j6 : (kd == 6) = true := by simp [hk]
 clear hk
 obtain ⟨A1, c1, A2, c2, A3, c3, A4, c4, rfl⟩ := hv.form
 go_enter Tryz.func26, Tryz.ntmps26
 go_upto_region 1 with fail
 generalize hgw : World.alloc (World.alloc (World.alloc w _) _) _ = W0; obtain ⟨e0, e1, e2, hW0, sW0⟩ := vB hgw; clear hgw
 have HV := hid (hv.off 3 hW0)
 obtain ⟨k0, k1, k2, k3, k4, k5, _⟩ := al e0
 obtain ⟨v0, v1, v2, v3, _⟩ := aQ e1
 obtain ⟨q0, q1, q2, q3, q4, q5, qf, qf0, qf1, qf2, qf3, qf4, qf5⟩ := row6f e2
 have z0 : w.heap.size < W0.heap.size := by omega
 have z1 : w.heap.size + 1 < W0.heap.size := by omega
 have z2 : w.heap.size + 1 + 1 < W0.heap.size := by omega
 have HW0 := hid hW0; have E2 := hid e2
 clear hv hW0 e0 e1 e2 qf
 go_wp2_with (go_at_call 45; refine (aL _ _ _ _).mono ?_; rw [hw]; rintro e w' ⟨rfl, rfl⟩)
 refine bodyPost_ret (v := .agg #[.slice A1 x.mixes.length c1, .slice A2 x.sent.length c2, .slice A3 x.net.length c3, .slice A4 x.got.length c4, .int .i64 x.made, .int .i64 x.lost]) (by simp [results, Tryz.results26, go_sem, q0, q1, q2, q3, q4, q5]) rfl ⟨_, rfl, ?_, ?_⟩
 ·refine WdR.mono (R := bi R w.heap.size (w.heap.size + 3)) ?_ (fun b _ h => h.1)
  repeat (refine WdR.set ?_ (aF (by dsimp only; omega) (by dsimp only; omega)))
  exact HV.out
 ·repeat (refine Below.setCell ?_ (by dsimp only; omega) _)
  exact HW0.out
theorem mO (R : Nat → Prop) (x : Wd) (v : Value) (kd a b c : Int) (w : World) (hv : WdR R w v x) (h1 : kd ≠ 1) (h2 : ¬ (kd = 2 ∨ kd = 3 ∨ kd = 4 ∨ kd = 5)) (h6 : kd ≠ 6) :
  Calls Tryz.prog 26 #[v, .agg #[.int .i64 kd, .int .i64 a, .int .i64 b, .int .i64 c]] w (bJ w R x) := by
 have i1 : (kd == 1) = false := by simp; omega
 have j2 : (kd == 2) = false := by simp; omega
 have j3 : (kd == 3) = false := by simp; omega
 have j4 : (kd == 4) = false := by simp; omega
 have j5 : (kd == 5) = false := by simp; omega
 have j6 : (kd == 6) = false := by simp; omega
 clear h1 h2 h6
 obtain ⟨A1, c1, A2, c2, A3, c3, A4, c4, rfl⟩ := hv.form
 go_enter Tryz.func26, Tryz.ntmps26
 go_upto_region 1 with fail
 generalize hgw : World.alloc (World.alloc (World.alloc w _) _) _ = W0; obtain ⟨e0, e1, e2, hW0, sW0⟩ := vB hgw; clear hgw
 have HV := hid (hv.off 3 hW0)
 obtain ⟨k0, k1, k2, k3, k4, k5, _⟩ := al e0
 obtain ⟨v0, v1, v2, v3, _⟩ := aQ e1
 obtain ⟨q0, q1, q2, q3, q4, q5, qf, qf0, qf1, qf2, qf3, qf4, qf5⟩ := row6f e2
 have z0 : w.heap.size < W0.heap.size := by omega
 have z1 : w.heap.size + 1 < W0.heap.size := by omega
 have z2 : w.heap.size + 1 + 1 < W0.heap.size := by omega
 have HW0 := hid hW0; have E2 := hid e2
 clear hv hW0 e0 e1 e2 qf
 go_wp2_with fail
 refine bodyPost_ret (v := .agg #[.slice A1 x.mixes.length c1, .slice A2 x.sent.length c2, .slice A3 x.net.length c3, .slice A4 x.got.length c4, .int .i64 x.made, .int .i64 x.lost]) (by simp [results, Tryz.results26, go_sem, q0, q1, q2, q3, q4, q5]) rfl ⟨_, rfl, ?_, ?_⟩
 ·refine WdR.mono (R := bi R w.heap.size (w.heap.size + 3)) ?_ (fun b _ h => h.1)
  repeat (refine WdR.set ?_ (aF (by dsimp only; omega) (by dsimp only; omega)))
  exact HV.out
 ·repeat (refine Below.setCell ?_ (by dsimp only; omega) _)
  exact HW0.out
theorem tD (R : Nat → Prop) (x : Wd) (v : Value) (e : Ev) (w : World) (hR : ∀ b, w.heap.size ≤ b → R b) (hv : WdR R w v x) (hx : VD 0 x) :
  Calls Tryz.prog 26 #[v, .agg #[.int .i64 e.kind, .int .i64 e.a, .int .i64 e.b, .int .i64 e.c]] w (bJ w R (doW x e)) := by
 obtain ⟨kd, a, b, c⟩ := e
 dsimp only
 by_cases h1 : kd = 1
 ·rw [show doW x ⟨kd, a, b, c⟩ = cU x a b c from by unfold doW; rw [if_pos h1]]
  by_cases hm : x.made < 999
  ·exact oH R x v kd a b c w hR hv hx h1 hm
  ·rw [show cU x a b c = x from by unfold cU; rw [if_neg (fun h => hm h.2.2.2.2)]]
   exact oG R x v kd a b c w hv h1 (by omega)
 ·by_cases h2 : kd = 2 ∨ kd = 3 ∨ kd = 4 ∨ kd = 5
  ·rw [show doW x ⟨kd, a, b, c⟩ = eE x ⟨kd, a, b, c⟩ from by unfold doW; rw [if_neg h1, if_pos h2]]
   exact qt R x v kd a b c w hR hv hx h2
  ·by_cases h6 : kd = 6
   ·cases hw : win a 0 2 with
    | false =>
     rw [show doW x ⟨kd, a, b, c⟩ = x from by unfold doW; rw [if_neg h1, if_neg h2, if_neg (fun h => by rw [hw] at h; cases h.2)]]
     exact kG R x v kd a b c w hv h6 hw
    | true =>
     obtain ⟨k, rfl⟩ : ∃ k : Nat, a = (k : Int) := ⟨a.toNat, by have := ar.1 hw; omega⟩
     rw [show doW x ⟨kd, k, b, c⟩ = cG x k false from by unfold doW; rw [if_neg h1, if_neg h2, if_pos ⟨h6, hw⟩, Int.toNat_natCast]]
     exact mN R x v kd k b c w hR hv hx h6 (by have := ar.1 hw; omega)
   ·rw [show doW x ⟨kd, a, b, c⟩ = x from by unfold doW; rw [if_neg h1, if_neg h2, if_neg (fun h => h6 h.1)]]
    exact mO R x v kd a b c w hv h1 h2 h6
def ui (w : World) (x : Wd) (e : Ending) (w' : World) : Prop := ∃ um us un ug, e = .returned (.agg #[um, us, un, ug, .int .i64 x.made, .int .i64 x.lost]) ∧ ao oWd w.heap.size w' [um, us, un, ug, .int .i64 x.made, .int .i64 x.lost] x ∧ Below w.heap.size w w'
theorem qa (B : Nat) (w : World) : ao oWd B w [.slice none 0 0, .slice none 0 0, .slice none 0 0, .slice none 0 0, .int .i64 0, .int .i64 0] zWd := by
 refine ⟨[], ⟨[_], _, [], _, rfl, rfl, ⟨_, [], rfl, Own.nil _ _, rfl⟩, [_], _, [], _, rfl, rfl, ⟨_, [], rfl, Own.nil _ _, rfl⟩, [_], _, [], _, rfl, rfl, ⟨_, [], rfl, Own.nil _ _, rfl⟩, [_], _, [], _, rfl, rfl, ⟨_, [], rfl, Own.nil _ _, rfl⟩, [_], [_], [], [], rfl, rfl, ⟨rfl, rfl⟩, ⟨rfl, rfl⟩⟩, List.nodup_nil, fun _ h => by cases h⟩
theorem poolSum_sub (l : List Mx) (k : Nat) : aY (l.take k) ≤ aY l := by
 induction l generalizing k with
 | nil => simp
 | cons m l ih =>
  cases k with
  | zero => simp [aY]
  | succ k =>
   have := ih k
   simp only [aY, List.take_succ_cons, List.map_cons, List.sum_cons] at *
   omega
end Go.Proofs.YtfmibcofgckldaaGreatDoor
