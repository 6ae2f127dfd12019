/- The program's WorldDo returns what the reference's returns, for every run and every event; it turns nothing that it was handed and shares no memory. No condition. -/
import Derived.Deep.DeepCutAuto
import Derived.Test.YtfledddejfpopaaGreatDoorM31
set_option linter.unusedVariables false
set_option linter.unusedSimpArgs false
set_option maxHeartbeats 4000000
set_option maxRecDepth 100000
namespace Go.Proofs.YtfledddejfpopaaGreatDoor
open Go Go.RowKit
section
open Go.ChangeShapes Go.WideShapes Go.ChangeAt
theorem sU (x : Wd) (ev : Ev) : qS (ez x ev) := by
 unfold ez
 cases h : wdB x with
 | true => rw [if_pos rfl]; exact ((mm.1 h).do_ ev).sm
 | false =>
  rw [if_neg (by simp)]
  exact ⟨⟨Nat.zero_le _, fun _ h => by cases h⟩, Nat.zero_le _, ⟨Nat.zero_le _, fun _ h => by cases h⟩, Nat.zero_le _⟩
theorem FnExactWorldDo_c (v : Value) (x : Wd) (u : Value) (ev : Ev) (w : World) (hg : uE w) (h : WdB w.heap.size w v x) (_ : True) (hu : u = .agg #[.int .i64 ev.kind, .int .i64 ev.a, .int .i64 ev.b, .int .i64 ev.c]) (_ : True) :
  Calls Tryz.prog 5 #[v, u] w (ok true w.heap.size w) := by
 subst hu
 have hw0 : 0 < w.heap.size := World.block_lt_of_cell? _ _ hg
 have Hg := hid (fun (wx : World) (hb : Below w.heap.size w wx) => show eQ wx from (hb.cell (p := ⟨0, 0, none⟩) hw0).trans hg)
 have H := hid (fun (wx : World) (hb : Below w.heap.size w wx) => h.go hb)
 have hym := lp (sU x ev)
 obtain ⟨y, hy⟩ : ∃ y, ez x ev = y := ⟨_, rfl⟩
 rw [hy] at hym
 have Hy := hid hy
 obtain ⟨vm, vs, vn, vg, rfl, h1, h2, h3, h4⟩ := h
 clear h1 h2 h3 h4 hg hy
 go_enter Tryz.func5, Tryz.ntmps5
 go_wp2_with fail
 refine (qV x _ 1048576 _ (H.out _ bc) (by omega) (by omega)).mono ?_
 rintro e w1 ⟨r, rfl, hr, hb1⟩
 have hc : Below w.heap.size w w1 := bt bc hb1
 obtain ⟨e0, e1⟩ := bN hb1
 rcases hr with rfl | ⟨r0, r1, hs⟩
 ·have Hc := hid hc
  clear hb1 hc e0 e1
  go_wp2
  go_ret
  exact ⟨rfl, Hc.out⟩
 have hgl : x.got.length ≤ 1073741824 := by have := hs.2.2.2; unfold cd at this; omega
 have hxm := lp hs
 have HS := hid hs; have Hc := hid hc; have Hgl := hid hgl; have E0 := hid e0; have E1 := hid e1
 have y1 : w.heap.size + 1 < w1.heap.size := (Array.getElem?_eq_some_iff.1 e1).1
 clear hb1 hc hs hgl e0 e1
 go_wp2_with fail
 go_cut [6] (fun s6 wx => ∃ (g : Nat) (a b c d : Value) (B C : Nat), s6 = .pointer (some ⟨g, 0, none⟩) ∧ wx.heap[g]? = some (.cells #[a, b, c, d, .int .i64 y.made, .int .i64 y.lost] 28 (0, 0)) ∧ cF B C wx a b c d y ∧ (g < B ∨ C ≤ g) ∧ w1.heap.size ≤ g ∧ w1.heap.size ≤ B ∧ C ≤ wx.heap.size ∧ B ≤ C ∧ Below w1.heap.size w1 wx)
 case first =>
  have HX := hid (fun (wx : World) (hT : Tch [] w1 wx) => And.intro (al (ac hT.nil E0.out)) (And.intro (aQ (ac hT.nil E1.out)) (show w.heap.size + 1 < wx.heap.size by have := hT.size; omega)))
  refine rgN [] 7 fun wd hHeld hbwd swd => ?_
  simp only [pw]
  refine tr 0 HX.out ?_
  refine tr 2 HX.out ?_
  try simp only [pw]
  repeat' (first
   | (have t1 := hK1; clear t1; go_simp; (go_at_call 17; refine (gA x _ _ (H.out _ (bt Hc.out hHeld.nil)) HS.out).mono ?_; rintro e w5 ⟨um, us, un, ug, rfl, n5, hbC⟩; have d5 := ib n5; have st := hbC.size; (try replace ea := ac hbC ea)); refine hK1.out _ _ (hHeld.trans (Tch.of hbC)) (fun hHeld => ?_); clear hK1 K1; try simp only [pw])
   | (have t3 := hK3; clear t3; go_simp; (go_at_call 20; refine (iO ev _).mono ?_; rintro e w6 ⟨rfl, hbC⟩; have se := hbC.size; (try replace d5 := d5.go hbC); (try replace ea := ac hbC ea)); refine hK3.out _ _ (hHeld.trans (Tch.of hbC)) (fun hHeld => ?_); clear hK3 K3; try simp only [pw])
   | (have t4 := hK4; clear t4; go_simp; (go_at_call 19; refine (sR x _ ev _ d5 Hgl.out).mono ?_; rw [Hy.out]; rintro e w7 ⟨a7, b7, c7, g7, rfl, n7, hbC⟩; obtain ⟨A7, p7, B7, q7, C7, r7, D7, s7, rfl, rfl, rfl, rfl⟩ := oWd_form n7; have d7 := cF.of n7; have ss := hbC.size; have t7 := hHeld.size; (try replace ea := ac hbC ea)); refine hK4.out _ _ (hHeld.trans (Tch.of hbC)) (fun hHeld => ?_); clear hK4 K4; try simp only [pw])
   | (have t5 := hK5; clear t5; go_simp; (have la := hHeld.size; generalize hgw : World.alloc _ _ = wa; obtain ⟨ea, hbC, sa⟩ := aA hgw; clear hgw; (try replace d5 := d5.go hbC); (try replace d7 := d7.go hbC (Nat.le_refl _))); refine hK5.out _ _ (hHeld.trans (Tch.of hbC)) (fun hHeld => ?_); clear hK5 K5; try simp only [pw])
   | (refine rz 6 (fun K hK => ?_) (hb := by decide +kernel); (obtain ⟨z0, z1, z2, z3, z4, z5, zf⟩ := al ea; have zf0 := zf 0; have zf1 := zf 1; have zf2 := zf 2; have zf3 := zf 3; have zf4 := zf 4; have zf5 := zf 5; have hga3 := World.block_lt_of_cell? _ _ z0; dsimp only at hga3); have fC := HX.out _ hHeld; go_simp; clear fC; refine hK.out _ _ ?_; clear hK K)
   | (refine rk [1, 5] (rc (fun K1 hK1 => ?_) (rc (fun K5 hK5 => ?_) rn)))
   | (refine rk [3, 5] (rc (fun K3 hK3 => ?_) (rc (fun K5 hK5 => ?_) rn)))
   | (refine rk [4, 5] (rc (fun K4 hK4 => ?_) (rc (fun K5 hK5 => ?_) rn)))
   | (refine rk [1] (rc (fun K1 hK1 => ?_) rn))
   | (refine rk [3] (rc (fun K3 hK3 => ?_) rn))
   | (refine rk [4] (rc (fun K4 hK4 => ?_) rn))
   | (refine rk [5] (rc (fun K5 hK5 => ?_) rn))
   | fail)
  all_goals
   clear z0 z1 z2 z3 z4 z5 zf zf0 zf1 zf2 zf3 zf4 zf5
   go_wp2_with fail
   go_meet
   refine ⟨_, _, _, _, _, _, _, rfl, dy _ _ _ _ _ _ ea, d7.keep (fun c h1 h2 => bS c (by omega)), by omega, by omega, by omega, by (simp only [aj]; omega), by omega, ?_⟩
   exact sb hHeld.nil
 case rest =>
  obtain ⟨g6, a6, b6, c6, d6, B6, C6, rfl, e6, R6, hg6, hg61, hB6, hC6, hBC6, hb6⟩ := hcut
  obtain ⟨wA, rfl⟩ : ∃ wA : World, wA = wc := ⟨_, rfl⟩
  obtain ⟨A6, p6, A6b, p6b, A6c, p6c, A6d, p6d, rfl, rfl, rfl, rfl⟩ := R6.form
  have Hc1 := Hc
  replace Hc := hid (bt Hc1.out hb6)
  replace E0 := hid (ac hb6 E0.out)
  replace E1 := hid (ac hb6 E1.out)
  have s6 := hb6.size
  have g6A : g6 < wA.heap.size := (Array.getElem?_eq_some_iff.1 e6).1
  obtain ⟨k0, k1, k2, k3, k4, k5, _⟩ := al E0.out
  have yA : w.heap.size < wA.heap.size := by omega
  have R6 := hid R6; have E6 := hid e6
  clear hb6 e6 Hc1
  go_wp2_with fail
  refine (gA x _ _ (H.out _ Hc.out) HS.out).mono ?_
  rintro e w5 ⟨um, us, un, ug, rfl, n5, hb5⟩
  obtain ⟨A0, p0, A0b, p0b, A0c, p0c, A0d, p0d, rfl, rfl, rfl, rfl⟩ := oWd_form n5
  have N0 := hid (cF.of n5)
  replace Hc := hid (bt Hc.out hb5)
  replace E0 := hid (ac hb5 E0.out)
  replace E1 := hid (ac hb5 E1.out)
  replace E6 := hid (ac hb5 E6.out)
  replace R6 := hid (R6.out.go hb5 hC6)
  have s5 := hb5.size
  clear n5 hb5 k0 k1 k2 k3 k4 k5
  go_wp2_with fail
  have hb7 := lit_below w5 (.cells #[.slice A0 x.mixes.length p0, .slice A0b x.sent.length p0b, .slice A0c x.net.length p0c, .slice A0d x.got.length p0d, .int .i64 x.made, .int .i64 x.lost] 28)
  have E7 := hid (heap_alloc_new w5 (.cells #[.slice A0 x.mixes.length p0, .slice A0b x.sent.length p0b, .slice A0c x.net.length p0c, .slice A0d x.got.length p0d, .int .i64 x.made, .int .i64 x.lost] 28))
  have s7 : (w5.alloc (.cells #[.slice A0 x.mixes.length p0, .slice A0b x.sent.length p0b, .slice A0c x.net.length p0c, .slice A0d x.got.length p0d, .int .i64 x.made, .int .i64 x.lost] 28)).heap.size = w5.heap.size + 1 := by simp
  replace Hc := hid (bt Hc.out hb7)
  replace E0 := hid (ac hb7 E0.out)
  replace E1 := hid (ac hb7 E1.out)
  replace E6 := hid (ac hb7 E6.out)
  replace R6 := hid (R6.out.go hb7 (by omega))
  replace N0 := hid (N0.out.go hb7 (Nat.le_refl _))
  clear hb7
  generalize w5.alloc (.cells #[.slice A0 x.mixes.length p0, .slice A0b x.sent.length p0b, .slice A0c x.net.length p0c, .slice A0d x.got.length p0d, .int .i64 x.made, .int .i64 x.lost] 28) = w7 at *
  go_cut [8] (fun s8 wx => ∃ (g : Nat) (a b c d : Value) (B C : Nat), s8 = .pointer (some ⟨g, 0, none⟩) ∧ wx.heap[g]? = some (.cells #[a, b, c, d, .int .i64 y.made, .int .i64 y.lost] 28 (0, 0)) ∧ cF B C wx a b c d y ∧ (g < B ∨ C ≤ g) ∧ w7.heap.size ≤ g ∧ w7.heap.size ≤ B ∧ C ≤ wx.heap.size ∧ B ≤ C ∧ Below w7.heap.size w7 wx)
  case first =>
   have HX := hid (fun (wx : World) (hT : Tch [] w7 wx) => And.intro (al (ac hT.nil E7.out)) (And.intro (aQ (ac hT.nil E1.out)) (show w.heap.size + 1 < wx.heap.size ∧ w5.heap.size < wx.heap.size by have := hT.size; omega)))
   refine rgN [] 6 fun wd hHeld hbwd swd => ?_
   simp only [pw]
   refine tr 0 HX.out ?_
   refine tr 1 HX.out ?_
   try simp only [pw]
   repeat' (first
    | (have t2 := hK2; clear t2; go_simp; (go_at_call 20; refine (iO ev _).mono ?_; rintro e w6 ⟨rfl, hbC⟩; have se := hbC.size; (try replace d5 := d5.go hbC); (try replace ea := ac hbC ea)); refine hK2.out _ _ (hHeld.trans (Tch.of hbC)) (fun hHeld => ?_); clear hK2 K2; try simp only [pw])
    | (have t3 := hK3; clear t3; go_simp; (go_at_call 21; refine (mF x _ ev _ (Hg.out _ (bt Hc.out hHeld.nil)) (N0.out.wdB.go hHeld.nil) Hgl.out).mono ?_; rw [Hy.out]; rintro e w7 ⟨a7, b7, c7, g7, rfl, n7, hbC⟩; obtain ⟨A7, p7, B7, q7, C7, r7, D7, s7, rfl, rfl, rfl, rfl⟩ := oWd_form n7; have d7 := cF.of n7; have ss := hbC.size; have t7 := hHeld.size; (try replace ea := ac hbC ea)); refine hK3.out _ _ (hHeld.trans (Tch.of hbC)) (fun hHeld => ?_); clear hK3 K3; try simp only [pw])
    | (have t4 := hK4; clear t4; go_simp; (have la := hHeld.size; generalize hgw : World.alloc _ _ = wa; obtain ⟨ea, hbC, sa⟩ := aA hgw; clear hgw; (try replace d5 := d5.go hbC); (try replace d7 := d7.go hbC (Nat.le_refl _))); refine hK4.out _ _ (hHeld.trans (Tch.of hbC)) (fun hHeld => ?_); clear hK4 K4; try simp only [pw])
    | (refine rz 5 (fun K hK => ?_) (hb := by decide +kernel); (obtain ⟨z0, z1, z2, z3, z4, z5, zf⟩ := al ea; have zf0 := zf 0; have zf1 := zf 1; have zf2 := zf 2; have zf3 := zf 3; have zf4 := zf 4; have zf5 := zf 5; have hga3 := World.block_lt_of_cell? _ _ z0; dsimp only at hga3); have fC := HX.out _ hHeld; go_simp; clear fC; refine hK.out _ _ ?_; clear hK K)
    | (refine rk [2, 4] (rc (fun K2 hK2 => ?_) (rc (fun K4 hK4 => ?_) rn)))
    | (refine rk [3, 4] (rc (fun K3 hK3 => ?_) (rc (fun K4 hK4 => ?_) rn)))
    | (refine rk [2] (rc (fun K2 hK2 => ?_) rn))
    | (refine rk [3] (rc (fun K3 hK3 => ?_) rn))
    | (refine rk [4] (rc (fun K4 hK4 => ?_) rn))
    | fail)
   all_goals
    clear z0 z1 z2 z3 z4 z5 zf zf0 zf1 zf2 zf3 zf4 zf5
    go_wp2_with fail
    go_meet
    refine ⟨_, _, _, _, _, _, _, rfl, dy _ _ _ _ _ _ ea, d7.keep (fun c h1 h2 => bS c (by omega)), by omega, by omega, by omega, by (simp only [aj]; omega), by omega, ?_⟩
    exact sb hHeld.nil
  case rest =>
   obtain ⟨g8, a8, b8, c8, d8, B8, C8, rfl, e8, R8, hg8, hg81, hB8, hC8, hBC8, hb8⟩ := hcut
   obtain ⟨wB, rfl⟩ : ∃ wB : World, wB = wc := ⟨_, rfl⟩
   obtain ⟨A8, p8, A8b, p8b, A8c, p8c, A8d, p8d, rfl, rfl, rfl, rfl⟩ := R8.form
   replace Hc := hid (bt Hc.out hb8)
   replace E0 := hid (ac hb8 E0.out)
   replace E1 := hid (ac hb8 E1.out)
   replace E6 := hid (ac hb8 E6.out)
   replace E7 := hid (ac hb8 E7.out)
   replace R6 := hid (R6.out.go hb8 (by omega))
   replace N0 := hid (N0.out.go hb8 (by omega))
   have s8 := hb8.size
   have E8 := hid e8; have R8 := hid R8
   have g8B : g8 < wB.heap.size := (Array.getElem?_eq_some_iff.1 e8).1
   obtain ⟨k0, k1, k2, k3, k4, k5, _⟩ := al E8.out
   obtain ⟨q0, q1, q2, q3, q4, q5, _⟩ := al E6.out
   have g6B : g6 < wB.heap.size := by omega
   clear hb8 e8
   go_wp2_with fail
   refine (gd y _ _ _ R8.out.wdB R6.out.wdB).mono ?_
   rintro e wC ⟨rfl, hbC⟩
   replace Hc := hid (bt Hc.out hbC)
   replace E0 := hid (ac hbC E0.out)
   replace E1 := hid (ac hbC E1.out)
   replace E6 := hid (ac hbC E6.out)
   replace E7 := hid (ac hbC E7.out)
   replace E8 := hid (ac hbC E8.out)
   replace R6 := hid (R6.out.go hbC (by omega))
   replace N0 := hid (N0.out.go hbC (by omega))
   replace R8 := hid (R8.out.go hbC hC8)
   have sC := hbC.size
   clear hbC k0 k1 k2 k3 k4 k5 q0 q1 q2 q3 q4 q5
   have HX := hid (fun (wx : World) (hT : Tch [] wC wx) => And.intro (al (ac hT.nil E7.out)) (And.intro (al (ac hT.nil E0.out)) (show w.heap.size < wx.heap.size ∧ w5.heap.size < wx.heap.size by have := hT.size; omega)))
   go_wp2_with fail
   refine rgN [] 5 fun wd hHeld hbwd swd => ?_
   simp only [pw]
   refine tr 0 HX.out ?_
   refine tr 1 HX.out ?_
   try simp only [pw]
   refine ro 2 fun K hK => ?_
   go_simp
   (go_at_call 17; refine (gA x _ _ (H.out _ (bt Hc.out hHeld.nil)) HS.out).mono ?_; rintro e wt ⟨um, us, un, ug, rfl, n5, hbC⟩; have d5 := ib n5)
   refine hK.out _ _ (hHeld.trans (Tch.of hbC)) (fun hHeld => ?_)
   clear hK K
   refine ro 3 fun K hK => ?_
   go_simp
   (go_at_call 10; refine (gd x _ _ _ (N0.out.wdB.go hHeld.nil) d5).mono ?_; rintro e wq ⟨rfl, hbC⟩)
   refine hK.out _ _ (hHeld.trans (Tch.of hbC)) (fun hHeld => ?_)
   clear hK K
   refine tr 4 HX.out ?_
   try simp only [pw]
   refine dm ?_
   have hbD := hHeld.nil
   replace Hc := hid (bt Hc.out hbD)
   replace E0 := hid (ac hbD E0.out)
   replace E1 := hid (ac hbD E1.out)
   replace E6 := hid (ac hbD E6.out)
   replace E7 := hid (ac hbD E7.out)
   replace E8 := hid (ac hbD E8.out)
   replace R6 := hid (R6.out.go hbD (by omega))
   replace N0 := hid (N0.out.go hbD (by omega))
   replace R8 := hid (R8.out.go hbD (by omega))
   have sD := hbD.size
   clear hbD hHeld hbC d5 n5 HX swd
   obtain ⟨k0, k1, k2, k3, k4, k5, _⟩ := al E7.out
   have x0 : (0 : Int) ≤ 1 + (cWd x : Int) := by omega
   have x1 : decide ((1 : Int) + (cWd x : Int) < 0) = false := decide_eq_false (by omega)
   have x2 : decide ((1 : Int) + (cWd y : Int) < 0) = false := decide_eq_false (by omega)
   have x3 : ((1 : Int) + (cWd y : Int) != 1 + (cWd y : Int)) = false := cw _
   go_wp2_with fail
   refine (rV wA.heap.size w5.heap.size x _ _ _ _ 1 _ N0.out (by omega) (by omega)).mono ?_
   rintro e wD ⟨rfl, _, tin⟩
   replace E0 := hid (tin.row E0.out (by omega))
   replace E1 := hid (tin.row E1.out (by omega))
   replace E6 := hid (tin.row E6.out (by omega))
   replace R6 := hid (R6.out.keep (fun c h1 h2 => tin.block (by omega) (.inl (by omega))))
   replace R8 := hid (R8.out.keep (fun c h1 h2 => tin.block (by omega) (.inr (by omega))))
   replace E8 := hid (tin.row E8.out (by omega))
   replace Hc := hid (Hc.out.trans ((tin.below (by omega)).mono (by omega)))
   have sD2 := tin.size
   clear tin k0 k1 k2 k3 k4 k5 N0 E7
   obtain ⟨k0, k1, k2, k3, k4, k5, _⟩ := al E8.out
   obtain ⟨q0, q1, q2, q3, q4, q5, _⟩ := al E6.out
   have g8D : g8 < wD.heap.size := by omega
   have g6D : g6 < wD.heap.size := by omega
   go_wp2_with fail
   refine (gd y _ _ _ R8.out.wdB R6.out.wdB).mono ?_
   rintro e wE ⟨rfl, hbE⟩
   replace Hc := hid (bt Hc.out hbE)
   replace E0 := hid (ac hbE E0.out)
   replace E1 := hid (ac hbE E1.out)
   replace E6 := hid (ac hbE E6.out)
   replace E8 := hid (ac hbE E8.out)
   replace R6 := hid (R6.out.go hbE (by omega))
   replace R8 := hid (R8.out.go hbE (by omega))
   have sE := hbE.size
   clear hbE k0 k1 k2 k3 k4 k5 q0 q1 q2 q3 q4 q5
   obtain ⟨k0, k1, k2, k3, k4, k5, _⟩ := al E8.out
   have g8E : g8 < wE.heap.size := by omega
   go_wp2_with fail
   refine (rV B8 C8 y _ _ _ _ 1 _ R8.out (by omega) (by omega)).mono ?_
   rintro e wF ⟨rfl, r8, tin⟩
   replace E0 := hid (tin.row E0.out (by omega))
   replace E1 := hid (tin.row E1.out (by omega))
   replace E6 := hid (tin.row E6.out (by omega))
   replace R6 := hid (R6.out.keep (fun c h1 h2 => tin.block (by omega) (.inl (by omega))))
   replace R8 := hid r8
   replace E8 := hid (tin.row E8.out hg8)
   replace Hc := hid (Hc.out.trans ((tin.below (by omega)).mono (by omega)))
   have sF := tin.size
   clear tin r8 k0 k1 k2 k3 k4 k5
   obtain ⟨k0, k1, k2, k3, k4, k5, _⟩ := al E8.out
   have g8F : g8 < wF.heap.size := by omega
   go_wp2_with fail
   refine (iT y _ 1 _ R8.out.wdB (by omega) (by omega)).mono ?_
   rintro e wG ⟨rfl, hbG⟩
   replace Hc := hid (bt Hc.out hbG)
   replace E0 := hid (ac hbG E0.out)
   replace E1 := hid (ac hbG E1.out)
   replace E6 := hid (ac hbG E6.out)
   replace E8 := hid (ac hbG E8.out)
   replace R6 := hid (R6.out.go hbG (by omega))
   replace R8 := hid (R8.out.go hbG (by omega))
   have sG := hbG.size
   clear hbG k0 k1 k2 k3 k4 k5
   go_wp2_with fail
   go_cut [12] (fun s12 wx => ∃ (g : Nat) (a b c d : Value) (B C : Nat), s12 = .pointer (some ⟨g, 0, none⟩) ∧ wx.heap[g]? = some (.cells #[a, b, c, d, .int .i64 y.made, .int .i64 y.lost] 28 (0, 0)) ∧ cF B C wx a b c d y ∧ (g < B ∨ C ≤ g) ∧ wG.heap.size ≤ g ∧ wG.heap.size ≤ B ∧ C ≤ wx.heap.size ∧ B ≤ C ∧ Below wG.heap.size wG wx)
   case first =>
    have HX := hid (fun (wx : World) (hT : Tch [] wG wx) => And.intro (al (ac hT.nil E0.out)) (And.intro (aQ (ac hT.nil E1.out)) (show w.heap.size + 1 < wx.heap.size by have := hT.size; omega)))
    refine rgN [] 7 fun wd hHeld hbwd swd => ?_
    simp only [pw]
    refine tr 0 HX.out ?_
    refine tr 2 HX.out ?_
    try simp only [pw]
    repeat' (first
     | (have t1 := hK1; clear t1; go_simp; (go_at_call 17; refine (gA x _ _ (H.out _ (bt Hc.out hHeld.nil)) HS.out).mono ?_; rintro e w5 ⟨um, us, un, ug, rfl, n5, hbC⟩; have d5 := ib n5; have st := hbC.size; (try replace ea := ac hbC ea)); refine hK1.out _ _ (hHeld.trans (Tch.of hbC)) (fun hHeld => ?_); clear hK1 K1; try simp only [pw])
     | (have t3 := hK3; clear t3; go_simp; (go_at_call 20; refine (iO ev _).mono ?_; rintro e w6 ⟨rfl, hbC⟩; have se := hbC.size; (try replace d5 := d5.go hbC); (try replace ea := ac hbC ea)); refine hK3.out _ _ (hHeld.trans (Tch.of hbC)) (fun hHeld => ?_); clear hK3 K3; try simp only [pw])
     | (have t4 := hK4; clear t4; go_simp; (go_at_call 21; refine (mF x _ ev _ (Hg.out _ (bt Hc.out hHeld.nil)) d5 Hgl.out).mono ?_; rw [Hy.out]; rintro e w7 ⟨a7, b7, c7, g7, rfl, n7, hbC⟩; obtain ⟨A7, p7, B7, q7, C7, r7, D7, s7, rfl, rfl, rfl, rfl⟩ := oWd_form n7; have d7 := cF.of n7; have ss := hbC.size; have t7 := hHeld.size; (try replace ea := ac hbC ea)); refine hK4.out _ _ (hHeld.trans (Tch.of hbC)) (fun hHeld => ?_); clear hK4 K4; try simp only [pw])
     | (have t5 := hK5; clear t5; go_simp; (have la := hHeld.size; generalize hgw : World.alloc _ _ = wa; obtain ⟨ea, hbC, sa⟩ := aA hgw; clear hgw; (try replace d5 := d5.go hbC); (try replace d7 := d7.go hbC (Nat.le_refl _))); refine hK5.out _ _ (hHeld.trans (Tch.of hbC)) (fun hHeld => ?_); clear hK5 K5; try simp only [pw])
     | (refine rz 6 (fun K hK => ?_) (hb := by decide +kernel); (obtain ⟨z0, z1, z2, z3, z4, z5, zf⟩ := al ea; have zf0 := zf 0; have zf1 := zf 1; have zf2 := zf 2; have zf3 := zf 3; have zf4 := zf 4; have zf5 := zf 5; have hga3 := World.block_lt_of_cell? _ _ z0; dsimp only at hga3); have fC := HX.out _ hHeld; go_simp; clear fC; refine hK.out _ _ ?_; clear hK K)
     | (refine rk [1, 5] (rc (fun K1 hK1 => ?_) (rc (fun K5 hK5 => ?_) rn)))
     | (refine rk [3, 5] (rc (fun K3 hK3 => ?_) (rc (fun K5 hK5 => ?_) rn)))
     | (refine rk [4, 5] (rc (fun K4 hK4 => ?_) (rc (fun K5 hK5 => ?_) rn)))
     | (refine rk [1] (rc (fun K1 hK1 => ?_) rn))
     | (refine rk [3] (rc (fun K3 hK3 => ?_) rn))
     | (refine rk [4] (rc (fun K4 hK4 => ?_) rn))
     | (refine rk [5] (rc (fun K5 hK5 => ?_) rn))
     | fail)
    all_goals
     clear z0 z1 z2 z3 z4 z5 zf zf0 zf1 zf2 zf3 zf4 zf5
     go_wp2_with fail
     go_meet
     refine ⟨_, _, _, _, _, _, _, rfl, dy _ _ _ _ _ _ ea, d7.keep (fun c h1 h2 => bS c (by omega)), by omega, by omega, by omega, by (simp only [aj]; omega), by omega, ?_⟩
     exact sb hHeld.nil
   case rest =>
    obtain ⟨g9, a9, b9, c9, d9, B9, C9, rfl, e9, R9, hg9, hg91, hB9, hC9, hBC9, hb9⟩ := hcut
    obtain ⟨wH, rfl⟩ : ∃ wH : World, wH = wc := ⟨_, rfl⟩
    obtain ⟨A9, p9, A9b, p9b, A9c, p9c, A9d, p9d, rfl, rfl, rfl, rfl⟩ := R9.form
    replace Hc := hid (bt Hc.out hb9)
    replace E0 := hid (ac hb9 E0.out)
    replace E1 := hid (ac hb9 E1.out)
    replace E6 := hid (ac hb9 E6.out)
    replace E8 := hid (ac hb9 E8.out)
    replace R6 := hid (R6.out.go hb9 (by omega))
    replace R8 := hid (R8.out.go hb9 (by omega))
    have sH := hb9.size
    have g9H : g9 < wH.heap.size := (Array.getElem?_eq_some_iff.1 e9).1
    have g6H : g6 < wH.heap.size := by omega
    obtain ⟨k0, k1, k2, k3, k4, k5, _⟩ := al e9
    obtain ⟨q0, q1, q2, q3, q4, q5, _⟩ := al E6.out
    have R9 := hid R9
    clear hb9 e9
    go_wp2_with fail
    refine (gd y _ _ _ R9.out.wdB R6.out.wdB).mono ?_
    rintro e wI ⟨rfl, hbI⟩
    replace Hc := hid (bt Hc.out hbI)
    replace E0 := hid (ac hbI E0.out)
    replace E1 := hid (ac hbI E1.out)
    replace E6 := hid (ac hbI E6.out)
    replace E8 := hid (ac hbI E8.out)
    replace R6 := hid (R6.out.go hbI (by omega))
    replace R8 := hid (R8.out.go hbI (by omega))
    have sI := hbI.size
    clear hbI k0 k1 k2 k3 k4 k5 q0 q1 q2 q3 q4 q5
    obtain ⟨k0, k1, k2, k3, k4, k5, _⟩ := al E8.out
    have g8I : g8 < wI.heap.size := by omega
    go_wp2_with fail
    refine (iT y _ 1 _ R8.out.wdB (by omega) (by omega)).mono ?_
    rintro e wJ ⟨rfl, hbJ⟩
    replace Hc := hid (bt Hc.out hbJ)
    clear hbJ k0 k1 k2 k3 k4 k5
    go_wp2_with fail
    go_ret
    exact ⟨rfl, Hc.out⟩
theorem fx (os : Os) (started : os.Started) (H : Type) (enc : TypeId × Value → H) :
  ReturnsInHanded {} Tryz.checked os 5 .any (fun w args => (Rows.fnExactWorldDoSpec.pre enc Tryz.prog Tryz.f5 [] false w args ∧ laidMetH Tryz.prog lh w) ∧ sizedMet enc Tryz.prog Tryz.f5 (OpenSpec.ofChange Rows.fnExactWorldDoSpec) false w args) (Rows.fnExactWorldDoSpec.post enc Tryz.prog Tryz.f5 false true false false) := by
 refine returnsInHanded_of_change_and (C := Tryz.checked) (X := fun w _ => laidMetH Tryz.prog lh w) (fun _ _ _ hh h => h.of_heap hh) su started (by kernel_rfl) Tryz.func5
  (ChangeSpec.witness_at (enc := enc) (C := Tryz.checked) (os := os) (X := fun w _ => laidMetH Tryz.prog lh w) false (lj os) #[.agg #[.slice none 0 0, .slice none 0 0, .slice none 0 0, .slice none 0 0, .int .i64 0, .int .i64 0], .agg #[.int .i64 0, .int .i64 0, .int .i64 0, .int .i64 0]] 8 rfl (by kernel_rfl) (by kernel_rfl) (by kernel_rfl) (by kernel_rfl) (by kernel_rfl) (kH os _)) ?_
 intro W base args ds gs before hval0 hW _ _ hL _
 have hg := jz hL
 have hval : ∀ (j : Nat) t v, Tryz.f5.params[j]? = some t → args[j]? = some v → Value.okWide Tryz.prog W .any base t v := hval0
 have hW' := hW
 obtain ⟨p, q, hA0, hV, rfl, hfz, hnd⟩ := hW
 have hA : DataW.TrodAll enc Tryz.prog W 0 (fun _ => true) true Tryz.f5.params.toList args.toList ds p := hA0
 rw [Tryz.params5] at hA hval
 obtain ⟨v0, vs0, d0, ds0, p0, q0, hargs, rfl, rfl, h0, r0⟩ := trodAll_cons hA
 obtain ⟨v1, vs1, d1, ds1, p1, q1, rfl, rfl, rfl, h1, r1⟩ := trodAll_cons r0
 obtain ⟨rfl, rfl, rfl⟩ := trodAll_nil r1
 obtain rfl : args = #[v0, v1] := by cases args; simp_all
 obtain ⟨rfl, rfl⟩ : gs = [] ∧ q = [] := by
  cases gs with
  | nil => exact ⟨rfl, hV⟩
  | cons g r => exact absurd hV (by intro h; cases h)
 have k0 := h0
 have lt0 : ∀ x ∈ p0, x.block < W.heap.size := by obtain ⟨m, hm⟩ := k0; exact DataW.trod_lt m _ _ _ hm
 obtain ⟨x0, s0, f0⟩ := vq (hval 0 42 v0 rfl rfl) h0
 have k1 := h1
 have lt1 : ∀ x ∈ p1, x.block < W.heap.size := by obtain ⟨m, hm⟩ := k1; exact DataW.trod_lt m _ _ _ hm
 obtain ⟨x1, s1, f1⟩ := vo (hval 1 48 v1 rfl rfl) h1
 clear hA0 hval0
 refine (FnExactWorldDo_c v0 x0 v1 x1 W hg s0 f0 s1 f1).mono fun e W' ⟨he, bel⟩ => ?_
 subst he
 exact ⟨_, rfl, _, _, _, [], _, [], hW', trodAll_mk1 (shut_bool Tryz.underlying4 _), (trodAll_cons_mk (Below.trod mU (by kernel_rfl) (of_decide_eq_true (by kernel_rfl)) k0 bel lt0) (trodAll_cons_mk (Below.trod mU (by kernel_rfl) (of_decide_eq_true (by kernel_rfl)) k1 bel lt1) trodAll_mk0)), rfl, bel.frame _, fun h => by cases h⟩
theorem fD : joinedFacts Tryz.prog 5 Tryz.f5 Rows.fnExactWorldDoSpec Rows.fnExactWorldDoRow = true := by
 unfold joinedFacts
 simp only [Bool.and_eq_true]
 repeat' apply And.intro
 ·as_aux_lemma => kernel_rfl
 ·as_aux_lemma => kernel_rfl
 ·as_aux_lemma => kernel_rfl
 ·as_aux_lemma => kernel_rfl
 ·as_aux_lemma => kernel_rfl
 ·as_aux_lemma => kernel_rfl
 ·as_aux_lemma => kernel_rfl
 ·as_aux_lemma => kernel_rfl
 ·as_aux_lemma => kernel_rfl
 ·as_aux_lemma => kernel_rfl
 ·as_aux_lemma => kernel_rfl
 ·as_aux_lemma => kernel_rfl
 ·as_aux_lemma => kernel_rfl
 ·as_aux_lemma => kernel_rfl
 ·as_aux_lemma => kernel_rfl
 ·as_aux_lemma => kernel_rfl
 ·as_aux_lemma => kernel_rfl
 ·as_aux_lemma => kernel_rfl
 ·as_aux_lemma => kernel_rfl
 ·as_aux_lemma => kernel_rfl
 ·as_aux_lemma => kernel_rfl
 ·as_aux_lemma => kernel_rfl
 ·as_aux_lemma => kernel_rfl
 ·as_aux_lemma => kernel_rfl
 ·as_aux_lemma => kernel_rfl
 ·exact oo
 ·rw [ot]; rfl
 ·rw [ql]; rfl
 ·as_aux_lemma => kernel_rfl
 ·as_aux_lemma => kernel_rfl
 ·as_aux_lemma => kernel_rfl
 ·as_aux_lemma => kernel_rfl
theorem fE : Tryz.prog.funcNamed Rows.fnExactWorldDoRow.func = some 5 := by kernel_rfl
theorem gD : Tryz.f5.isWrapper Tryz.prog Rows.fnExactWorldDoRow.wrapper Rows.fnExactWorldDoRow.mainSum := (by unfold Func.isWrapper; first | (rw [if_pos (by decide +kernel)]; kernel_rfl) | (rw [if_neg (by decide +kernel)]; exact ⟨rfl, rfl⟩))
theorem gC : Rows.fnExactWorldDoRow.holds Tryz.pinned (OpenSpec.ofChange Rows.fnExactWorldDoSpec) :=
 OpenClaim.holds_of_wide (p := Tryz.pinned) 5 Tryz.f5 rfl rfl rfl rfl rfl rfl rfl ⟨rfl, rfl, rfl, rfl, rfl⟩ rfl rfl rfl rfl rfl fE Tryz.func5 fD
  (of_decide_eq_true (by kernel_rfl)) gD
  (fun os started H enc _ => fx os started H enc)
theorem FnExactWorldDo_holds : Rows.FnExactWorldDoCardSaid :=
 Claim7.holds_tied_plain_at .later [] [.handle] true (true, "7f92a0a9953bcf8421b53ea28064d59a1af2c672f4f4d58016ed4b0cd9757e76") true
  gC (fun _ h => by cases h) (by kernel_rfl) (fun _ h => by cases h) fnExactWorldDo_row_tie rfl ⟨rfl, rfl⟩ (by kernel_rfl) rfl
  (fun f fn hf hfn => by
   obtain rfl : f = 5 := Option.some.inj ((show Tryz.prog.funcNamed Rows.fnExactWorldDoRow.func = some 5 by kernel_rfl).symm.trans hf) |>.symm
   obtain rfl : fn = Tryz.f5 := (Option.some.inj (Tryz.func5.symm.trans hfn)).symm
   exact ⟨by kernel_rfl, fun j t ht => by
    rw [Tryz.params5] at ht
    rcases j with _ | _ | j
    all_goals (first | (simp at ht; done) | (simp at ht; subst ht; exact (show Tryz.prog.wantsStandIn _ = false by kernel_rfl)))⟩)
  (by kernel_rfl)
#print axioms FnExactWorldDo_holds
end
end Go.Proofs.YtfledddejfpopaaGreatDoor
