/- Texts that the last file leans on (part 18). -/
import Derived.Test.YtfaeojmndaplcaaGreatDoorM10
import Derived.Test.YtfaeojmndaplcaaGreatDoorM15
set_option linter.unusedVariables false
set_option linter.unusedSimpArgs false
set_option maxHeartbeats 4000000
set_option maxRecDepth 100000
namespace Go.Proofs.YtfaeojmndaplcaaGreatDoor
open Go Go.RowKit
theorem uj (R : Nat → Prop) (x : Wd) (v : Value) (t : Tr) (Ah Ab : Option Addr) (ch cb : Nat) (w : World) (hR : ∀ b, w.heap.size ≤ b → R b) (hv : WdR R w v x) (hx : VD 1 x) (ht : trB t = true) (h3 : SlB af w.heap.size w (.slice Ah t.pk.hd.length ch) t.pk.hd) (h4 : SlB af w.heap.size w (.slice Ab t.pk.bd.length cb) t.pk.bd) :
  Calls Tryz.prog 115 #[v, .agg #[.int .i64 t.mix, .int .i64 t.pk.el, .slice Ah t.pk.hd.length ch, .int .i64 t.pk.tag, .slice Ab t.pk.bd.length cb, .bool t.ch]] w (b6 w R (ex x t)) := by
 obtain ⟨mix, p, cg⟩ := t
 obtain ⟨hm0, hpk⟩ := cL.1 ht
 dsimp only at h3 h4 hm0 hpk ⊢
 obtain ⟨k, rfl⟩ : ∃ k : Nat, mix = (k : Int) := ⟨mix.toNat, by have := aH.1 hm0; omega⟩
 have hk : k < 3 := by have := aH.1 hm0; omega
 obtain ⟨m, hm1, hm2, hm3, hm4⟩ := js hx.mix hk
 have hml := cP hx.mix
 have hkl : k < x.mixes.length := by omega
 obtain ⟨m2, code, hrr⟩ : ∃ m2 code, bW m p = (m2, code) := ⟨_, _, rfl⟩
 have Hfin := hid (show ex x ⟨(k : Int), p, cg⟩ = if code = 0 then cV x k m2 else dA (cV x k m2) by
  unfold ex; dsimp only; rw [Int.toNat_natCast, hm2, hrr])
 obtain ⟨l1, l2, _, _⟩ := hx.lim
 have iw : IntKind.i64.wrap (x.lost + 1) = x.lost + 1 := a9 (by omega)
 have Hml := hid hml; have Hrr := hid hrr
 obtain ⟨A1, c1, A2, c2, A3, c3, A4, c4, rfl⟩ := hv.form
 have HB := hid (fun (wx : World) (hb : Below w.heap.size w wx) => (hv.go hb).wdB)
 have HX := hid hx; have HM1 := hid hm1; have HM3 := hid hm3; have Hpk := hid hpk
 have G3 := hid (fun (wx : World) (hb : Below w.heap.size w wx) => h3.go hb)
 have G4 := hid (fun (wx : World) (hb : Below w.heap.size w wx) => h4.go hb)
 clear hv hx hm1 hm2 hm3 hm4 hml hrr hm0 ht hpk h3 h4
 go_enter Tryz.func115, Tryz.ntmps115
 go_wp2_with fail
 refine (fe x _ _ (HB.out _ (by repeat (first | exact zm | apply ae | refine bA ?_ (by omega) | refine Below.setCell ?_ (by first | omega | simp <;> omega) _))) HX.out.sm).mono ?_
 rintro e w1 ⟨um, us, un, ug, rfl, n1, hb1⟩
 obtain ⟨B1, d1, B2, d2, B3, d3, B4, d4, rfl, rfl, rfl, rfl⟩ := cQ n1
 obtain ⟨b0, b1, b2⟩ := gH hb1
 have hc1 : Below w.heap.size w w1 := bt (by repeat (first | exact zm | apply ae | refine bA ?_ (by omega) | refine Below.setCell ?_ (by first | omega | simp <;> omega) _)) hb1
 have z2 : w.heap.size + 1 + 1 < w1.heap.size := (zn b2)
 have z1 : w.heap.size + 1 < w1.heap.size := by omega
 have z0 : w.heap.size < w1.heap.size := by omega
 obtain ⟨k0, k1, k2, k3, k4, k5, kf⟩ := aC b0
 have kf0 := kf 0; have kf1 := kf 1; have kf2 := kf 2; have kf3 := kf 3; have kf4 := kf 4; have kf5 := kf 5
 have N1 := hid (n1.base (B' := w.heap.size + 3) (by simp)); have Hc1 := hid hc1; have Eb0 := hid b0; have Eb1 := hid b1; have Eb2 := hid b2
 clear n1 hb1 hc1 b0 b1 b2 kf
 go_upto_region 2 with fail
 have b0 := eh (.slice B1 x.mixes.length d1) (.slice B2 x.sent.length d2) (.slice B3 x.net.length d3) (.slice B4 x.got.length d4) (.int .i64 x.made) (.int .i64 x.lost) Eb0.out
 have b1 := (dt (w := w1) (g := w.heap.size) (b0 := .slice B1 x.mixes.length d1) (b1 := .slice B2 x.sent.length d2) (b2 := .slice B3 x.net.length d3) (b3 := .slice B4 x.got.length d4) (b4 := .int .i64 x.made) (b5 := .int .i64 x.lost) (w.heap.size + 1) (by omega)).trans Eb1.out
 have b2 := (dt (w := w1) (g := w.heap.size) (b0 := .slice B1 x.mixes.length d1) (b1 := .slice B2 x.sent.length d2) (b2 := .slice B3 x.net.length d3) (b3 := .slice B4 x.got.length d4) (b4 := .int .i64 x.made) (b5 := .int .i64 x.lost) (w.heap.size + 1 + 1) (by omega)).trans Eb2.out
 have n2 := (((((N1.out.set (p := ⟨w.heap.size, 0, none⟩) (u := .slice B1 x.mixes.length d1) (by dsimp only; omega)).set (p := ⟨w.heap.size, 1, none⟩) (u := .slice B2 x.sent.length d2) (by dsimp only; omega)).set (p := ⟨w.heap.size, 2, none⟩) (u := .slice B3 x.net.length d3) (by dsimp only; omega)).set (p := ⟨w.heap.size, 3, none⟩) (u := .slice B4 x.got.length d4) (by dsimp only; omega)).set (p := ⟨w.heap.size, 4, none⟩) (u := .int .i64 x.made) (by dsimp only; omega)).set (p := ⟨w.heap.size, 5, none⟩) (u := .int .i64 x.lost) (by dsimp only; omega)
 have hc2 := (((((Hc1.out.setCell (p := ⟨w.heap.size, 0, none⟩) (by dsimp only; omega) (.slice B1 x.mixes.length d1)).setCell (p := ⟨w.heap.size, 1, none⟩) (by dsimp only; omega) (.slice B2 x.sent.length d2)).setCell (p := ⟨w.heap.size, 2, none⟩) (by dsimp only; omega) (.slice B3 x.net.length d3)).setCell (p := ⟨w.heap.size, 3, none⟩) (by dsimp only; omega) (.slice B4 x.got.length d4)).setCell (p := ⟨w.heap.size, 4, none⟩) (by dsimp only; omega) (.int .i64 x.made)).setCell (p := ⟨w.heap.size, 5, none⟩) (by dsimp only; omega) (.int .i64 x.lost)
 have sz2 : w.heap.size + 3 ≤ ((((((w1.setCell ⟨w.heap.size, 0, none⟩ (.slice B1 x.mixes.length d1)).setCell ⟨w.heap.size, 1, none⟩ (.slice B2 x.sent.length d2)).setCell ⟨w.heap.size, 2, none⟩ (.slice B3 x.net.length d3)).setCell ⟨w.heap.size, 3, none⟩ (.slice B4 x.got.length d4)).setCell ⟨w.heap.size, 4, none⟩ (.int .i64 x.made)).setCell ⟨w.heap.size, 5, none⟩ (.int .i64 x.lost)).heap.size := by simp only [al]; omega
 clear k0 k1 k2 k3 k4 k5 kf0 kf1 kf2 kf3 kf4 kf5 N1 Hc1 Eb0 Eb1 Eb2 z0 z1 z2
 generalize ((((((w1.setCell ⟨w.heap.size, 0, none⟩ (.slice B1 x.mixes.length d1)).setCell ⟨w.heap.size, 1, none⟩ (.slice B2 x.sent.length d2)).setCell ⟨w.heap.size, 2, none⟩ (.slice B3 x.net.length d3)).setCell ⟨w.heap.size, 3, none⟩ (.slice B4 x.got.length d4)).setCell ⟨w.heap.size, 4, none⟩ (.int .i64 x.made)).setCell ⟨w.heap.size, 5, none⟩ (.int .i64 x.lost)) = W1 at *
 obtain ⟨Fm, Fs, Fn, Fg, hr, hlo⟩ := Run.ofNew (B0 := w.heap.size) n2 b0 (by omega) (Nat.le_refl _)
 obtain ⟨Gm, _, hO⟩ := aG hr.em
 obtain ⟨g, rfl⟩ := Own.addr hO (by omega)
 have hgW := (hO.top g rfl).2
 obtain ⟨bb, o, us, up, e, _, _, hvs, hvp, q0, q1, q2⟩ := ((hr.wdR hlo).un.1.slB).mx HM1.out
 injection e with e; injection e with e1 e2; subst e1 e2
 simp only [Nat.zero_add] at q0 q1 q2
 obtain ⟨As, cs, rfl, _, _, _⟩ := hvs.form
 obtain ⟨Ap, cp, rfl, _, _, _⟩ := hvp.form
 have Hvs := hid (fun (wx : World) (hT : Tch [] W1 wx) => hvs.go hT.nil)
 have Hvp := hid (fun (wx : World) (hT : Tch [] W1 wx) => hvp.go hT.nil)
 have H3 := hid (fun (wx : World) (hT : Tch [] W1 wx) => G3.out _ (bt hc2 hT.nil))
 have H4 := hid (fun (wx : World) (hT : Tch [] W1 wx) => G4.out _ (bt hc2 hT.nil))
 have HS := hid (fun (wx : World) (hT : Tch [] W1 wx) => And.intro (aC (hT.row b0 (by simp))) (And.intro (aC (hT.row b1 (by simp))) (And.intro (hT.cell q0 (by simp)) (And.intro (hT.cell q1 (by simp)) (And.intro (hT.cell q2 (by simp)) (show w.heap.size + 1 < wx.heap.size by have := hT.size; omega))))))
 have Hr := hid hr; have Hlo := hid hlo; have Hc2 := hid hc2; have B0 := hid b0; have B1' := hid b1; have B2' := hid b2
 clear hvs hvp hr hlo hc2 b0 b1 b2 n2 hO q0 q1 q2
 refine rgN [] 15 (by kernel_rfl) rfl (fun | none, _, _, _, _ => id | some _, _, _, _, _ => id) fun wd hH hbwd swd => ?_
 simp only [pw]
 refine ag [0, 1, 2, 3, 4, 5, 6, 7] ?_
 iterate 8 (refine ra HS.out rfl (by kernel_rfl) rfl (fun _ f => by go_simp; try with_reducible rfl) ?_; try simp only [pw])
 repeat' (first
  | (have t8 := hK8; clear t8; go_simp; (go_at_call 121; refine (uf m _ _ p _ _ _ (Hvs.out _ hH) (Hvp.out _ hH) (H3.out _ hH) (H4.out _ hH) HM3.out Hpk.out).mono ?_; rw [Hrr.out]; rintro e w5 ⟨us5, up5, rfl, n5, hbC⟩; obtain ⟨A5, c5, A6, c6, rfl, rfl⟩ := bo n5; have sb5 := hbC.size; (try replace ea := ac hbC ea); obtain ⟨F5, h5E, h5n, h5l⟩ := n5; (try have h5 : ∀ b ∈ F5, W1.heap.size ≤ b ∧ b ≠ ga := fun b hb => by have h1 := h5l b hb; have h2 := oMx.lt h5E b hb; omega)); refine hK8.out _ _ (hH.trans (Tch.of hbC)) (fun hH => ?_); clear hK8 K8; try simp only [pw])
  | (have t12 := hK12; clear t12; go_simp; (have la := hH.size; generalize hgw : World.alloc _ _ = wa; obtain ⟨ea, hbC, sa⟩ := aD hgw; clear hgw; (first | (generalize hga : w5.heap.size = ga at ea ⊢) | (generalize hga : wd.heap.size = ga at ea ⊢)); (try have h5 : ∀ b ∈ F5, W1.heap.size ≤ b ∧ b ≠ ga := fun b hb => by have h1 := h5l b hb; have h2 := oMx.lt h5E b hb; omega); (try replace h5E := oMx.keep h5E (fun b hb => hbC.block b (oMx.lt h5E b hb))); have hga1 : W1.heap.size ≤ ga := (by omega); have hga2 : ga < wa.heap.size := (by omega); clear hga); refine hK12.out _ _ (hH.trans (Tch.of hbC)) (fun hH => ?_); clear hK12 K12; try simp only [pw])
  | (have t13 := hK13; clear t13; (obtain ⟨z0, z1, z2, zf⟩ := aN ea; have zf0 := zf 0; have zf1 := zf 1; have zf2 := zf 2; have hga3 := World.block_lt_of_cell? _ _ z0; dsimp only at hga3); have fC := HS.out _ hH; go_simp; clear fC; (have hbT := ((hH.put (p := ⟨ga, 0, none⟩) (.inr hga1) (.int .i64 m2.sec)).put (p := ⟨ga, 1, none⟩) (.inr hga1) (.slice A5 m2.seen.length c5)).put (p := ⟨ga, 2, none⟩) (.inr hga1) (.slice A6 m2.pool.length c6)); refine hK13.out _ _ (hbT) (fun hH => ?_); clear hK13 K13; try simp only [pw])
  | (refine tr 9 HS.out rfl (by decide +kernel) rfl (fun _ f => by go_simp; try with_reducible rfl) ?_; try simp only [pw])
  | (refine tr 10 HS.out rfl (by decide +kernel) rfl (fun _ f => by go_simp; try with_reducible rfl) ?_; try simp only [pw])
  | (refine tr 11 HS.out rfl (by decide +kernel) rfl (fun _ f => by go_simp; try with_reducible rfl) ?_; try simp only [pw])
  | (refine tr 14 HS.out rfl (by decide +kernel) rfl (fun _ f => by go_simp; try with_reducible rfl) ?_; try simp only [pw])
  | (refine rk (i := 8) [12] (by decide +kernel) (rc rfl (fun K8 hK8 => ?_) (rc rfl (fun K12 hK12 => ?_) rn)))
  | (refine rk (i := 8) [] (by decide +kernel) (rc rfl (fun K8 hK8 => ?_) rn))
  | (refine rk (i := 12) [] (by decide +kernel) (rc rfl (fun K12 hK12 => ?_) rn))
  | (refine rk (i := 13) [] (by decide +kernel) (rc rfl (fun K13 hK13 => ?_) rn))
  | fail)
 all_goals refine dm (by kernel_rfl) ?_
 all_goals
  have e9 := aI 2 (.slice A6 m2.pool.length c6) (aI 1 (.slice A5 m2.seen.length c5) (aI 0 (.int .i64 m2.sec) ea))
  have h9E := oMx.keep h5E (fun b hb => ((Below.heap_setCell _ ⟨ga, 2, none⟩ (.slice A6 m2.pool.length c6) b (h5 b hb).2).trans (Below.heap_setCell _ ⟨ga, 1, none⟩ (.slice A5 m2.seen.length c5) b (h5 b hb).2)).trans (Below.heap_setCell _ ⟨ga, 0, none⟩ (.int .i64 m2.sec) b (h5 b hb).2))
  clear z0 z1 z2 zf zf0 zf1 zf2 ea h5E hbC hbT h5l hga3
  generalize World.setCell (World.setCell (World.setCell _ _ _) _ _) _ _ = w9 at *
  have hb9 := hH.nil
  have rn9 := ac hb9 B0.out
  have rt9 := ac hb9 B1'.out
  have rr9 := ac hb9 B2'.out
  have hr9 := Hr.out.go hb9
  obtain ⟨Gm', _, hO⟩ := aG hr9.em
  have fz0 := hO.frozen (k * 3); have fz1 := hO.frozen (k * 3 + 1); have fz2 := hO.frozen (k * 3 + 2)
  obtain ⟨bb, o, us, up, e, _, _, _, _, y0, y1, y2⟩ := ((hr9.wdR Hlo.out).un.1.slB).mx HM1.out
  injection e with e; injection e with e1 e2; subst e1 e2
  simp only [Nat.zero_add] at y0 y1 y2
  obtain ⟨k0, k1, k2, k3, k4, k5, kf⟩ := aC rn9
  obtain ⟨t0, t1, t2, t3, t4, t5, _⟩ := aC rt9
  obtain ⟨a0, a1, a2, _⟩ := aN e9
  have s9 := hb9.size
  have hg9 : g < w9.heap.size := by omega
  have hn9 : w.heap.size < w9.heap.size := by omega
  have hga9 : ga < w9.heap.size := World.block_lt_of_cell? _ _ a0
  have Hr9 := hid hr9; have He9 := hid h9E; have Hc9 := hid (bt Hc2.out hb9); have Rn9 := hid rn9; have Rr9 := hid rr9; have H5 := hid h5; have H5n := hid h5n
  clear hr9 h9E hb9 rn9 rt9 rr9 e9 hH kf hO h5 h5n swd
  go_upto_region 4 with fail
  obtain ⟨g', F2, e, hgm, hr3, hF2⟩ := Run.setMix (m := m2) Hr9.out hkl He9.out H5n.out (fun a ha => ⟨by have := H5.out a ha; omega, fun hm => by have h1 := (H5.out a ha).1; have h2 := Hr.out.lt a hm; omega⟩)
  injection e with e; injection e with e1 e2; subst e1
  have hg2' : w.heap.size + 3 ≤ g := Hlo.out g (List.mem_append_left _ hgm)
  have rw4 := hr3.wdR (P := be R w.heap.size (w.heap.size + 3)) (fun c hc => by
   have h2 : w.heap.size + 3 ≤ c := by
    rcases List.mem_append.1 hc with hc | hc
    ·rcases hF2 c hc with h | h
     ·exact Hlo.out c (List.mem_append_left _ h)
     ·have := (H5.out c h).1; omega
    ·exact Hlo.out c (List.mem_append_right _ hc)
   exact ⟨hR c (by omega), .inr h2⟩)
  have rn : (((w9.setCell ⟨g, k * 3, none⟩ (.int .i64 m2.sec)).setCell ⟨g, k * 3 + 1, none⟩ (.slice A5 m2.seen.length c5)).setCell ⟨g, k * 3 + 2, none⟩ (.slice A6 m2.pool.length c6)).heap[w.heap.size]? = _ := (Below.heap_setCell _ _ _ _ (by dsimp only; omega)).trans ((Below.heap_setCell _ _ _ _ (by dsimp only; omega)).trans ((Below.heap_setCell _ _ _ _ (by dsimp only; omega)).trans Rn9.out))
  have rr : (((w9.setCell ⟨g, k * 3, none⟩ (.int .i64 m2.sec)).setCell ⟨g, k * 3 + 1, none⟩ (.slice A5 m2.seen.length c5)).setCell ⟨g, k * 3 + 2, none⟩ (.slice A6 m2.pool.length c6)).heap[w.heap.size + 1 + 1]? = _ := (Below.heap_setCell _ _ _ _ (by dsimp only; omega)).trans ((Below.heap_setCell _ _ _ _ (by dsimp only; omega)).trans ((Below.heap_setCell _ _ _ _ (by dsimp only; omega)).trans Rr9.out))
  have hc4 := ((Hc9.out.setCell (p := ⟨g, k * 3, none⟩) (by dsimp only; omega) (.int .i64 m2.sec)).setCell (p := ⟨g, k * 3 + 1, none⟩) (by dsimp only; omega) (.slice A5 m2.seen.length c5)).setCell (p := ⟨g, k * 3 + 2, none⟩) (by dsimp only; omega) (.slice A6 m2.pool.length c6)
  have sz4 : w.heap.size + 3 ≤ (((w9.setCell ⟨g, k * 3, none⟩ (.int .i64 m2.sec)).setCell ⟨g, k * 3 + 1, none⟩ (.slice A5 m2.seen.length c5)).setCell ⟨g, k * 3 + 2, none⟩ (.slice A6 m2.pool.length c6)).heap.size := by simp only [al]; omega
  clear hr3 hF2 hgm Hr9 He9 Rn9 Rr9 Hc9 H5 H5n y0 y1 y2 fz0 fz1 fz2 k0 k1 k2 k3 k4 k5 t0 t1 t2 t3 t4 t5 a0 a1 a2
  generalize ((w9.setCell ⟨g, k * 3, none⟩ (.int .i64 m2.sec)).setCell ⟨g, k * 3 + 1, none⟩ (.slice A5 m2.seen.length c5)).setCell ⟨g, k * 3 + 2, none⟩ (.slice A6 m2.pool.length c6) = W4 at *
  obtain ⟨k0, k1, k2, k3, k4, k5, kf⟩ := aC rn
  obtain ⟨q0, q1, q2, q3, q4, q5, qf⟩ := aC rr
  have kf5 := kf 5
  have qf0 := qf 0; have qf1 := qf 1; have qf2 := qf 2; have qf3 := qf 3; have qf4 := qf 4; have qf5 := qf 5
  have y0 : w.heap.size < W4.heap.size := by omega
  have y2 : w.heap.size + 1 + 1 < W4.heap.size := by omega
  have Rw4 := hid rw4; have Hc4 := hid hc4
  clear rn rr rw4 hc4 kf qf
  by_cases hcd : code = 0
  ·have i1 : (code != 0) = false := by simp [hcd]
   have Hf := hid (Hfin.out.trans (if_pos hcd))
   clear hcd
   go_wp2_with fail
   rw [Hf.out]
   refine bodyPost_ret (v := .agg #[.slice (some ⟨g, 0, none⟩) x.mixes.length d1, .slice B2 x.sent.length d2, .slice B3 x.net.length d3, .slice B4 x.got.length d4, .int .i64 x.made, .int .i64 x.lost]) (by simp [results, Tryz.results115, go_sem, q0, q1, q2, q3, q4, q5]) rfl ⟨_, rfl, ?_, ?_⟩
   ·refine WdR.mono (R := be R w.heap.size (w.heap.size + 3)) ?_ (fun b _ h => h.1)
    repeat (refine WdR.set ?_ (aE (by dsimp only; omega) (by dsimp only; omega)))
    exact Rw4.out
   ·repeat (refine Below.setCell ?_ (by dsimp only; omega) _)
    exact Hc4.out
  ·have i1 : (code != 0) = true := by simp [hcd]
   have Hf := hid (Hfin.out.trans (if_neg hcd))
   clear hcd
   go_wp2_with fail
   rw [Hf.out]
   refine bodyPost_ret (v := .agg #[.slice (some ⟨g, 0, none⟩) x.mixes.length d1, .slice B2 x.sent.length d2, .slice B3 x.net.length d3, .slice B4 x.got.length d4, .int .i64 x.made, .int .i64 (x.lost + 1)]) (by simp [results, Tryz.results115, go_sem, q0, q1, q2, q3, q4, q5]) rfl ⟨_, rfl, ?_, ?_⟩
   ·refine WdR.mono (R := be R w.heap.size (w.heap.size + 3)) ?_ (fun b _ h => h.1)
    repeat (refine WdR.set ?_ (aE (by dsimp only; omega) (by dsimp only; omega)))
    exact Rw4.out.los
   ·repeat (refine Below.setCell ?_ (by dsimp only; omega) _)
    exact Hc4.out
end Go.Proofs.YtfaeojmndaplcaaGreatDoor
