/- Texts that the last file leans on (part 26). -/
import Derived.Deep.DeepCutAuto
import Derived.Test.YtfaeojmndaplcaaGreatDoorM15
import Derived.Test.YtfaeojmndaplcaaGreatDoorM16
set_option linter.unusedVariables false
set_option linter.unusedSimpArgs false
set_option maxHeartbeats 4000000
set_option maxRecDepth 100000
namespace Go.Proofs.YtfaeojmndaplcaaGreatDoor
open Go Go.RowKit
theorem sw {B t g e : Nat} {w : World} {x : Wd} {z0 z1 z2 z3 z4 z5 v3 v8 : Value} (e14 : w.heap[g]? = some (.cells #[z0, z1, z2, z3, z4, z5] t (0, 0))) (h3 : Own tLt 56 0 w v3 x.sent []) (h8 : Own tLt 56 0 w v8 x.got [])
  (d3 : ∀ b, v3.ownBlock = some b → b ≠ g ∧ B ≤ b ∧ v8.ownBlock ≠ some b) (d8 : ∀ b, v8.ownBlock = some b → b ≠ g ∧ B ≤ b) (hg : B ≤ g) :
  Run B ((((((w.setCell ⟨g, 0, none⟩ (.slice none 0 0)).setCell ⟨g, 1, none⟩ v3).setCell ⟨g, 2, none⟩ (.slice none 0 0)).setCell ⟨g, 3, none⟩ v8).setCell ⟨g, 4, none⟩ (.int .i64 x.made)).setCell ⟨g, 5, none⟩ (.int .i64 x.lost)) g 0 ⟨[], x.sent, [], x.got, x.made, x.lost⟩ (.slice none 0 0) v3 (.slice none 0 0) v8 [] v3.ownBlock.toList [] v8.ownBlock.toList := by
 obtain ⟨q0, q1, q2, q3, q4, q5, qf⟩ := aC (eh (.slice none 0 0) v3 (.slice none 0 0) v8 (.int .i64 x.made) (.int .i64 x.lost) e14)
 have kb : ∀ b, b ≠ g → ((((((w.setCell ⟨g, 0, none⟩ (.slice none 0 0)).setCell ⟨g, 1, none⟩ v3).setCell ⟨g, 2, none⟩ (.slice none 0 0)).setCell ⟨g, 3, none⟩ v8).setCell ⟨g, 4, none⟩ (.int .i64 x.made)).setCell ⟨g, 5, none⟩ (.int .i64 x.lost)).heap[b]? = w.heap[b]? := fun b hb => dt b hb
 generalize ((((((w.setCell ⟨g, 0, none⟩ (.slice none 0 0)).setCell ⟨g, 1, none⟩ v3).setCell ⟨g, 2, none⟩ (.slice none 0 0)).setCell ⟨g, 3, none⟩ v8).setCell ⟨g, 4, none⟩ (.int .i64 x.made)).setCell ⟨g, 5, none⟩ (.int .i64 x.lost)) = W at *
 have k3 : Own tLt 56 0 W v3 x.sent [] := h3.keep (fun b hb => kb _ (d3 b hb).1) (fun _ h => by cases h)
 have k8 : Own tLt 56 0 W v8 x.got [] := h8.keep (fun b hb => kb _ (d8 b hb).1) (fun _ h => by cases h)
 refine ⟨q0, q1, q2, q3, q4, q5, qf, ⟨_, [], rfl, Own.nil _ _, rfl⟩, ⟨v3, [], rfl, k3, by simp⟩, ⟨_, [], rfl, Own.nil _ _, rfl⟩, ⟨v8, [], rfl, k8, by simp⟩, ?_, ?_⟩
 ·simp only [List.nil_append]
  rw [List.nodup_cons, List.nodup_append]
  refine ⟨fun hm => ?_, dD _, dD _, fun a ha b hb e => ?_⟩
  ·rcases List.mem_append.1 hm with hm | hm
   ·exact (d3 _ (aW.1 hm)).1 rfl
   ·exact (d8 _ (aW.1 hm)).1 rfl
  ·subst e; exact (d3 _ (aW.1 ha)).2.2 (aW.1 hb)
 ·intro c hc
  simp only [List.nil_append, List.mem_cons, List.mem_append] at hc
  rcases hc with rfl | hc | hc
  ·exact hg
  ·exact (d3 _ (aW.1 hc)).2.1
  ·exact (d8 _ (aW.1 hc)).2
theorem lK (x : Wd) (v : Value) (w : World) (h : WdB w.heap.size w v x) (hs : VD 0 x) :
  Calls Tryz.prog 48 #[v] w fun e w' => ∃ um us un ug, e = .returned (.agg #[um, us, un, ug, .int .i64 x.made, .int .i64 x.lost]) ∧ aJ oWd w.heap.size w' [um, us, un, ug, .int .i64 x.made, .int .i64 x.lost] x ∧ Below w.heap.size w w' := by
 obtain ⟨j0, ji, jz0, jz1, jz2⟩ := info_parts lT
 obtain ⟨k0, ki, kz0, kz1, kz2⟩ := info_parts lr
 obtain ⟨vm, vs, vn, vg, rfl, h1, h2, h3, h4⟩ := h
 obtain ⟨A1, c1, rfl, _, _, _⟩ := h1.form
 obtain ⟨A2, c2, rfl, _, _, _⟩ := h2.form
 obtain ⟨A3, c3, rfl, _, _, _⟩ := h3.form
 obtain ⟨A4, c4, rfl, _, _, _⟩ := h4.form
 have n1 : x.mixes.length ≤ 3 := Nat.le_of_eq (cP hs.mix)
 have n2 := hs.sn; have n3 := hs.nn; have n4 := hs.gl
 have S2 := hid (oM hs.mix); have S5 := hid (bR.1 hs.nt)
 clear hs
 go_enter Tryz.func48, Tryz.ntmps48
 go_upto_region 1 with fail
 generalize hgw : World.alloc (World.alloc w _) _ = W0; obtain ⟨e0, e1, hW0, sW0⟩ := qB hgw; clear hgw
 have HM := hid (fun (wx : World) (hb : Below w.heap.size w wx) => h1.below hb (Nat.le_refl _))
 have HN := hid (fun (wx : World) (hb : Below w.heap.size w wx) => h3.below hb (Nat.le_refl _))
 have HSe := hid (fun (wx : World) (hT : Tch [] W0 wx) => h2.go (bt hW0 hT.nil))
 have HGo := hid (fun (wx : World) (hT : Tch [] W0 wx) => h4.go (bt hW0 hT.nil))
 have HS := hid (fun (wx : World) (hT : Tch [] W0 wx) => And.intro (aC (ac hT.nil e0)) (show w.heap.size < wx.heap.size by have := hT.size; omega))
 have HW0 := hid hW0; have E0 := hid e0; have E1 := hid e1
 clear h1 h2 h3 h4 e0 e1 hW0
 go_cut [3] (fun s3 wx => ∃ g v3 v8, s3 = .pointer (some ⟨g, 0, none⟩) ∧ Run (w.heap.size + 2) wx g 0 ⟨[], x.sent, [], x.got, x.made, x.lost⟩ (.slice none 0 0) v3 (.slice none 0 0) v8 [] v3.ownBlock.toList [] v8.ownBlock.toList ∧ Below (w.heap.size + 2) W0 wx)
 case first =>
  refine rgN [] 13 (by kernel_rfl) rfl (fun | none, _, _, _, _ => id | some _, _, _, _, _ => id) fun wd hH hbwd swd => ?_
  simp only [pw]
  refine ag [0, 1, 3, 4, 6, 7, 8, 9] ?_
  iterate 8 (refine ra HS.out rfl (by kernel_rfl) rfl (fun _ f => by go_simp; try with_reducible rfl) ?_; try simp only [pw])
  repeat' (first
   | (have t2 := hK2; clear t2; go_simp; (have l2 := hH.size; (try have g2 := (zn ea)); go_at_call 82; refine (oy _ x.sent _ (HSe.out _ hH) (by omega)).mono ?_; rintro e w3 ⟨v3, rfl, n3, hbC⟩; obtain ⟨G3, o3, _, _⟩ := n3; obtain rfl := au dw o3; obtain ⟨A6, c6, rfl, _, _, _⟩ := o3.form; (try replace ea := ac hbC ea); (try have m3 : ∀ b, (Value.slice A6 x.sent.length c6).ownBlock = some b → b ≠ ga := fun b hb => by have := (o3.top b hb).1; omega)); refine hK2.out _ _ (hH.trans (Tch.of hbC)) (fun hH => ?_); clear hK2 K2; try simp only [pw])
   | (have t5 := hK5; clear t5; go_simp; (have l5 := hH.size; have t3 := o3.top; (try have g5 := (zn ea)); go_at_call 82; refine (oy _ x.got _ (HGo.out _ hH) (by omega)).mono ?_; rintro e w8 ⟨v8, rfl, n8, hbC⟩; obtain ⟨G8, o8, _, _⟩ := n8; obtain rfl := au dw o8; obtain ⟨A8, c8, rfl, _, _, _⟩ := o8.form; (try replace ea := ac hbC ea); (try have m8 : ∀ b, (Value.slice A8 x.got.length c8).ownBlock = some b → b ≠ ga := fun b hb => by have := (o8.top b hb).1; omega); have m38 : ∀ b, (Value.slice A6 x.sent.length c6).ownBlock = some b → (Value.slice A8 x.got.length c8).ownBlock ≠ some b := fun b h1 h2 => (by have g1 := (t3 b h1).2; have g2 := (o8.top b h2).1; omega); replace o3 := o3.go hbC); refine hK5.out _ _ (hH.trans (Tch.of hbC)) (fun hH => ?_); clear hK5 K5; try simp only [pw])
   | (have t11 := hK11; clear t11; go_simp; (have la := hH.size; generalize hgw : World.alloc _ _ = wa; obtain ⟨ea, hbC, sa⟩ := aD hgw; clear hgw; (first | (generalize hga : w8.heap.size = ga at ea ⊢) | (generalize hga : w3.heap.size = ga at ea ⊢) | (generalize hga : wd.heap.size = ga at ea ⊢)); (try have m3 : ∀ b, (Value.slice A6 x.sent.length c6).ownBlock = some b → b ≠ ga := fun b hb => by have := (o3.top b hb).2; omega); (try have m8 : ∀ b, (Value.slice A8 x.got.length c8).ownBlock = some b → b ≠ ga := fun b hb => by have := (o8.top b hb).2; omega); (try replace o3 := o3.go hbC); (try replace o8 := o8.go hbC); have hga1 : W0.heap.size ≤ ga := (by omega); have hga2 : ga < wa.heap.size := (by omega); clear hga); refine hK11.out _ _ (hH.trans (Tch.of hbC)) (fun hH => ?_); clear hK11 K11; try simp only [pw])
   | (refine tr 10 HS.out rfl (by decide +kernel) rfl (fun _ f => by go_simp; try with_reducible rfl) ?_; try simp only [pw])
   | (refine rz 12 (by decide +kernel) rfl (fun K hK => ?_); (obtain ⟨z0, z1, z2, z3, z4, z5, zf⟩ := aC ea; have zf0 := zf 0; have zf1 := zf 1; have zf2 := zf 2; have zf3 := zf 3; have zf4 := zf 4; have zf5 := zf 5; have hga3 := World.block_lt_of_cell? _ _ z0; dsimp only at hga3); have fC := HS.out _ hH; go_simp; clear fC; refine hK.out _ _ ?_; clear hK K)
   | (refine rk (i := 2) [11] (by decide +kernel) (rc rfl (fun K2 hK2 => ?_) (rc rfl (fun K11 hK11 => ?_) rn)))
   | (refine rk (i := 5) [11] (by decide +kernel) (rc rfl (fun K5 hK5 => ?_) (rc rfl (fun K11 hK11 => ?_) rn)))
   | (refine rk (i := 2) [] (by decide +kernel) (rc rfl (fun K2 hK2 => ?_) rn))
   | (refine rk (i := 5) [] (by decide +kernel) (rc rfl (fun K5 hK5 => ?_) rn))
   | (refine rk (i := 11) [] (by decide +kernel) (rc rfl (fun K11 hK11 => ?_) rn))
   | fail)
  all_goals
   have hb := hH.nil
   have hrs := sw (B := w.heap.size + 2) (x := x) (e := 0) ea (o3.base (Nat.zero_le _)) (o8.base (Nat.zero_le _)) (fun b hb => ⟨m3 b hb, by have := (o3.top b hb).1; omega, m38 b hb⟩) (fun b hb => ⟨m8 b hb, by have := (o8.top b hb).1; omega⟩) (by omega)
   have hbs := (((((hb.mono (by omega : w.heap.size + 2 ≤ W0.heap.size)).setCell (p := ⟨ga, 0, none⟩) (by dsimp only; omega) (.slice none 0 0)).setCell (p := ⟨ga, 1, none⟩) (by dsimp only; omega) (.slice A6 x.sent.length c6)).setCell (p := ⟨ga, 2, none⟩) (by dsimp only; omega) (.slice none 0 0)).setCell (p := ⟨ga, 3, none⟩) (by dsimp only; omega) (.slice A8 x.got.length c8)).setCell (p := ⟨ga, 4, none⟩) (by dsimp only; omega) (.int .i64 x.made) |>.setCell (p := ⟨ga, 5, none⟩) (by dsimp only; omega) (.int .i64 x.lost)
   have HX := hid (And.intro hrs hbs)
   clear hrs hbs hb hH o3 o8 ea m3 m8 m38 hbC z0 z1 z2 z3 z4 z5 zf zf0 zf1 zf2 zf3 zf4 zf5
   go_wp2_with fail
   go_meet
   exact ⟨_, _, _, rfl, HX.out.1, HX.out.2⟩
 case rest =>
  obtain ⟨g, v3, v8, rfl, hr, hb⟩ := hcut
  have hnc := (hb.block w.heap.size (by omega)).trans E0.out
  obtain ⟨p0, p1, p2, p3, p4, p5, _⟩ := aC hnc
  have hwc : w.heap.size < wc.heap.size := by have := hb.size; omega
  have Hr := hid hr; have Hb := hid hb
  clear hr hb hnc
  go_wp2_with fail
  go_loopw [22] (fun i wr => ∃ (j : Nat) (um : Value) (G : List Nat), j ≤ x.mixes.length ∧ i = .int .i64 j ∧ Run (w.heap.size + 2) wr g 0 ⟨x.mixes.take j, x.sent, [], x.got, x.made, x.lost⟩ um v3 (.slice none 0 0) v8 (um.ownBlock.toList ++ G) v3.ownBlock.toList [] v8.ownBlock.toList ∧ Below (w.heap.size + 2) W0 wr) (fun i _ => x.mixes.length - (intOf i).toNat)
  case atStart => exact ⟨0, .slice none 0 0, [], by omega, rfl, by simpa [Value.ownBlock] using Hr.out, Hb.out⟩
  case round =>
   obtain ⟨j, um, G, hj, rfl, hr, hb⟩ := hrel
   clear Hr Hb p0 p1 p2 p3 p4 p5
   have hbW : Below w.heap.size w wr := HW0.out.trans (hb.mono (by omega))
   have hsz : w.heap.size + 2 ≤ wr.heap.size := by have := hb.size; omega
   have hn0 := (hb.block w.heap.size (by omega)).trans E0.out
   obtain ⟨p0, p1, p2, p3, p4, p5, _⟩ := aC hn0
   by_cases hlt : j < x.mixes.length
   ·obtain ⟨m, hm⟩ := ai hlt
    obtain ⟨bb, o, us, up, rfl, hbB, hbz, hvs, hvp, k0, k1, k2⟩ := (HM.out _ hbW).mx hm
    obtain ⟨As, cs, rfl, _, _, _⟩ := hvs.form
    obtain ⟨Ap, cp, rfl, _, _, _⟩ := hvp.form
    have hmB := S2.out m (List.mem_of_getElem? hm)
    obtain ⟨_, hq1, hq2, _, hq3⟩ := bN.1 hmB
    have HQ := hid (fun y hy => (fG (bc.1 (hq3 y hy)).2.2).le)
    have hO := uO hr.em
    obtain ⟨Au, cu, eu, _, _, _⟩ := hO.form
    rw [show (x.mixes.take j).length = j from by simp; omega] at eu
    subst eu
    have hfm : ∀ c ∈ (Value.slice Au j cu).ownBlock.toList ++ G, w.heap.size + 2 ≤ c ∧ c < wr.heap.size := fun c hc => ⟨hr.lo c (by simp only [List.mem_cons, List.mem_append] at hc ⊢; exact .inr (.inl hc)), hr.lt c (by simp only [List.mem_cons, List.mem_append] at hc ⊢; exact .inr (.inl hc))⟩
    have nb := hr.nb.1
    have hvs' := hvs.below (ab wr (.cells #[.int .i64 m.sec, .slice As m.seen.length cs, .slice Ap m.pool.length cp] 70)) (by omega)
    have hvp' := hvp.below (ab wr (.cells #[.int .i64 m.sec, .slice As m.seen.length cs, .slice Ap m.pool.length cp] 70)) (by omega)
    have eb := heap_alloc_new wr (.cells #[.int .i64 m.sec, .slice As m.seen.length cs, .slice Ap m.pool.length cp] 70)
    have hr1 := hr.go (ab wr (.cells #[.int .i64 m.sec, .slice As m.seen.length cs, .slice Ap m.pool.length cp] 70))
    have hO1 := hO.go (ab wr (.cells #[.int .i64 m.sec, .slice As m.seen.length cs, .slice Ap m.pool.length cp] 70))
    have hT1 : Tch ((Value.slice Au j cu).ownBlock.toList ++ G) wr (wr.alloc (.cells #[.int .i64 m.sec, .slice As m.seen.length cs, .slice Ap m.pool.length cp] 70)) := Tch.of (ab wr (.cells #[.int .i64 m.sec, .slice As m.seen.length cs, .slice Ap m.pool.length cp] 70))
    have sW : (wr.alloc (.cells #[.int .i64 m.sec, .slice As m.seen.length cs, .slice Ap m.pool.length cp] 70)).heap.size = wr.heap.size + 1 := by simp
    have nbox : wr.heap.size ∉ (Value.slice Au j cu).ownBlock.toList ++ G := fun hm => by have := (hfm _ hm).2; omega
    have Hm := hid hm; have HO := hid hO; have Hr := hid hr; have Hb := hid hb
    have hmj : j ≤ x.mixes.length := by omega
    clear hm hO hr hb hq3 hn0 hvs hvp hmB
    go_upto_region 5 with fail
    generalize hgn : wr.heap.size = nW at eb sW nbox ⊢
    generalize wr.alloc (.cells #[.int .i64 m.sec, .slice As m.seen.length cs, .slice Ap m.pool.length cp] 70) = W at *
    have HS2 := hid (fun (wx : World) (hT : Tch ((Value.slice Au j cu).ownBlock.toList ++ G) W wx) => And.intro (hr1.cells0 hT nb) (And.intro (aN (hT.row eb nbox)) (show nW < wx.heap.size by have := hT.size; omega)))
    have HVs := hid (fun (wx : World) (hT : Tch ((Value.slice Au j cu).ownBlock.toList ++ G) W wx) => hvs'.tch hT (by omega) (fun b hb => by have := (hfm b hb).1; omega))
    have HVp := hid (fun (wx : World) (hT : Tch ((Value.slice Au j cu).ownBlock.toList ++ G) W wx) => hvp'.tch hT (by omega) (fun b hb => by have := (hfm b hb).1; omega))
    have HOW := hid hO1; have HT1 := hid hT1; have Hfm := hid hfm
    clear hr1 hO1 hT1 hfm eb nbox hvs' hvp' k0 k1 k2 p0 p1 p2 p3 p4 p5 nb
    refine rgN ((Value.slice Au j cu).ownBlock.toList ++ G) 8 (by kernel_rfl) rfl (fun | none, _, _, _, _ => id | some _, _, _, _, _ => id) fun wd hH hbwd swd => ?_
    simp only [pw]
    refine ag [0, 1, 2] ?_
    iterate 3 (refine ra HS2.out rfl (by kernel_rfl) rfl (fun _ f => by go_simp; try with_reducible rfl) ?_; try simp only [pw])
    refine rq 3 (by kernel_rfl) rfl fun K hK => ?_
    go_simp
    (go_at_call 83; refine (db m _ _ _ (HVs.out _ hH) (HVp.out _ hH) (by omega) (by omega) HQ.out).mono ?_; rintro e w7 ⟨us7, up7, rfl, n7, hbC⟩; obtain ⟨A7, c7, A8, c8, rfl, rfl⟩ := bo n7; obtain ⟨F7, h7E, hn7, hF7⟩ := n7; have hb7 := hbC; have sb7 := hbC.size)
    refine hK.out _ _ (hH.trans (Tch.of hbC)) (fun hH => ?_)
    clear hK K
    refine rq 4 (by kernel_rfl) rfl fun K hK => ?_
    go_simp
    (generalize hgw : World.alloc _ _ = w8; obtain ⟨e8, hbC, s8⟩ := aD hgw; have hb8 := hbC; clear hgw)
    refine hK.out _ _ (hH.trans (Tch.of hbC)) (fun hH => ?_)
    clear hK K
    refine rq 5 (by kernel_rfl) rfl fun K hK => ?_
    (refine aZ rfl (.tmp 27) (.tmp 30) 29 rfl oMx (B := 0) Tryz.underlying29 ji jz0 jz1 jz2 rfl (by decide) (v := .slice Au j cu) rfl (((HOW.out.go hbwd).go hb7).go hb8) (some ⟨_, 0, none⟩) 1 1 rfl (ez (cs := [.int .i64 m.sec, .slice A7 m.seen.length c7, .slice A8 m.pool.length c8]) e8 (oMx.keep h7E (fun b hb => hb8.block b (oMx.lt h7E b hb)))) (fun b hb hm => by have h1 := (HO.out.top b hb).2; have h2 := hF7 b hm; omega) (by simp; omega) (by simp [maxLen]; omega) (Nat.zero_le _) ?_; intro v9 w9 ho9 hg9 hv9; have hbP := hH.grow hg9 (fun k hk hlt => List.mem_append_left _ (aW.2 hk)); simp only [List.tail_cons] at ho9; obtain ⟨A9, c9, e9, _, _, _⟩ := ho9.form; rw [show (x.mixes.take j ++ [m]).length = j + 1 from by simp; omega] at e9; subst e9)
    refine hK.out _ _ (hbP) (fun hH => ?_)
    clear hK K
    refine tr 6 HS2.out rfl (by kernel_rfl) rfl (fun _ f => by go_simp; try with_reducible rfl) ?_
    try simp only [pw]
    refine rz 7 (by kernel_rfl) rfl fun K hK => ?_
    have fC := HS2.out _ hH
    go_simp
    clear fC
    refine hK.out _ _ ?_
    clear hK K
    have hTw := HT1.out.trans hH
    have hr9 := Hr.out.pushMix hTw ho9 hv9 hn7 (fun c hc => by have h1 := hF7 c hc; have h2 := oMx.lt h7E c hc; omega) (by omega) hsz
    have HR9 := hid hr9
    have HB9 := hid ((Hb.out.trans (hTw.below hsz (fun b hb => (Hfm.out b hb).1))).setCell (p := ⟨g, 0, none⟩) (Hr.out.lo g List.mem_cons_self) (.slice A9 (j + 1) c9))
    clear hr9 ho9 hH hbC hbP hg9 hv9 h7E hF7 hn7 hb7 hb8 e8 hbwd hTw
    go_wp2_with fail
    go_roundw
    case rel => exact ⟨j + 1, _, _, by omega, by go_num, by rw [aK Hm.out]; exact HR9.out, HB9.out⟩
    case measure => simp [intOf]; omega
   ·have hje : x.mixes.take j = x.mixes := List.take_of_length_le (by omega)
    rw [hje] at hr
    clear hje
    have hnlt : w.heap.size < wr.heap.size := by omega
    have Hr := hid hr; have Hb := hid hb
    clear hr hb hn0
    go_wp2_with fail
    obtain ⟨wo, rfl⟩ : ∃ wo : World, wo = wr := ⟨_, rfl⟩
    go_loopw [37] (fun i wr => ∃ (j : Nat) (un : Value) (G' : List Nat), j ≤ x.net.length ∧ i = .int .i64 j ∧ Run (w.heap.size + 2) wr g 0 ⟨x.mixes, x.sent, x.net.take j, x.got, x.made, x.lost⟩ um v3 un v8 (um.ownBlock.toList ++ G) v3.ownBlock.toList (un.ownBlock.toList ++ G') v8.ownBlock.toList ∧ Below (w.heap.size + 2) W0 wr) (fun i _ => x.net.length - (intOf i).toNat)
    case atStart => exact ⟨0, .slice none 0 0, [], by omega, rfl, by simpa [Value.ownBlock] using Hr.out, Hb.out⟩
    case round =>
     obtain ⟨j, un, G', hj, rfl, hr, hb⟩ := hrel
     clear Hr Hb p0 p1 p2 p3 p4 p5
     have hbW : Below w.heap.size w wr := HW0.out.trans (hb.mono (by omega))
     have hsz : w.heap.size + 2 ≤ wr.heap.size := by have := hb.size; omega
     have hn1 := (hb.block (w.heap.size + 1) (by omega)).trans E1.out
     by_cases hlt : j < x.net.length
     ·obtain ⟨t, hm⟩ := ai hlt
      obtain ⟨bb, o, us, up, rfl, hbB, hbz, hvs, hvp, k0, k1, k2, k3, k4, k5⟩ := (HN.out _ hbW).tr hm
      obtain ⟨As, cs, rfl, _, _, _⟩ := hvs.form
      obtain ⟨Ap, cp, rfl, _, _, _⟩ := hvp.form
      obtain ⟨hq1, hq2⟩ := (fG (cL.1 (S5.out t (List.mem_of_getElem? hm))).2).le
      have hO := uO hr.en
      obtain ⟨Au, cu, eu, _, _, _⟩ := hO.form
      rw [show (x.net.take j).length = j from by simp; omega] at eu
      subst eu
      have hfm : ∀ c ∈ (Value.slice Au j cu).ownBlock.toList ++ G', w.heap.size + 2 ≤ c ∧ c < wr.heap.size := fun c hc => ⟨hr.lo c (by simp only [List.mem_cons, List.mem_append] at hc ⊢; exact .inr (.inr (.inr (.inl hc)))), hr.lt c (by simp only [List.mem_cons, List.mem_append] at hc ⊢; exact .inr (.inr (.inr (.inl hc))))⟩
      have nb := hr.nb.2.2.1
      have hvs' := hvs.below (ab wr (.cells #[.int .i64 t.mix, .int .i64 t.pk.el, .slice As t.pk.hd.length cs, .int .i64 t.pk.tag, .slice Ap t.pk.bd.length cp, .bool t.ch] 74)) (by omega)
      have hvp' := hvp.below (ab wr (.cells #[.int .i64 t.mix, .int .i64 t.pk.el, .slice As t.pk.hd.length cs, .int .i64 t.pk.tag, .slice Ap t.pk.bd.length cp, .bool t.ch] 74)) (by omega)
      have eb := heap_alloc_new wr (.cells #[.int .i64 t.mix, .int .i64 t.pk.el, .slice As t.pk.hd.length cs, .int .i64 t.pk.tag, .slice Ap t.pk.bd.length cp, .bool t.ch] 74)
      have hr1 := hr.go (ab wr (.cells #[.int .i64 t.mix, .int .i64 t.pk.el, .slice As t.pk.hd.length cs, .int .i64 t.pk.tag, .slice Ap t.pk.bd.length cp, .bool t.ch] 74))
      have hO1 := hO.go (ab wr (.cells #[.int .i64 t.mix, .int .i64 t.pk.el, .slice As t.pk.hd.length cs, .int .i64 t.pk.tag, .slice Ap t.pk.bd.length cp, .bool t.ch] 74))
      have hT1 : Tch ((Value.slice Au j cu).ownBlock.toList ++ G') wr (wr.alloc (.cells #[.int .i64 t.mix, .int .i64 t.pk.el, .slice As t.pk.hd.length cs, .int .i64 t.pk.tag, .slice Ap t.pk.bd.length cp, .bool t.ch] 74)) := Tch.of (ab wr (.cells #[.int .i64 t.mix, .int .i64 t.pk.el, .slice As t.pk.hd.length cs, .int .i64 t.pk.tag, .slice Ap t.pk.bd.length cp, .bool t.ch] 74))
      have sW : (wr.alloc (.cells #[.int .i64 t.mix, .int .i64 t.pk.el, .slice As t.pk.hd.length cs, .int .i64 t.pk.tag, .slice Ap t.pk.bd.length cp, .bool t.ch] 74)).heap.size = wr.heap.size + 1 := by simp
      have nbox : wr.heap.size ∉ (Value.slice Au j cu).ownBlock.toList ++ G' := fun hm => by have := (hfm _ hm).2; omega
      have Hm := hid hm; have HO := hid hO; have Hr := hid hr; have Hb := hid hb
      have hmj : j ≤ x.net.length := by omega
      clear hm hO hr hb hn1 hvs hvp
      go_upto_region 10 with fail
      generalize hgn : wr.heap.size = nW at eb sW nbox ⊢
      generalize wr.alloc (.cells #[.int .i64 t.mix, .int .i64 t.pk.el, .slice As t.pk.hd.length cs, .int .i64 t.pk.tag, .slice Ap t.pk.bd.length cp, .bool t.ch] 74) = W at *
      have HS2 := hid (fun (wx : World) (hT : Tch ((Value.slice Au j cu).ownBlock.toList ++ G') W wx) => And.intro (hr1.cells0 hT nb) (And.intro (aC (hT.row eb nbox)) (show nW < wx.heap.size by have := hT.size; omega)))
      have HVs := hid (fun (wx : World) (hT : Tch ((Value.slice Au j cu).ownBlock.toList ++ G') W wx) => hvs'.tch hT (by omega) (fun b hb => by have := (hfm b hb).1; omega))
      have HVp := hid (fun (wx : World) (hT : Tch ((Value.slice Au j cu).ownBlock.toList ++ G') W wx) => hvp'.tch hT (by omega) (fun b hb => by have := (hfm b hb).1; omega))
      have HOW := hid hO1; have HT1 := hid hT1; have Hfm := hid hfm
      clear hr1 hO1 hT1 hfm eb nbox hvs' hvp' k0 k1 k2 k3 k4 k5 nb
      refine rgN ((Value.slice Au j cu).ownBlock.toList ++ G') 14 (by kernel_rfl) rfl (fun | none, _, _, _, _ => id | some _, _, _, _, _ => id) fun wd hH hbwd swd => ?_
      simp only [pw]
      refine ag [0, 1, 2, 3, 4, 5, 7, 8] ?_
      iterate 8 (refine ra HS2.out rfl (by kernel_rfl) rfl (fun _ f => by go_simp; try with_reducible rfl) ?_; try simp only [pw])
      refine rq 6 (by kernel_rfl) rfl fun K hK => ?_
      go_simp
      (go_at_call 84; refine (gJ t.pk _ _ _ (HVs.out _ hH) (HVp.out _ hH) hq1 hq2).mono ?_; rintro e w7 ⟨us7, up7, rfl, n7, hbC⟩; obtain ⟨A7, c7, A8, c8, rfl, rfl⟩ := eQ n7; obtain ⟨F7, h7E, hn7, hF7⟩ := kU (x := t) n7; have hb7 := hbC; have sb7 := hbC.size)
      refine hK.out _ _ (hH.trans (Tch.of hbC)) (fun hH => ?_)
      clear hK K
      refine tr 9 HS2.out rfl (by kernel_rfl) rfl (fun _ f => by go_simp; try with_reducible rfl) ?_
      try simp only [pw]
      refine rq 10 (by kernel_rfl) rfl fun K hK => ?_
      go_simp
      (generalize hgw : World.alloc _ _ = w8; obtain ⟨e8, hbC, s8⟩ := aD hgw; have hb8 := hbC; clear hgw)
      refine hK.out _ _ (hH.trans (Tch.of hbC)) (fun hH => ?_)
      clear hK K
      refine rq 11 (by kernel_rfl) rfl fun K hK => ?_
      (refine aZ rfl (.tmp 42) (.tmp 51) 31 rfl oTr (B := 0) Tryz.underlying31 ki kz0 kz1 kz2 rfl (by decide) (v := .slice Au j cu) rfl (((HOW.out.go hbwd).go hb7).go hb8) (some ⟨_, 0, none⟩) 1 1 rfl (ez (cs := [.int .i64 t.mix, .int .i64 t.pk.el, .slice A7 t.pk.hd.length c7, .int .i64 t.pk.tag, .slice A8 t.pk.bd.length c8, .bool t.ch]) e8 (oTr.keep h7E (fun b hb => hb8.block b (oTr.lt h7E b hb)))) (fun b hb hm => by have h1 := (HO.out.top b hb).2; have h2 := hF7 b hm; omega) (by simp; omega) (by simp [maxLen]; omega) (Nat.zero_le _) ?_; intro v9 w9 ho9 hg9 hv9; have hbP := hH.grow hg9 (fun k hk hlt => List.mem_append_left _ (aW.2 hk)); simp only [List.tail_cons] at ho9; obtain ⟨A9, c9, e9, _, _, _⟩ := ho9.form; rw [show (x.net.take j ++ [t]).length = j + 1 from by simp; omega] at e9; subst e9)
      refine hK.out _ _ (hbP) (fun hH => ?_)
      clear hK K
      refine tr 12 HS2.out rfl (by kernel_rfl) rfl (fun _ f => by go_simp; try with_reducible rfl) ?_
      try simp only [pw]
      refine rz 13 (by kernel_rfl) rfl fun K hK => ?_
      have fC := HS2.out _ hH
      go_simp
      clear fC
      refine hK.out _ _ ?_
      clear hK K
      have hTw := HT1.out.trans hH
      have hr9 := Hr.out.pushNet hTw ho9 hv9 hn7 (fun c hc => by have h1 := hF7 c hc; have h2 := oTr.lt h7E c hc; omega) (by omega) hsz
      have HR9 := hid hr9
      have HB9 := hid ((Hb.out.trans (hTw.below hsz (fun b hb => (Hfm.out b hb).1))).setCell (p := ⟨g, 2, none⟩) (Hr.out.lo g List.mem_cons_self) (.slice A9 (j + 1) c9))
      clear hr9 ho9 hH hbC hbP hg9 hv9 h7E hF7 hn7 hb7 hb8 e8 hbwd hTw
      go_wp2_with fail
      go_roundw
      case rel => exact ⟨j + 1, _, _, by omega, by go_num, by rw [aK Hm.out]; exact HR9.out, HB9.out⟩
      case measure => simp [intOf]; omega
     ·have hje : x.net.take j = x.net := List.take_of_length_le (by omega)
      rw [hje] at hr
      clear hje
      obtain ⟨q0, q1, q2, q3, q4, q5, qf, qf0, qf1, qf2, qf3, qf4, qf5⟩ := bs hn1
      obtain ⟨g0, g1, g2, g3, g4, g5, gz, _⟩ := hr.cells0 (Tch.refl [] _) (by simp)
      obtain ⟨_, _, o1⟩ := aG hr.em
      obtain ⟨_, _, o2⟩ := aG hr.es
      obtain ⟨_, _, o3⟩ := aG hr.en
      obtain ⟨_, _, o4⟩ := aG hr.eg
      obtain ⟨C1, d1, rfl, _, _, _⟩ := o1.form
      obtain ⟨C2, d2, rfl, _, _, _⟩ := o2.form
      obtain ⟨C3, d3, rfl, _, _, _⟩ := o3.form
      obtain ⟨C4, d4, rfl, _, _, _⟩ := o4.form
      have Hr := hid hr; have Hb := hid hb; have HbW := hid hbW
      have z1 : w.heap.size + 1 < wr.heap.size := by omega
      clear hr hb hbW o1 o2 o3 o4 qf hn1
      go_wp2_with fail
      refine bodyPost_ret (v := .agg #[.slice C1 x.mixes.length d1, .slice C2 x.sent.length d2, .slice C3 x.net.length d3, .slice C4 x.got.length d4, .int .i64 x.made, .int .i64 x.lost]) (by simp [results, Tryz.results48, go_sem, q0, q1, q2, q3, q4, q5]) rfl ⟨_, _, _, _, rfl, ?_, ?_⟩
      ·refine aJ.base (B := w.heap.size + 2) ?_ (by omega)
       repeat (refine aJ.set ?_ (by dsimp only; omega))
       exact Hr.out.newA
      ·repeat (refine Below.setCell ?_ (by dsimp only; omega) _)
       exact HbW.out
end Go.Proofs.YtfaeojmndaplcaaGreatDoor
