/- Texts that the last file leans on (part 35). -/
import Derived.BigRegion
import Derived.Test.YtolgbefghbddeaaGreatDoorM34
set_option linter.unusedVariables false
set_option linter.unusedSimpArgs false
set_option maxHeartbeats 4000000
set_option maxRecDepth 100000
namespace Go.Proofs.YtolgbefghbddeaaGreatDoor
open Go Go.RowKit
set_option maxHeartbeats 40000000
def DwDr (w : World) (e : Ending) (w' : World) : Prop := ∃ (v : Value) (x : Wd) (ev : Ev), e = .returned (.tuple #[v, .agg #[.int .i64 ev.kind, .int .i64 ev.a, .int .i64 ev.b, .int .i64 ev.c]]) ∧ WdR (fun _ => True) w' v x ∧ x.got.length ≤ 1073741824 ∧ Below w.heap.size w w'
theorem bO (v : Value) (xs : List Int) (w : World) (h : SlB cR w.heap.size w v xs) (hx : ∀ x ∈ xs, 0 ≤ x ∧ x ≤ 255) : Calls Tryz.prog 15 #[v] w (DwDr w) := by
 go_enter Tryz.func15, Tryz.ntmps15
 go_upto_region 1 with fail
 generalize hgw' : World.alloc (World.alloc w _) _ = W0
 obtain ⟨e0, e0', hb0, s0⟩ := fI hgw'
 have hs := h.go hb0
 have E0 := hid e0; have E0' := hid e0'; have Hb0 := hid hb0
 have s0w : w.heap.size + 2 ≤ W0.heap.size := by omega
 clear hgw' e0 e0' hb0 h s0
 go_wp2_with fail
 with_reducible refine (qF v xs _ hs hx).mono ?_
 rintro e w1 ⟨rfl, hr, hb1⟩
 have s1 := hb1.size; have g1 := hr.lt.2
 have Hb1 := hid hb1
 replace E0 := hid (ab hb1 E0.out); replace E0' := hid (ab hb1 E0'.out)
 clear hs hx hb1
 go_wp2_with fail
 with_reducible refine (jb _ _ _ 0 hr (by omega)).mono ?_
 rintro e w2 ⟨v2, x, q, rfl, hv, hq, hr2, ht, hw⟩
 obtain ⟨A1, c1, A2, c2, A3, c3, A4, c4, rfl⟩ := hw.form
 have s2 := ht.size
 have HT := hid ht; have Hr2 := hid hr2; have HW := hid hw; have Hv := hid hv
 clear hr ht hr2 hw hv
 go_upto_region 3 with fail
 generalize hgw' : World.alloc w2 _ = W3
 obtain ⟨e3, hb3, s3⟩ := an hgw'
 have Hr3 := hid (Hr2.out.go hb3)
 replace HT := hid (HT.out.trans (Tch.of hb3))
 have Hbx := hid (show Bx (fun b => w1.heap.size ≤ b ∧ b ≠ w2.heap.size) w2.heap.size W3 x from ⟨_, _, _, _, _, _, _, _, e3, (HW.out.mono (fun b hlt hb => ⟨hb, by omega⟩)).go hb3⟩)
 obtain ⟨k0, k1, k2, k3, k4, k5, _⟩ := ai e3
 clear hgw' e3 hb3 HW Hr2
 go_wp2_with fail
 with_reducible refine (lS _ x _ _ _ _ Hr3.out (by omega) ⟨_, _, _, _, _, _, _, _, rfl⟩).mono ?_
 rintro e w4 ⟨ev, q2, rfl, hq2, hr4, ht4⟩
 replace HT := hid (HT.out.trans ht4)
 have Hbx4 := hid (show Bx (fun b => w1.heap.size ≤ b ∧ b ≠ w2.heap.size) w2.heap.size w4 x by
  obtain ⟨a1, e1, a2, e2, a3, e3, a4, e4, r0, r1⟩ := Hbx.out
  exact ⟨a1, e1, a2, e2, a3, e3, a4, e4, ht4.row r0 (by simp; omega), r1.kept ht4.size (fun b hb hlt => ht4.block b hlt (by have h1 := hb.1; simp; omega))⟩)
 have s4 := ht4.size
 have Hr4 := hid hr4
 clear k0 k1 k2 k3 k4 k5 hr4 ht4 Hbx Hr3
 go_upto_region 4 with fail
 generalize hgw' : World.alloc w4 _ = W5
 obtain ⟨e5, hb5, s5⟩ := an hgw'
 have Hr5 := hid (Hr4.out.go hb5)
 replace HT := hid (HT.out.trans (Tch.of hb5))
 have Hbx5 := hid (Hbx4.out.go hb5)
 have E5 := hid e5
 clear hgw' e5 hb5 Hbx4 Hr4
 go_cut [16] (fun s16 wx => ∃ (b : Bool) (q3 : Nat), s16 = .bool b ∧ q3 ≤ 510 ∧ Rdr W0.heap.size wx W0.heap.size q3 ∧ Tch [W0.heap.size] w1 wx ∧ Bx (fun b => w1.heap.size ≤ b ∧ b ≠ w2.heap.size) w2.heap.size wx x ∧ wx.heap[w4.heap.size]? = some (.cells #[.int .i64 ev.kind, .int .i64 ev.a, .int .i64 ev.b, .int .i64 ev.c] 29 (0, 0)))
 case first =>
  go_wp2_with fail
  have hR' := Hr5.out; with_reducible refine (aI _ _ _ _ _ hR' (by omega)).mono ?_; clear hR'
  rintro e w6 ⟨m, rfl, m0, m1, _, hr6, hg6⟩
  have ht6 := cE hg6
  have Hbx6 := hid (show Bx (fun b => w1.heap.size ≤ b ∧ b ≠ w2.heap.size) w2.heap.size w6 x by
   obtain ⟨a1, e1, a2, e2, a3, e3, a4, e4, r0, r1⟩ := Hbx5.out
   exact ⟨a1, e1, a2, e2, a3, e3, a4, e4, ht6.row r0 (by simp; omega), r1.kept ht6.size (fun b hb hlt => ht6.block b hlt (by have h1 := hb.1; simp; omega))⟩)
  have Hr6 := hid hr6; have HT6 := hid (HT.out.trans ht6); have E6 := hid (ht6.row E5.out (by simp; omega))
  clear hr6 hg6 ht6 HT Hbx5 E5 Hr5
  go_wp2_with fail
  go_meet
  exact ⟨_, _, rfl, by omega, Hr6.out, HT6.out, Hbx6.out, E6.out⟩
 case rest =>
  obtain ⟨b, q3, rfl, hq3, hr6, ht6, hbx6, he6⟩ := hcut
  clear HT Hbx5 E5 Hr5
  have Hr6 := hid hr6; have HT6 := hid ht6; have Hbx6 := hid hbx6; have E6 := hid he6
  clear hr6 ht6 hbx6 he6
  rename_i hK
  refine hK _ _ ?_
  go_cut [5] (fun s5 wx => s5 = .pointer (some ⟨w2.heap.size, 0, none⟩) ∧ ∃ y : Wd, y.got.length ≤ 1000 ∧ Tch [W0.heap.size] w1 wx ∧ Bx (fun b => w1.heap.size ≤ b ∧ b ≠ w2.heap.size) w2.heap.size wx y ∧ wx.heap[w4.heap.size]? = some (.cells #[.int .i64 ev.kind, .int .i64 ev.a, .int .i64 ev.b, .int .i64 ev.c] 29 (0, 0)))
  case first =>
   cases b with
   | false =>
    go_wp2_with fail
    go_meet
    exact ⟨rfl, x, by have := Hv.out.gl; omega, HT6.out, Hbx6.out, E6.out⟩
   | true =>
    go_wp2_with fail
    with_reducible refine (jc _ _ _ _ Hr6.out (by omega)).mono ?_
    rintro e w7 ⟨v7, y, q7, rfl, hgl, _, hr7, ht7, hw7⟩
    obtain ⟨B1, d1, B2, d2, B3, d3, B4, d4, rfl⟩ := hw7.form
    obtain ⟨a1, e1, a2, e2, a3, e3, a4, e4, r0, r1⟩ := Hbx6.out
    have hl6 := (al r0)
    have r7 := ht7.row r0 (by simp; omega)
    have hl7 := (al r7)
    obtain ⟨k0, k1, k2, k3, k4, k5, kf⟩ := ai r7
    have kf0 := kf 0; have kf1 := kf 1; have kf2 := kf 2; have kf3 := kf 3; have kf4 := kf 4; have kf5 := kf 5
    have s17 := HT6.out.size
    have E7 := hid (ht7.row E6.out (by simp; omega)); have HT7 := hid (HT6.out.trans ht7); have R7 := hid r7; have HW7 := hid hw7; have Hgl := hid hgl
    clear kf r0 r1 r7 ht7 hw7 hr7 hgl
    go_wp2_with fail
    go_meet
    refine ⟨rfl, y, Hgl.out, ?_, ⟨B1, d1, B2, d2, B3, d3, B4, d4, de _ _ _ _ _ _ R7.out, ?_⟩, ?_⟩
    ·repeat (refine Tch.setCell ?_ (.inr (by dsimp only; omega)) _)
     exact HT7.out
    ·repeat (refine WdR.set ?_ (fun h => h.2 rfl))
     exact HW7.out.mono (fun b _ hb => ⟨by omega, by omega⟩)
    ·rw [bW _ (by omega)]
     exact E7.out
  case rest =>
   obtain ⟨rfl, y, hgl, ht7, hbx7, he7⟩ := hcut
   obtain ⟨a1, e1, a2, e2, a3, e3, a4, e4, r0, r1⟩ := hbx7
   have zc := ht7.size
   have zw : w.heap.size + 1 < wc.heap.size := by omega
   have ZR := hid (ht7.row E0.out (by simp; omega)); have YR := hid (ht7.row E0'.out (by simp; omega))
   have hB := hid (oR Hb0.out Hb1.out ht7)
   have HW := hid r1; have Hgl := hid hgl
   have HS := hid (fun (wx : World) (hT : Tch [w.heap.size, w.heap.size + 1] wc wx) => And.intro (ai (hT.row r0 (by simp; omega))) (And.intro (aO (hT.row he7 (by simp; omega))) (show w.heap.size + 1 < wx.heap.size by have := hT.size; omega)))
   clear ht7 r0 r1 he7 hgl HT6 Hbx6 E6 Hr6 E0 E0'
   clear hK
   refine (‹∀ (a : Act) (w_1 : World), _ → _›) _ _ ?_
   go_wp2_with fail
   refine rgN [w.heap.size, w.heap.size + 1] 4 (by kernel_rfl) rfl (fun | none, _, _, _, _ => id | some _, _, _, _, _ => id) fun wd hHeld hbwd swd => ?_
   simp only [pw]
   refine ag [0, 1] ?_
   iterate 2 (refine ra HS.out rfl (by kernel_rfl) rfl (fun _ f => by go_simp; try with_reducible rfl) ?_; try simp only [pw])
   (obtain ⟨z0, z1, z2, z3, z4, z5, zf⟩ := ai (ab hbwd ZR.out); obtain ⟨y0, y1, y2, y3, yf⟩ := aO (ab hbwd YR.out); have zf0 := zf 0; have zf1 := zf 1; have zf2 := zf 2; have zf3 := zf 3; have zf4 := zf 4; have zf5 := zf 5; have yf0 := yf 0; have yf1 := yf 1; have yf2 := yf 2; have yf3 := yf 3; have zwd : w.heap.size + 1 < wd.heap.size := (by have := hbwd.size; omega); clear zf yf)
   refine rq 2 (by kernel_rfl) rfl fun K hK => ?_
   have fC := HS.out _ hHeld
   go_simp
   clear fC
   (have hbT := (((((hHeld.setCell (p := ⟨w.heap.size, 0, none⟩) (.inl (by simp)) (.slice a1 y.mixes.length e1)).setCell (p := ⟨w.heap.size, 1, none⟩) (.inl (by simp)) (.slice a2 y.sent.length e2)).setCell (p := ⟨w.heap.size, 2, none⟩) (.inl (by simp)) (.slice a3 y.net.length e3)).setCell (p := ⟨w.heap.size, 3, none⟩) (.inl (by simp)) (.slice a4 y.got.length e4)).setCell (p := ⟨w.heap.size, 4, none⟩) (.inl (by simp)) (.int .i64 y.made)).setCell (p := ⟨w.heap.size, 5, none⟩) (.inl (by simp)) (.int .i64 y.lost))
   refine hK.out _ _ (hbT) (fun hHeld => ?_)
   clear hK K
   refine rz 3 (by kernel_rfl) rfl fun K hK => ?_
   have fC := HS.out _ hHeld
   go_simp
   clear fC
   refine hK.out _ _ ?_
   clear hK K
   all_goals
    clear HS hbT hHeld ZR YR
    go_wp2_with fail
    refine bodyPost_ret (v := .tuple #[.agg #[.slice a1 y.mixes.length e1, .slice a2 y.sent.length e2, .slice a3 y.net.length e3, .slice a4 y.got.length e4, .int .i64 y.made, .int .i64 y.lost], .agg #[.int .i64 ev.kind, .int .i64 ev.a, .int .i64 ev.b, .int .i64 ev.c]]) (by simp [results, Tryz.results15, go_sem, z0, z1, z2, z3, z4, z5, y0, y1, y2, y3]) rfl ⟨_, y, ev, rfl, ?_, by have := Hgl.out; omega, ?_⟩
    ·refine WdR.mono (R := fun b => w1.heap.size ≤ b ∧ b ≠ w2.heap.size) ?_ (fun _ _ _ => trivial)
     repeat (refine WdR.set ?_ (by dsimp only; omega))
     exact HW.out.kept hbwd.size (fun b hb hlt => hbwd.block b hlt)
    ·repeat (refine Below.setCell ?_ (by dsimp only; omega) _)
     exact hB.out.trans (hbwd.mono (by omega))
end Go.Proofs.YtolgbefghbddeaaGreatDoor
