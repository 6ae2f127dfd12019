/- Texts that the last file leans on (part 27). -/
import Derived.BigRegion
import Derived.ChangeSame
import Derived.ChangeVars
import Derived.Deep.Slices
import Derived.JoinedOf
import Derived.KernelRfl
import Derived.LaidByTextLater
import Derived.LaidHandle
import Derived.LaidLaws
import Derived.LaidOnce
import Derived.LaidSub
import Derived.OpenShut
import Derived.ProofKit
import Derived.RowKitTokens
import Derived.SevenTiedAt
import Derived.Stop.Joined
import Derived.Test.YtfaeojmndaplcaaGreatDoorCards
import Derived.Test.YtfaeojmndaplcaaGreatDoorP0
import Derived.Test.YtfaeojmndaplcaaGreatDoorP20
import Derived.Test.YtfaeojmndaplcaaGreatDoorP25
import Derived.Test.YtfaeojmndaplcaaGreatDoorP26
import Derived.Test.YtfaeojmndaplcaaGreatDoorP3
import Derived.Test.YtfaeojmndaplcaaGreatDoorP4
import Derived.Test.YtfaeojmndaplcaaGreatDoorRows
import Derived.WalkKit
set_option linter.unusedVariables false
set_option linter.unusedSimpArgs false
set_option maxHeartbeats 4000000
set_option maxRecDepth 100000
namespace Go.Proofs.YtfaeojmndaplcaaGreatDoor
open Go Go.RowKit
set_option maxHeartbeats 40000000
theorem sZ {w W0 w1 w2 : World} (h0 : Below w.heap.size w W0) (h1 : Below W0.heap.size W0 w1) (ht : Tch [W0.heap.size] w1 w2) : Below w.heap.size w w2 :=
 (bt h0 h1).trans (ht.below (by have := h0.size; have := h1.size; omega) (by simp; exact h0.size))
set_option maxHeartbeats 40000000
def DwDr (w : World) (e : Ending) (w' : World) : Prop := ∃ (v : Value) (x : Wd) (ev : Ev), e = .returned (.tuple #[v, .agg #[.int .i64 ev.kind, .int .i64 ev.a, .int .i64 ev.b, .int .i64 ev.c]]) ∧ WdR (fun _ => True) w' v x ∧ x.got.length ≤ 1073741824 ∧ Below w.heap.size w w'
theorem jH (v : Value) (xs : List Int) (w : World) (h : SlB fD w.heap.size w v xs) (hx : ∀ x ∈ xs, 0 ≤ x ∧ x ≤ 255) : Calls Tryz.prog 24 #[v] w (DwDr w) := by
 go_enter Tryz.func24, Tryz.ntmps24
 go_upto_region 1 with fail
 generalize hgw' : World.alloc (World.alloc w _) _ = W0
 obtain ⟨e0, e0', hb0, s0⟩ := iB hgw'
 have hs := h.go hb0
 have E0 := hid e0; have E0' := hid e0'; have Hb0 := hid hb0
 have s0w : w.heap.size + 2 ≤ W0.heap.size := by omega
 clear hgw' e0 e0' hb0 h s0
 go_wp2_with fail
 with_reducible refine (qM v xs _ hs hx).mono ?_
 rintro e w1 ⟨rfl, hr, hb1⟩
 have s1 := hb1.size; have g1 := hr.lt.2
 have Hb1 := hid hb1
 replace E0 := hid (ac hb1 E0.out); replace E0' := hid (ac hb1 E0'.out)
 clear hs hx hb1
 go_wp2_with fail
 with_reducible refine (jc _ _ _ 0 hr (by omega)).mono ?_
 rintro e w2 ⟨v2, x, q, rfl, hv, hq, hr2, ht, hw⟩
 obtain ⟨A1, c1, A2, c2, A3, c3, A4, c4, rfl⟩ := hw.form
 have s2 := ht.size
 have HT := hid ht; have Hr2 := hid hr2; have HW := hid hw; have Hv := hid hv
 clear hr ht hr2 hw hv
 go_upto_region 3 with fail
 generalize hgw' : World.alloc w2 _ = W3
 obtain ⟨e3, hb3, s3⟩ := al hgw'
 have Hr3 := hid (Hr2.out.go hb3)
 replace HT := hid (HT.out.trans (Tch.of hb3))
 have Hbx := hid (show Bx (fun b => w1.heap.size ≤ b ∧ b ≠ w2.heap.size) w2.heap.size W3 x from ⟨_, _, _, _, _, _, _, _, e3, (HW.out.mono (fun b hlt hb => ⟨hb, by omega⟩)).go hb3⟩)
 obtain ⟨k0, k1, k2, k3, k4, k5, _⟩ := az e3
 clear hgw' e3 hb3 HW Hr2
 go_wp2_with fail
 with_reducible refine (fY _ x _ _ _ _ Hr3.out (by omega) ⟨_, _, _, _, _, _, _, _, rfl⟩).mono ?_
 rintro e w4 ⟨ev, q2, rfl, hq2, hr4, ht4⟩
 replace HT := hid (HT.out.trans ht4)
 have Hbx4 := hid (show Bx (fun b => w1.heap.size ≤ b ∧ b ≠ w2.heap.size) w2.heap.size w4 x by
  obtain ⟨a1, e1, a2, e2, a3, e3, a4, e4, r0, r1⟩ := Hbx.out
  exact ⟨a1, e1, a2, e2, a3, e3, a4, e4, ht4.row r0 (by simp; omega), r1.kept ht4.size (fun b hb hlt => ht4.block b hlt (by have h1 := hb.1; simp; omega))⟩)
 have s4 := ht4.size
 have Hr4 := hid hr4
 clear k0 k1 k2 k3 k4 k5 hr4 ht4 Hbx Hr3
 go_upto_region 4 with fail
 generalize hgw' : World.alloc w4 _ = W5
 obtain ⟨e5, hb5, s5⟩ := al hgw'
 have Hr5 := hid (Hr4.out.go hb5)
 replace HT := hid (HT.out.trans (Tch.of hb5))
 have Hbx5 := hid (Hbx4.out.go hb5)
 have E5 := hid e5
 clear hgw' e5 hb5 Hbx4 Hr4
 go_cut [16] (fun s16 wx => ∃ (b : Bool) (q3 : Nat), s16 = .bool b ∧ q3 ≤ 510 ∧ Rdr W0.heap.size wx W0.heap.size q3 ∧ Tch [W0.heap.size] w1 wx ∧ Bx (fun b => w1.heap.size ≤ b ∧ b ≠ w2.heap.size) w2.heap.size wx x ∧ wx.heap[w4.heap.size]? = some (.cells #[.int .i64 ev.kind, .int .i64 ev.a, .int .i64 ev.b, .int .i64 ev.c] 38 (0, 0)))
 case first =>
  go_wp2_with fail
  have hR' := Hr5.out; with_reducible refine (ay _ _ _ _ _ hR' (by omega)).mono ?_; clear hR'
  rintro e w6 ⟨m, rfl, m0, m1, _, hr6, hg6⟩
  have ht6 := bP hg6
  have Hbx6 := hid (show Bx (fun b => w1.heap.size ≤ b ∧ b ≠ w2.heap.size) w2.heap.size w6 x by
   obtain ⟨a1, e1, a2, e2, a3, e3, a4, e4, r0, r1⟩ := Hbx5.out
   exact ⟨a1, e1, a2, e2, a3, e3, a4, e4, ht6.row r0 (by simp; omega), r1.kept ht6.size (fun b hb hlt => ht6.block b hlt (by have h1 := hb.1; simp; omega))⟩)
  have Hr6 := hid hr6; have HT6 := hid (HT.out.trans ht6); have E6 := hid (ht6.row E5.out (by simp; omega))
  clear hr6 hg6 ht6 HT Hbx5 E5 Hr5
  go_wp2_with fail
  go_meet
  exact ⟨_, _, rfl, by omega, Hr6.out, HT6.out, Hbx6.out, E6.out⟩
 case rest =>
  obtain ⟨b, q3, rfl, hq3, hr6, ht6, hbx6, he6⟩ := hcut
  clear HT Hbx5 E5 Hr5
  have Hr6 := hid hr6; have HT6 := hid ht6; have Hbx6 := hid hbx6; have E6 := hid he6
  clear hr6 ht6 hbx6 he6
  rename_i hK
  refine hK _ _ ?_
  go_cut [5] (fun s5 wx => s5 = .pointer (some ⟨w2.heap.size, 0, none⟩) ∧ ∃ y : Wd, y.got.length ≤ 1000 ∧ Tch [W0.heap.size] w1 wx ∧ Bx (fun b => w1.heap.size ≤ b ∧ b ≠ w2.heap.size) w2.heap.size wx y ∧ wx.heap[w4.heap.size]? = some (.cells #[.int .i64 ev.kind, .int .i64 ev.a, .int .i64 ev.b, .int .i64 ev.c] 38 (0, 0)))
  case first =>
   cases b with
   | false =>
    go_wp2_with fail
    go_meet
    exact ⟨rfl, x, by have := Hv.out.gl; omega, HT6.out, Hbx6.out, E6.out⟩
   | true =>
    go_wp2_with fail
    with_reducible refine (nN _ _ _ _ Hr6.out (by omega)).mono ?_
    rintro e w7 ⟨v7, y, q7, rfl, hgl, _, hr7, ht7, hw7⟩
    obtain ⟨B1, d1, B2, d2, B3, d3, B4, d4, rfl⟩ := hw7.form
    obtain ⟨a1, e1, a2, e2, a3, e3, a4, e4, r0, r1⟩ := Hbx6.out
    have hl6 := (aL r0)
    have r7 := ht7.row r0 (by simp; omega)
    have hl7 := (aL r7)
    obtain ⟨k0, k1, k2, k3, k4, k5, kf⟩ := az r7
    have kf0 := kf 0; have kf1 := kf 1; have kf2 := kf 2; have kf3 := kf 3; have kf4 := kf 4; have kf5 := kf 5
    have s17 := HT6.out.size
    have E7 := hid (ht7.row E6.out (by simp; omega)); have HT7 := hid (HT6.out.trans ht7); have R7 := hid r7; have HW7 := hid hw7; have Hgl := hid hgl
    clear kf r0 r1 r7 ht7 hw7 hr7 hgl
    go_wp2_with fail
    go_meet
    refine ⟨rfl, y, Hgl.out, ?_, ⟨B1, d1, B2, d2, B3, d3, B4, d4, bZ _ _ _ _ _ _ R7.out, ?_⟩, ?_⟩
    ·repeat (refine Tch.setCell ?_ (.inr (by dsimp only; omega)) _)
     exact HT7.out
    ·repeat (refine WdR.set ?_ (fun h => h.2 rfl))
     exact HW7.out.mono (fun b _ hb => ⟨by omega, by omega⟩)
    ·rw [bs _ (by omega)]
     exact E7.out
  case rest =>
   obtain ⟨rfl, y, hgl, ht7, hbx7, he7⟩ := hcut
   obtain ⟨a1, e1, a2, e2, a3, e3, a4, e4, r0, r1⟩ := hbx7
   have zc := ht7.size
   have zw : w.heap.size + 1 < wc.heap.size := by omega
   have ZR := hid (ht7.row E0.out (by simp; omega)); have YR := hid (ht7.row E0'.out (by simp; omega))
   have hB := hid (sZ Hb0.out Hb1.out ht7)
   have HW := hid r1; have Hgl := hid hgl
   have HS := hid (fun (wx : World) (hT : Tch [w.heap.size, w.heap.size + 1] wc wx) => And.intro (az (hT.row r0 (by simp; omega))) (And.intro (aN (hT.row he7 (by simp; omega))) (show w.heap.size + 1 < wx.heap.size by have := hT.size; omega)))
   clear ht7 r0 r1 he7 hgl HT6 Hbx6 E6 Hr6 E0 E0'
   clear hK
   refine (‹∀ (a : Act) (w_1 : World), _ → _›) _ _ ?_
   go_wp2_with fail
   refine rgN [w.heap.size, w.heap.size + 1] 4 (by kernel_rfl) rfl (fun | none, _, _, _, _ => id | some _, _, _, _, _ => id) fun wd hH hbwd swd => ?_
   simp only [pw]
   refine ag [0, 1] ?_
   iterate 2 (refine ra HS.out rfl (by kernel_rfl) rfl (fun _ f => by go_simp; try with_reducible rfl) ?_; try simp only [pw])
   (obtain ⟨z0, z1, z2, z3, z4, z5, zf⟩ := az (ac hbwd ZR.out); obtain ⟨y0, y1, y2, y3, yf⟩ := aN (ac hbwd YR.out); have zf0 := zf 0; have zf1 := zf 1; have zf2 := zf 2; have zf3 := zf 3; have zf4 := zf 4; have zf5 := zf 5; have yf0 := yf 0; have yf1 := yf 1; have yf2 := yf 2; have yf3 := yf 3; have zwd : w.heap.size + 1 < wd.heap.size := (by have := hbwd.size; omega); clear zf yf)
   refine rq 2 (by kernel_rfl) rfl fun K hK => ?_
   have fC := HS.out _ hH
   go_simp
   clear fC
   (have hbT := (((((hH.setCell (p := ⟨w.heap.size, 0, none⟩) (.inl (by simp)) (.slice a1 y.mixes.length e1)).setCell (p := ⟨w.heap.size, 1, none⟩) (.inl (by simp)) (.slice a2 y.sent.length e2)).setCell (p := ⟨w.heap.size, 2, none⟩) (.inl (by simp)) (.slice a3 y.net.length e3)).setCell (p := ⟨w.heap.size, 3, none⟩) (.inl (by simp)) (.slice a4 y.got.length e4)).setCell (p := ⟨w.heap.size, 4, none⟩) (.inl (by simp)) (.int .i64 y.made)).setCell (p := ⟨w.heap.size, 5, none⟩) (.inl (by simp)) (.int .i64 y.lost))
   refine hK.out _ _ (hbT) (fun hH => ?_)
   clear hK K
   refine rz 3 (by kernel_rfl) rfl fun K hK => ?_
   have fC := HS.out _ hH
   go_simp
   clear fC
   refine hK.out _ _ ?_
   clear hK K
   all_goals
    clear HS hbT hH ZR YR
    go_wp2_with fail
    refine bodyPost_ret (v := .tuple #[.agg #[.slice a1 y.mixes.length e1, .slice a2 y.sent.length e2, .slice a3 y.net.length e3, .slice a4 y.got.length e4, .int .i64 y.made, .int .i64 y.lost], .agg #[.int .i64 ev.kind, .int .i64 ev.a, .int .i64 ev.b, .int .i64 ev.c]]) (by simp [results, Tryz.results24, go_sem, z0, z1, z2, z3, z4, z5, y0, y1, y2, y3]) rfl ⟨_, y, ev, rfl, ?_, by have := Hgl.out; omega, ?_⟩
    ·refine WdR.mono (R := fun b => w1.heap.size ≤ b ∧ b ≠ w2.heap.size) ?_ (fun _ _ _ => trivial)
     repeat (refine WdR.set ?_ (by dsimp only; omega))
     exact HW.out.kept hbwd.size (fun b hb hlt => hbwd.block b hlt)
    ·repeat (refine Below.setCell ?_ (by dsimp only; omega) _)
     exact hB.out.trans (hbwd.mono (by omega))
def BxI (g n : Nat) (w : World) (y : Wd) : Prop :=
 ∃ a b c d B C, w.heap[g]? = some (.cells #[a, b, c, d, .int .i64 y.made, .int .i64 y.lost] 33 (0, 0)) ∧ cO B C w a b c d y ∧ (g < B ∨ C ≤ g) ∧ n ≤ B ∧ B ≤ C ∧ C ≤ w.heap.size
section
variable {g n : Nat} {w w5 : World} {y : Wd} {a b c d : Value}
theorem BxI.go (h : BxI g n w y) (hb : Below w.heap.size w w5) : BxI g n w5 y := by
 obtain ⟨a, b, c, d, B, C, h1, h2, h3, h4, h5, h6⟩ := h
 exact ⟨a, b, c, d, B, C, ac hb h1, h2.go hb h6, h3, h4, h5, Nat.le_trans h6 hb.size⟩
theorem BxI.put {x : Wd} (h : BxI g n w x) (hb : Below w.heap.size w w5) (hn : n ≤ w.heap.size) (h5 : aC oWd w.heap.size w5 [a, b, c, d, .int .i64 y.made, .int .i64 y.lost] y) :
  BxI g n ((((((w5.setCell ⟨g, 0, none⟩ a).setCell ⟨g, 1, none⟩ b).setCell ⟨g, 2, none⟩ c).setCell ⟨g, 3, none⟩ d).setCell ⟨g, 4, none⟩ (.int .i64 y.made)).setCell ⟨g, 5, none⟩ (.int .i64 y.lost)) y := by
 obtain ⟨_, _, _, _, _, _, h1, _⟩ := h
 have hg := (aL h1)
 exact ⟨a, b, c, d, _, _, bZ _ _ _ _ _ _ (ac hb h1), (cO.of h5).keep (fun c h1 _ => bs c (by omega)), .inl hg, hn, hb.size, by simp only [ao]; omega⟩
end
theorem iT (evs : List Ev) (v : Value) (w : World) (hg : dW w) (h : SlB tEv w.heap.size w v evs) : Calls Tryz.prog 21 #[v] w (iK w evs) := by
 have hw0 : 0 < w.heap.size := World.block_lt_of_cell? _ _ hg
 have Hg := hid (fun (wx : World) (hb : Below w.heap.size w wx) => hg.go hb)
 obtain ⟨A, c, rfl, _, _, _⟩ := h.form
 have H := hid (fun (wx : World) (hb : Below w.heap.size w wx) => h.go hb)
 clear h hg
 obtain ⟨z, hz⟩ : ∃ z, z = plW evs := ⟨_, rfl⟩
 unfold iK
 rw [← hz]
 have Hz := hid hz
 clear hz
 go_enter Tryz.func21, Tryz.ntmps21
 have e1 := heap_alloc_new w (.cells #[.slice none 0 0, .slice none 0 0, .slice none 0 0, .slice none 0 0, .int .i64 0, .int .i64 0] 33)
 have E1 := hid e1
 have HB1 := hid (ab w (.cells #[.slice none 0 0, .slice none 0 0, .slice none 0 0, .slice none 0 0, .int .i64 0, .int .i64 0] 33))
 clear e1
 by_cases h80 : evs.length ≤ 80
 ·have i1 : decide ((80 : Int) < (evs.length : Int)) = false := decide_eq_false (by omega)
  have d1 : decide (evs.length ≤ 80) = true := decide_eq_true h80
  obtain rfl := Hz.out.trans (show plW evs = dD evs by unfold plW; rw [if_pos h80])
  rw [d1]
  clear d1 Hz
  go_wp2_with fail
  refine (pB _).mono ?_
  rintro e w2 ⟨vm, rfl, hn2, hb2⟩
  have Hc2 := hid (bt HB1.out hb2); have E2 := hid (ac hb2 E1.out)
  have z2 : w.heap.size < w2.heap.size := (aL E2.out)
  obtain ⟨Am, cm, rfl, _, _, _⟩ := hn2.slB.form
  have hr2 := sP (hn2.base (B' := w.heap.size + 1) (by simp))
  have Hr2 := hid hr2
  clear hn2 hr2 hb2 E1 HB1
  go_upto_region 4 with fail
  generalize hgw : World.alloc w2 _ = W1
  have hbx : BxI w2.heap.size (w.heap.size + 1) W1 dT := by
   subst hgw
   exact ⟨_, _, _, _, _, _, heap_alloc_new _ _, Hr2.out.go (ab _ _) (Nat.le_refl _), .inr (Nat.le_refl _), Nat.le_refl _, by omega, by simp⟩
  have hbW : Below w2.heap.size w2 W1 := by subst hgw; exact ab _ _
  have zg : w.heap.size + 1 ≤ w2.heap.size := by omega
  have zW : w.heap.size + 1 ≤ W1.heap.size := by have := hbW.size; omega
  have Hbx := hid hbx; have HbW := hid (bt Hc2.out hbW); have EW := hid (ac hbW E2.out)
  generalize w2.heap.size = g at *
  clear hgw hbx hbW Hr2 Hc2 E2 z2
  go_wp2_with fail
  go_loopw [14] (fun i wr => ∃ (k : Nat) (y : Wd), k ≤ evs.length ∧ i = .int .i64 k ∧ y = dD (evs.take k) ∧ VD 0 y ∧ BxI g (w.heap.size + 1) wr y ∧ Below (w.heap.size + 1) W1 wr) (fun i _ => evs.length - (intOf i).toNat)
  case atStart => exact ⟨0, dT, by omega, rfl, rfl, jq, Hbx.out, ah⟩
  case round =>
   obtain ⟨k, y, hk, rfl, hy, hvy, hby, hb⟩ := hrel
   have Hby := hid hby; have Hb := hid hb; have Hvy := hid hvy; have Hy := hid hy
   have Hc := hid (HbW.out.trans (hb.mono (by omega)))
   clear hb hvy hy Hbx hby
   by_cases hlt : k < evs.length
   ·obtain ⟨ev, hev⟩ := ak hlt
    obtain ⟨b, o, rfl, hbl, _, t0, t1, t2, t3⟩ := (H.out _ Hc.out).ev hev
    have hbr : b < wr.heap.size := by have := Hc.out.size; omega
    have Hev := hid hev
    clear hev
    go_upto_region 7 with fail
    generalize hgw : World.alloc wr _ = w3
    have eb : w3.heap[wr.heap.size]? = some (.cells #[.int .i64 ev.kind, .int .i64 ev.a, .int .i64 ev.b, .int .i64 ev.c] 38 (0, 0)) := by subst hgw; exact heap_alloc_new _ _
    have hb3 : Below wr.heap.size wr w3 := by subst hgw; exact ab _ _
    obtain ⟨v0, v1, v2, v3, _⟩ := aN eb
    have y3 := (aL eb)
    have hby3 := Hby.out.go hb3
    have Hby3 := hid hby3; have Hb3 := hid (Hb.out.trans (hb3.mono (by have := Hb.out.size; omega))); have Hc3 := hid (bt Hc.out hb3)
    obtain ⟨a, b', c', d, B, C, r0, hri, _, _, _, _⟩ := hby3
    obtain ⟨A1, c1, A2, c2, A3, c3, A4, c4, rfl, rfl, rfl, rfl⟩ := hri.form
    obtain ⟨k0, k1, k2, k3, k4, k5, _⟩ := az r0
    have hg3 := (aL r0)
    have Rw := hid hri.wdB
    clear hgw eb hb3 hri r0 Hb t0 t1 t2 t3 Hby
    go_wp2_with fail
    refine (ma y _ ev _ (Hg.out _ Hc3.out) Rw.out (by have := Hvy.out.gl; omega)).mono ?_
    rw [show fa y ev = doW y ev by unfold fa; rw [iJ.2 Hvy.out]; rfl]
    rintro e w5 ⟨um, us, un, ug, rfl, n5, hb5⟩
    obtain ⟨D1, f1, D2, f2, D3, f3, D4, f4, rfl, rfl, rfl, rfl⟩ := cr n5
    have hz1 := kR Hev.out
    rw [← Hy.out] at hz1
    have hz3 := Hvy.out.do_ ev
    generalize doW y ev = z' at *
    obtain ⟨_, _, _, _, _, _, r5, _⟩ := Hby3.out.go hb5
    have hg5 := (aL r5)
    obtain ⟨q0, q1, q2, q3, q4, q5, qf, qf0, qf1, qf2, qf3, qf4, qf5⟩ := bj r5
    have N5 := hid n5; have HB5 := hid hb5; have Hb5 := hid (Hb3.out.trans (hb5.mono (by have := Hb3.out.size; omega)))
    have Hz1 := hid hz1; have Hz3 := hid hz3
    clear n5 hb5 r5 qf hz1 hz3 k0 k1 k2 k3 k4 k5 v0 v1 v2 v3
    go_wp2_with fail
    go_roundw
    case rel => exact ⟨k + 1, z', by omega, by go_num, Hz1.out.symm, Hz3.out, Hby3.out.put HB5.out (by have := Hb3.out.size; omega) N5.out, (by (repeat (refine Below.setCell ?_ (by dsimp only; omega) _)); exact Hb5.out)⟩
    case measure => simp [intOf]; omega
   ·obtain rfl : y = dD evs := by rw [Hy.out, List.take_of_length_le (by omega)]
    obtain ⟨a, b', c', d, B, C, r0, hri, _, hnB, _, _⟩ := Hby.out
    have e3 := (Hb.out.block w.heap.size (by omega)).trans EW.out
    have z29 := (aL e3)
    obtain ⟨A1, c1, A2, c2, A3, c3, A4, c4, rfl, rfl, rfl, rfl⟩ := hri.form
    obtain ⟨k0, k1, k2, k3, k4, k5, _⟩ := az r0
    have hg3 := (aL r0)
    obtain ⟨q0, q1, q2, q3, q4, q5, qf, qf0, qf1, qf2, qf3, qf4, qf5⟩ := bj e3
    have Hri := hid hri
    clear hri r0 e3 qf Hby Hb EW HbW Hy
    generalize dD evs = y at *
    go_wp2_with fail
    refine bodyPost_ret (v := .tuple #[.agg #[.slice A1 y.mixes.length c1, .slice A2 y.sent.length c2, .slice A3 y.net.length c3, .slice A4 y.got.length c4, .int .i64 y.made, .int .i64 y.lost], .bool true]) (by simp [results, Tryz.results21, go_sem, q0, q1, q2, q3, q4, q5]) rfl ⟨_, _, _, _, rfl, aC.base (B := B) ?_ (by omega), ?_⟩
    ·repeat (refine aC.set ?_ (by dsimp only; omega))
     exact Hri.out.new
    ·repeat (refine Below.setCell ?_ (by dsimp only; omega) _)
     exact Hc.out
 ·have i1 : decide ((80 : Int) < (evs.length : Int)) = true := decide_eq_true (by omega)
  have d1 : decide (evs.length ≤ 80) = false := decide_eq_false h80
  obtain rfl := Hz.out.trans (show plW evs = zWd by unfold plW; rw [if_neg h80])
  rw [d1]
  clear d1 Hz
  obtain ⟨q0, q1, q2, q3, q4, q5, qf, qf0, qf1, qf2, qf3, qf4, qf5⟩ := bj E1.out
  clear qf E1
  go_wp2_with fail
  refine bodyPost_ret (v := .tuple #[.agg #[.slice none 0 0, .slice none 0 0, .slice none 0 0, .slice none 0 0, .int .i64 0, .int .i64 0], .bool false]) (by simp [results, Tryz.results21, go_sem, q0, q1, q2, q3, q4, q5]) rfl ⟨_, _, _, _, rfl, lQ _ _, ?_⟩
  repeat (refine Below.setCell ?_ (by first | (dsimp only; omega) | simp) _)
  exact HB1.out
theorem oU {evs : List Ev} (h : decide (evs.length ≤ 80) = true) : plW evs = dD evs := by
 unfold plW; rw [if_pos (of_decide_eq_true h)]
theorem sg {x : Int} (h : (Lit.int .u8 x).wf = true) : 0 ≤ x ∧ x ≤ 255 := by simpa [Lit.wf, IntKind.min, IntKind.max, IntKind.signed, IntKind.bits] using h
theorem rU {x : Wd} (h : VD 0 x) (e : Ev) : fa x e = doW x e := by unfold fa; rw [iJ.2 h]; rfl
theorem pU (evs : List Ev) (e : Ev) : dD (evs ++ [e]) = fa (dD evs) e := by
 rw [rU (oV evs)]; unfold dD; rw [List.foldl_append]; rfl
section
open Go.ChangeShapes Go.WideShapes Go.ChangeAt Go.Deep
theorem kB (ws : List (List Char)) : stripLifts liftWords ("cut".toList :: ws) = ([], "cut".toList :: ws) := by kernel_rfl
theorem oD : ("cut".toList == "gc".toList) = false := by kernel_rfl
theorem oE : ("cut".toList == "spec".toList) = false := by kernel_rfl
theorem rx : ("cut".toList == "carried".toList) = false := by kernel_rfl
theorem mt {P : Program} {ws : List (List Char)} (h : behindMainWord (wordsSigns P.initOrder.toList) = "cut".toList :: ws) (h1 : P.laysLater = false) (h2 : P.bearsReflect = false) (h3 : P.doorFits [] = true) : P.mayEnter = true := by
 unfold Program.mayEnter
 rw [h]
 simp only [kB, oD, oE, rx, h1, h2, h3, List.head?_cons, List.contains_nil, Bool.false_and, Bool.false_or, Bool.not_false, Bool.and_true, beq_self_eq_true]
theorem kY {P : Program} {ws : List (List Char)} (h : behindMainWord (wordsSigns P.initOrder.toList) = "cut".toList :: ws) : P.headLifts = [] := by
 unfold Program.headLifts
 rw [h]
 simp only [kB, List.head?_cons, beq_self_eq_true, if_true]
theorem jY {P : Program} {ws : List (List Char)} (h : behindMainWord (wordsSigns P.initOrder.toList) = "cut".toList :: ws) : P.liftsFinal = false := by
 unfold Program.liftsFinal
 simp only [h, kY h, List.head?_cons, List.contains_nil, Bool.or_false]
 rw [show (some "cut".toList == some "carried".toList) = false from by kernel_rfl]
 rfl
theorem rI {P : Program} {ws : List (List Char)} (h : behindMainWord (wordsSigns P.initOrder.toList) = "cut".toList :: ws) : P.make = some .cut := by
 unfold Program.make
 rw [h]
 simp only [oD, oE, Bool.or_false, beq_self_eq_true, Bool.true_or, if_true, Bool.false_eq_true, if_false]
def kZ : List Char := ([104, 97, 114, 110, 101, 115, 115] : List Nat).map Char.ofNat
def lc : List Char := ([99, 101, 52, 98, 52, 48, 50, 97, 97, 49, 57, 57, 97, 101, 55, 97, 100, 101, 51, 98, 101, 97, 51, 100, 100, 54, 50, 101, 55, 98, 57, 57, 57, 56, 54, 102, 50, 57, 99, 52, 102, 54, 57, 101, 56, 55, 101, 52, 51, 100, 56, 54, 52, 49, 56, 101, 102, 102, 53, 48, 102, 57, 53, 54] : List Nat).map Char.ofNat
def ld : List Char := ([99, 117, 116] : List Nat).map Char.ofNat
def iQ : List Char := ([97, 116, 32, 108, 111, 111, 112, 46, 101, 120, 97, 109, 112, 108, 101, 47, 109, 105, 120, 114, 101, 108, 97, 121, 47, 108, 97, 119, 115, 46, 70, 110, 69, 120, 101, 99, 117, 116, 101, 76, 105, 110, 101, 115, 32, 108, 111, 111, 112, 46, 101, 120, 97, 109, 112, 108, 101, 47, 109, 105, 120, 114, 101, 108, 97, 121, 47, 108, 97, 119, 115, 46, 70, 110, 69, 120, 101, 99, 117, 116, 101, 81, 117, 101, 114, 105, 101, 115, 32, 108, 111, 111, 112, 46, 101, 120, 97, 109, 112, 108, 101, 47, 109, 105, 120, 114, 101, 108, 97, 121, 47, 108, 97, 119, 115, 46, 70, 110, 69, 120, 101, 99, 117, 116, 101, 85, 110, 107, 110, 111, 119, 110, 32, 108, 111, 111, 112, 46, 101, 120, 97, 109, 112, 108, 101, 47, 109, 105, 120, 114, 101, 108, 97, 121, 47, 108, 97, 119, 115, 46, 70, 110, 69, 120, 97, 99, 116, 69, 120, 101, 99, 117, 116, 101, 32, 108, 111, 111, 112, 46, 101, 120, 97, 109, 112, 108, 101, 47, 109, 105, 120, 114, 101, 108, 97, 121, 47, 108, 97, 119, 115, 46, 70, 110, 69, 120, 101, 99, 117, 116, 101, 66, 97, 116, 99, 104, 32, 108, 111, 111, 112, 46, 101, 120, 97, 109, 112, 108, 101, 47, 109, 105, 120, 114, 101, 108, 97, 121, 47, 108, 97, 119, 115, 46, 70, 110, 69, 120, 101, 99, 117, 116, 101, 67, 104, 97, 110, 103, 101, 32, 108, 111, 111, 112, 46, 101, 120, 97, 109, 112, 108, 101, 47, 109, 105, 120, 114, 101, 108, 97, 121, 47, 108, 97, 119, 115, 46, 70, 110, 69, 120, 101, 99, 117, 116, 101, 69, 109, 112, 116, 121, 32, 108, 111, 111, 112, 46, 101, 120, 97, 109, 112, 108, 101, 47, 109, 105, 120, 114, 101, 108, 97, 121, 47, 108, 97, 119, 115, 46, 70, 110, 69, 120, 101, 99, 117, 116, 101, 76, 111, 115, 101, 32, 108, 111, 111, 112, 46, 101, 120, 97, 109, 112, 108, 101, 47, 109, 105, 120, 114, 101, 108, 97, 121, 47, 108, 97, 119, 115, 46, 70, 110, 69, 120, 101, 99, 117, 116, 101, 79, 110, 101, 32, 108, 111, 111, 112, 46, 101, 120, 97, 109, 112, 108, 101, 47, 109, 105, 120, 114, 101, 108, 97, 121, 47, 108, 97, 119, 115, 46, 70, 110, 69, 120, 101, 99, 117, 116, 101, 84, 119, 105, 99, 101, 32, 108, 111, 111, 112, 46, 101, 120, 97, 109, 112, 108, 101, 47, 109, 105, 120, 114, 101, 108, 97, 121, 47, 108, 97, 119, 115, 46, 70, 110, 69, 120, 101, 99, 117, 116, 101, 73, 110, 99, 111, 109, 112, 108, 101, 116, 101, 32, 108, 111, 111, 112, 46, 101, 120, 97, 109, 112, 108, 101, 47, 109, 105, 120, 114, 101, 108, 97, 121, 47, 108, 97, 119, 115, 46, 70, 110, 87, 111, 114, 108, 100, 80, 108, 97, 121] : List Nat).map Char.ofNat
def oF : List Char := kZ ++ Char.ofNat 32 :: (lc ++ Char.ofNat 32 :: (ld ++ Char.ofNat 32 :: iQ))
theorem oG : Tryz.prog.initOrder = String.ofList oF := by dsimp only [Tryz.prog, Tryz.progTables]; kernel_rfl
theorem l8 : oF = kZ ++ Char.ofNat 32 :: (lc ++ Char.ofNat 32 :: (ld ++ Char.ofNat 32 :: iQ)) := rfl
theorem du (w : List Char) (hw : w.all (fun c => c != Char.ofNat 32) = true) (r : List Char) : wordsSigns (w ++ Char.ofNat 32 :: r) = w :: wordsSigns r := by
 induction w with
 | nil => rfl
 | cons c w ih =>
  simp only [List.all_cons, Bool.and_eq_true, bne_iff_ne, ne_eq] at hw
  have h := ih hw.2
  rw [List.cons_append, wordsSigns.eq_3 _ _ (fun e => hw.1 e), h]
theorem fV : behindMainWord (wordsSigns Tryz.prog.initOrder.toList) = "cut".toList :: wordsSigns iQ := by
 rw [oG, String.toList_ofList, l8, du kZ (by kernel_rfl), du lc (by kernel_rfl), du ld (by kernel_rfl)]
 generalize wordsSigns iQ = ws
 kernel_rfl
theorem nr : Tryz.prog.mayEnter = true := mt fV (by kernel_rfl) (by kernel_rfl) (by kernel_rfl)
theorem nu : Tryz.prog.liftsFinal = false := jY fV
theorem pu : Tryz.prog.make = some .cut := rI fV
theorem qO : ownKnob Tryz.prog.godebug = none := by kernel_rfl
theorem mp : laidOutB Tryz.prog = true := by kernel_rfl
def lS {α : Type} (P : Program) (T : Ty α) (t : TypeId) (fit : α → Prop) : Prop :=
 ∀ {H : Type} (enc : TypeId × Value → H) (w : World) (spare : Nat → Bool) (held : Bool) (fuel : Nat) (cs : List Value) (x : DataW H × List MemPlace),
  DataW.trod enc P w 0 spare held fuel t cs = some x → ∃ d F, T.E w cs d F ∧ fit d
section
variable {α : Type} {P : Program}
theorem pS {k : IntKind} {t : TypeId} (T : Ty Int) (hT : ∀ w n, T.E w [.int k n] n []) (ht : P.underlying t = some (.int k)) : lS P T t (fun n => (Lit.int k n).wf = true) := by
 intro H enc w spare held fuel cs x h
 obtain ⟨n, rfl, _, hn⟩ := DataW.trod_int ht h
 exact ⟨n, [], hT w n, hn⟩
theorem mD {T : Ty α} {t e : TypeId} {fit : α → Prop} (ho : lS P T e fit) (ht : P.underlying t = some (.slice e)) (hc : P.cellsOf e = T.k) (hk : 0 < T.k) : lS P T.sl t (fun xs => ∀ x ∈ xs, fit x) := by
 intro H enc w spare held fuel cs x h
 rcases open_slice ht h with ⟨rfl, _⟩ | ⟨a, len, cap, m, n, D, Pl, rfl, _, hlc, hcm, hm, _, hi⟩
 ·exact ⟨[], [], ⟨_, rfl, Sl.nil _ _ (by simp [maxLen])⟩, fun x hx => by cases hx⟩
 ·have hlm : len ≤ m := by rw [hm]; split <;> omega
  rw [hc] at hi
  have key : ∀ l, l ≤ len → ∃ (xs : List α) (F : List Nat) (css : List Value), xs.length = l ∧ T.els w css xs F ∧ (∀ x ∈ xs, fit x) ∧ ∀ j u, css[j]? = some u → w.cell? (a.add j) = some u := by
   intro l
   induction l with
   | zero => intro _; exact ⟨[], [], [], rfl, Ty.els_nil, (fun x hx => by cases hx), (fun j u hj => by cases hj)⟩
   | succ l ih =>
    intro hl
    obtain ⟨xs, F, css, h1, h2, h3, h4⟩ := ih (by omega)
    obtain ⟨cs', hcs, htr⟩ := hi l (by omega)
    obtain ⟨d, G, hE, hfit⟩ := ho enc w spare held n cs' _ htr
    obtain ⟨_, hcl, hat⟩ := World.cells?_some hcs
    refine ⟨xs ++ [d], F ++ G, css ++ cs', by simp [h1], Ty.els_append h2 (Ty.els_one hE), fun x hx => ?_, fun j u hj => ?_⟩
    ·rcases List.mem_append.1 hx with hx | hx
     ·exact h3 x hx
     ·rw [List.mem_singleton.1 hx]; exact hfit
    ·have hcl' := Ty.els_len h2
     rw [h1] at hcl'
     by_cases hjl : j < css.length
     ·rw [List.getElem?_append_left hjl] at hj; exact h4 j u hj
     ·rw [List.getElem?_append_right (by omega)] at hj
      have hj2 := (List.getElem?_eq_some_iff.1 hj).1
      have := hat (j - css.length) (by omega)
      rw [hj] at this
      rw [Deep.add_add] at this
      rw [show l * T.k + (j - css.length) = j from by omega] at this
      exact this
  obtain ⟨xs, F, css, h1, h2, h3, h4⟩ := key len (Nat.le_refl _)
  subst h1
  by_cases hx : xs = []
  ·subst hx
   exact ⟨[], [], ⟨_, rfl, Sl.nil _ _ hcm⟩, h3⟩
  ·have hl0 : 0 < css.length := by rw [Ty.els_len h2]; exact Nat.mul_pos (List.length_pos_iff.2 hx) hk
   have hc0 := h4 0 _ (List.getElem?_eq_getElem hl0)
   obtain ⟨b, o, s⟩ := a
   have hs : s = none := by
    cases s with
    | none => rfl
    | some s => simp [Addr.add, World.cell?] at hc0; split at hc0 <;> simp at hc0
   subst hs
   have hb : b < w.heap.size := by
    have := World.block_lt_of_cell? w _ hc0
    simpa [Addr.add] using this
   refine ⟨xs, b :: F, ⟨_, rfl, ⟨_, cap, css, rfl, hlc, hcm, .inr ⟨b, o, F, rfl, rfl, hx, hb, h2, fun j u hj => ?_⟩⟩⟩, h3⟩
   have := h4 j u hj
   rcases Nat.eq_zero_or_pos j with h | h
   ·subst h; simpa [Addr.add] using this
   ·simpa [Addr.add, Nat.ne_of_gt h] using this
end
theorem kO {α : Type} {T : Ty α} {t e : TypeId} {fit : List α → Prop} (ho : lS Tryz.prog T.sl t fit) (ht : Tryz.prog.underlying t = some (.slice e)) {H : Type} {enc : TypeId × Value → H} {W : World} {base : Nat} {spare : Nat → Bool} {held : Bool} {v : Value} {d : DataW H} {p : List MemPlace}
  (hv : Value.okWide Tryz.prog W .any base t v) (h : DataW.Trod enc Tryz.prog W 0 spare held t v d p) : ∃ xs, SlB T W.heap.size W v xs ∧ fit xs := by
 obtain ⟨a, l, c, rfl⟩ := okWide_slice ht hv
 obtain ⟨fuel, hf⟩ := h
 obtain ⟨xs, F, ⟨v', hv', hs⟩, hfit⟩ := ho enc W spare held fuel _ _ hf
 simp [Value.cells] at hv'
 subst hv'
 exact ⟨xs, ⟨F, hs, hs.lt⟩, hfit⟩
theorem iu : lS Tryz.prog fD.sl 22 (fun xs => ∀ x ∈ xs, (Lit.int .u8 x).wf = true) :=
 mD (pS fD (fun _ _ => ⟨rfl, rfl⟩) Tryz.underlying5) Tryz.underlying22 (by kernel_rfl) (by decide)
end
section
open Go.ChangeShapes Go.WideShapes Go.ChangeAt Go.Deep
def kH : List (String × DataW Unit) := [("errors.errorType", Rows.laid_errors_errorType)]
theorem tK : Tryz.prog.laidByTextLater [("errors.errorType", Rows.laid_errors_errorType)] [.handle] true :=
 Program.laidByTextLater_by_one 41 8 65 (by kernel_rfl) (by kernel_rfl) (by kernel_rfl) (by kernel_rfl) (by kernel_rfl) (by kernel_rfl) (fun _ _ => by kernel_rfl)
theorem tc : Tryz.pinned.checked.prog.headLifts.contains "ownunsafe" = false := by kernel_rfl
theorem g_et : Tryz.prog.globalNamed "errors.errorType" = some 0 := by kernel_rfl
theorem g_rt : (Tryz.prog.cutTypes.find? (·.1 == "internal/reflectlite.rtype")).map (·.2) = some 225 := by kernel_rfl
theorem qu : ((List.range 279).filter fun t => Tryz.prog.rowNamed t [101, 114, 114, 111, 114]) = [130] := by kernel_rfl
theorem sI : Tryz.prog.types.size = 279 := by kernel_rfl
def so (W : World) : Prop := W.cell? ⟨0, 0, none⟩ = some (.iface 225 (.agg #[.pointer (some ⟨7, 130, none⟩)]))
theorem iP {W : World} (h : laidMetH Tryz.prog kH W) : so W := by
 have h' : laidMet Tryz.prog [] W ∧ handlesMet Tryz.prog kH W := h
 obtain ⟨name, u, ty, e1, e2, e3, e4, e5⟩ := h'.2 _ (List.mem_singleton.2 rfl)
 have en : name = [101, 114, 114, 111, 114] := (Option.some.inj e1).symm
 subst en
 obtain rfl := Option.some.inj (g_rt.symm.trans e2)
 have hm : ty ∈ (List.range 279).filter fun t => Tryz.prog.rowNamed t [101, 114, 114, 111, 114] := List.mem_filter.2 ⟨List.mem_range.2 (by rw [← sI]; exact e3), e4⟩
 rw [qu] at hm
 obtain rfl := List.mem_singleton.1 hm
 have hh : typeHandle Tryz.prog 130 = .pointer (some ⟨7, 130, none⟩) := by kernel_rfl
 rw [hh] at e5
 have := World.var?_cell g_et e5 0
 unfold so
 simpa using this
noncomputable def kI (os : Os) : World :=
 let w0 := World.holding Tryz.prog os ⟨#[], #[], []⟩
 { w0 with heap := w0.heap.modify 0 fun
   | .cells _ t frozen => .cells #[.iface 225 (.agg #[.pointer (some ⟨7, 130, none⟩)])] t frozen
   | o => o }
theorem jX (os : Os) (args : Array Value) : laidMetH Tryz.prog kH ((kI os).forCall (fun _ _ => 0) ⟨#[], args, []⟩).memory :=
 laidMetH_of_parts (laidMet_nil _ _) (by kernel_rfl)
end
end Go.Proofs.YtfaeojmndaplcaaGreatDoor
