/- Texts that the last file leans on (part 36). -/
import Derived.Test.YtolgbefghbddeaaGreatDoorM11
import Derived.Test.YtolgbefghbddeaaGreatDoorM28
import Derived.Test.YtolgbefghbddeaaGreatDoorM29
set_option linter.unusedVariables false
set_option linter.unusedSimpArgs false
set_option maxHeartbeats 4000000
set_option maxRecDepth 100000
namespace Go.Proofs.YtolgbefghbddeaaGreatDoor
open Go Go.RowKit
def iG (x : Wd) : Wd := if wdB x = true then dF x else zWd
def nlB (g : Nat) (w : World) : Nat := match w.cell? ⟨g, 2, none⟩ with | some (.slice _ n _) => n | _ => 0
theorem tU {R : Nat → Prop} {g : Nat} {w : World} {x : Wd} (h : Bx R g w x) : nlB g w = x.net.length := by
 obtain ⟨a1, e1, a2, e2, a3, e3, a4, e4, r0, _⟩ := h
 unfold nlB
 rw [(ai r0).2.2.1]
theorem nL {x : Wd} (h : 0 < x.net.length) : (dI x ⟨2, 0, 0, 0⟩).net.length = x.net.length - 1 := by
 rw [qX]
 cases hn : x.net with
 | nil => rw [hn] at h; simp at h
 | cons t ts => simp only [pm]; simp [bu]
def flN : Nat → Wd → Wd
 | 0, u => u
 | n + 1, u => bQ (flN n u) n true
theorem VD.ps {x : Wd} (h : VD 0 x) : (x.net.length : Int) + ao x.mixes ≤ 4611686018427387904 := by
 have h1 := h.cnt; have h2 := h.md; have h3 := h.l0
 unfold di at h1
 omega
theorem qN (x : Wd) (v : Value) (w : World) (h : WdB w.heap.size w v x) (hgl : x.got.length ≤ 1073741824) :
  Calls Tryz.prog 29 #[v] w (qU w (iG x)) := by
 have H := hid (fun (wx : World) (hb : Below w.heap.size w wx) => h.go hb)
 obtain ⟨A1, c1, A2, c2, A3, c3, A4, c4, rfl⟩ := (WdR.of_wdB (R := fun _ => True) h (fun _ _ => trivial)).form
 clear h
 obtain ⟨z, hz⟩ : ∃ z, z = iG x := ⟨_, rfl⟩
 rw [← hz]
 have Hz := hid hz
 clear hz
 go_enter Tryz.func29, Tryz.ntmps29
 go_wp2_with fail
 refine (cQ x _ _ (H.out _ (by repeat (first | exact ah | apply ae | refine bA ?_ (by omega) | refine Below.setCell ?_ (by first | omega | simp <;> omega) _))) hgl).mono ?_
 rintro e' w1 ⟨rfl, hb1⟩
 obtain ⟨e0, e1⟩ := dE hb1
 have hc1 : Below w.heap.size w w1 := bt (by repeat (first | exact ah | apply ae | refine bA ?_ (by omega) | refine Below.setCell ?_ (by first | omega | simp <;> omega) _)) hb1
 obtain ⟨k0, k1, k2, k3, k4, k5, _⟩ := ai e0
 have z1 : w.heap.size + 1 < w1.heap.size := (al e1)
 have z0 : w.heap.size < w1.heap.size := by omega
 cases hv : wdB x with
 | false =>
  obtain rfl := Hz.out.trans (show iG x = zWd by unfold iG; rw [hv]; rfl)
  obtain ⟨q0, q1, q2, q3, q4, q5, qf, qf0, qf1, qf2, qf3, qf4, qf5⟩ := bm e1
  have Hc1 := hid hc1
  clear Hz hb1 hc1 e0 e1 qf hv
  go_wp2_with fail
  refine bodyPost_ret (v := .agg #[.slice none 0 0, .slice none 0 0, .slice none 0 0, .slice none 0 0, .int .i64 0, .int .i64 0]) (by simp [results, Tryz.results29, go_sem, q0, q1, q2, q3, q4, q5]) rfl ⟨_, _, _, _, rfl, lx _ _, ?_⟩
  repeat (refine Below.setCell ?_ (by dsimp only; omega) _)
  exact Hc1.out
 | true =>
  have hx := cD.1 hv
  obtain rfl := Hz.out.trans (show iG x = dF x by unfold iG; rw [hv]; rfl)
  have Hx := hid hx; have Hc1 := hid hc1; have E1 := hid e1
  clear Hz hb1 hc1 e0 e1 hv hx
  go_wp2_with fail
  refine (dQ x _ _ (H.out _ Hc1.out) Hx.out.sm).mono ?_
  rintro e' w2 ⟨um, us, un, ug, rfl, n1, hb2⟩
  obtain ⟨B1, d1, B2, d2, B3, d3, B4, d4, rfl, rfl, rfl, rfl⟩ := aD n1
  have N1 := hid (jT n1); have Hc2 := hid (bt Hc1.out hb2); have E2 := hid (ab hb2 E1.out)
  have z2 : w.heap.size + 1 < w2.heap.size := (al E2.out)
  clear n1 hb2 k0 k1 k2 k3 k4 k5 E1 z0 z1 Hc1
  go_upto_region 4 with fail
  generalize hgw : World.alloc w2 _ = W1
  obtain ⟨g, hg⟩ : ∃ g, g = w2.heap.size := ⟨_, rfl⟩
  rw [← hg]
  obtain ⟨hbx, hbW, hgW⟩ := Bx.new N1.out hg hgw
  have Hbx := hid hbx; have HbW := hid (bt Hc2.out hbW); have EW := hid (ab hbW E2.out)
  have zg : w.heap.size + 2 ≤ g := by omega
  clear hbx hbW hgw hg N1 Hc2 E2 z2
  have hnR : ¬ br (fun _ => True) g (g + 1) g := aR (Nat.le_refl _) (by omega)
  have hRR : ∀ wx : World, g < wx.heap.size → ∀ b, wx.heap.size ≤ b → br (fun _ => True) g (g + 1) b := fun wx h b hb => ⟨trivial, .inr (by omega)⟩
  have HnR := hid hnR; have HRR := hid hRR
  clear hnR hRR
  go_wp2_with fail
  go_loopw [4] (fun i wr => ∃ (j : Nat) (y : Wd), j ≤ 60 ∧ i = .int .i64 j ∧ fk (60 - j) y = dF x ∧ VD 0 y ∧ Bx (br (fun _ => True) g (g + 1)) g wr y ∧ Below (w.heap.size + 2) W1 wr) (fun i _ => 60 - (intOf i).toNat)
  case atStart => exact ⟨0, x, by omega, rfl, rfl, Hx.out, Hbx.out, ah⟩
  case round =>
   obtain ⟨j, y, hj, rfl, hcy, hvy, hby, hb⟩ := hrel
   have Hby := hid hby; have Hb := hid hb; have Hvy := hid hvy
   obtain ⟨a1, e1, a2, e2, a3, e3, a4, e4, r0, rw⟩ := hby
   obtain ⟨k0, k1, k2, k3, k4, k5, _⟩ := ai r0
   have hgr := (al r0)
   have Rw := hid rw
   clear r0 rw
   clear hb hvy Hbx Hx
   by_cases hlt : j < 60
   ·cases hz : fX y with
    | false =>
     obtain rfl : y = dF x := by rw [← hcy, ly _ hz]
     clear hcy
     go_wp2_with fail
     refine (lN (dF x) _ _ Rw.out.wdB Hvy.out.ps).mono ?_
     rw [show (!fX (dF x)) = true by rw [hz]; rfl]
     rintro e w3 ⟨rfl, hb3⟩
     have hb3' := hid (bt (HbW.out.trans (Hb.out.mono (by omega))) hb3)
     have E3 := hid (ab hb3 ((Hb.out.block (w.heap.size + 1) (by omega)).trans EW.out))
     have hby := Hby.out.go hb3
     clear hb3 k0 k1 k2 k3 k4 k5 hgr Rw hz Hb HbW EW Hby
     obtain ⟨a1, e1, a2, e2, a3, e3, a4, e4, r0, rw⟩ := hby
     obtain ⟨k0, k1, k2, k3, k4, k5, _⟩ := ai r0
     have hgr := (al r0)
     have Rw := hid rw
     clear r0 rw
     go_wp2_with fail
     generalize dF x = y at *
     refine (dQ y _ _ Rw.out.wdB Hvy.out.sm).mono ?_
     rintro e' w10 ⟨um, us, un, ug, rfl, n1, hb10⟩
     obtain ⟨B1, d1, B2, d2, B3, d3, B4, d4, rfl, rfl, rfl, rfl⟩ := aD n1
     have z29 := (al E3.out)
     obtain ⟨q0, q1, q2, q3, q4, q5, qf, qf0, qf1, qf2, qf3, qf4, qf5⟩ := bm (ab hb10 E3.out)
     have z2' : w.heap.size + 1 < w10.heap.size := by have := hb10.size; omega
     have N1 := hid n1; have Hc10 := hid (bt hb3'.out hb10)
     clear n1 hb10 qf hb3' k0 k1 k2 k3 k4 k5
     go_wp2_with fail
     refine bodyPost_ret (v := .agg #[.slice B1 y.mixes.length d1, .slice B2 y.sent.length d2, .slice B3 y.net.length d3, .slice B4 y.got.length d4, .int .i64 y.made, .int .i64 y.lost]) (by simp [results, Tryz.results29, go_sem, q0, q1, q2, q3, q4, q5]) rfl ⟨_, _, _, _, rfl, aG.base (B := w3.heap.size) ?_ (by omega), ?_⟩
     ·repeat (refine aG.set ?_ (by dsimp only; omega))
      exact N1.out
     ·repeat (refine Below.setCell ?_ (by dsimp only; omega) _)
      exact Hc10.out
    | true =>
     have hc1 : fk (60 - (j + 1)) (ml y) = dF x := by rw [← hcy, show 60 - j = (60 - (j + 1)) + 1 by omega]; simp only [fk, hz, if_pos]
     have Hc := hid hc1
     clear hc1 hcy
     go_wp2_with fail
     refine (lN y _ _ Rw.out.wdB Hvy.out.ps).mono ?_
     rw [show (!fX y) = false by rw [hz]; rfl]
     rintro e w3 ⟨rfl, hb3⟩
     have Hb3 := hid (Hb.out.trans (hb3.mono (by have := Hb.out.size; omega)))
     have Hby3 := hid (Hby.out.go hb3)
     clear hb3 k0 k1 k2 k3 k4 k5 hgr Rw hz Hb Hby
     obtain ⟨wo, rfl⟩ : ∃ wo : World, wo = wr := ⟨_, rfl⟩
     go_wp2_with fail
     go_loopw [25] (fun _ wr => ∃ z : Wd, dM z.net.length z = dM y.net.length y ∧ VD 0 z ∧ Bx (br (fun _ => True) g (g + 1)) g wr z ∧ Below (w.heap.size + 2) W1 wr) (fun _ wr => nlB g wr)
     case atStart => exact ⟨y, rfl, Hvy.out, Hby3.out, Hb3.out⟩
     case round =>
      obtain ⟨z, hh, hvz, hbz, hb⟩ := hrel
      have Hbz := hid hbz; have Hb := hid hb; have Hvz := hid hvz; have Hh := hid hh
      obtain ⟨a1, e1, a2, e2, a3, e3, a4, e4, r0, rw⟩ := hbz
      obtain ⟨k0, k1, k2, k3, k4, k5, _⟩ := ai r0
      have hgr := (al r0)
      have Rw := hid rw
      clear r0 rw
      clear hb hvz hh
      by_cases hp : 0 < z.net.length
      ·have i1 : decide ((0 : Int) < (z.net.length : Int)) = true := decide_eq_true (by omega)
       go_wp2_with fail
       refine (gG _ z _ ⟨2, 0, 0, 0⟩ _ (HRR.out _ hgr) Rw.out Hvz.out).mono ?_
       rintro e w5 ⟨v5, rfl, hw5, hb5⟩
       obtain ⟨b1', f1, b2', f2, b3', f3, b4', f4, rfl⟩ := hw5.form
       have hz1 := nL hp
       have hz2 : dM (z.net.length - 1) (dI z ⟨2, 0, 0, 0⟩) = dM y.net.length y := by rw [← Hh.out, show z.net.length = (z.net.length - 1) + 1 by omega]; rfl
       have hz3 := Hvz.out.pkt ⟨2, 0, 0, 0⟩
       generalize dI z ⟨2, 0, 0, 0⟩ = z' at *
       rw [← hz1] at hz2
       have Hz1 := hid hz1; have Hz2 := hid hz2; have Hz3 := hid hz3
       obtain ⟨_, _, _, _, _, _, _, _, r5, _⟩ := Hbz.out.go hb5
       have hg5 := (al r5)
       obtain ⟨q0, q1, q2, q3, q4, q5, qf, qf0, qf1, qf2, qf3, qf4, qf5⟩ := bm r5
       have Hb5 := hid (Hb.out.trans (hb5.mono (by have := Hb.out.size; omega))); have HW5 := hid hw5; have HB5 := hid hb5
       clear r5 hb5 hw5 qf k0 k1 k2 k3 k4 k5
       clear hz1 hz2 hz3
       go_wp2_with fail
       go_roundw
       case rel => exact ⟨z', Hz2.out, Hz3.out, Hbz.out.put HB5.out HnR.out HW5.out, (by (repeat (refine Below.setCell ?_ (by dsimp only; omega) _)); exact Hb5.out)⟩
       case measure => rw [tU (Hbz.out.put HB5.out HnR.out HW5.out), tU Hbz.out, Hz1.out]; omega
      ·have i1 : decide ((0 : Int) < (z.net.length : Int)) = false := decide_eq_false (by omega)
       have Hu := hid (show dM y.net.length y = z by rw [← Hh.out, show z.net.length = 0 by omega]; rfl)
       obtain ⟨wi, rfl⟩ : ∃ wi : World, wi = wr := ⟨_, rfl⟩
       go_wp2_with fail
       go_loopw [5] (fun i wr => ∃ (q : Nat) (u : Wd), q ≤ 3 ∧ i = .int .i64 q ∧ u = flN q z ∧ VD 0 u ∧ Bx (br (fun _ => True) g (g + 1)) g wr u ∧ Below (w.heap.size + 2) W1 wr) (fun i _ => 3 - (intOf i).toNat)
       case atStart => exact ⟨0, z, by omega, rfl, rfl, Hvz.out, Hbz.out, Hb.out⟩
       case round =>
        obtain ⟨q, u, hq, rfl, hu, hvu, hbu, hb⟩ := hrel
        have Hbu := hid hbu; have Hb := hid hb; have Hvu := hid hvu; have Hu4 := hid hu
        clear k0 k1 k2 k3 k4 k5
        obtain ⟨a1, e1, a2, e2, a3, e3, a4, e4, r0, rw⟩ := hbu
        obtain ⟨k0, k1, k2, k3, k4, k5, _⟩ := ai r0
        have hgr := (al r0)
        have Rw := hid rw
        clear r0 rw
        clear hb hvu hu
        by_cases hq3 : q < 3
        ·go_wp2_with fail
         refine (lO _ u _ q true _ (HRR.out _ hgr) Rw.out Hvu.out hq3).mono ?_
         rintro e w5 ⟨v5, rfl, hw5, hb5⟩
         obtain ⟨b1', f1, b2', f2, b3', f3, b4', f4, rfl⟩ := hw5.form
         have hz3 := Hvu.out.flush hq3 true
         have hz2 : bQ u q true = flN (q + 1) z := by rw [Hu4.out]; rfl
         generalize bQ u q true = z' at *
         have Hz2 := hid hz2; have Hz3 := hid hz3
         obtain ⟨_, _, _, _, _, _, _, _, r5, _⟩ := Hbu.out.go hb5
         have hg5 := (al r5)
         obtain ⟨q0, q1, q2, q3, q4, q5, qf, qf0, qf1, qf2, qf3, qf4, qf5⟩ := bm r5
         have Hb5 := hid (Hb.out.trans (hb5.mono (by have := Hb.out.size; omega))); have HW5 := hid hw5; have HB5 := hid hb5
         clear r5 hb5 hw5 qf k0 k1 k2 k3 k4 k5
         clear hz2 hz3
         go_wp2_with fail
         go_roundw
         case rel => exact ⟨q + 1, z', by omega, by go_num, Hz2.out, Hz3.out, Hbu.out.put HB5.out HnR.out HW5.out, (by (repeat (refine Below.setCell ?_ (by dsimp only; omega) _)); exact Hb5.out)⟩
         case measure => simp [intOf]; omega
        ·obtain rfl : q = 3 := by omega
         go_wp2_with fail
         go_roundw
         case rel => exact ⟨j + 1, u, by omega, by go_num, by rw [← Hc.out, Hu4.out, ← Hu.out]; rfl, Hvu.out, Hbu.out, Hb.out⟩
         case measure => simp [intOf]; omega
   ·obtain rfl : y = dF x := by rw [← hcy, show 60 - j = 0 by omega]; rfl
    have hb3' := hid (HbW.out.trans (Hb.out.mono (by omega)))
    have E3 := hid ((Hb.out.block (w.heap.size + 1) (by omega)).trans EW.out)
    clear hcy Hb HbW EW Hby
    go_wp2_with fail
    generalize dF x = y at *
    refine (dQ y _ _ Rw.out.wdB Hvy.out.sm).mono ?_
    rintro e' w10 ⟨um, us, un, ug, rfl, n1, hb10⟩
    obtain ⟨B1, d1, B2, d2, B3, d3, B4, d4, rfl, rfl, rfl, rfl⟩ := aD n1
    have z29 := (al E3.out)
    obtain ⟨q0, q1, q2, q3, q4, q5, qf, qf0, qf1, qf2, qf3, qf4, qf5⟩ := bm (ab hb10 E3.out)
    have z2' : w.heap.size + 1 < w10.heap.size := by have := hb10.size; omega
    have N1 := hid n1; have Hc10 := hid (bt hb3'.out hb10)
    clear n1 hb10 qf hb3' k0 k1 k2 k3 k4 k5
    go_wp2_with fail
    refine bodyPost_ret (v := .agg #[.slice B1 y.mixes.length d1, .slice B2 y.sent.length d2, .slice B3 y.net.length d3, .slice B4 y.got.length d4, .int .i64 y.made, .int .i64 y.lost]) (by simp [results, Tryz.results29, go_sem, q0, q1, q2, q3, q4, q5]) rfl ⟨_, _, _, _, rfl, aG.base (B := wr.heap.size) ?_ (by omega), ?_⟩
    ·repeat (refine aG.set ?_ (by dsimp only; omega))
     exact N1.out
    ·repeat (refine Below.setCell ?_ (by dsimp only; omega) _)
     exact Hc10.out
end Go.Proofs.YtolgbefghbddeaaGreatDoor
