/- Texts that the last file leans on (part 29). -/
import Derived.Test.YtfaeojmndaplcaaGreatDoorM27
import Derived.Test.YtfaeojmndaplcaaGreatDoorM28
set_option linter.unusedVariables false
set_option linter.unusedSimpArgs false
set_option maxHeartbeats 4000000
set_option maxRecDepth 100000
namespace Go.Proofs.YtfaeojmndaplcaaGreatDoor
open Go Go.RowKit
theorem Rn.nets {B b : Nat} {w : World} {x : Wd} {F : List Nat} (h : Rn B w b 0 x F) : ∃ A c A' c', w.cell? ⟨b, 0, none⟩ = some (.slice A x.mixes.length c) ∧ w.cell? ⟨b, 2, none⟩ = some (.slice A' x.net.length c') ∧ b < w.heap.size := by
 obtain ⟨vm, vs, vn, vg, Fm, Fs, Fn, Fg, hr, rfl⟩ := h
 have hS := hr.wdR (P := fun _ => True) (fun _ _ => trivial)
 obtain ⟨A, c, rfl, _⟩ := hS.un.1.slB.form
 obtain ⟨A', c', rfl, _⟩ := hS.un.2.2.1.slB.form
 exact ⟨A, c, A', c', by simpa using hr.c0, by simpa using hr.c2, hr.blk⟩
theorem Rn.nl {B b : Nat} {w : World} {x : Wd} {F : List Nat} (h : Rn B w b 0 x F) : nlB b w = x.net.length := by
 obtain ⟨A, c, A', c', _, h2, _⟩ := h.nets
 unfold nlB
 rw [h2]
theorem Rn.put {B g : Nat} {w W : World} {x : Wd} {um us un ug : Value} (n : aJ oWd B w [um, us, un, ug, .int .i64 x.made, .int .i64 x.lost] x) (hg : g = w.heap.size) (hB : B ≤ g)
  (h : w.alloc (.cells #[um, us, un, ug, .int .i64 x.made, .int .i64 x.lost] 33) = W) :
  (∃ F, Rn B W g 0 x F) ∧ Below w.heap.size w W ∧ g < W.heap.size := by
 obtain ⟨Fm, Fs, Fn, Fg, h1, h2, h3, h4, n1, n2⟩ := fE n
 have l1 := gy.lt h1; have l2 := cX.lt h2; have l3 := gA.lt h3; have l4 := cX.lt h4
 subst hg
 subst h
 have hb := ab w (.cells #[um, us, un, ug, .int .i64 x.made, .int .i64 x.lost] 33)
 obtain ⟨q0, q1, q2, q3, q4, q5, qf⟩ := aC (heap_alloc_new w (.cells #[um, us, un, ug, .int .i64 x.made, .int .i64 x.lost] 33))
 have hlt : ∀ c ∈ Fm ++ (Fs ++ (Fn ++ Fg)), c < w.heap.size := fun c hc => by
  simp only [List.mem_append] at hc
  rcases hc with h | h | h | h
  ·exact l1 c h
  ·exact l2 c h
  ·exact l3 c h
  ·exact l4 c h
 refine ⟨⟨_, um, us, un, ug, Fm, Fs, Fn, Fg, ⟨q0, q1, q2, q3, q4, q5, qf, gy.keep h1 (fun c hc => hb.block c (l1 c hc)), cX.keep h2 (fun c hc => hb.block c (l2 c hc)), gA.keep h3 (fun c hc => hb.block c (l3 c hc)), cX.keep h4 (fun c hc => hb.block c (l4 c hc)), List.nodup_cons.2 ⟨fun hm => by have := hlt _ hm; omega, n1⟩, fun c hc => ?_⟩, rfl⟩, hb, by simp only [World.size_alloc]; omega⟩
 rcases List.mem_cons.1 hc with rfl | hc
 ·exact hB
 ·exact n2 c hc
theorem eN.next {B b : Nat} {w0 w w' : World} {F : List Nat} {y : Wd} {e : Ending} (h : eN B w b 0 F [] y e w') (hr : ∃ x, Rn B w b 0 x F) (h0 : Below B w0 w) (hB : B ≤ w.heap.size) : e = .returned (.tuple #[]) ∧ (∃ F', Rn B w' b 0 y F') ∧ Below B w0 w' := by
 obtain ⟨he, F', hr', _, ht, _⟩ := h
 obtain ⟨x, vm, vs, vn, vg, Fm, Fs, Fn, Fg, hr, rfl⟩ := hr
 exact ⟨he, ⟨F', hr'⟩, h0.trans (ht.below hB hr.lo)⟩
theorem oV (B b : Nat) (x : Wd) (F : List Nat) (w : World) (h : Rn B w b 0 x F) : Calls Tryz.prog 199 #[.pointer (some ⟨b, 0, none⟩)] w (ok (gY x) w.heap.size w) := by
 obtain ⟨A1, c1, A3, c3, k0, k2, hbw⟩ := h.nets
 obtain ⟨vm, vs, vn, vg, Fm, Fs, Fn, Fg, hr, rfl⟩ := h
 have hS := (hr.wdR (P := fun _ => True) (fun _ _ => trivial)).un.1.slB
 obtain ⟨_, _, _, _, _, m3⟩ := hS.form
 obtain rfl : vm = .slice A1 x.mixes.length c1 := Option.some.inj ((by simpa using hr.c0.symm : some vm = _).trans k0)
 have HS := hid hS
 clear hr hS
 go_enter Tryz.func199, Tryz.ntmps199
 go_wp2_with fail
 go_loopw [10] (fun i wr => ∃ k : Nat, k ≤ x.mixes.length ∧ i = .int .i64 k ∧ aO (x.mixes.take k) = 0 ∧ Below w.heap.size w wr) (fun i _ => x.mixes.length - (intOf i).toNat)
 case atStart => exact ⟨0, by omega, rfl, by simp [aO], zm⟩
 case round =>
  obtain ⟨k, hk, rfl, hq, hb⟩ := hrel
  have Hb := hid hb
  by_cases hlt : k < x.mixes.length
  ·have Hlt := hid hlt
   obtain ⟨y, hx⟩ := ai hlt
   obtain ⟨bb, o, us, up, rfl, _, _, s1, s2, q0, q1, q2⟩ := (HS.out.go hb).mx hx
   obtain ⟨Aa, ca, rfl, _, _, _⟩ := s1.form
   obtain ⟨Ab, cb, rfl, _, _, _⟩ := s2.form
   have ht : aO (x.mixes.take (k + 1)) = y.pool.length := by rw [aK hx, fa, hq]; simp
   have hle := jd x.mixes (k + 1)
   have Ht := hid ht
   clear hx s1 s2 ht hb
   by_cases hp : 0 < y.pool.length
   ·have i1 : decide ((0 : Int) < (y.pool.length : Int)) = true := decide_eq_true (by omega)
    have Hbz := hid (show gY x = true by unfold gY; exact decide_eq_true (by have := Ht.out; omega))
    clear hle
    go_wp2
    go_ret
    exact ⟨ah (by rw [Hbz.out]), Hb.out.trans (ab _ _ |>.mono Hb.out.size)⟩
   ·have i1 : decide ((0 : Int) < (y.pool.length : Int)) = false := decide_eq_false (by omega)
    have Hp0 := hid (show y.pool.length = 0 by omega)
    clear hle
    go_wp2
    go_roundw
    case rel => exact ⟨k + 1, Hlt.out, by go_num, by rw [Ht.out, Hp0.out], bt Hb.out (ab _ _)⟩
    case measure => have := Hlt.out; simp [intOf]; omega
  ·have Hq := hid (show x.mixes.take k = x.mixes from aV hk hlt)
   have k2' := (hb.cell hbw).trans k2
   have hbw' : b < wr.heap.size := Nat.lt_of_lt_of_le hbw hb.size
   clear k2 hb
   go_wp2
   go_ret
   refine ⟨ah ?_, Hb.out⟩
   rw [Hq.out] at hq
   simp only [gY, hq, Nat.add_zero]
   all_goals exact decide_eq_decide.2 (by omega)
theorem rM (x : Wd) (v : Value) (w : World) (hg : bx w) (h : WdB w.heap.size w v x) (hgl : x.got.length ≤ 1073741824) :
  Calls Tryz.prog 146 #[v] w (uY w (jP x)) := by
 have hw0 : 0 < w.heap.size := World.block_lt_of_cell? _ _ hg
 have H := hid (fun (wx : World) (hb : Below w.heap.size w wx) => h.go hb)
 have Hg := hid (fun (wx : World) (hb : Below w.heap.size w wx) => hg.go hb)
 obtain ⟨A1, c1, A2, c2, A3, c3, A4, c4, rfl⟩ := (WdR.of_wdB (R := fun _ => True) h (fun _ _ => trivial)).form
 clear h hg
 obtain ⟨z, hz⟩ : ∃ z, z = jP x := ⟨_, rfl⟩
 rw [← hz]
 have Hz := hid hz
 clear hz
 go_enter Tryz.func146, Tryz.ntmps146
 go_wp2_with fail
 refine (qi x _ _ (H.out _ (by repeat (first | exact zm | apply ae | refine bA ?_ (by omega) | refine Below.setCell ?_ (by first | omega | simp <;> omega) _))) hgl).mono ?_
 rintro e' w1 ⟨rfl, hb1⟩
 obtain ⟨e0, e1⟩ := dJ hb1
 have hc1 : Below w.heap.size w w1 := bt (by repeat (first | exact zm | apply ae | refine bA ?_ (by omega) | refine Below.setCell ?_ (by first | omega | simp <;> omega) _)) hb1
 obtain ⟨k0, k1, k2, k3, k4, k5, _⟩ := aC e0
 have z1 : w.heap.size + 1 < w1.heap.size := (zn e1)
 have z0 : w.heap.size < w1.heap.size := by omega
 cases hv : wdB x with
 | false =>
  obtain rfl := Hz.out.trans (show jP x = zWd by unfold jP; rw [hv]; rfl)
  obtain ⟨q0, q1, q2, q3, q4, q5, qf, qf0, qf1, qf2, qf3, qf4, qf5⟩ := bs e1
  have Hc1 := hid hc1
  clear Hz hb1 hc1 e0 e1 qf hv
  go_wp2_with fail
  refine bodyPost_ret (v := .agg #[.slice none 0 0, .slice none 0 0, .slice none 0 0, .slice none 0 0, .int .i64 0, .int .i64 0]) (by simp [results, Tryz.results146, go_sem, q0, q1, q2, q3, q4, q5]) rfl ⟨_, _, _, _, rfl, pN _ _, ?_⟩
  repeat (refine Below.setCell ?_ (by dsimp only; omega) _)
  exact Hc1.out
 | true =>
  have hx := gV.1 hv
  obtain rfl := Hz.out.trans (show jP x = cK x by unfold jP; rw [hv]; rfl)
  have Hx := hid hx; have Hc1 := hid hc1; have E1 := hid e1
  clear Hz hb1 hc1 e0 e1 hv hx
  go_wp2_with fail
  refine (lK x _ _ (H.out _ Hc1.out) Hx.out).mono ?_
  rintro e' w2 ⟨um, us, un, ug, rfl, n1, hb2⟩
  obtain ⟨B1, d1, B2, d2, B3, d3, B4, d4, rfl, rfl, rfl, rfl⟩ := cQ n1
  have N1 := hid n1; have Hb2 := hid hb2
  have z2 : w1.heap.size ≤ w2.heap.size := hb2.size
  clear n1 hb2 k0 k1 k2 k3 k4 k5 z0
  go_upto_region 4 with fail
  generalize hgw : World.alloc w2 _ = W1
  obtain ⟨g, hg⟩ : ∃ g, g = w2.heap.size := ⟨_, rfl⟩
  rw [← hg]
  obtain ⟨hrn, hbW, hgW⟩ := Rn.put (B := w1.heap.size) N1.out hg (by omega) hgw
  have Hrn := hid hrn; have HbW := hid (Hb2.out.trans (hbW.mono (by omega)))
  clear hrn hbW hgw hg N1 Hb2 z2 hgW
  go_wp2_with fail
  go_loopw [4] (fun i wr => ∃ (j : Nat) (y : Wd), j ≤ 60 ∧ i = .int .i64 j ∧ gZ (60 - j) y = cK x ∧ VD 0 y ∧ (∃ F, Rn w1.heap.size wr g 0 y F) ∧ Below w1.heap.size w1 wr) (fun i _ => 60 - (intOf i).toNat)
  case atStart => exact ⟨0, x, by omega, rfl, rfl, Hx.out, Hrn.out, HbW.out⟩
  case round =>
   obtain ⟨j, y, hj, rfl, hcy, hvy, ⟨F, hr⟩, hb⟩ := hrel
   have Hr := hid hr; have Hb := hid hb; have Hvy := hid hvy
   clear hr hb hvy Hx Hrn HbW
   by_cases hlt : j < 60
   ·cases hz : gY y with
    | false =>
     obtain rfl : y = cK x := by rw [← hcy, mg _ hz]
     clear hcy
     go_wp2_with fail
     refine (oV _ _ (cK x) F _ Hr.out).mono ?_
     rw [hz]
     rintro e w3 ⟨rfl, hb3⟩
     have Hr3 := hid (Hr.out.go hb3)
     have hc3 := hid (Hb.out.trans (hb3.mono Hb.out.size))
     clear hb3 hz Hb Hr
     obtain ⟨um, us, un, ug, k0, k1, k2, k3, k4, k5, hgr, n9⟩ := Hr3.out.new
     simp only [Nat.zero_add] at k0 k1 k2 k3 k4 k5
     obtain ⟨D1, f1, D2, f2, D3, f3, D4, f4, rfl, rfl, rfl, rfl⟩ := cQ n9
     have e3 := (hc3.out.block (w.heap.size + 1) z1).trans E1.out
     have z29 := (zn e3)
     obtain ⟨q0, q1, q2, q3, q4, q5, qf, qf0, qf1, qf2, qf3, qf4, qf5⟩ := bs e3
     have N9 := hid n9; have Hc9 := hid (Hc1.out.trans (hc3.out.mono (by omega)))
     clear n9 e3 qf hc3 Hr3
     generalize cK x = y at *
     go_wp2_with fail
     refine bodyPost_ret (v := .agg #[.slice D1 y.mixes.length f1, .slice D2 y.sent.length f2, .slice D3 y.net.length f3, .slice D4 y.got.length f4, .int .i64 y.made, .int .i64 y.lost]) (by simp [results, Tryz.results146, go_sem, q0, q1, q2, q3, q4, q5]) rfl ⟨_, _, _, _, rfl, aJ.base (B := w1.heap.size) ?_ (by omega), ?_⟩
     ·repeat (refine aJ.set ?_ (by dsimp only; omega))
      exact N9.out
     ·repeat (refine Below.setCell ?_ (by dsimp only; omega) _)
      exact Hc9.out
    | true =>
     have hc1 : gZ (60 - (j + 1)) (pI y) = cK x := by rw [← hcy, show 60 - j = (60 - (j + 1)) + 1 by omega]; simp only [gZ, hz, if_pos]
     have Hc := hid hc1
     clear hc1 hcy
     go_wp2_with fail
     refine (oV _ _ y F _ Hr.out).mono ?_
     rw [hz]
     rintro e w3 ⟨rfl, hb3⟩
     have Hr3 := hid (Hr.out.go hb3)
     have Hc3 := hid (Hb.out.trans (hb3.mono Hb.out.size))
     clear hb3 hz Hb Hr
     obtain ⟨wo, rfl⟩ : ∃ wo : World, wo = wr := ⟨_, rfl⟩
     go_wp2_with fail
     go_loopw [23] (fun _ wr => ∃ z : Wd, d9 z.net.length z = d9 y.net.length y ∧ VD 0 z ∧ (∃ F, Rn w1.heap.size wr g 0 z F) ∧ Below w1.heap.size w1 wr) (fun _ wr => nlB g wr)
     case atStart => exact ⟨y, rfl, Hvy.out, ⟨F, Hr3.out⟩, Hc3.out⟩
     case round =>
      obtain ⟨z, hh, hvz, ⟨F2, hr⟩, hb⟩ := hrel
      have Hr := hid hr; have Hb := hid hb; have Hvz := hid hvz; have Hh := hid hh
      obtain ⟨Am, cm, An, cn, k0, k2, hgr⟩ := hr.nets
      clear hr hb hvz hh
      by_cases hp : 0 < z.net.length
      ·have i1 : decide ((0 : Int) < (z.net.length : Int)) = true := decide_eq_true (by omega)
       go_wp2_with fail
       refine (mW _ _ _ z F2 ⟨2, 0, 0, 0⟩ _ Hr.out Hvz.out Hb.out.size (by omega) (Hg.out _ (Hc1.out.trans (Hb.out.mono (by omega))))).mono ?_
       intro e w5 h5
       obtain ⟨rfl, ⟨F5, hr5⟩, hb5⟩ := h5.next ⟨z, Hr.out⟩ Hb.out Hb.out.size
       have Hr5 := hid hr5; have Hb5 := hid hb5
       clear h5 hr5 hb5 k0 k2
       go_wp2_with fail
       go_roundw
       case rel => exact ⟨_, by rw [oZ hp, ← Hh.out, show z.net.length = (z.net.length - 1) + 1 by omega]; rfl, Hvz.out.pkt _, ⟨F5, Hr5.out⟩, Hb5.out⟩
       case measure => rw [Hr5.out.nl, Hr.out.nl, oZ hp]; omega
      ·have i1 : decide ((0 : Int) < (z.net.length : Int)) = false := decide_eq_false (by omega)
       have Hu := hid (show d9 y.net.length y = z by rw [← Hh.out, show z.net.length = 0 by omega]; rfl)
       have hml : (z.mixes.length : Int) = 3 := by rw [cP Hvz.out.mix]; rfl
       rw [cP Hvz.out.mix] at k0
       clear hml
       obtain ⟨wi, rfl⟩ : ∃ wi : World, wi = wr := ⟨_, rfl⟩
       go_wp2_with fail
       go_loopw [28] (fun i wr => ∃ (q : Nat) (u : Wd), q ≤ 3 ∧ i = .int .i64 q ∧ u = flN q z ∧ VD 0 u ∧ (∃ F, Rn w1.heap.size wr g 0 u F) ∧ Below w1.heap.size w1 wr) (fun i _ => 3 - (intOf i).toNat)
       case atStart => exact ⟨0, z, by omega, rfl, rfl, Hvz.out, ⟨F2, Hr.out⟩, Hb.out⟩
       case round =>
        obtain ⟨q, u, hq, rfl, hu, hvu, ⟨F4, hr⟩, hb⟩ := hrel
        have Hr4 := hid hr; have Hb4 := hid hb; have Hvu := hid hvu; have Hu4 := hid hu
        clear hr hb hvu hu k0 k2
        by_cases hq3 : q < 3
        ·go_wp2_with fail
         refine (sU _ _ _ u F4 q true _ Hr4.out Hvu.out hq3 Hb4.out.size).mono ?_
         intro e w5 h5
         obtain ⟨rfl, ⟨F5, hr5⟩, hb5⟩ := h5.next ⟨u, Hr4.out⟩ Hb4.out Hb4.out.size
         have Hr5 := hid hr5; have Hb5 := hid hb5
         clear h5 hr5 hb5
         go_wp2_with fail
         go_roundw
         case rel => exact ⟨q + 1, _, by omega, by go_num, by rw [Hu4.out]; rfl, Hvu.out.flush hq3 true, ⟨F5, Hr5.out⟩, Hb5.out⟩
         case measure => simp [intOf]; omega
        ·obtain rfl : q = 3 := by omega
         go_wp2_with fail
         go_roundw
         case rel => exact ⟨j + 1, u, by omega, by go_num, by rw [← Hc.out, Hu4.out, ← Hu.out]; rfl, Hvu.out, ⟨F4, Hr4.out⟩, Hb4.out⟩
         case measure => simp [intOf]; omega
   ·obtain rfl : y = cK x := by rw [← hcy, show 60 - j = 0 by omega]; rfl
    have Hr3 := Hr
    have hc3 := Hb
    clear hcy Hb Hr
    obtain ⟨um, us, un, ug, k0, k1, k2, k3, k4, k5, hgr, n9⟩ := Hr3.out.new
    simp only [Nat.zero_add] at k0 k1 k2 k3 k4 k5
    obtain ⟨D1, f1, D2, f2, D3, f3, D4, f4, rfl, rfl, rfl, rfl⟩ := cQ n9
    have e3 := (hc3.out.block (w.heap.size + 1) z1).trans E1.out
    have z29 := (zn e3)
    obtain ⟨q0, q1, q2, q3, q4, q5, qf, qf0, qf1, qf2, qf3, qf4, qf5⟩ := bs e3
    have N9 := hid n9; have Hc9 := hid (Hc1.out.trans (hc3.out.mono (by omega)))
    clear n9 e3 qf hc3 Hr3
    generalize cK x = y at *
    go_wp2_with fail
    refine bodyPost_ret (v := .agg #[.slice D1 y.mixes.length f1, .slice D2 y.sent.length f2, .slice D3 y.net.length f3, .slice D4 y.got.length f4, .int .i64 y.made, .int .i64 y.lost]) (by simp [results, Tryz.results146, go_sem, q0, q1, q2, q3, q4, q5]) rfl ⟨_, _, _, _, rfl, aJ.base (B := w1.heap.size) ?_ (by omega), ?_⟩
    ·repeat (refine aJ.set ?_ (by dsimp only; omega))
     exact N9.out
    ·repeat (refine Below.setCell ?_ (by dsimp only; omega) _)
     exact Hc9.out
end Go.Proofs.YtfaeojmndaplcaaGreatDoor
