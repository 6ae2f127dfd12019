/- Texts that the last file leans on (part 2). -/
import Derived.Test.YtfaeojmndaplcaaGreatDoorM0
import Derived.Test.YtfaeojmndaplcaaGreatDoorM1
set_option linter.unusedVariables false
set_option linter.unusedSimpArgs false
set_option maxHeartbeats 4000000
set_option maxRecDepth 100000
namespace Go.Proofs.YtfaeojmndaplcaaGreatDoor
open Go Go.RowKit
theorem tD {x : Wd} (h : bu x.mixes = false) : wdB x = false := by unfold wdB; rw [h]; rfl
theorem x9 {x : Wd} (h : ¬ x.sent.length ≤ 12) : wdB x = false := by unfold wdB; rw [decide_eq_false h]; simp
theorem ya {x : Wd} (h : ¬ x.net.length ≤ 10) : wdB x = false := by unfold wdB; rw [decide_eq_false h]; simp
theorem yb {x : Wd} (h : ¬ x.made ≤ 999) : wdB x = false := by unfold wdB; rw [decide_eq_false h]; simp
theorem yc {x : Wd} (h : win x.lost 0 x.made = false) : wdB x = false := by unfold wdB; rw [h]; simp
theorem tE {x : Wd} (h : kZ x.sent = false) : wdB x = false := by unfold wdB; rw [h]; simp
theorem yd {x : Wd} (h : nE x.got = false) : wdB x = false := by unfold wdB; rw [h]; simp
theorem tF {x : Wd} (h : lR x.net = false) : wdB x = false := by unfold wdB; rw [h]; simp
theorem sI {x : Wd} (h1 : bu x.mixes = true) (h2 : x.sent.length ≤ 12) (h3 : x.net.length ≤ 10) (h4 : x.made ≤ 999) (h5 : win x.lost 0 x.made = true) (h6 : kZ x.sent = true) (h7 : nE x.got = true) (h8 : lR x.net = true) : wdB x = decide (dH x = x.made) := by
 unfold wdB; rw [h1, h5, h6, h7, h8, decide_eq_true h2, decide_eq_true h3, decide_eq_true h4]; rfl
theorem lk {w w' : World} {cs : Array Value} {e i : Nat} {v : Value} (hb : Below (w.alloc (.cells cs e)).heap.size (w.alloc (.cells cs e)) w') (h : cs[i]? = some v) : w'.cell? ⟨w.heap.size, i, none⟩ = some v :=
 (hb.cell (p := ⟨w.heap.size, i, none⟩) (by simp)).trans (bZ w cs e i v h)
theorem oR {w1 : World} {n : Nat} {a b c d e f : Value} (hz : n < w1.heap.size) (k0 : w1.cell? ⟨n, 0, none⟩ = some a) (k1 : w1.cell? ⟨n, 1, none⟩ = some b) (k2 : w1.cell? ⟨n, 2, none⟩ = some c) (k3 : w1.cell? ⟨n, 3, none⟩ = some d) (k4 : w1.cell? ⟨n, 4, none⟩ = some e) (k5 : w1.cell? ⟨n, 5, none⟩ = some f)
  (wx : World) (hb : Below w1.heap.size w1 wx) : wx.cell? ⟨n, 0, none⟩ = some a ∧ wx.cell? ⟨n, 1, none⟩ = some b ∧ wx.cell? ⟨n, 2, none⟩ = some c ∧ wx.cell? ⟨n, 3, none⟩ = some d ∧ wx.cell? ⟨n, 4, none⟩ = some e ∧ wx.cell? ⟨n, 5, none⟩ = some f :=
 ⟨(hb.cell (p := ⟨n, 0, none⟩) hz).trans k0, (hb.cell (p := ⟨n, 1, none⟩) hz).trans k1, (hb.cell (p := ⟨n, 2, none⟩) hz).trans k2, (hb.cell (p := ⟨n, 3, none⟩) hz).trans k3, (hb.cell (p := ⟨n, 4, none⟩) hz).trans k4, (hb.cell (p := ⟨n, 5, none⟩) hz).trans k5⟩
theorem fa (l : List Mx) (m : Mx) : aO (l ++ [m]) = aO l + m.pool.length := by simp [aO]
theorem ng {l : List Mx} (h : ∀ m ∈ l, m.pool.length ≤ 5) : aO l ≤ 5 * l.length := by
 induction l with
 | nil => simp [aO]
 | cons m l ih =>
  have h1 := ih (fun m hm => h m (List.mem_cons_of_mem _ hm))
  have h2 := h m List.mem_cons_self
  simp only [aO, List.map_cons, List.sum_cons, List.length_cons] at *
  omega
theorem cP {l : List Mx} (h : bu l = true) : l.length = 3 := by
 unfold bu at h; rw [Bool.and_eq_true, decide_eq_true_eq] at h; exact h.1
theorem iV {l : List Mx} (h : bu l = true) {k : Nat} {m : Mx} (hm : l[k]? = some m) : mxB m = true ∧ m.sec = cS k := by
 unfold bu at h; rw [Bool.and_eq_true] at h
 have := List.all_eq_true.1 h.2 k (List.mem_range.2 (List.getElem?_eq_some_iff.1 hm).1)
 rw [kj hm, Bool.and_eq_true, decide_eq_true_eq] at this; exact this
theorem mQ {m : Mx} (h : mxB m = true) : m.pool.length ≤ 5 := by
 unfold mxB at h; simp only [Bool.and_eq_true, decide_eq_true_eq] at h; exact h.2.2.1
theorem sj {l : List Mx} (h : bu l = true) : ∀ m ∈ l, m.pool.length ≤ 5 := fun m hm => by
 obtain ⟨k, hk⟩ := List.mem_iff_getElem?.1 hm
 exact mQ (iV h hk).1
theorem qi (x : Wd) (v : Value) (w : World) (h : WdB w.heap.size w v x) (hgl : x.got.length ≤ 1073741824) : Calls Tryz.prog 47 #[v] w (ok (wdB x) w.heap.size w) := by
 obtain ⟨vm, vs, vn, vg, rfl, hm, hs, hn, hg⟩ := h
 obtain ⟨A1, c1, rfl, m1, m2, m3⟩ := hm.form
 obtain ⟨A2, c2, rfl, s1, s2, s3⟩ := hs.form
 obtain ⟨A3, c3, rfl, n1, n2, n3⟩ := hn.form
 obtain ⟨A4, c4, rfl, t1, t2, t3⟩ := hg.form
 clear m2 s2 n2 t2
 go_enter Tryz.func47, Tryz.ntmps47
 go_wp2_with fail
 refine (pE _ x.mixes _ (hm.go (ab _ _))).mono ?_
 rintro e w1 ⟨rfl, hb1⟩
 have hB : Below w.heap.size w w1 := bt (ab _ _) hb1
 have k0 := (hb1.cell (p := ⟨w.heap.size, 0, none⟩) (by simp)).trans (bZ w _ _ 0 _ rfl)
 have k1 := (hb1.cell (p := ⟨w.heap.size, 1, none⟩) (by simp)).trans (bZ w _ _ 1 _ rfl)
 have k2 := (hb1.cell (p := ⟨w.heap.size, 2, none⟩) (by simp)).trans (bZ w _ _ 2 _ rfl)
 have k3 := (hb1.cell (p := ⟨w.heap.size, 3, none⟩) (by simp)).trans (bZ w _ _ 3 _ rfl)
 have k4 := (hb1.cell (p := ⟨w.heap.size, 4, none⟩) (by simp)).trans (bZ w _ _ 4 _ rfl)
 have k5 := (hb1.cell (p := ⟨w.heap.size, 5, none⟩) (by simp)).trans (bZ w _ _ 5 _ rfl)
 have hz : w.heap.size < w1.heap.size := Nat.lt_of_lt_of_le (by simp) hb1.size
 have Hm := hid (hm.go hB); have Hs := hid (hs.go hB); have Hn := hid (hn.go hB); have Hg := hid (hg.go hB)
 have HB := hid hB
 have HK := hid (oR hz k0 k1 k2 k3 k4 k5)
 clear hm hs hn hg hB hb1
 cases g1 : bu x.mixes with
 | false =>
  have Hf := hid (tD g1)
  go_wp2
  go_ret
  exact ⟨ah Hf.out.symm, HB.out⟩
 | true =>
 by_cases g2 : x.sent.length ≤ 12
 ·by_cases g3 : x.net.length ≤ 10
  ·by_cases g4 : x.made ≤ 999
   ·cases g5 : win x.lost 0 x.made with
    | false =>
     have Hf := hid (yc g5)
     go_wp2_with (go_at_call 78; refine (a8 _ _ _ _).mono ?_; rintro e w' ⟨rfl, rfl⟩)
     go_ret
     exact ⟨ah Hf.out.symm, HB.out⟩
    | true =>
     have l0 := (aH.1 g5).1; have l1 := (aH.1 g5).2
     go_wp2_with (go_at_call 78; refine (a8 _ _ _ _).mono ?_; rintro e w' ⟨rfl, rfl⟩)
     have Hml := hid (cP g1)
     have Hmp := hid (sj g1)
     have HG := hid (sI (x := x) g1 g2 g3 g4 g5)
     clear k0 k1 k2 k3 k4 k5
     go_loopw [44] (fun i wr => ∃ k : Nat, k ≤ x.sent.length ∧ i = .int .i64 k ∧ (∀ j, j < k → je x.sent j = true) ∧ Below w1.heap.size w1 wr) (fun i _ => x.sent.length - (intOf i).toNat)
     case atStart => exact ⟨0, by omega, rfl, fun j hj => absurd hj (by omega), zm⟩
     case round =>
      obtain ⟨k, hk, rfl, hall, hb⟩ := hrel
      have Hall := hid hall; have Hb := hid hb
      have r2 := Hs.out.go hb
      clear hall hb
      by_cases hlt : k < x.sent.length
      ·obtain ⟨l, hx⟩ := ai hlt
       obtain ⟨b, o, rfl, _, _, q0, q1, q2⟩ := r2.lt3 hx
       have Hx := hid hx
       clear hx r2
       cases hw : ltB l with
       | false =>
        have Hf := hid (tE (dq hlt (by rw [gS Hx.out, hw]; rfl)))
        go_wp2_with (go_at_call 79; refine (ft l _).mono ?_; rw [hw]; rintro e w' ⟨rfl, hb5⟩; have kk := lk (i := 2) hb5 rfl)
        go_ret
        exact ⟨ah Hf.out.symm, bt HB.out (bt Hb.out (bt (ab _ _) hb5))⟩
       | true =>
        by_cases hn : l.num = (k : Int)
        ·have hnB : (l.num != (k : Int)) = false := by simp [hn]
         have Hf := hid (show je x.sent k = true from by rw [gS Hx.out, hw, decide_eq_true hn]; rfl)
         clear hn
         go_wp2_with (go_at_call 79; refine (ft l _).mono ?_; rw [hw]; rintro e w' ⟨rfl, hb5⟩; have kk := lk (i := 2) hb5 rfl)
         go_roundw
         case rel => exact ⟨k + 1, by omega, by go_num, fun j hj => by rcases Nat.lt_or_ge j k with h | h; exact Hall.out j h; rw [show j = k from by omega]; exact Hf.out, bt Hb.out (bt (ab _ _) hb5)⟩
         case measure => simp [intOf]; omega
        ·have hnB : (l.num != (k : Int)) = true := by simp [hn]
         have Hf := hid (tE (dq hlt (by rw [gS Hx.out, hw, decide_eq_false hn]; rfl)))
         clear hn
         go_wp2_with (go_at_call 79; refine (ft l _).mono ?_; rw [hw]; rintro e w' ⟨rfl, hb5⟩; have kk := lk (i := 2) hb5 rfl)
         go_ret
         exact ⟨ah Hf.out.symm, bt HB.out (bt Hb.out (bt (ab _ _) hb5))⟩
      ·have Hsent := hid (show kZ x.sent = true from fg fun j hj => Hall.out j (by omega))
       obtain ⟨k0, k1, k2, k3, k4, k5⟩ := HK.out _ Hb.out
       obtain ⟨wA, rfl⟩ : ∃ wA : World, wA = wr := ⟨_, rfl⟩
       clear Hall r2
       go_wp2
       clear k0 k1 k2 k3 k4 k5
       have HB := hid (bt HB.out Hb.out)
       have HK := hid (fun (wx : World) (hb : Below wA.heap.size wA wx) => HK.out wx (bt Hb.out hb))
       have Hm := hid (Hm.out.go Hb.out); have Hn := hid (Hn.out.go Hb.out); have Hg := hid (Hg.out.go Hb.out)
       clear Hb Hs
       go_loopw [62] (fun i wr => ∃ k : Nat, k ≤ x.got.length ∧ i = .int .i64 k ∧ nE (x.got.take k) = true ∧ Below wA.heap.size wA wr) (fun i _ => x.got.length - (intOf i).toNat)
       case atStart => exact ⟨0, by omega, rfl, rfl, zm⟩
       case round =>
        obtain ⟨k2, hk2, rfl, hall, hb⟩ := hrel
        have Hall := hid hall; have Hb := hid hb
        have r2 := Hg.out.go hb
        clear hall hb
        by_cases hlt2 : k2 < x.got.length
        ·obtain ⟨l, hx⟩ := ai hlt2
         obtain ⟨b, o, rfl, _, _, q0, q1, q2⟩ := r2.lt3 hx
         have Hx := hid hx
         clear hx r2
         cases hw : ltB l with
         | false =>
          have Hf := hid (yd (fK Hx.out hw))
          go_wp2_with (go_at_call 79; refine (ft l _).mono ?_; rw [hw]; rintro e w' ⟨rfl, hb5⟩)
          go_ret
          exact ⟨ah Hf.out.symm, bt HB.out (bt Hb.out (bt (by first | exact zm | exact ab _ _) hb5))⟩
         | true =>
          go_wp2_with (go_at_call 79; refine (ft l _).mono ?_; rw [hw]; rintro e w' ⟨rfl, hb5⟩)
          go_roundw
          case rel => exact ⟨k2 + 1, by omega, by go_num, by rw [aK Hx.out]; exact dV Hall.out hw, bt Hb.out (bt (by first | exact zm | exact ab _ _) hb5)⟩
          case measure => simp [intOf]; omega
        ·have Hgot := hid (show nE x.got = true from by rw [← aV hk2 hlt2]; exact Hall.out)
         obtain ⟨k0, k1, k2c, k3, k4, k5⟩ := HK.out _ Hb.out
         obtain ⟨wC, rfl⟩ : ∃ wC : World, wC = wr := ⟨_, rfl⟩
         clear Hall r2
         go_wp2
         clear k0 k1 k2c k3 k4 k5
         have HB := hid (bt HB.out Hb.out)
         have HK := hid (fun (wx : World) (hb : Below wC.heap.size wC wx) => HK.out wx (bt Hb.out hb))
         have Hm := hid (Hm.out.go Hb.out); have Hn := hid (Hn.out.go Hb.out)
         clear Hb Hg
         go_loopw [83] (fun i wr => ∃ k : Nat, k ≤ x.net.length ∧ i = .int .i64 k ∧ lR (x.net.take k) = true ∧ Below wC.heap.size wC wr) (fun i _ => x.net.length - (intOf i).toNat)
         case atStart => exact ⟨0, by omega, rfl, rfl, zm⟩
         case round =>
          obtain ⟨k3, hk3, rfl, hall, hb⟩ := hrel
          have Hall := hid hall; have Hb := hid hb
          have r2 := Hn.out.go hb
          clear hall hb
          by_cases hlt3 : k3 < x.net.length
          ·obtain ⟨y, hx⟩ := ai hlt3
           obtain ⟨b, o, vh, vb, rfl, _, _, s1, s2, q0, q1, q2, q3, q4, q5⟩ := r2.tr hx
           obtain ⟨Ah, ch, rfl, _, _, _⟩ := s1.form
           obtain ⟨Ab, cb, rfl, _, _, _⟩ := s2.form
           have Hx := hid hx; have S1 := hid s1; have S2 := hid s2
           clear hx r2 s1 s2
           cases hw1 : win y.mix 0 2 with
           | false =>
            have Hf := hid (tF (fK Hx.out (show trB y = false from by rw [trB, hw1]; rfl)))
            go_wp2_with (go_at_call 80; refine (gM _ _).mono ?_; rintro e w' ⟨rfl, rfl⟩)
            go_ret
            exact ⟨ah Hf.out.symm, bt HB.out (bt Hb.out (by first | exact zm | exact ab _ _))⟩
           | true =>
            cases hw2 : pkB y.pk with
            | false =>
             have Hf := hid (tF (fK Hx.out (show trB y = false from by rw [trB, hw1, hw2]; rfl)))
             go_wp2_with (first | (go_at_call 80; refine (gM _ _).mono ?_; rintro e w' ⟨rfl, rfl⟩) | (go_at_call 81; with_reducible refine (ct y.pk _ _ _ ?_ ?_).mono ?_; (refine S1.out.go ?_; (repeat (first | exact zm | refine ae ?_ | refine Below.alloc ?_ (by simp <;> omega) _))); (refine S2.out.go ?_; (repeat (first | exact zm | refine ae ?_ | refine Below.alloc ?_ (by simp <;> omega) _))); rw [hw2]; rintro e w' ⟨rfl, hb5⟩))
             go_ret
             exact ⟨ah Hf.out.symm, bt HB.out (bt Hb.out (bt (by first | exact zm | exact ab _ _) hb5))⟩
            | true =>
             have Hf := hid (show trB y = true from by rw [trB, hw1, hw2]; rfl)
             go_wp2_with (first | (go_at_call 80; refine (gM _ _).mono ?_; rintro e w' ⟨rfl, rfl⟩) | (go_at_call 81; with_reducible refine (ct y.pk _ _ _ ?_ ?_).mono ?_; (refine S1.out.go ?_; (repeat (first | exact zm | refine ae ?_ | refine Below.alloc ?_ (by simp <;> omega) _))); (refine S2.out.go ?_; (repeat (first | exact zm | refine ae ?_ | refine Below.alloc ?_ (by simp <;> omega) _))); rw [hw2]; rintro e w' ⟨rfl, hb5⟩))
             go_roundw
             case rel => exact ⟨k3 + 1, by omega, by go_num, by rw [aK Hx.out]; exact dV Hall.out Hf.out, bt Hb.out (bt (by first | exact zm | exact ab _ _) hb5)⟩
             case measure => simp [intOf]; omega
          ·have Hnet := hid (show lR x.net = true from by rw [← aV hk3 hlt3]; exact Hall.out)
           obtain ⟨k0, k1, k2c, k3c, k4, k5⟩ := HK.out _ Hb.out
           obtain ⟨wD, rfl⟩ : ∃ wD : World, wD = wr := ⟨_, rfl⟩
           clear Hall r2
           go_wp2
           clear k0 k1 k2c k3c k4 k5
           have HB := hid (bt HB.out Hb.out)
           have HK := hid (fun (wx : World) (hb : Below wD.heap.size wD wx) => HK.out wx (bt Hb.out hb))
           have Hm := hid (Hm.out.go Hb.out)
           clear Hb Hn
           have hps := ng Hmp.out
           have Hps := hid hps
           clear hps
           go_loopw [7, 101] (fun cv i wr => ∃ k : Nat, k ≤ x.mixes.length ∧ i = .int .i64 k ∧ cv = .int .i64 ((x.net.length : Int) + x.got.length + x.lost + aO (x.mixes.take k)) ∧ Below wD.heap.size wD wr) (fun _ i _ => x.mixes.length - (intOf i).toNat)
           case atStart => exact ⟨0, by omega, rfl, by simp [aO], zm⟩
           case round =>
            obtain ⟨k4, hk4, rfl, rfl, hb⟩ := hrel
            have Hb := hid hb
            have r2 := Hm.out.go hb
            clear hb
            have h15 : aO (x.mixes.take k4) ≤ 15 := by
             have h1 := ng (l := x.mixes.take k4) (fun m hm => Hmp.out m (List.mem_of_mem_take hm))
             have h2 : (x.mixes.take k4).length ≤ 3 := by rw [List.length_take, Hml.out]; omega
             omega
            by_cases hlt4 : k4 < x.mixes.length
            ·obtain ⟨y, hx⟩ := ai hlt4
             obtain ⟨b, o, vs, vp, rfl, _, _, s1, s2, q0, q1, q2⟩ := r2.mx hx
             obtain ⟨Ah, ch, rfl, _, _, _⟩ := s1.form
             obtain ⟨Ab, cb, rfl, _, _, _⟩ := s2.form
             have hy5 := Hmp.out y (List.mem_of_getElem? hx)
             have Ht := hid (show aO (x.mixes.take (k4 + 1)) = aO (x.mixes.take k4) + y.pool.length from by rw [aK hx, fa])
             clear hx r2 s1 s2
             generalize aO (x.mixes.take k4) = q at *
             go_wp2
             go_roundw
             case rel => exact ⟨k4 + 1, by omega, by go_num, by rw [Ht.out]; go_num, bt Hb.out (by first | exact zm | exact ab _ _)⟩
             case measure => simp [intOf]; omega
            ·have Hq := hid (show x.mixes.take k4 = x.mixes from aV hk4 hlt4)
             have hG := HG.out Hsent.out Hgot.out Hnet.out
             have HG2 := hid hG
             obtain ⟨k0, k1, k2c, k3c, k4c, k5⟩ := HK.out _ Hb.out
             rw [Hq.out] at *
             have HI := hid (show (x.net.length : Int) + x.got.length + x.lost + aO x.mixes = dH x from rfl)
             clear hG r2
             go_wp2
             go_ret
             exact ⟨ah (by rw [HG2.out, ← HI.out]; first | rfl | (rw [Bool.eq_iff_iff]; simp)), bt HB.out Hb.out⟩
   ·have Hf := hid (yb g4)
    go_wp2
    go_ret
    exact ⟨ah Hf.out.symm, HB.out⟩
  ·have Hf := hid (ya g3)
   go_wp2
   go_ret
   exact ⟨ah Hf.out.symm, HB.out⟩
 ·have Hf := hid (x9 g2)
  go_wp2
  go_ret
  exact ⟨ah Hf.out.symm, HB.out⟩
def ee : Ty (List Int) := af.own 3
def oPk : Ty Pk := y6 ee
def oPl : Ty Pl := y8 oPk
def oTr : Ty Tr := zk oPk
def fM : Ty (List Pl) := oPl.own 144
def oMx : Ty Mx := yY ee fM
theorem pu : ee.le af.sl := Ty.le_own (Ty.le_refl _) _
theorem wj : oPk.le tPk := Ty.le_via (Ty.le_prod (Ty.le_refl _) (Ty.le_prod pu (Ty.le_prod (Ty.le_refl _) pu)))
theorem r7 : oPl.le tPl := Ty.le_via (Ty.le_prod (Ty.le_refl _) (Ty.le_prod (Ty.le_refl _) wj))
theorem r8 : oTr.le tTr := Ty.le_via (Ty.le_prod (Ty.le_refl _) (Ty.le_prod wj (Ty.le_refl _)))
theorem wh : oMx.le tMx := Ty.le_via (Ty.le_prod (Ty.le_refl _) (Ty.le_prod pu (Ty.le_own r7 _)))
def mO (k : Nat) : Mx := ⟨cS k, [], []⟩
def bB (k : Nat) : List Mx := (List.range k).map mO
def nz : Wd := ⟨bB 3, [], [], [], 0, 0⟩
theorem nZ (k : Nat) : bB (k + 1) = bB k ++ [mO k] := by simp [bB, List.range_succ]
theorem eZ (k : Nat) : (bB k).length = k := by simp [bB]
theorem lT : (Tryz.prog.info? 70).map (fun i => (i.zero, i.size, i.bytes)) = some (some (.agg #[.int .i64 0, .slice none 0 0, .slice none 0 0]), 3, 56) := by kernel_rfl
theorem wF (w : World) (k : Nat) (A B : Option Addr) : tMx.E w [.int .i64 (cS k), .slice A 0 0, .slice B 0 0] (mO k) [] :=
 x5.2 ⟨_, _, [], [], rfl, rfl, Sl.nil 0 _ (by simp [maxLen]), Sl.nil 0 _ (by simp [maxLen])⟩
theorem lY {k : Nat} (h : k < 3) : win (cS k) 1 996 = true := aH.2 (by unfold cS; omega)
theorem df {α : Type} {T : Ty α} {e B : Nat} {w : World} {v : Value} {xs : List α} {G : List Nat} {p : Addr} {u : Value} (h : Own T e B w v xs G) (hv : v.ownBlock ≠ some p.block) (hG : p.block ∉ G) : Own T e B (w.setCell p u) v xs G :=
 h.keep (fun b hb => Below.heap_setCell _ _ _ _ (fun e => hv (by rw [hb, e]))) (fun b hb => Below.heap_setCell _ _ _ _ (fun e => hG (by rw [← e]; exact hb)))
def nMx : Ty Mx := Ty.flat 3 (fun x => [.int .i64 x.sec, .slice none 0 0, .slice none 0 0]) (fun _ => rfl) (fun _ u hu => by simp at hu; rcases hu with rfl | rfl | rfl <;> rfl)
theorem yy (w : World) (k : Nat) : nMx.E w [.int .i64 (cS k), .slice none 0 0, .slice none 0 0] (mO k) [] := ⟨rfl, rfl⟩
theorem mP (k : Nat) : ∀ x ∈ bB k, x.seen = [] ∧ x.pool = [] := fun x hx => by
 simp only [bB, List.mem_map] at hx
 obtain ⟨i, _, rfl⟩ := hx
 exact ⟨rfl, rfl⟩
theorem pi (s : Int) (hs : win s 1 996 = true) (w : World) : Calls Tryz.prog 51 #[.int .i64 s] w fun e w' => e = .returned (.tuple #[.agg #[.int .i64 s, .slice none 0 0, .slice none 0 0], .bool true]) ∧ Below w.heap.size w w' := by
 go_enter Tryz.func51, Tryz.ntmps51
 go_wp2_with (go_at_call 90; refine (aF _ _).mono ?_; rw [hs]; rintro e w' ⟨rfl, rfl⟩)
 refine bodyPost_ret (v := .tuple #[.agg #[.int .i64 s, .slice none 0 0, .slice none 0 0], .bool true]) (by simp [results, go_sem]) rfl ⟨rfl, ab _ _⟩
theorem pJ (s : Int) (hs : win s 1 996 = true) (w : World) : Calls Tryz.prog 59 #[.int .i64 s] w fun e w' => ∃ a b, e = .returned (.tuple #[.agg #[.int .i64 s, .slice (some ⟨a, 0, none⟩) 0 0, .slice (some ⟨b, 0, none⟩) 0 0], .bool true]) ∧ Below w.heap.size w w' := by
 go_enter Tryz.func59, Tryz.ntmps59
 go_wp2_with (go_at_call 106; refine (dI _ _).mono ?_; rw [hs]; rintro e w' ⟨rfl, rfl⟩)
 refine bodyPost_ret (v := .tuple #[.agg #[.int .i64 s, .slice (some ⟨w.heap.size + 1, 0, none⟩) 0 0, .slice (some ⟨w.heap.size + 1 + 1, 0, none⟩) 0 0], .bool true]) (by simp [results, go_sem]) rfl ⟨_, _, rfl, ?_⟩
 (repeat (first | exact zm | refine ae ?_ | refine Below.alloc ?_ (by simp <;> omega) _))
theorem Sl.boxn {α : Type} {T : Ty α} {w : World} {cs : List Value} {x : α} {G : List Nat} {e : TypeId} (n : Nat) (hn : n = w.heap.size) (h : T.E w cs x G) :
  Sl T (w.alloc (.cells cs.toArray e)) (.slice (some ⟨n, 0, none⟩) 1 1) [x] (n :: G) := by subst hn; exact Sl.box h
def FrW (T : Ty Mx) (s1 s2 s3 : Value) (W wr : World) (m n k : Nat) : Prop :=
 ∃ vm, wr.heap[n]? = some (.cells #[vm, s1, s2, s3, .int .i64 0, .int .i64 0] 33 (0, 0)) ∧ wr.heap[m]? = some (.cells #[Value.slice none 0 0, Value.slice none 0 0, Value.slice none 0 0, Value.slice none 0 0, Value.int IntKind.i64 0, Value.int IntKind.i64 0] 33 (0, 0)) ∧
  Own T 70 W.heap.size wr vm (bB k) [] ∧ m < n ∧ n < W.heap.size ∧ W.heap.size ≤ wr.heap.size
theorem kM {wr : World} {n : Nat} {vm s1 s2 s3 : Value} (h : wr.heap[n]? = some (.cells #[vm, s1, s2, s3, .int .i64 0, .int .i64 0] 33 (0, 0))) :
  wr.cell? ⟨n, 0, none⟩ = some vm ∧ wr.cell? ⟨n, 1, none⟩ = some s1 ∧ wr.cell? ⟨n, 2, none⟩ = some s2 ∧ wr.cell? ⟨n, 3, none⟩ = some s3 ∧ wr.cell? ⟨n, 4, none⟩ = some (.int .i64 0) ∧ wr.cell? ⟨n, 5, none⟩ = some (.int .i64 0) ∧ ∀ j, wr.frozen? ⟨n, j, none⟩ = false :=
 ⟨by rw [cell_of_row wr n 0 _ _ _ h]; rfl, by rw [cell_of_row wr n 1 _ _ _ h]; rfl, by rw [cell_of_row wr n 2 _ _ _ h]; rfl, by rw [cell_of_row wr n 3 _ _ _ h]; rfl, by rw [cell_of_row wr n 4 _ _ _ h]; rfl, by rw [cell_of_row wr n 5 _ _ _ h]; rfl, fun j => frozen_of_row wr n j _ _ h⟩
theorem FrW.step {T : Ty Mx} {s1 s2 s3 : Value} {W wr w6 : World} {m n k : Nat} {vm v2 : Value} (h : wr.heap[n]? = some (.cells #[vm, s1, s2, s3, .int .i64 0, .int .i64 0] 33 (0, 0))) (hm : wr.heap[m]? = some (.cells #[Value.slice none 0 0, Value.slice none 0 0, Value.slice none 0 0, Value.slice none 0 0, Value.int IntKind.i64 0, Value.int IntKind.i64 0] 33 (0, 0)))
  (ho : Own T 70 W.heap.size w6 v2 (bB k ++ [mO k]) []) (hb : Below W.heap.size wr w6) (hmn : m < n) (hn : n < W.heap.size) (hW : W.heap.size ≤ wr.heap.size) : FrW T s1 s2 s3 W (w6.setCell ⟨n, 0, none⟩ v2) m n (k + 1) := by
 have h6 := (hb.block n hn).trans h
 have m6 := (hb.block m (by omega)).trans hm
 refine ⟨v2, ?_, ?_, ?_, hmn, hn, ?_⟩
 ·rw [heap_setCell_same w6 n 0 _ _ _ h6]; rfl
 ·exact (Below.heap_setCell _ _ _ _ (fun e => by simp at e; omega)).trans m6
 ·rw [nZ]
  exact df ho (fun e => by have := (ho.top n e).1; omega) (by simp)
 ·have := hb.size; simp [World.setCell]; omega
theorem tZ (w : World) : Calls Tryz.prog 30 #[] w fun e w' => ∃ vm, e = .returned (.agg #[vm, .slice none 0 0, .slice none 0 0, .slice none 0 0, .int .i64 0, .int .i64 0]) ∧ bF nMx 70 w.heap.size w' vm (bB 3) ∧ Below w.heap.size w w' := by
 obtain ⟨i0, hi, hz0, hz1, hz2⟩ := info_parts lT
 go_enter Tryz.func30, Tryz.ntmps30
 go_wp2_with fail
 have hB : Below w.heap.size w ((w.alloc (Obj.cells #[Value.slice none 0 0, Value.slice none 0 0, Value.slice none 0 0, Value.slice none 0 0, Value.int IntKind.i64 0, Value.int IntKind.i64 0] 33)).alloc (Obj.cells #[Value.slice none 0 0, Value.slice none 0 0, Value.slice none 0 0, Value.slice none 0 0, Value.int IntKind.i64 0, Value.int IntKind.i64 0] 33)) := by (repeat (first | exact zm | refine ae ?_ | refine Below.alloc ?_ (by simp <;> omega) _))
 have kn : ((w.alloc (Obj.cells #[Value.slice none 0 0, Value.slice none 0 0, Value.slice none 0 0, Value.slice none 0 0, Value.int IntKind.i64 0, Value.int IntKind.i64 0] 33)).alloc (Obj.cells #[Value.slice none 0 0, Value.slice none 0 0, Value.slice none 0 0, Value.slice none 0 0, Value.int IntKind.i64 0, Value.int IntKind.i64 0] 33)).heap[w.heap.size + 1]? = some (.cells #[Value.slice none 0 0, Value.slice none 0 0, Value.slice none 0 0, Value.slice none 0 0, Value.int IntKind.i64 0, Value.int IntKind.i64 0] 33 (0, 0)) := by have := heap_alloc_new (w.alloc (Obj.cells #[Value.slice none 0 0, Value.slice none 0 0, Value.slice none 0 0, Value.slice none 0 0, Value.int IntKind.i64 0, Value.int IntKind.i64 0] 33)) (.cells #[Value.slice none 0 0, Value.slice none 0 0, Value.slice none 0 0, Value.slice none 0 0, Value.int IntKind.i64 0, Value.int IntKind.i64 0] 33 (0, 0)); simpa using this
 have km : ((w.alloc (Obj.cells #[Value.slice none 0 0, Value.slice none 0 0, Value.slice none 0 0, Value.slice none 0 0, Value.int IntKind.i64 0, Value.int IntKind.i64 0] 33)).alloc (Obj.cells #[Value.slice none 0 0, Value.slice none 0 0, Value.slice none 0 0, Value.slice none 0 0, Value.int IntKind.i64 0, Value.int IntKind.i64 0] 33)).heap[w.heap.size]? = some (.cells #[Value.slice none 0 0, Value.slice none 0 0, Value.slice none 0 0, Value.slice none 0 0, Value.int IntKind.i64 0, Value.int IntKind.i64 0] 33 (0, 0)) := (Below.heap_alloc _ _ _ (by simp)).trans (heap_alloc_new w _)
 have hz : w.heap.size + 1 < ((w.alloc (Obj.cells #[Value.slice none 0 0, Value.slice none 0 0, Value.slice none 0 0, Value.slice none 0 0, Value.int IntKind.i64 0, Value.int IntKind.i64 0] 33)).alloc (Obj.cells #[Value.slice none 0 0, Value.slice none 0 0, Value.slice none 0 0, Value.slice none 0 0, Value.int IntKind.i64 0, Value.int IntKind.i64 0] 33)).heap.size := by simp
 generalize ((w.alloc (Obj.cells #[Value.slice none 0 0, Value.slice none 0 0, Value.slice none 0 0, Value.slice none 0 0, Value.int IntKind.i64 0, Value.int IntKind.i64 0] 33)).alloc (Obj.cells #[Value.slice none 0 0, Value.slice none 0 0, Value.slice none 0 0, Value.slice none 0 0, Value.int IntKind.i64 0, Value.int IntKind.i64 0] 33)) = W at *
 have HB := hid hB
 have K : FrW nMx (.slice none 0 0) (.slice none 0 0) (.slice none 0 0) W W w.heap.size (w.heap.size + 1) 0 := ⟨_, kn, km, Own.nil _ _, by omega, hz, Nat.le_refl _⟩
 clear kn km hB
 go_loopw [6] (fun i wr => ∃ k : Nat, k ≤ 3 ∧ i = .int .i64 k ∧ FrW nMx (.slice none 0 0) (.slice none 0 0) (.slice none 0 0) W wr w.heap.size (w.heap.size + 1) k ∧ Below w.heap.size w wr) (fun i _ => 3 - (intOf i).toNat)
 case atStart => exact ⟨0, by omega, rfl, K, HB.out⟩
 case round =>
  obtain ⟨k, hk, rfl, ⟨vm, hn, hm, ho, _, _, hWr⟩, hb⟩ := hrel
  have Ho := hid ho; have Hb := hid hb; have HN := hid hn; have HM := hid hm
  obtain ⟨A, c, rfl, _, _, _⟩ := ho.form
  have hzr := Nat.lt_of_lt_of_le hz hWr
  obtain ⟨q0, q1, q2, q3, q4, q5, qf⟩ := kM hn
  have qf0 := qf 0
  clear ho hb K hn hm
  by_cases hlt : k < 3
  ·clear qf
   go_wp2_with (first | (go_at_call 52; refine (fX _ ?_ _).mono ?_; omega; rintro e w' ⟨rfl, rfl⟩) | (go_at_call 51; refine (pi _ ?_ _).mono ?_; exact lY hlt; rintro e w5 ⟨rfl, hb5⟩; have p0 := (hb5.cell (p := ⟨w.heap.size + 1, 0, none⟩) hzr).trans q0; have pf := (hb5.frozen (p := ⟨w.heap.size + 1, 0, none⟩) hzr).trans qf0; have hz5 := Nat.lt_of_lt_of_le hzr hb5.size; have Ho5 := hid (Ho.out.go hb5); have hW5 := Nat.le_trans hWr hb5.size) | (at_builtin; go_loud (refine eH rfl (.tmp 16) (.tmp 18) 29 rfl nMx Tryz.underlying29 hi hz0 hz1 hz2 rfl (by decide) (v := .slice A (bB k).length c) (B := W.heap.size) rfl (Ho5.out.below ?_ (Nat.le_refl _)) _ 1 1 rfl (Sl.boxn _ ?_ (yy _ k)) ?_ ?_ ?_ ?_ ?_); go_loud (((repeat (first | exact zm | refine ae ?_ | refine Below.alloc ?_ (by simp <;> omega) _))); (simp); (intro b _ h; cases h); (rw [eZ]; simp; omega); (rw [eZ]; simp [maxLen]; omega); (simp; omega); intro v2 w6 ho2 hg2 hv2; obtain ⟨A2, c2, rfl, _, _, _⟩ := ho2.form; have hbG := (show Below W.heap.size w5 w6 from ((show Below W.heap.size w5 _ from (((Below.refl W.heap.size w5).alloc hW5 _).alloc (by simp; omega) _)).trans (Below.of_grown hg2 (by simp; omega) (fun q hq => (Ho5.out.top q hq).1)))); have p06 := (hbG.cell (p := ⟨w.heap.size + 1, 0, none⟩) hz).trans p0; have pf6 := (hbG.frozen (p := ⟨w.heap.size + 1, 0, none⟩) hz).trans pf)))
   go_roundw
   case rel => exact ⟨k + 1, by omega, by go_num, FrW.step HN.out HM.out (by simpa using ho2) ((hb5.mono hWr).trans hbG) (by omega) hz hWr, (Hb.out.trans (((hb5.mono hWr).trans hbG).mono (by omega))).setCell (by simp) _⟩
   case measure => simp [intOf]; omega
  ·have hk3 : k = 3 := by omega
   subst hk3
   have mc := kM HM.out
   obtain ⟨r0, r1, r2, r3, r4, r5, rf⟩ := mc
   have rf0 := rf 0; have rf1 := rf 1; have rf2 := rf 2; have rf3 := rf 3; have rf4 := rf 4; have rf5 := rf 5
   clear qf rf
   go_wp2
   refine bodyPost_ret (v := .agg #[.slice A (bB 3).length c, .slice none 0 0, .slice none 0 0, .slice none 0 0, .int .i64 0, .int .i64 0]) (by simp [results, go_sem, r0, r1, r2, r3, r4, r5]) rfl ⟨_, rfl, ⟨[], ?_, List.nodup_nil, fun _ h => by cases h⟩, ?_⟩
   ·have ne : (Value.slice A (bB 3).length c).ownBlock ≠ some w.heap.size := fun e => by have := (Ho.out.top _ e).1; omega
    exact ((df (df (df (df (df (df Ho.out ne (by simp)) ne (by simp)) ne (by simp)) ne (by simp)) ne (by simp)) ne (by simp)).base (by omega))
   ·exact ((((((Hb.out.setCell (by simp) _).setCell (by simp) _).setCell (by simp) _).setCell (by simp) _).setCell (by simp) _).setCell (by simp) _)
theorem SlB.lit {W : World} {b c : Nat} {xs : List Int} (hc : xs.length ≤ c) (hm : c ≤ maxLen) (h : ∀ i x, xs[i]? = some x → W.cell? ⟨b, i, none⟩ = some (.int .i64 x)) : SlB af W.heap.size W (.slice (some ⟨b, 0, none⟩) xs.length c) xs := by
 by_cases hx : xs = []
 ·subst hx
  exact ⟨[], Sl.nil _ _ hm, fun b hb => by cases hb⟩
 ·have h0 : 0 < xs.length := List.length_pos_iff.2 hx
  have hb : b < W.heap.size := World.block_lt_of_cell? W ⟨b, 0, none⟩ (h 0 xs[0] (List.getElem?_eq_getElem h0))
  refine ⟨[b], ⟨_, c, xs.flatMap (fun n => [.int .i64 n]), rfl, hc, hm, .inr ⟨b, 0, [], rfl, rfl, hx, hb, cG.2 ⟨rfl, rfl⟩, fun j u hj => ?_⟩⟩, fun b' hb' => by simp at hb'; omega⟩
  rw [aY, List.getElem?_map] at hj
  cases hxj : xs[j]? with
  | none => rw [hxj] at hj; cases hj
  | some x => rw [hxj] at hj; cases hj; rw [Nat.zero_add]; exact h j x hxj
def jR : List (List Int) := [[0], [1], [2], [0, 1], [1, 2], [2, 0], [0, 1, 2], [2, 1, 0], [1, 0, 2]]
def aL (k : Int) : List Int := if 0 ≤ k ∧ k ≤ 8 then jR.getD k.toNat [] else []
theorem oQ (i : Nat) : (jR.getD i []).length ≤ 3 := by
 rcases i with _ | _ | _ | _ | _ | _ | _ | _ | _ | i <;> simp [jR]
def Laid (W : World) (b : Nat) : Prop := ∀ i, i < 9 → ∃ v, W.cell? ⟨b, i, none⟩ = some v ∧ SlB af W.heap.size W v (jR.getD i [])
theorem iJ (w : World) : Below w.heap.size w ((((((((((w.alloc (.cells #[.int .i64 0] 3)).alloc (.cells #[.int .i64 1] 3)).alloc (.cells #[.int .i64 2] 3)).alloc (.cells #[.int .i64 0, .int .i64 1] 3)).alloc (.cells #[.int .i64 1, .int .i64 2] 3)).alloc (.cells #[.int .i64 2, .int .i64 0] 3)).alloc (.cells #[.int .i64 0, .int .i64 1, .int .i64 2] 3)).alloc (.cells #[.int .i64 2, .int .i64 1, .int .i64 0] 3)).alloc (.cells #[.int .i64 1, .int .i64 0, .int .i64 2] 3)).alloc (.cells #[.slice (some ⟨w.heap.size, 0, none⟩) 1 1, .slice (some ⟨w.heap.size + 1, 0, none⟩) 1 1, .slice (some ⟨w.heap.size + 1 + 1, 0, none⟩) 1 1, .slice (some ⟨w.heap.size + 1 + 1 + 1, 0, none⟩) 2 2, .slice (some ⟨w.heap.size + 1 + 1 + 1 + 1, 0, none⟩) 2 2, .slice (some ⟨w.heap.size + 1 + 1 + 1 + 1 + 1, 0, none⟩) 2 2, .slice (some ⟨w.heap.size + 1 + 1 + 1 + 1 + 1 + 1, 0, none⟩) 3 3, .slice (some ⟨w.heap.size + 1 + 1 + 1 + 1 + 1 + 1 + 1, 0, none⟩) 3 3, .slice (some ⟨w.heap.size + 1 + 1 + 1 + 1 + 1 + 1 + 1 + 1, 0, none⟩) 3 3] 67)) := by
 repeat (first | exact zm | refine Below.alloc ?_ (by simp <;> omega) _)
theorem mh (w : World) : Laid ((((((((((w.alloc (.cells #[.int .i64 0] 3)).alloc (.cells #[.int .i64 1] 3)).alloc (.cells #[.int .i64 2] 3)).alloc (.cells #[.int .i64 0, .int .i64 1] 3)).alloc (.cells #[.int .i64 1, .int .i64 2] 3)).alloc (.cells #[.int .i64 2, .int .i64 0] 3)).alloc (.cells #[.int .i64 0, .int .i64 1, .int .i64 2] 3)).alloc (.cells #[.int .i64 2, .int .i64 1, .int .i64 0] 3)).alloc (.cells #[.int .i64 1, .int .i64 0, .int .i64 2] 3)).alloc (.cells #[.slice (some ⟨w.heap.size, 0, none⟩) 1 1, .slice (some ⟨w.heap.size + 1, 0, none⟩) 1 1, .slice (some ⟨w.heap.size + 1 + 1, 0, none⟩) 1 1, .slice (some ⟨w.heap.size + 1 + 1 + 1, 0, none⟩) 2 2, .slice (some ⟨w.heap.size + 1 + 1 + 1 + 1, 0, none⟩) 2 2, .slice (some ⟨w.heap.size + 1 + 1 + 1 + 1 + 1, 0, none⟩) 2 2, .slice (some ⟨w.heap.size + 1 + 1 + 1 + 1 + 1 + 1, 0, none⟩) 3 3, .slice (some ⟨w.heap.size + 1 + 1 + 1 + 1 + 1 + 1 + 1, 0, none⟩) 3 3, .slice (some ⟨w.heap.size + 1 + 1 + 1 + 1 + 1 + 1 + 1 + 1, 0, none⟩) 3 3] 67)) (w.heap.size + 9) := by
 intro i hi
 obtain rfl | rfl | rfl | rfl | rfl | rfl | rfl | rfl | rfl : i = 0 ∨ i = 1 ∨ i = 2 ∨ i = 3 ∨ i = 4 ∨ i = 5 ∨ i = 6 ∨ i = 7 ∨ i = 8 := by omega
 ·exact ⟨.slice (some ⟨w.heap.size, 0, none⟩) 1 1, (by simp (disch := (first | omega | (simp; done) | (simp; omega))) [World.cell?_alloc_at, World.cell?_alloc_past]), SlB.lit (xs := [0]) (by decide) (by decide) (fun j x hj => by rcases j with _ | _ | _ | j <;> simp at hj <;> subst hj <;> simp (disch := (first | omega | (simp; done) | (simp; omega))) [World.cell?_alloc_at, World.cell?_alloc_past])⟩
 ·exact ⟨.slice (some ⟨w.heap.size + 1, 0, none⟩) 1 1, (by simp (disch := (first | omega | (simp; done) | (simp; omega))) [World.cell?_alloc_at, World.cell?_alloc_past]), SlB.lit (xs := [1]) (by decide) (by decide) (fun j x hj => by rcases j with _ | _ | _ | j <;> simp at hj <;> subst hj <;> simp (disch := (first | omega | (simp; done) | (simp; omega))) [World.cell?_alloc_at, World.cell?_alloc_past])⟩
 ·exact ⟨.slice (some ⟨w.heap.size + 1 + 1, 0, none⟩) 1 1, (by simp (disch := (first | omega | (simp; done) | (simp; omega))) [World.cell?_alloc_at, World.cell?_alloc_past]), SlB.lit (xs := [2]) (by decide) (by decide) (fun j x hj => by rcases j with _ | _ | _ | j <;> simp at hj <;> subst hj <;> simp (disch := (first | omega | (simp; done) | (simp; omega))) [World.cell?_alloc_at, World.cell?_alloc_past])⟩
 ·exact ⟨.slice (some ⟨w.heap.size + 1 + 1 + 1, 0, none⟩) 2 2, (by simp (disch := (first | omega | (simp; done) | (simp; omega))) [World.cell?_alloc_at, World.cell?_alloc_past]), SlB.lit (xs := [0, 1]) (by decide) (by decide) (fun j x hj => by rcases j with _ | _ | _ | j <;> simp at hj <;> subst hj <;> simp (disch := (first | omega | (simp; done) | (simp; omega))) [World.cell?_alloc_at, World.cell?_alloc_past])⟩
 ·exact ⟨.slice (some ⟨w.heap.size + 1 + 1 + 1 + 1, 0, none⟩) 2 2, (by simp (disch := (first | omega | (simp; done) | (simp; omega))) [World.cell?_alloc_at, World.cell?_alloc_past]), SlB.lit (xs := [1, 2]) (by decide) (by decide) (fun j x hj => by rcases j with _ | _ | _ | j <;> simp at hj <;> subst hj <;> simp (disch := (first | omega | (simp; done) | (simp; omega))) [World.cell?_alloc_at, World.cell?_alloc_past])⟩
 ·exact ⟨.slice (some ⟨w.heap.size + 1 + 1 + 1 + 1 + 1, 0, none⟩) 2 2, (by simp (disch := (first | omega | (simp; done) | (simp; omega))) [World.cell?_alloc_at, World.cell?_alloc_past]), SlB.lit (xs := [2, 0]) (by decide) (by decide) (fun j x hj => by rcases j with _ | _ | _ | j <;> simp at hj <;> subst hj <;> simp (disch := (first | omega | (simp; done) | (simp; omega))) [World.cell?_alloc_at, World.cell?_alloc_past])⟩
 ·exact ⟨.slice (some ⟨w.heap.size + 1 + 1 + 1 + 1 + 1 + 1, 0, none⟩) 3 3, (by simp (disch := (first | omega | (simp; done) | (simp; omega))) [World.cell?_alloc_at, World.cell?_alloc_past]), SlB.lit (xs := [0, 1, 2]) (by decide) (by decide) (fun j x hj => by rcases j with _ | _ | _ | j <;> simp at hj <;> subst hj <;> simp (disch := (first | omega | (simp; done) | (simp; omega))) [World.cell?_alloc_at, World.cell?_alloc_past])⟩
 ·exact ⟨.slice (some ⟨w.heap.size + 1 + 1 + 1 + 1 + 1 + 1 + 1, 0, none⟩) 3 3, (by simp (disch := (first | omega | (simp; done) | (simp; omega))) [World.cell?_alloc_at, World.cell?_alloc_past]), SlB.lit (xs := [2, 1, 0]) (by decide) (by decide) (fun j x hj => by rcases j with _ | _ | _ | j <;> simp at hj <;> subst hj <;> simp (disch := (first | omega | (simp; done) | (simp; omega))) [World.cell?_alloc_at, World.cell?_alloc_past])⟩
 ·exact ⟨.slice (some ⟨w.heap.size + 1 + 1 + 1 + 1 + 1 + 1 + 1 + 1, 0, none⟩) 3 3, (by simp (disch := (first | omega | (simp; done) | (simp; omega))) [World.cell?_alloc_at, World.cell?_alloc_past]), SlB.lit (xs := [1, 0, 2]) (by decide) (by decide) (fun j x hj => by rcases j with _ | _ | _ | j <;> simp at hj <;> subst hj <;> simp (disch := (first | omega | (simp; done) | (simp; omega))) [World.cell?_alloc_at, World.cell?_alloc_past])⟩
theorem oP (k : Int) (w : World) : Calls Tryz.prog 133 #[.int .i64 k] w fun e w' => ∃ v', e = .returned v' ∧ bF af 3 w.heap.size w' v' (aL k) ∧ Below w.heap.size w w' := by
 go_enter Tryz.func133, Tryz.ntmps133
 go_wp2_with fail
 refine (a8 _ _ _ _).mono ?_
 rintro e W ⟨rfl, hw⟩
 have hb : Below w.heap.size w W := by rw [← hw]; exact iJ w
 have hL : Laid W (w.heap.size + 9) := by rw [← hw]; exact mh w
 clear hw
 by_cases hk : 0 ≤ k ∧ k ≤ 8
 ·have hw : win k 0 8 = true := by simp [win]; omega
  obtain ⟨i, rfl⟩ := Int.eq_ofNat_of_zero_le hk.1
  have hi : i < 9 := by omega
  obtain ⟨v, hv, hs⟩ := hL i hi
  have h0 : (0 : Int) ≤ (i : Int) := by omega
  have h9 : (i : Int) < 9 := by omega
  have Hk := hid hk
  clear hL hk
  go_wp2_with (go_at_call 129; refine (eI v (jR.getD i []) _ hs (by have := oQ i; omega)).mono ?_; rintro e w' ⟨v', rfl, hn, hb'⟩)
  go_ret
  exact ⟨v', rfl, by rw [show aL i = jR.getD i [] from by simp [aL, Hk.out]]; exact hn.base hb.size, hb.trans (hb'.mono hb.size)⟩
 ·have hw : win k 0 8 = false := by simp [win]; omega
  go_wp2
  go_ret
  exact ⟨_, rfl, by rw [show aL k = [] from if_neg hk]; exact bF.nil _ _, hb⟩
theorem ly (k : Int) (w : World) : Calls Tryz.prog 109 #[.int .i64 k] w fun e w' => ∃ v', e = .returned v' ∧ SlB af w'.heap.size w' v' (aL k) ∧ Below w.heap.size w w' := by
 go_enter Tryz.func109, Tryz.ntmps109
 go_wp2_with fail
 refine (aU _ _ _ _).mono ?_
 rintro e W ⟨rfl, hw⟩
 have hb : Below w.heap.size w W := by rw [← hw]; exact iJ w
 have hL : Laid W (w.heap.size + 9) := by rw [← hw]; exact mh w
 clear hw
 by_cases hk : 0 ≤ k ∧ k ≤ 8
 ·have hw : win k 0 8 = true := by simp [win]; omega
  obtain ⟨i, rfl⟩ := Int.eq_ofNat_of_zero_le hk.1
  have hi : i < 9 := by omega
  obtain ⟨v, hv, hs⟩ := hL i hi
  have h0 : (0 : Int) ≤ (i : Int) := by omega
  have h9 : (i : Int) < 9 := by omega
  have Hk := hid hk
  clear hL hk
  go_wp2
  go_ret
  exact ⟨v, rfl, by rw [show aL i = jR.getD i [] from by simp [aL, Hk.out]]; exact hs, hb⟩
 ·have hw : win k 0 8 = false := by simp [win]; omega
  go_wp2
  go_ret
  exact ⟨_, rfl, by rw [show aL k = [] from if_neg hk]; exact ⟨[], Sl.nil _ _ (by decide), fun b hb => by cases hb⟩, hb.alloc hb.size _⟩
structure Ev where
 kind : Int
 a : Int
 b : Int
 c : Int
def dC (key : Int) (i : Nat) : Int := (key * ((i : Int) + 2) + 11 * (i : Int) * (i : Int) + 5) % 991
def onL (l : List Int) (key : Int) : List Int := l.mapIdx fun i n => (n + dC key i) % 991
def cR (l : List Int) (key : Int) : List Int := l.mapIdx fun i n => (n + 991 - dC key i) % 991
def jl (t x : Int) : Int := (613 * t + x + 1) % 991
def dy (key : Int) (l : List Int) : Int := l.foldl jl ((3 * key + 41 * (l.length : Int) + 1) % 991)
def ao (a b : Int) : Int := a * b % 997
def eC (s : Int) : Int := 1 + (7 * s + 3) % 996
def eX (letter : List Int) : List Int := (letter.length : Int) :: letter ++ List.replicate (4 - letter.length) 0
def cU (letter : List Int) : List Int := eX letter ++ [dy 1 (eX letter)]
def iS (body : List Int) : Int := body.getD 0 0
def eO (body : List Int) : List Int := (body.drop 1).take (iS body).toNat
def ef (body : List Int) : Option (List Int) :=
 if fw body 6 = true ∧ iS body ≤ 4 ∧ cU (eO body) = body then some (eO body) else none
def de (x : Int) : List Int → List Int
 | [] => []
 | p :: ps => ao x p :: de (ao x (eC (ao x p))) ps
def aR (out : List Int) (key : Int) : List Int := (out ++ [0, 0, 0]).mapIdx fun k n => (n + 991 - dC key (12 - (out.length + 3) + k)) % 991
def cF (keys : List Int) : List Int := keys.dropLast.foldl aR []
def dS (rcv : Int) (f : Nat) : List Int := [1, rcv, 0] ++ List.replicate (6 - f) 0
def hdT (filler : List Int) (rcv : Int) : List Int → List Int → List Int × Int
 | [k], _ => (onL (dS rcv filler.length) k ++ filler, dy k (onL (dS rcv filler.length) k ++ filler))
 | k :: ks, _ :: ns =>
  let r := hdT filler rcv ks ns
  (onL ([0, ns.getD 0 0, r.2] ++ r.1.take 6) k, dy k (onL ([0, ns.getD 0 0, r.2] ++ r.1.take 6) k))
 | _, _ => ([], 0)
def xY (letter keys : List Int) : List Int := keys.foldl onL (cU letter)
def g8 (secret : Int) (publics names : List Int) (rcv : Int) (letter : List Int) : Pk :=
 let keys := de secret publics
 let r := hdT (cF keys) rcv keys names
 ⟨ao secret 5, r.1, r.2, xY letter keys⟩
def aQ (s : Int) (p : Pk) : List Int := cR (p.hd ++ [0, 0, 0]) s
def bJ (secret : Int) (p : Pk) : Option Pl :=
 let s := ao secret p.el
 let l := aQ s p
 if dy s p.hd = p.tag ∧ win (l.getD 0 0) 0 1 = true ∧ win (l.getD 1 0) 0 7 = true then
  some ⟨l.getD 0 0, l.getD 1 0, ⟨ao p.el (eC s), l.drop 3, l.getD 2 0, cR p.bd s⟩⟩
 else none
def bW (m : Mx) (p : Pk) : Mx × Int :=
 match bJ m.sec p with
 | none => (m, 2)
 | some x =>
  if ao m.sec p.el ∈ m.seen then (m, 1)
  else if 12 ≤ m.seen.length ∨ 5 ≤ m.pool.length then (m, 3)
  else (⟨m.sec, m.seen ++ [ao m.sec p.el], m.pool ++ [x]⟩, 0)
def cI (a b : Pl) : Bool :=
 if a.kind ≠ b.kind then decide (a.kind < b.kind)
 else if a.next ≠ b.next then decide (a.next < b.next)
 else if a.pk.el ≠ b.pk.el then decide (a.pk.el < b.pk.el)
 else decide (a.pk.tag < b.pk.tag)
def kg (x : Pl) : List Pl → List Pl
 | [] => [x]
 | y :: ys => if cI x y = true then x :: y :: ys else y :: kg x ys
def bE (l : List Pl) : List Pl := l.foldl (fun out x => kg x out) []
def dG (m : Mx) (all : Bool) : Mx × List Pl :=
 if m.pool.length < 2 ∧ all = false then (m, []) else (⟨m.sec, m.seen, []⟩, bE m.pool)
def dA (w : Wd) : Wd := ⟨w.mixes, w.sent, w.net, w.got, w.made, w.lost + 1⟩
def bS (w : Wd) (l : List Tr) : Wd := ⟨w.mixes, w.sent, l, w.got, w.made, w.lost⟩
def ew (w : Wd) (mix : Int) (p : Pk) (ch : Bool) : Wd :=
 if 10 ≤ w.net.length ∨ win mix 0 2 = false then dA w else bS w (w.net ++ [⟨mix, p, ch⟩])
def dM (names : List Int) : List Int := names.map fun k => ao (100 + 37 * k) 5
def qy (n : Nat) (fr dst path : Int) : Pk := g8 (7 + 41 * (n : Int)) (dM (aL path)) (aL path) dst [fr, (n : Int)]
def dT (w : Wd) (fr dst path : Int) : Wd :=
 if win fr 0 7 = true ∧ win dst 0 7 = true ∧ aL path ≠ [] ∧ w.sent.length < 12 ∧ w.made < 999 then
  ew ⟨w.mixes, w.sent ++ [⟨fr, dst, (w.sent.length : Int)⟩], w.net, w.got, w.made + 1, w.lost⟩ ((aL path).getD 0 0) (qy w.sent.length fr dst path) false
 else w
def lO (x : Pl) : Option Lt :=
 match ef x.pk.bd with
 | none => none
 | some l => if l.length = 2 ∧ ltB ⟨l.getD 0 0, x.next, l.getD 1 0⟩ = true then some ⟨l.getD 0 0, x.next, l.getD 1 0⟩ else none
def fj (w : Wd) (x : Pl) : Wd :=
 match lO x with
 | none => dA w
 | some l => ⟨w.mixes, w.sent, w.net, w.got ++ [l], w.made, w.lost⟩
def dE (w : Wd) (x : Pl) : Wd := if x.kind = 1 then fj w x else ew w x.next x.pk false
def cV (w : Wd) (k : Nat) (m : Mx) : Wd := ⟨w.mixes.set k m, w.sent, w.net, w.got, w.made, w.lost⟩
def yM : Mx := ⟨0, [], []⟩
def cJ (w : Wd) (k : Nat) (all : Bool) : Wd :=
 let r := dG (w.mixes.getD k yM) all
 r.2.foldl dE (cV w k r.1)
def ex (w : Wd) (t : Tr) : Wd :=
 let r := bW (w.mixes.getD t.mix.toNat yM) t.pk
 if r.2 = 0 then cV w t.mix.toNat r.1 else dA (cV w t.mix.toNat r.1)
def xk (p : Pk) (k : Nat) : Pk := ⟨p.el, p.hd.set k ((p.hd.getD k 0 + 1) % 991), p.tag, p.bd⟩
def gI (w : Wd) (i : Nat) (t : Tr) (k : Int) : Wd :=
 if win k 0 8 = true ∧ t.ch = false then bS w (w.net.set i ⟨t.mix, xk t.pk k.toNat, true⟩) else w
def eS (w : Wd) (e : Ev) : Wd :=
 if e.a < 0 then w else
 match w.net[e.a.toNat]? with
 | none => w
 | some t =>
  if e.kind = 4 then (if w.net.length < 10 ∧ w.made < 999 then ew ⟨w.mixes, w.sent, w.net, w.got, w.made + 1, w.lost⟩ t.mix t.pk t.ch else w)
  else if e.kind = 5 then gI w e.a.toNat t e.b
  else if e.kind = 3 then dA (bS w (w.net.eraseIdx e.a.toNat))
  else ex (bS w (w.net.eraseIdx e.a.toNat)) t
def doW (w : Wd) (e : Ev) : Wd :=
 if e.kind = 1 then dT w e.a e.b e.c
 else if e.kind = 2 ∨ e.kind = 3 ∨ e.kind = 4 ∨ e.kind = 5 then eS w e
 else if e.kind = 6 ∧ win e.a 0 2 = true then cJ w e.a.toNat false
 else w
def zWd : Wd := ⟨[], [], [], [], 0, 0⟩
def lj (w : Wd) (e : Ev) : Wd := if wdB w = true then doW w e else zWd
def d9 : Nat → Wd → Wd
 | 0, w => w
 | n + 1, w => d9 n (eS w ⟨2, 0, 0, 0⟩)
def pI (w : Wd) : Wd := cJ (cJ (cJ (d9 w.net.length w) 0 true) 1 true) 2 true
def gY (w : Wd) : Bool := decide (0 < w.net.length + aO w.mixes)
def gZ : Nat → Wd → Wd
 | 0, w => w
 | n + 1, w => if gY w = true then gZ n (pI w) else w
def cK (w : Wd) : Wd := gZ 60 w
end Go.Proofs.YtfaeojmndaplcaaGreatDoor
