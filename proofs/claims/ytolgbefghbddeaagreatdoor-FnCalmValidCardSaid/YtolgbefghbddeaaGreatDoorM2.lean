/- Texts that the last file leans on (part 2). -/
import Derived.Test.YtolgbefghbddeaaGreatDoorM0
import Derived.Test.YtolgbefghbddeaaGreatDoorM1
set_option linter.unusedVariables false
set_option linter.unusedSimpArgs false
set_option maxHeartbeats 4000000
set_option maxRecDepth 100000
namespace Go.Proofs.YtolgbefghbddeaaGreatDoor
open Go Go.RowKit
theorem rM {x : Wd} (h : bD x.mixes = false) : wdB x = false := by unfold wdB; rw [h]; rfl
theorem vz {x : Wd} (h : ¬ x.sent.length ≤ 12) : wdB x = false := by unfold wdB; rw [decide_eq_false h]; simp
theorem vA {x : Wd} (h : ¬ x.net.length ≤ 10) : wdB x = false := by unfold wdB; rw [decide_eq_false h]; simp
theorem vB {x : Wd} (h : ¬ x.made ≤ 999) : wdB x = false := by unfold wdB; rw [decide_eq_false h]; simp
theorem vC {x : Wd} (h : win x.lost 0 x.made = false) : wdB x = false := by unfold wdB; rw [h]; simp
theorem rN {x : Wd} (h : j8 x.sent = false) : wdB x = false := by unfold wdB; rw [h]; simp
theorem vD {x : Wd} (h : pi x.got = false) : wdB x = false := by unfold wdB; rw [h]; simp
theorem rO {x : Wd} (h : lk x.net = false) : wdB x = false := by unfold wdB; rw [h]; simp
theorem qT {x : Wd} (h1 : bD x.mixes = true) (h2 : x.sent.length ≤ 12) (h3 : x.net.length ≤ 10) (h4 : x.made ≤ 999) (h5 : win x.lost 0 x.made = true) (h6 : j8 x.sent = true) (h7 : pi x.got = true) (h8 : lk x.net = true) : wdB x = decide (di x = x.made) := by
 unfold wdB; rw [h1, h5, h6, h7, h8, decide_eq_true h2, decide_eq_true h3, decide_eq_true h4]; rfl
theorem kH {w w' : World} {cs : Array Value} {e i : Nat} {v : Value} (hb : Below (w.alloc (.cells cs e)).heap.size (w.alloc (.cells cs e)) w') (h : cs[i]? = some v) : w'.cell? ⟨w.heap.size, i, none⟩ = some v :=
 (hb.cell (p := ⟨w.heap.size, i, none⟩) (by simp)).trans (bP w cs e i v h)
theorem ig {w1 : World} {n : Nat} {a b c d e f : Value} (hz : n < w1.heap.size) (k0 : w1.cell? ⟨n, 0, none⟩ = some a) (k1 : w1.cell? ⟨n, 1, none⟩ = some b) (k2 : w1.cell? ⟨n, 2, none⟩ = some c) (k3 : w1.cell? ⟨n, 3, none⟩ = some d) (k4 : w1.cell? ⟨n, 4, none⟩ = some e) (k5 : w1.cell? ⟨n, 5, none⟩ = some f)
  (wx : World) (hb : Below w1.heap.size w1 wx) : wx.cell? ⟨n, 0, none⟩ = some a ∧ wx.cell? ⟨n, 1, none⟩ = some b ∧ wx.cell? ⟨n, 2, none⟩ = some c ∧ wx.cell? ⟨n, 3, none⟩ = some d ∧ wx.cell? ⟨n, 4, none⟩ = some e ∧ wx.cell? ⟨n, 5, none⟩ = some f :=
 ⟨(hb.cell (p := ⟨n, 0, none⟩) hz).trans k0, (hb.cell (p := ⟨n, 1, none⟩) hz).trans k1, (hb.cell (p := ⟨n, 2, none⟩) hz).trans k2, (hb.cell (p := ⟨n, 3, none⟩) hz).trans k3, (hb.cell (p := ⟨n, 4, none⟩) hz).trans k4, (hb.cell (p := ⟨n, 5, none⟩) hz).trans k5⟩
theorem ef (l : List Mx) (m : Mx) : ao (l ++ [m]) = ao l + m.pool.length := by simp [ao]
theorem mj {l : List Mx} (h : ∀ m ∈ l, m.pool.length ≤ 5) : ao l ≤ 5 * l.length := by
 induction l with
 | nil => simp [ao]
 | cons m l ih =>
  have h1 := ih (fun m hm => h m (List.mem_cons_of_mem _ hm))
  have h2 := h m List.mem_cons_self
  simp only [ao, List.map_cons, List.sum_cons, List.length_cons] at *
  omega
theorem bV {l : List Mx} (h : bD l = true) : l.length = 3 := by
 unfold bD at h; rw [Bool.and_eq_true, decide_eq_true_eq] at h; exact h.1
theorem gO {l : List Mx} (h : bD l = true) {k : Nat} {m : Mx} (hm : l[k]? = some m) : mxB m = true ∧ m.sec = cV k := by
 unfold bD at h; rw [Bool.and_eq_true] at h
 have := List.all_eq_true.1 h.2 k (List.mem_range.2 (List.getElem?_eq_some_iff.1 hm).1)
 rw [je hm, Bool.and_eq_true, decide_eq_true_eq] at this; exact this
theorem lY {m : Mx} (h : mxB m = true) : m.pool.length ≤ 5 := by
 unfold mxB at h; simp only [Bool.and_eq_true, decide_eq_true_eq] at h; exact h.2.2.1
theorem qC {l : List Mx} (h : bD l = true) : ∀ m ∈ l, m.pool.length ≤ 5 := fun m hm => by
 obtain ⟨k, hk⟩ := List.mem_iff_getElem?.1 hm
 exact lY (gO h hk).1
theorem gD (x : Wd) (v : Value) (w : World) (h : WdB w.heap.size w v x) (hgl : x.got.length ≤ 1073741824) : Calls Tryz.prog 20 #[v] w (ok (wdB x) w.heap.size w) := by
 obtain ⟨vm, vs, vn, vg, rfl, hm, hs, hn, hg⟩ := h
 obtain ⟨A1, c1, rfl, m1, m2, m3⟩ := hm.form
 obtain ⟨A2, c2, rfl, s1, s2, s3⟩ := hs.form
 obtain ⟨A3, c3, rfl, n1, n2, n3⟩ := hn.form
 obtain ⟨A4, c4, rfl, t1, t2, t3⟩ := hg.form
 clear m2 s2 n2 t2
 go_enter Tryz.func20, Tryz.ntmps20
 go_wp2_with fail
 refine (oG _ x.mixes _ (hm.go (ac _ _))).mono ?_
 rintro e w1 ⟨rfl, hb1⟩
 have hB : Below w.heap.size w w1 := bt (ac _ _) hb1
 have k0 := (hb1.cell (p := ⟨w.heap.size, 0, none⟩) (by simp)).trans (bP w _ _ 0 _ rfl)
 have k1 := (hb1.cell (p := ⟨w.heap.size, 1, none⟩) (by simp)).trans (bP w _ _ 1 _ rfl)
 have k2 := (hb1.cell (p := ⟨w.heap.size, 2, none⟩) (by simp)).trans (bP w _ _ 2 _ rfl)
 have k3 := (hb1.cell (p := ⟨w.heap.size, 3, none⟩) (by simp)).trans (bP w _ _ 3 _ rfl)
 have k4 := (hb1.cell (p := ⟨w.heap.size, 4, none⟩) (by simp)).trans (bP w _ _ 4 _ rfl)
 have k5 := (hb1.cell (p := ⟨w.heap.size, 5, none⟩) (by simp)).trans (bP w _ _ 5 _ rfl)
 have hz : w.heap.size < w1.heap.size := Nat.lt_of_lt_of_le (by simp) hb1.size
 have Hm := hid (hm.go hB); have Hs := hid (hs.go hB); have Hn := hid (hn.go hB); have Hg := hid (hg.go hB)
 have HB := hid hB
 have HK := hid (ig hz k0 k1 k2 k3 k4 k5)
 clear hm hs hn hg hB hb1
 cases g1 : bD x.mixes with
 | false =>
  have Hf := hid (rM g1)
  go_wp2
  go_ret
  exact ⟨aj Hf.out.symm, HB.out⟩
 | true =>
 by_cases g2 : x.sent.length ≤ 12
 ·by_cases g3 : x.net.length ≤ 10
  ·by_cases g4 : x.made ≤ 999
   ·cases g5 : win x.lost 0 x.made with
    | false =>
     have Hf := hid (vC g5)
     go_wp2_with (go_at_call 48; refine (bj _ _ _ _).mono ?_; rintro e w' ⟨rfl, rfl⟩)
     go_ret
     exact ⟨aj Hf.out.symm, HB.out⟩
    | true =>
     have l0 := (aQ.1 g5).1; have l1 := (aQ.1 g5).2
     go_wp2_with (go_at_call 48; refine (bj _ _ _ _).mono ?_; rintro e w' ⟨rfl, rfl⟩)
     have Hml := hid (bV g1)
     have Hmp := hid (qC g1)
     have HG := hid (qT (x := x) g1 g2 g3 g4 g5)
     clear k0 k1 k2 k3 k4 k5
     go_loopw [44] (fun i wr => ∃ k : Nat, k ≤ x.sent.length ∧ i = .int .i64 k ∧ (∀ j, j < k → gW x.sent j = true) ∧ Below w1.heap.size w1 wr) (fun i _ => x.sent.length - (intOf i).toNat)
     case atStart => exact ⟨0, by omega, rfl, fun j hj => absurd hj (by omega), ah⟩
     case round =>
      obtain ⟨k, hk, rfl, hall, hb⟩ := hrel
      have Hall := hid hall; have Hb := hid hb
      have r2 := Hs.out.go hb
      clear hall hb
      by_cases hlt : k < x.sent.length
      ·obtain ⟨l, hx⟩ := am hlt
       obtain ⟨b, o, rfl, _, _, q0, q1, q2⟩ := r2.lt3 hx
       have Hx := hid hx
       clear hx r2
       cases hw : ltB l with
       | false =>
        have Hf := hid (rN (dy hlt (by rw [fU Hx.out, hw]; rfl)))
        go_wp2_with (go_at_call 49; refine (fd l _).mono ?_; rw [hw]; rintro e w' ⟨rfl, hb5⟩; have kk := kH (i := 2) hb5 rfl)
        go_ret
        exact ⟨aj Hf.out.symm, bt HB.out (bt Hb.out (bt (ac _ _) hb5))⟩
       | true =>
        by_cases hn : l.num = (k : Int)
        ·have hnB : (l.num != (k : Int)) = false := by simp [hn]
         have Hf := hid (show gW x.sent k = true from by rw [fU Hx.out, hw, decide_eq_true hn]; rfl)
         clear hn
         go_wp2_with (go_at_call 49; refine (fd l _).mono ?_; rw [hw]; rintro e w' ⟨rfl, hb5⟩; have kk := kH (i := 2) hb5 rfl)
         go_roundw
         case rel => exact ⟨k + 1, by omega, by go_num, fun j hj => by rcases Nat.lt_or_ge j k with h | h; exact Hall.out j h; rw [show j = k from by omega]; exact Hf.out, bt Hb.out (bt (ac _ _) hb5)⟩
         case measure => simp [intOf]; omega
        ·have hnB : (l.num != (k : Int)) = true := by simp [hn]
         have Hf := hid (rN (dy hlt (by rw [fU Hx.out, hw, decide_eq_false hn]; rfl)))
         clear hn
         go_wp2_with (go_at_call 49; refine (fd l _).mono ?_; rw [hw]; rintro e w' ⟨rfl, hb5⟩; have kk := kH (i := 2) hb5 rfl)
         go_ret
         exact ⟨aj Hf.out.symm, bt HB.out (bt Hb.out (bt (ac _ _) hb5))⟩
      ·have Hsent := hid (show j8 x.sent = true from fb fun j hj => Hall.out j (by omega))
       obtain ⟨k0, k1, k2, k3, k4, k5⟩ := HK.out _ Hb.out
       obtain ⟨wA, rfl⟩ : ∃ wA : World, wA = wr := ⟨_, rfl⟩
       clear Hall r2
       go_wp2
       clear k0 k1 k2 k3 k4 k5
       have HB := hid (bt HB.out Hb.out)
       have HK := hid (fun (wx : World) (hb : Below wA.heap.size wA wx) => HK.out wx (bt Hb.out hb))
       have Hm := hid (Hm.out.go Hb.out); have Hn := hid (Hn.out.go Hb.out); have Hg := hid (Hg.out.go Hb.out)
       clear Hb Hs
       go_loopw [62] (fun i wr => ∃ k : Nat, k ≤ x.got.length ∧ i = .int .i64 k ∧ pi (x.got.take k) = true ∧ Below wA.heap.size wA wr) (fun i _ => x.got.length - (intOf i).toNat)
       case atStart => exact ⟨0, by omega, rfl, rfl, ah⟩
       case round =>
        obtain ⟨k2, hk2, rfl, hall, hb⟩ := hrel
        have Hall := hid hall; have Hb := hid hb
        have r2 := Hg.out.go hb
        clear hall hb
        by_cases hlt2 : k2 < x.got.length
        ·obtain ⟨l, hx⟩ := am hlt2
         obtain ⟨b, o, rfl, _, _, q0, q1, q2⟩ := r2.lt3 hx
         have Hx := hid hx
         clear hx r2
         cases hw : ltB l with
         | false =>
          have Hf := hid (vD (fu Hx.out hw))
          go_wp2_with (go_at_call 49; refine (fd l _).mono ?_; rw [hw]; rintro e w' ⟨rfl, hb5⟩)
          go_ret
          exact ⟨aj Hf.out.symm, bt HB.out (bt Hb.out (bt (by first | exact ah | exact ac _ _) hb5))⟩
         | true =>
          go_wp2_with (go_at_call 49; refine (fd l _).mono ?_; rw [hw]; rintro e w' ⟨rfl, hb5⟩)
          go_roundw
          case rel => exact ⟨k2 + 1, by omega, by go_num, by rw [aS Hx.out]; exact dU Hall.out hw, bt Hb.out (bt (by first | exact ah | exact ac _ _) hb5)⟩
          case measure => simp [intOf]; omega
        ·have Hgot := hid (show pi x.got = true from by rw [← aT hk2 hlt2]; exact Hall.out)
         obtain ⟨k0, k1, k2c, k3, k4, k5⟩ := HK.out _ Hb.out
         obtain ⟨wC, rfl⟩ : ∃ wC : World, wC = wr := ⟨_, rfl⟩
         clear Hall r2
         go_wp2
         clear k0 k1 k2c k3 k4 k5
         have HB := hid (bt HB.out Hb.out)
         have HK := hid (fun (wx : World) (hb : Below wC.heap.size wC wx) => HK.out wx (bt Hb.out hb))
         have Hm := hid (Hm.out.go Hb.out); have Hn := hid (Hn.out.go Hb.out)
         clear Hb Hg
         go_loopw [83] (fun i wr => ∃ k : Nat, k ≤ x.net.length ∧ i = .int .i64 k ∧ lk (x.net.take k) = true ∧ Below wC.heap.size wC wr) (fun i _ => x.net.length - (intOf i).toNat)
         case atStart => exact ⟨0, by omega, rfl, rfl, ah⟩
         case round =>
          obtain ⟨k3, hk3, rfl, hall, hb⟩ := hrel
          have Hall := hid hall; have Hb := hid hb
          have r2 := Hn.out.go hb
          clear hall hb
          by_cases hlt3 : k3 < x.net.length
          ·obtain ⟨y, hx⟩ := am hlt3
           obtain ⟨b, o, vh, vb, rfl, _, _, s1, s2, q0, q1, q2, q3, q4, q5⟩ := r2.tr hx
           obtain ⟨Ah, ch, rfl, _, _, _⟩ := s1.form
           obtain ⟨Ab, cb, rfl, _, _, _⟩ := s2.form
           have Hx := hid hx; have S1 := hid s1; have S2 := hid s2
           clear hx r2 s1 s2
           cases hw1 : win y.mix 0 2 with
           | false =>
            have Hf := hid (rO (fu Hx.out (show trB y = false from by rw [trB, hw1]; rfl)))
            go_wp2_with (go_at_call 50; refine (fO _ _).mono ?_; rintro e w' ⟨rfl, rfl⟩)
            go_ret
            exact ⟨aj Hf.out.symm, bt HB.out (bt Hb.out (by first | exact ah | exact ac _ _))⟩
           | true =>
            cases hw2 : pkB y.pk with
            | false =>
             have Hf := hid (rO (fu Hx.out (show trB y = false from by rw [trB, hw1, hw2]; rfl)))
             go_wp2_with (first | (go_at_call 50; refine (fO _ _).mono ?_; rintro e w' ⟨rfl, rfl⟩) | (go_at_call 51; with_reducible refine (cr y.pk _ _ _ ?_ ?_).mono ?_; (refine S1.out.go ?_; (repeat (first | exact ah | refine ae ?_ | refine Below.alloc ?_ (by simp <;> omega) _))); (refine S2.out.go ?_; (repeat (first | exact ah | refine ae ?_ | refine Below.alloc ?_ (by simp <;> omega) _))); rw [hw2]; rintro e w' ⟨rfl, hb5⟩))
             go_ret
             exact ⟨aj Hf.out.symm, bt HB.out (bt Hb.out (bt (by first | exact ah | exact ac _ _) hb5))⟩
            | true =>
             have Hf := hid (show trB y = true from by rw [trB, hw1, hw2]; rfl)
             go_wp2_with (first | (go_at_call 50; refine (fO _ _).mono ?_; rintro e w' ⟨rfl, rfl⟩) | (go_at_call 51; with_reducible refine (cr y.pk _ _ _ ?_ ?_).mono ?_; (refine S1.out.go ?_; (repeat (first | exact ah | refine ae ?_ | refine Below.alloc ?_ (by simp <;> omega) _))); (refine S2.out.go ?_; (repeat (first | exact ah | refine ae ?_ | refine Below.alloc ?_ (by simp <;> omega) _))); rw [hw2]; rintro e w' ⟨rfl, hb5⟩))
             go_roundw
             case rel => exact ⟨k3 + 1, by omega, by go_num, by rw [aS Hx.out]; exact dU Hall.out Hf.out, bt Hb.out (bt (by first | exact ah | exact ac _ _) hb5)⟩
             case measure => simp [intOf]; omega
          ·have Hnet := hid (show lk x.net = true from by rw [← aT hk3 hlt3]; exact Hall.out)
           obtain ⟨k0, k1, k2c, k3c, k4, k5⟩ := HK.out _ Hb.out
           obtain ⟨wD, rfl⟩ : ∃ wD : World, wD = wr := ⟨_, rfl⟩
           clear Hall r2
           go_wp2
           clear k0 k1 k2c k3c k4 k5
           have HB := hid (bt HB.out Hb.out)
           have HK := hid (fun (wx : World) (hb : Below wD.heap.size wD wx) => HK.out wx (bt Hb.out hb))
           have Hm := hid (Hm.out.go Hb.out)
           clear Hb Hn
           have hps := mj Hmp.out
           have Hps := hid hps
           clear hps
           go_loopw [7, 101] (fun cv i wr => ∃ k : Nat, k ≤ x.mixes.length ∧ i = .int .i64 k ∧ cv = .int .i64 ((x.net.length : Int) + x.got.length + x.lost + ao (x.mixes.take k)) ∧ Below wD.heap.size wD wr) (fun _ i _ => x.mixes.length - (intOf i).toNat)
           case atStart => exact ⟨0, by omega, rfl, by simp [ao], ah⟩
           case round =>
            obtain ⟨k4, hk4, rfl, rfl, hb⟩ := hrel
            have Hb := hid hb
            have r2 := Hm.out.go hb
            clear hb
            have h15 : ao (x.mixes.take k4) ≤ 15 := by
             have h1 := mj (l := x.mixes.take k4) (fun m hm => Hmp.out m (List.mem_of_mem_take hm))
             have h2 : (x.mixes.take k4).length ≤ 3 := by rw [List.length_take, Hml.out]; omega
             omega
            by_cases hlt4 : k4 < x.mixes.length
            ·obtain ⟨y, hx⟩ := am hlt4
             obtain ⟨b, o, vs, vp, rfl, _, _, s1, s2, q0, q1, q2⟩ := r2.mx hx
             obtain ⟨Ah, ch, rfl, _, _, _⟩ := s1.form
             obtain ⟨Ab, cb, rfl, _, _, _⟩ := s2.form
             have hy5 := Hmp.out y (List.mem_of_getElem? hx)
             have Ht := hid (show ao (x.mixes.take (k4 + 1)) = ao (x.mixes.take k4) + y.pool.length from by rw [aS hx, ef])
             clear hx r2 s1 s2
             generalize ao (x.mixes.take k4) = q at *
             go_wp2
             go_roundw
             case rel => exact ⟨k4 + 1, by omega, by go_num, by rw [Ht.out]; go_num, bt Hb.out (by first | exact ah | exact ac _ _)⟩
             case measure => simp [intOf]; omega
            ·have Hq := hid (show x.mixes.take k4 = x.mixes from aT hk4 hlt4)
             have hG := HG.out Hsent.out Hgot.out Hnet.out
             have HG2 := hid hG
             obtain ⟨k0, k1, k2c, k3c, k4c, k5⟩ := HK.out _ Hb.out
             rw [Hq.out] at *
             have HI := hid (show (x.net.length : Int) + x.got.length + x.lost + ao x.mixes = di x from rfl)
             clear hG r2
             go_wp2
             go_ret
             exact ⟨aj (by rw [HG2.out, ← HI.out]; first | rfl | (rw [Bool.eq_iff_iff]; simp)), bt HB.out Hb.out⟩
   ·have Hf := hid (vB g4)
    go_wp2
    go_ret
    exact ⟨aj Hf.out.symm, HB.out⟩
  ·have Hf := hid (vA g3)
   go_wp2
   go_ret
   exact ⟨aj Hf.out.symm, HB.out⟩
 ·have Hf := hid (vz g2)
  go_wp2
  go_ret
  exact ⟨aj Hf.out.symm, HB.out⟩
def ed : Ty (List Int) := af.own 3
def oPk : Ty Pk := wN ed
def oPl : Ty Pl := wO oPk
def oTr : Ty Tr := wY oPk
def fy : Ty (List Pl) := oPl.own 101
def oMx : Ty Mx := wM ed fy
theorem ox : ed.le af.sl := Ty.le_own (Ty.le_refl _) _
theorem tL : oPk.le tPk := Ty.le_via (Ty.le_prod (Ty.le_refl _) (Ty.le_prod ox (Ty.le_prod (Ty.le_refl _) ox)))
theorem oy : oPl.le tPl := Ty.le_via (Ty.le_prod (Ty.le_refl _) (Ty.le_prod (Ty.le_refl _) tL))
theorem qy : oTr.le tTr := Ty.le_via (Ty.le_prod (Ty.le_refl _) (Ty.le_prod tL (Ty.le_refl _)))
theorem tK : oMx.le tMx := Ty.le_via (Ty.le_prod (Ty.le_refl _) (Ty.le_prod ox (Ty.le_own oy _)))
def oD (k : Nat) : Mx := ⟨cV k, [], []⟩
def dq (k : Nat) : List Mx := (List.range k).map oD
def pW : Wd := ⟨dq 3, [], [], [], 0, 0⟩
theorem mQ (k : Nat) : dq (k + 1) = dq k ++ [oD k] := by simp [dq, List.range_succ]
theorem jR (k : Nat) : (dq k).length = k := by simp [dq]
theorem oa : (Tryz.prog.info? 47).map (fun i => (i.zero, i.size, i.bytes)) = some (some (.agg #[.int .i64 0, .slice none 0 0, .slice none 0 0]), 3, 56) := by kernel_rfl
theorem tP (w : World) (k : Nat) (A B : Option Addr) : tMx.E w [.int .i64 (cV k), .slice A 0 0, .slice B 0 0] (oD k) [] :=
 vw.2 ⟨_, _, [], [], rfl, rfl, Sl.nil 0 _ (by simp [maxLen]), Sl.nil 0 _ (by simp [maxLen])⟩
theorem oM {k : Nat} (h : k < 3) : win (cV k) 1 996 = true := aQ.2 (by unfold cV; omega)
theorem fq {α : Type} {T : Ty α} {e B : Nat} {w : World} {v : Value} {xs : List α} {G : List Nat} {p : Addr} {u : Value} (h : Own T e B w v xs G) (hv : v.ownBlock ≠ some p.block) (hG : p.block ∉ G) : Own T e B (w.setCell p u) v xs G :=
 h.keep (fun b hb => Below.heap_setCell _ _ _ _ (fun e => hv (by rw [hb, e]))) (fun b hb => Below.heap_setCell _ _ _ _ (fun e => hG (by rw [← e]; exact hb)))
theorem oO (s : Int) (hs : win s 1 996 = true) (w : World) : Calls Tryz.prog 85 #[.int .i64 s] w fun e w' => ∃ a b, e = .returned (.tuple #[.agg #[.int .i64 s, .slice (some ⟨a, 0, none⟩) 0 0, .slice (some ⟨b, 0, none⟩) 0 0], .bool true]) ∧ Below w.heap.size w w' := by
 go_enter Tryz.func85, Tryz.ntmps85
 go_wp2_with (go_at_call 75; refine (cW _ _).mono ?_; rw [hs]; rintro e w' ⟨rfl, rfl⟩)
 refine bodyPost_ret (v := .tuple #[.agg #[.int .i64 s, .slice (some ⟨w.heap.size + 1, 0, none⟩) 0 0, .slice (some ⟨w.heap.size + 1 + 1, 0, none⟩) 0 0], .bool true]) (by simp [results, go_sem]) rfl ⟨_, _, rfl, ?_⟩
 (repeat (first | exact ah | refine ae ?_ | refine Below.alloc ?_ (by simp <;> omega) _))
theorem Sl.boxn {α : Type} {T : Ty α} {w : World} {cs : List Value} {x : α} {G : List Nat} {e : TypeId} (n : Nat) (hn : n = w.heap.size) (h : T.E w cs x G) :
  Sl T (w.alloc (.cells cs.toArray e)) (.slice (some ⟨n, 0, none⟩) 1 1) [x] (n :: G) := by subst hn; exact Sl.box h
def FrW (T : Ty Mx) (s1 s2 s3 : Value) (W wr : World) (m n k : Nat) : Prop :=
 ∃ vm, wr.heap[n]? = some (.cells #[vm, s1, s2, s3, .int .i64 0, .int .i64 0] 27 (0, 0)) ∧ wr.heap[m]? = some (.cells #[Value.slice none 0 0, Value.slice none 0 0, Value.slice none 0 0, Value.slice none 0 0, Value.int IntKind.i64 0, Value.int IntKind.i64 0] 27 (0, 0)) ∧
  Own T 47 W.heap.size wr vm (dq k) [] ∧ m < n ∧ n < W.heap.size ∧ W.heap.size ≤ wr.heap.size
theorem pg {wr : World} {n : Nat} {vm s1 s2 s3 : Value} (h : wr.heap[n]? = some (.cells #[vm, s1, s2, s3, .int .i64 0, .int .i64 0] 27 (0, 0))) :
  wr.cell? ⟨n, 0, none⟩ = some vm ∧ wr.cell? ⟨n, 1, none⟩ = some s1 ∧ wr.cell? ⟨n, 2, none⟩ = some s2 ∧ wr.cell? ⟨n, 3, none⟩ = some s3 ∧ wr.cell? ⟨n, 4, none⟩ = some (.int .i64 0) ∧ wr.cell? ⟨n, 5, none⟩ = some (.int .i64 0) ∧ ∀ j, wr.frozen? ⟨n, j, none⟩ = false :=
 ⟨by rw [cell_of_row wr n 0 _ _ _ h]; rfl, by rw [cell_of_row wr n 1 _ _ _ h]; rfl, by rw [cell_of_row wr n 2 _ _ _ h]; rfl, by rw [cell_of_row wr n 3 _ _ _ h]; rfl, by rw [cell_of_row wr n 4 _ _ _ h]; rfl, by rw [cell_of_row wr n 5 _ _ _ h]; rfl, fun j => frozen_of_row wr n j _ _ h⟩
theorem FrW.step {T : Ty Mx} {s1 s2 s3 : Value} {W wr w6 : World} {m n k : Nat} {vm v2 : Value} (h : wr.heap[n]? = some (.cells #[vm, s1, s2, s3, .int .i64 0, .int .i64 0] 27 (0, 0))) (hm : wr.heap[m]? = some (.cells #[Value.slice none 0 0, Value.slice none 0 0, Value.slice none 0 0, Value.slice none 0 0, Value.int IntKind.i64 0, Value.int IntKind.i64 0] 27 (0, 0)))
  (ho : Own T 47 W.heap.size w6 v2 (dq k ++ [oD k]) []) (hb : Below W.heap.size wr w6) (hmn : m < n) (hn : n < W.heap.size) (hW : W.heap.size ≤ wr.heap.size) : FrW T s1 s2 s3 W (w6.setCell ⟨n, 0, none⟩ v2) m n (k + 1) := by
 have h6 := (hb.block n hn).trans h
 have m6 := (hb.block m (by omega)).trans hm
 refine ⟨v2, ?_, ?_, ?_, hmn, hn, ?_⟩
 ·rw [heap_setCell_same w6 n 0 _ _ _ h6]; rfl
 ·exact (Below.heap_setCell _ _ _ _ (fun e => by simp at e; omega)).trans m6
 ·rw [mQ]
  exact fq ho (fun e => by have := (ho.top n e).1; omega) (by simp)
 ·have := hb.size; simp [World.setCell]; omega
theorem SlB.lit {W : World} {b c : Nat} {xs : List Int} (hc : xs.length ≤ c) (hm : c ≤ maxLen) (h : ∀ i x, xs[i]? = some x → W.cell? ⟨b, i, none⟩ = some (.int .i64 x)) : SlB af W.heap.size W (.slice (some ⟨b, 0, none⟩) xs.length c) xs := by
 by_cases hx : xs = []
 ·subst hx
  exact ⟨[], Sl.nil _ _ hm, fun b hb => by cases hb⟩
 ·have h0 : 0 < xs.length := List.length_pos_iff.2 hx
  have hb : b < W.heap.size := World.block_lt_of_cell? W ⟨b, 0, none⟩ (h 0 xs[0] (List.getElem?_eq_getElem h0))
  refine ⟨[b], ⟨_, c, xs.flatMap (fun n => [.int .i64 n]), rfl, hc, hm, .inr ⟨b, 0, [], rfl, rfl, hx, hb, dG.2 ⟨rfl, rfl⟩, fun j u hj => ?_⟩⟩, fun b' hb' => by simp at hb'; omega⟩
  rw [bw, List.getElem?_map] at hj
  cases hxj : xs[j]? with
  | none => rw [hxj] at hj; cases hj
  | some x => rw [hxj] at hj; cases hj; rw [Nat.zero_add]; exact h j x hxj
def iI : List (List Int) := [[0], [1], [2], [0, 1], [1, 2], [2, 0], [0, 1, 2], [2, 1, 0], [1, 0, 2]]
def aA (k : Int) : List Int := if 0 ≤ k ∧ k ≤ 8 then iI.getD k.toNat [] else []
theorem nH (i : Nat) : (iI.getD i []).length ≤ 3 := by
 rcases i with _ | _ | _ | _ | _ | _ | _ | _ | _ | i <;> simp [iI]
def Laid (W : World) (b : Nat) : Prop := ∀ i, i < 9 → ∃ v, W.cell? ⟨b, i, none⟩ = some v ∧ SlB af W.heap.size W v (iI.getD i [])
theorem gy (w : World) : Below w.heap.size w ((((((((((w.alloc (.cells #[.int .i64 0] 3)).alloc (.cells #[.int .i64 1] 3)).alloc (.cells #[.int .i64 2] 3)).alloc (.cells #[.int .i64 0, .int .i64 1] 3)).alloc (.cells #[.int .i64 1, .int .i64 2] 3)).alloc (.cells #[.int .i64 2, .int .i64 0] 3)).alloc (.cells #[.int .i64 0, .int .i64 1, .int .i64 2] 3)).alloc (.cells #[.int .i64 2, .int .i64 1, .int .i64 0] 3)).alloc (.cells #[.int .i64 1, .int .i64 0, .int .i64 2] 3)).alloc (.cells #[.slice (some ⟨w.heap.size, 0, none⟩) 1 1, .slice (some ⟨w.heap.size + 1, 0, none⟩) 1 1, .slice (some ⟨w.heap.size + 1 + 1, 0, none⟩) 1 1, .slice (some ⟨w.heap.size + 1 + 1 + 1, 0, none⟩) 2 2, .slice (some ⟨w.heap.size + 1 + 1 + 1 + 1, 0, none⟩) 2 2, .slice (some ⟨w.heap.size + 1 + 1 + 1 + 1 + 1, 0, none⟩) 2 2, .slice (some ⟨w.heap.size + 1 + 1 + 1 + 1 + 1 + 1, 0, none⟩) 3 3, .slice (some ⟨w.heap.size + 1 + 1 + 1 + 1 + 1 + 1 + 1, 0, none⟩) 3 3, .slice (some ⟨w.heap.size + 1 + 1 + 1 + 1 + 1 + 1 + 1 + 1, 0, none⟩) 3 3] 39)) := by
 repeat (first | exact ah | refine Below.alloc ?_ (by simp <;> omega) _)
theorem lz (w : World) : Laid ((((((((((w.alloc (.cells #[.int .i64 0] 3)).alloc (.cells #[.int .i64 1] 3)).alloc (.cells #[.int .i64 2] 3)).alloc (.cells #[.int .i64 0, .int .i64 1] 3)).alloc (.cells #[.int .i64 1, .int .i64 2] 3)).alloc (.cells #[.int .i64 2, .int .i64 0] 3)).alloc (.cells #[.int .i64 0, .int .i64 1, .int .i64 2] 3)).alloc (.cells #[.int .i64 2, .int .i64 1, .int .i64 0] 3)).alloc (.cells #[.int .i64 1, .int .i64 0, .int .i64 2] 3)).alloc (.cells #[.slice (some ⟨w.heap.size, 0, none⟩) 1 1, .slice (some ⟨w.heap.size + 1, 0, none⟩) 1 1, .slice (some ⟨w.heap.size + 1 + 1, 0, none⟩) 1 1, .slice (some ⟨w.heap.size + 1 + 1 + 1, 0, none⟩) 2 2, .slice (some ⟨w.heap.size + 1 + 1 + 1 + 1, 0, none⟩) 2 2, .slice (some ⟨w.heap.size + 1 + 1 + 1 + 1 + 1, 0, none⟩) 2 2, .slice (some ⟨w.heap.size + 1 + 1 + 1 + 1 + 1 + 1, 0, none⟩) 3 3, .slice (some ⟨w.heap.size + 1 + 1 + 1 + 1 + 1 + 1 + 1, 0, none⟩) 3 3, .slice (some ⟨w.heap.size + 1 + 1 + 1 + 1 + 1 + 1 + 1 + 1, 0, none⟩) 3 3] 39)) (w.heap.size + 9) := by
 intro i hi
 obtain rfl | rfl | rfl | rfl | rfl | rfl | rfl | rfl | rfl : i = 0 ∨ i = 1 ∨ i = 2 ∨ i = 3 ∨ i = 4 ∨ i = 5 ∨ i = 6 ∨ i = 7 ∨ i = 8 := by omega
 ·exact ⟨.slice (some ⟨w.heap.size, 0, none⟩) 1 1, (by simp (disch := (first | omega | (simp; done) | (simp; omega))) [World.cell?_alloc_at, World.cell?_alloc_past]), SlB.lit (xs := [0]) (by decide) (by decide) (fun j x hj => by rcases j with _ | _ | _ | j <;> simp at hj <;> subst hj <;> simp (disch := (first | omega | (simp; done) | (simp; omega))) [World.cell?_alloc_at, World.cell?_alloc_past])⟩
 ·exact ⟨.slice (some ⟨w.heap.size + 1, 0, none⟩) 1 1, (by simp (disch := (first | omega | (simp; done) | (simp; omega))) [World.cell?_alloc_at, World.cell?_alloc_past]), SlB.lit (xs := [1]) (by decide) (by decide) (fun j x hj => by rcases j with _ | _ | _ | j <;> simp at hj <;> subst hj <;> simp (disch := (first | omega | (simp; done) | (simp; omega))) [World.cell?_alloc_at, World.cell?_alloc_past])⟩
 ·exact ⟨.slice (some ⟨w.heap.size + 1 + 1, 0, none⟩) 1 1, (by simp (disch := (first | omega | (simp; done) | (simp; omega))) [World.cell?_alloc_at, World.cell?_alloc_past]), SlB.lit (xs := [2]) (by decide) (by decide) (fun j x hj => by rcases j with _ | _ | _ | j <;> simp at hj <;> subst hj <;> simp (disch := (first | omega | (simp; done) | (simp; omega))) [World.cell?_alloc_at, World.cell?_alloc_past])⟩
 ·exact ⟨.slice (some ⟨w.heap.size + 1 + 1 + 1, 0, none⟩) 2 2, (by simp (disch := (first | omega | (simp; done) | (simp; omega))) [World.cell?_alloc_at, World.cell?_alloc_past]), SlB.lit (xs := [0, 1]) (by decide) (by decide) (fun j x hj => by rcases j with _ | _ | _ | j <;> simp at hj <;> subst hj <;> simp (disch := (first | omega | (simp; done) | (simp; omega))) [World.cell?_alloc_at, World.cell?_alloc_past])⟩
 ·exact ⟨.slice (some ⟨w.heap.size + 1 + 1 + 1 + 1, 0, none⟩) 2 2, (by simp (disch := (first | omega | (simp; done) | (simp; omega))) [World.cell?_alloc_at, World.cell?_alloc_past]), SlB.lit (xs := [1, 2]) (by decide) (by decide) (fun j x hj => by rcases j with _ | _ | _ | j <;> simp at hj <;> subst hj <;> simp (disch := (first | omega | (simp; done) | (simp; omega))) [World.cell?_alloc_at, World.cell?_alloc_past])⟩
 ·exact ⟨.slice (some ⟨w.heap.size + 1 + 1 + 1 + 1 + 1, 0, none⟩) 2 2, (by simp (disch := (first | omega | (simp; done) | (simp; omega))) [World.cell?_alloc_at, World.cell?_alloc_past]), SlB.lit (xs := [2, 0]) (by decide) (by decide) (fun j x hj => by rcases j with _ | _ | _ | j <;> simp at hj <;> subst hj <;> simp (disch := (first | omega | (simp; done) | (simp; omega))) [World.cell?_alloc_at, World.cell?_alloc_past])⟩
 ·exact ⟨.slice (some ⟨w.heap.size + 1 + 1 + 1 + 1 + 1 + 1, 0, none⟩) 3 3, (by simp (disch := (first | omega | (simp; done) | (simp; omega))) [World.cell?_alloc_at, World.cell?_alloc_past]), SlB.lit (xs := [0, 1, 2]) (by decide) (by decide) (fun j x hj => by rcases j with _ | _ | _ | j <;> simp at hj <;> subst hj <;> simp (disch := (first | omega | (simp; done) | (simp; omega))) [World.cell?_alloc_at, World.cell?_alloc_past])⟩
 ·exact ⟨.slice (some ⟨w.heap.size + 1 + 1 + 1 + 1 + 1 + 1 + 1, 0, none⟩) 3 3, (by simp (disch := (first | omega | (simp; done) | (simp; omega))) [World.cell?_alloc_at, World.cell?_alloc_past]), SlB.lit (xs := [2, 1, 0]) (by decide) (by decide) (fun j x hj => by rcases j with _ | _ | _ | j <;> simp at hj <;> subst hj <;> simp (disch := (first | omega | (simp; done) | (simp; omega))) [World.cell?_alloc_at, World.cell?_alloc_past])⟩
 ·exact ⟨.slice (some ⟨w.heap.size + 1 + 1 + 1 + 1 + 1 + 1 + 1 + 1, 0, none⟩) 3 3, (by simp (disch := (first | omega | (simp; done) | (simp; omega))) [World.cell?_alloc_at, World.cell?_alloc_past]), SlB.lit (xs := [1, 0, 2]) (by decide) (by decide) (fun j x hj => by rcases j with _ | _ | _ | j <;> simp at hj <;> subst hj <;> simp (disch := (first | omega | (simp; done) | (simp; omega))) [World.cell?_alloc_at, World.cell?_alloc_past])⟩
theorem kR (k : Int) (w : World) : Calls Tryz.prog 22 #[.int .i64 k] w fun e w' => ∃ v', e = .returned v' ∧ bJ af 3 w.heap.size w' v' (aA k) ∧ Below w.heap.size w w' := by
 go_enter Tryz.func22, Tryz.ntmps22
 go_wp2_with fail
 refine (bj _ _ _ _).mono ?_
 rintro e W ⟨rfl, hw⟩
 have hb : Below w.heap.size w W := by rw [← hw]; exact gy w
 have hL : Laid W (w.heap.size + 9) := by rw [← hw]; exact lz w
 clear hw
 by_cases hk : 0 ≤ k ∧ k ≤ 8
 ·have hw : win k 0 8 = true := by simp [win]; omega
  obtain ⟨i, rfl⟩ := Int.eq_ofNat_of_zero_le hk.1
  have hi : i < 9 := by omega
  obtain ⟨v, hv, hs⟩ := hL i hi
  have h0 : (0 : Int) ≤ (i : Int) := by omega
  have h9 : (i : Int) < 9 := by omega
  have Hk := hid hk
  clear hL hk
  go_wp2_with (go_at_call 52; refine (eG v (iI.getD i []) _ hs (by have := nH i; omega)).mono ?_; rintro e w' ⟨v', rfl, hn, hb'⟩)
  go_ret
  exact ⟨v', rfl, by rw [show aA i = iI.getD i [] from by simp [aA, Hk.out]]; exact hn.base hb.size, hb.trans (hb'.mono hb.size)⟩
 ·have hw : win k 0 8 = false := by simp [win]; omega
  go_wp2
  go_ret
  exact ⟨_, rfl, by rw [show aA k = [] from if_neg hk]; exact bJ.nil _ _, hb⟩
theorem kS (k : Int) (w : World) : Calls Tryz.prog 110 #[.int .i64 k] w fun e w' => ∃ v', e = .returned v' ∧ SlB af w'.heap.size w' v' (aA k) ∧ Below w.heap.size w w' := by
 go_enter Tryz.func110, Tryz.ntmps110
 go_wp2_with fail
 refine (aX _ _ _ _).mono ?_
 rintro e W ⟨rfl, hw⟩
 have hb : Below w.heap.size w W := by rw [← hw]; exact gy w
 have hL : Laid W (w.heap.size + 9) := by rw [← hw]; exact lz w
 clear hw
 by_cases hk : 0 ≤ k ∧ k ≤ 8
 ·have hw : win k 0 8 = true := by simp [win]; omega
  obtain ⟨i, rfl⟩ := Int.eq_ofNat_of_zero_le hk.1
  have hi : i < 9 := by omega
  obtain ⟨v, hv, hs⟩ := hL i hi
  have h0 : (0 : Int) ≤ (i : Int) := by omega
  have h9 : (i : Int) < 9 := by omega
  have Hk := hid hk
  clear hL hk
  go_wp2
  go_ret
  exact ⟨v, rfl, by rw [show aA i = iI.getD i [] from by simp [aA, Hk.out]]; exact hs, hb⟩
 ·have hw : win k 0 8 = false := by simp [win]; omega
  go_wp2
  go_ret
  exact ⟨_, rfl, by rw [show aA k = [] from if_neg hk]; exact ⟨[], Sl.nil _ _ (by decide), fun b hb => by cases hb⟩, hb.alloc hb.size _⟩
structure Ev where
 kind : Int
 a : Int
 b : Int
 c : Int
def dD (key : Int) (i : Nat) : Int := (key * ((i : Int) + 2) + 11 * (i : Int) * (i : Int) + 5) % 991
def onL (l : List Int) (key : Int) : List Int := l.mapIdx fun i n => (n + dD key i) % 991
def cP (l : List Int) (key : Int) : List Int := l.mapIdx fun i n => (n + 991 - dD key i) % 991
def gY (t x : Int) : Int := (613 * t + x + 1) % 991
def dB (key : Int) (l : List Int) : Int := l.foldl gY ((3 * key + 41 * (l.length : Int) + 1) % 991)
def ay (a b : Int) : Int := a * b % 997
def ey (s : Int) : Int := 1 + (7 * s + 3) % 996
def eS (letter : List Int) : List Int := (letter.length : Int) :: letter ++ List.replicate (4 - letter.length) 0
def ce (letter : List Int) : List Int := eS letter ++ [dB 1 (eS letter)]
def gK (body : List Int) : Int := body.getD 0 0
def eM (body : List Int) : List Int := (body.drop 1).take (gK body).toNat
def ee (body : List Int) : Option (List Int) :=
 if fe body 6 = true ∧ gK body ≤ 4 ∧ ce (eM body) = body then some (eM body) else none
def cF (x : Int) : List Int → List Int
 | [] => []
 | p :: ps => ay x p :: cF (ay x (ey (ay x p))) ps
def aV (out : List Int) (key : Int) : List Int := (out ++ [0, 0, 0]).mapIdx fun k n => (n + 991 - dD key (12 - (out.length + 3) + k)) % 991
def bM (keys : List Int) : List Int := keys.dropLast.foldl aV []
def dR (rcv : Int) (f : Nat) : List Int := [1, rcv, 0] ++ List.replicate (6 - f) 0
def hdT (filler : List Int) (rcv : Int) : List Int → List Int → List Int × Int
 | [k], _ => (onL (dR rcv filler.length) k ++ filler, dB k (onL (dR rcv filler.length) k ++ filler))
 | k :: ks, _ :: ns =>
  let r := hdT filler rcv ks ns
  (onL ([0, ns.getD 0 0, r.2] ++ r.1.take 6) k, dB k (onL ([0, ns.getD 0 0, r.2] ++ r.1.take 6) k))
 | _, _ => ([], 0)
def vt (letter keys : List Int) : List Int := keys.foldl onL (ce letter)
def eU (secret : Int) (publics names : List Int) (rcv : Int) (letter : List Int) : Pk :=
 let keys := cF secret publics
 let r := hdT (bM keys) rcv keys names
 ⟨ay secret 5, r.1, r.2, vt letter keys⟩
def aU (s : Int) (p : Pk) : List Int := cP (p.hd ++ [0, 0, 0]) s
def be (secret : Int) (p : Pk) : Option Pl :=
 let s := ay secret p.el
 let l := aU s p
 if dB s p.hd = p.tag ∧ win (l.getD 0 0) 0 1 = true ∧ win (l.getD 1 0) 0 7 = true then
  some ⟨l.getD 0 0, l.getD 1 0, ⟨ay p.el (ey s), l.drop 3, l.getD 2 0, cP p.bd s⟩⟩
 else none
def bU (m : Mx) (p : Pk) : Mx × Int :=
 match be m.sec p with
 | none => (m, 2)
 | some x =>
  if ay m.sec p.el ∈ m.seen then (m, 1)
  else if 12 ≤ m.seen.length ∨ 5 ≤ m.pool.length then (m, 3)
  else (⟨m.sec, m.seen ++ [ay m.sec p.el], m.pool ++ [x]⟩, 0)
def cI (a b : Pl) : Bool :=
 if a.kind ≠ b.kind then decide (a.kind < b.kind)
 else if a.next ≠ b.next then decide (a.next < b.next)
 else if a.pk.el ≠ b.pk.el then decide (a.pk.el < b.pk.el)
 else decide (a.pk.tag < b.pk.tag)
def ja (x : Pl) : List Pl → List Pl
 | [] => [x]
 | y :: ys => if cI x y = true then x :: y :: ys else y :: ja x ys
def bH (l : List Pl) : List Pl := l.foldl (fun out x => ja x out) []
def cJ (m : Mx) (all : Bool) : Mx × List Pl :=
 if m.pool.length < 2 ∧ all = false then (m, []) else (⟨m.sec, m.seen, []⟩, bH m.pool)
def cT (w : Wd) : Wd := ⟨w.mixes, w.sent, w.net, w.got, w.made, w.lost + 1⟩
def bu (w : Wd) (l : List Tr) : Wd := ⟨w.mixes, w.sent, l, w.got, w.made, w.lost⟩
def dd (w : Wd) (mix : Int) (p : Pk) (ch : Bool) : Wd :=
 if 10 ≤ w.net.length ∨ win mix 0 2 = false then cT w else bu w (w.net ++ [⟨mix, p, ch⟩])
def dJ (names : List Int) : List Int := names.map fun k => ay (100 + 37 * k) 5
def lj (n : Nat) (fr dst path : Int) : Pk := eU (7 + 41 * (n : Int)) (dJ (aA path)) (aA path) dst [fr, (n : Int)]
def dA (w : Wd) (fr dst path : Int) : Wd :=
 if win fr 0 7 = true ∧ win dst 0 7 = true ∧ aA path ≠ [] ∧ w.sent.length < 12 ∧ w.made < 999 then
  dd ⟨w.mixes, w.sent ++ [⟨fr, dst, (w.sent.length : Int)⟩], w.net, w.got, w.made + 1, w.lost⟩ ((aA path).getD 0 0) (lj w.sent.length fr dst path) false
 else w
def lh (x : Pl) : Option Lt :=
 match ee x.pk.bd with
 | none => none
 | some l => if l.length = 2 ∧ ltB ⟨l.getD 0 0, x.next, l.getD 1 0⟩ = true then some ⟨l.getD 0 0, x.next, l.getD 1 0⟩ else none
def eN (w : Wd) (x : Pl) : Wd :=
 match lh x with
 | none => cT w
 | some l => ⟨w.mixes, w.sent, w.net, w.got ++ [l], w.made, w.lost⟩
def cK (w : Wd) (x : Pl) : Wd := if x.kind = 1 then eN w x else dd w x.next x.pk false
def cw (w : Wd) (k : Nat) (m : Mx) : Wd := ⟨w.mixes.set k m, w.sent, w.net, w.got, w.made, w.lost⟩
def sU : Mx := ⟨0, [], []⟩
def bQ (w : Wd) (k : Nat) (all : Bool) : Wd :=
 let r := cJ (w.mixes.getD k sU) all
 r.2.foldl cK (cw w k r.1)
def cU (w : Wd) (t : Tr) : Wd :=
 let r := bU (w.mixes.getD t.mix.toNat sU) t.pk
 if r.2 = 0 then cw w t.mix.toNat r.1 else cT (cw w t.mix.toNat r.1)
def iF (p : Pk) (k : Nat) : Pk := ⟨p.el, p.hd.set k ((p.hd.getD k 0 + 1) % 991), p.tag, p.bd⟩
def fc (w : Wd) (i : Nat) (t : Tr) (k : Int) : Wd :=
 if win k 0 8 = true ∧ t.ch = false then bu w (w.net.set i ⟨t.mix, iF t.pk k.toNat, true⟩) else w
def dI (w : Wd) (e : Ev) : Wd :=
 if e.a < 0 then w else
 match w.net[e.a.toNat]? with
 | none => w
 | some t =>
  if e.kind = 4 then (if w.net.length < 10 ∧ w.made < 999 then dd ⟨w.mixes, w.sent, w.net, w.got, w.made + 1, w.lost⟩ t.mix t.pk t.ch else w)
  else if e.kind = 5 then fc w e.a.toNat t e.b
  else if e.kind = 3 then cT (bu w (w.net.eraseIdx e.a.toNat))
  else cU (bu w (w.net.eraseIdx e.a.toNat)) t
def doW (w : Wd) (e : Ev) : Wd :=
 if e.kind = 1 then dA w e.a e.b e.c
 else if e.kind = 2 ∨ e.kind = 3 ∨ e.kind = 4 ∨ e.kind = 5 then dI w e
 else if e.kind = 6 ∧ win e.a 0 2 = true then bQ w e.a.toNat false
 else w
def zWd : Wd := ⟨[], [], [], [], 0, 0⟩
def aW (w : Wd) (e : Ev) : Wd := if wdB w = true then doW w e else zWd
def dM : Nat → Wd → Wd
 | 0, w => w
 | n + 1, w => dM n (dI w ⟨2, 0, 0, 0⟩)
def ml (w : Wd) : Wd := bQ (bQ (bQ (dM w.net.length w) 0 true) 1 true) 2 true
def fX (w : Wd) : Bool := decide (0 < w.net.length + ao w.mixes)
def fk : Nat → Wd → Wd
 | 0, w => w
 | n + 1, w => if fX w = true then fk n (ml w) else w
def dF (w : Wd) : Wd := fk 60 w
end Go.Proofs.YtolgbefghbddeaaGreatDoor
