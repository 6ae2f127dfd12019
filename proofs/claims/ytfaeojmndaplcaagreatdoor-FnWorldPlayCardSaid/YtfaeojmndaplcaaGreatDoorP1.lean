/- Texts that the last file leans on (part 1). -/
import Derived.Test.YtfaeojmndaplcaaGreatDoorP0
set_option linter.unusedVariables false
set_option linter.unusedSimpArgs false
set_option maxHeartbeats 4000000
set_option maxRecDepth 100000
namespace Go.Proofs.YtfaeojmndaplcaaGreatDoor
open Go Go.RowKit
theorem tM {x : Wd} (h : bF x.mixes = false) : wdB x = false := by unfold wdB; rw [h]; rfl
theorem tN {x : Wd} (h : ¬ x.sent.length ≤ 12) : wdB x = false := by unfold wdB; rw [decide_eq_false h]; simp
theorem tP {x : Wd} (h : ¬ x.net.length ≤ 10) : wdB x = false := by unfold wdB; rw [decide_eq_false h]; simp
theorem tQ {x : Wd} (h : ¬ x.made ≤ 999) : wdB x = false := by unfold wdB; rw [decide_eq_false h]; simp
theorem tR {x : Wd} (h : win x.lost 0 x.made = false) : wdB x = false := by unfold wdB; rw [h]; simp
theorem si {x : Wd} (h : iy x.sent = false) : wdB x = false := by unfold wdB; rw [h]; simp
theorem tS {x : Wd} (h : pz x.got = false) : wdB x = false := by unfold wdB; rw [h]; simp
theorem sj {x : Wd} (h : ke x.net = false) : wdB x = false := by unfold wdB; rw [h]; simp
theorem qZ {x : Wd} (h1 : bF x.mixes = true) (h2 : x.sent.length ≤ 12) (h3 : x.net.length ≤ 10) (h4 : x.made ≤ 999) (h5 : win x.lost 0 x.made = true) (h6 : iy x.sent = true) (h7 : pz x.got = true) (h8 : ke x.net = true) : wdB x = decide (cU x = x.made) := by
 unfold wdB; rw [h1, h5, h6, h7, h8, decide_eq_true h2, decide_eq_true h3, decide_eq_true h4]; rfl
theorem gV {w w' : World} {cs : Array Value} {e i : Nat} {v : Value} (hb : Below (w.alloc (.cells cs e)).heap.size (w.alloc (.cells cs e)) w') (h : cs[i]? = some v) : w'.cell? ⟨w.heap.size, i, none⟩ = some v :=
 (hb.cell (p := ⟨w.heap.size, i, none⟩) (by simp)).trans (ce w cs e i v h)
theorem ij {w1 : World} {n : Nat} {a b c d e f : Value} (hz : n < w1.heap.size) (k0 : w1.cell? ⟨n, 0, none⟩ = some a) (k1 : w1.cell? ⟨n, 1, none⟩ = some b) (k2 : w1.cell? ⟨n, 2, none⟩ = some c) (k3 : w1.cell? ⟨n, 3, none⟩ = some d) (k4 : w1.cell? ⟨n, 4, none⟩ = some e) (k5 : w1.cell? ⟨n, 5, none⟩ = some f)
  (wx : World) (hb : Below w1.heap.size w1 wx) : wx.cell? ⟨n, 0, none⟩ = some a ∧ wx.cell? ⟨n, 1, none⟩ = some b ∧ wx.cell? ⟨n, 2, none⟩ = some c ∧ wx.cell? ⟨n, 3, none⟩ = some d ∧ wx.cell? ⟨n, 4, none⟩ = some e ∧ wx.cell? ⟨n, 5, none⟩ = some f :=
 ⟨(hb.cell (p := ⟨n, 0, none⟩) hz).trans k0, (hb.cell (p := ⟨n, 1, none⟩) hz).trans k1, (hb.cell (p := ⟨n, 2, none⟩) hz).trans k2, (hb.cell (p := ⟨n, 3, none⟩) hz).trans k3, (hb.cell (p := ⟨n, 4, none⟩) hz).trans k4, (hb.cell (p := ⟨n, 5, none⟩) hz).trans k5⟩
theorem lK (l : List Mx) (m : Mx) : bN (l ++ [m]) = bN l + m.pool.length := by simp [bN]
theorem jA {l : List Mx} (h : ∀ m ∈ l, m.pool.length ≤ 5) : bN l ≤ 5 * l.length := by
 induction l with
 | nil => simp [bN]
 | cons m l ih =>
  have h1 := ih (fun m hm => h m (List.mem_cons_of_mem _ hm))
  have h2 := h m List.mem_cons_self
  simp only [bN, List.map_cons, List.sum_cons, List.length_cons] at *
  omega
theorem bX {l : List Mx} (h : bF l = true) : l.length = 3 := by
 unfold bF at h; rw [Bool.and_eq_true, decide_eq_true_eq] at h; exact h.1
theorem fp {l : List Mx} (h : bF l = true) {k : Nat} {m : Mx} (hm : l[k]? = some m) : mxB m = true ∧ m.sec = cD k := by
 unfold bF at h; rw [Bool.and_eq_true] at h
 have := List.all_eq_true.1 h.2 k (List.mem_range.2 (List.getElem?_eq_some_iff.1 hm).1)
 rw [lF hm, Bool.and_eq_true, decide_eq_true_eq] at this; exact this
theorem nV {m : Mx} (h : mxB m = true) : m.pool.length ≤ 5 := by
 unfold mxB at h; simp only [Bool.and_eq_true, decide_eq_true_eq] at h; exact h.2.2.1
theorem nU {l : List Mx} (h : bF l = true) : ∀ m ∈ l, m.pool.length ≤ 5 := fun m hm => by
 obtain ⟨k, hk⟩ := List.mem_iff_getElem?.1 hm
 exact nV (fp h hk).1
theorem qx (x : Wd) (v : Value) (w : World) (h : WdB w.heap.size w v x) (hgl : x.got.length ≤ 1073741824) : Calls Tryz.prog 47 #[v] w (ok (wdB x) w.heap.size w) := by
 obtain ⟨vm, vs, vn, vg, rfl, hm, hs, hn, hg⟩ := h
 obtain ⟨A1, c1, rfl, m1, m2, m3⟩ := hm.form
 obtain ⟨A2, c2, rfl, s1, s2, s3⟩ := hs.form
 obtain ⟨A3, c3, rfl, n1, n2, n3⟩ := hn.form
 obtain ⟨A4, c4, rfl, t1, t2, t3⟩ := hg.form
 clear m2 s2 n2 t2
 go_enter Tryz.func47, Tryz.ntmps47
 go_wp2_with fail
 refine (lG _ x.mixes _ (hm.go (ab _ _))).mono ?_
 rintro e w1 ⟨rfl, hb1⟩
 have hB : Below w.heap.size w w1 := bt (ab _ _) hb1
 have k0 := (hb1.cell (p := ⟨w.heap.size, 0, none⟩) (by simp)).trans (ce w _ _ 0 _ rfl)
 have k1 := (hb1.cell (p := ⟨w.heap.size, 1, none⟩) (by simp)).trans (ce w _ _ 1 _ rfl)
 have k2 := (hb1.cell (p := ⟨w.heap.size, 2, none⟩) (by simp)).trans (ce w _ _ 2 _ rfl)
 have k3 := (hb1.cell (p := ⟨w.heap.size, 3, none⟩) (by simp)).trans (ce w _ _ 3 _ rfl)
 have k4 := (hb1.cell (p := ⟨w.heap.size, 4, none⟩) (by simp)).trans (ce w _ _ 4 _ rfl)
 have k5 := (hb1.cell (p := ⟨w.heap.size, 5, none⟩) (by simp)).trans (ce w _ _ 5 _ rfl)
 have hz : w.heap.size < w1.heap.size := Nat.lt_of_lt_of_le (by simp) hb1.size
 have Hm := hid (hm.go hB); have Hs := hid (hs.go hB); have Hn := hid (hn.go hB); have Hg := hid (hg.go hB)
 have HB := hid hB
 have HK := hid (ij hz k0 k1 k2 k3 k4 k5)
 clear hm hs hn hg hB hb1
 cases g1 : bF x.mixes with
 | false =>
  have Hf := hid (tM g1)
  go_wp2
  go_ret
  exact ⟨aj Hf.out.symm, HB.out⟩
 | true =>
 by_cases g2 : x.sent.length ≤ 12
 ·by_cases g3 : x.net.length ≤ 10
  ·by_cases g4 : x.made ≤ 999
   ·cases g5 : win x.lost 0 x.made with
    | false =>
     have Hf := hid (tR g5)
     go_wp2_with (go_at_call 78; refine (a9 _ _ _ _).mono ?_; rintro e w' ⟨rfl, rfl⟩)
     go_ret
     exact ⟨aj Hf.out.symm, HB.out⟩
    | true =>
     have l0 := (aK.1 g5).1; have l1 := (aK.1 g5).2
     go_wp2_with (go_at_call 78; refine (a9 _ _ _ _).mono ?_; rintro e w' ⟨rfl, rfl⟩)
     have Hml := hid (bX g1)
     have Hmp := hid (nU g1)
     have HG := hid (qZ (x := x) g1 g2 g3 g4 g5)
     clear k0 k1 k2 k3 k4 k5
     go_loopw [44] (fun i wr => ∃ k : Nat, k ≤ x.sent.length ∧ i = .int .i64 k ∧ (∀ j, j < k → ig x.sent j = true) ∧ Below w1.heap.size w1 wr) (fun i _ => x.sent.length - (intOf i).toNat)
     case atStart => exact ⟨0, by omega, rfl, fun j hj => absurd hj (by omega), ah⟩
     case round =>
      obtain ⟨k, hk, rfl, hall, hb⟩ := hrel
      have Hall := hid hall; have Hb := hid hb
      have r2 := Hs.out.go hb
      clear hall hb
      by_cases hlt : k < x.sent.length
      ·obtain ⟨l, hx⟩ := ak hlt
       obtain ⟨b, o, rfl, _, _, q0, q1, q2⟩ := r2.lt3 hx
       have Hx := hid hx
       clear hx r2
       cases hw : ltB l with
       | false =>
        have Hf := hid (si (dE hlt (by rw [iG Hx.out, hw]; rfl)))
        go_wp2_with (go_at_call 79; refine (dP l _).mono ?_; rw [hw]; rintro e w' ⟨rfl, hb5⟩; have kk := gV (i := 2) hb5 rfl)
        go_ret
        exact ⟨aj Hf.out.symm, bt HB.out (bt Hb.out (bt (ab _ _) hb5))⟩
       | true =>
        by_cases hn : l.num = (k : Int)
        ·have hnB : (l.num != (k : Int)) = false := by simp [hn]
         have Hf := hid (show ig x.sent k = true from by rw [iG Hx.out, hw, decide_eq_true hn]; rfl)
         clear hn
         go_wp2_with (go_at_call 79; refine (dP l _).mono ?_; rw [hw]; rintro e w' ⟨rfl, hb5⟩; have kk := gV (i := 2) hb5 rfl)
         go_roundw
         case rel => exact ⟨k + 1, by omega, by go_num, fun j hj => by rcases Nat.lt_or_ge j k with h | h; exact Hall.out j h; rw [show j = k from by omega]; exact Hf.out, bt Hb.out (bt (ab _ _) hb5)⟩
         case measure => simp [intOf]; omega
        ·have hnB : (l.num != (k : Int)) = true := by simp [hn]
         have Hf := hid (si (dE hlt (by rw [iG Hx.out, hw, decide_eq_false hn]; rfl)))
         clear hn
         go_wp2_with (go_at_call 79; refine (dP l _).mono ?_; rw [hw]; rintro e w' ⟨rfl, hb5⟩; have kk := gV (i := 2) hb5 rfl)
         go_ret
         exact ⟨aj Hf.out.symm, bt HB.out (bt Hb.out (bt (ab _ _) hb5))⟩
      ·have Hsent := hid (show iy x.sent = true from fK fun j hj => Hall.out j (by omega))
       obtain ⟨k0, k1, k2, k3, k4, k5⟩ := HK.out _ Hb.out
       obtain ⟨wA, rfl⟩ : ∃ wA : World, wA = wr := ⟨_, rfl⟩
       clear Hall r2
       go_wp2
       clear k0 k1 k2 k3 k4 k5
       have HB := hid (bt HB.out Hb.out)
       have HK := hid (fun (wx : World) (hb : Below wA.heap.size wA wx) => HK.out wx (bt Hb.out hb))
       have Hm := hid (Hm.out.go Hb.out); have Hn := hid (Hn.out.go Hb.out); have Hg := hid (Hg.out.go Hb.out)
       clear Hb Hs
       go_loopw [62] (fun i wr => ∃ k : Nat, k ≤ x.got.length ∧ i = .int .i64 k ∧ pz (x.got.take k) = true ∧ Below wA.heap.size wA wr) (fun i _ => x.got.length - (intOf i).toNat)
       case atStart => exact ⟨0, by omega, rfl, rfl, ah⟩
       case round =>
        obtain ⟨k2, hk2, rfl, hall, hb⟩ := hrel
        have Hall := hid hall; have Hb := hid hb
        have r2 := Hg.out.go hb
        clear hall hb
        by_cases hlt2 : k2 < x.got.length
        ·obtain ⟨l, hx⟩ := ak hlt2
         obtain ⟨b, o, rfl, _, _, q0, q1, q2⟩ := r2.lt3 hx
         have Hx := hid hx
         clear hx r2
         cases hw : ltB l with
         | false =>
          have Hf := hid (tS (fT Hx.out hw))
          go_wp2_with (go_at_call 79; refine (dP l _).mono ?_; rw [hw]; rintro e w' ⟨rfl, hb5⟩)
          go_ret
          exact ⟨aj Hf.out.symm, bt HB.out (bt Hb.out (bt (by first | exact ah | exact ab _ _) hb5))⟩
         | true =>
          go_wp2_with (go_at_call 79; refine (dP l _).mono ?_; rw [hw]; rintro e w' ⟨rfl, hb5⟩)
          go_roundw
          case rel => exact ⟨k2 + 1, by omega, by go_num, by rw [aP Hx.out]; exact dM Hall.out hw, bt Hb.out (bt (by first | exact ah | exact ab _ _) hb5)⟩
          case measure => simp [intOf]; omega
        ·have Hgot := hid (show pz x.got = true from by rw [← aR hk2 hlt2]; exact Hall.out)
         obtain ⟨k0, k1, k2c, k3, k4, k5⟩ := HK.out _ Hb.out
         obtain ⟨wC, rfl⟩ : ∃ wC : World, wC = wr := ⟨_, rfl⟩
         clear Hall r2
         go_wp2
         clear k0 k1 k2c k3 k4 k5
         have HB := hid (bt HB.out Hb.out)
         have HK := hid (fun (wx : World) (hb : Below wC.heap.size wC wx) => HK.out wx (bt Hb.out hb))
         have Hm := hid (Hm.out.go Hb.out); have Hn := hid (Hn.out.go Hb.out)
         clear Hb Hg
         go_loopw [83] (fun i wr => ∃ k : Nat, k ≤ x.net.length ∧ i = .int .i64 k ∧ ke (x.net.take k) = true ∧ Below wC.heap.size wC wr) (fun i _ => x.net.length - (intOf i).toNat)
         case atStart => exact ⟨0, by omega, rfl, rfl, ah⟩
         case round =>
          obtain ⟨k3, hk3, rfl, hall, hb⟩ := hrel
          have Hall := hid hall; have Hb := hid hb
          have r2 := Hn.out.go hb
          clear hall hb
          by_cases hlt3 : k3 < x.net.length
          ·obtain ⟨y, hx⟩ := ak hlt3
           obtain ⟨b, o, vh, vb, rfl, _, _, s1, s2, q0, q1, q2, q3, q4, q5⟩ := r2.tr hx
           obtain ⟨Ah, ch, rfl, _, _, _⟩ := s1.form
           obtain ⟨Ab, cb, rfl, _, _, _⟩ := s2.form
           have Hx := hid hx; have S1 := hid s1; have S2 := hid s2
           clear hx r2 s1 s2
           cases hw1 : win y.mix 0 2 with
           | false =>
            have Hf := hid (sj (fT Hx.out (show trB y = false from by rw [trB, hw1]; rfl)))
            go_wp2_with (go_at_call 80; refine (eQ _ _).mono ?_; rintro e w' ⟨rfl, rfl⟩)
            go_ret
            exact ⟨aj Hf.out.symm, bt HB.out (bt Hb.out (by first | exact ah | exact ab _ _))⟩
           | true =>
            cases hw2 : pkB y.pk with
            | false =>
             have Hf := hid (sj (fT Hx.out (show trB y = false from by rw [trB, hw1, hw2]; rfl)))
             go_wp2_with (first | (go_at_call 80; refine (eQ _ _).mono ?_; rintro e w' ⟨rfl, rfl⟩) | (go_at_call 81; with_reducible refine (bJ y.pk _ _ _ ?_ ?_).mono ?_; (refine S1.out.go ?_; (repeat (first | exact ah | refine ae ?_ | refine Below.alloc ?_ (by simp <;> omega) _))); (refine S2.out.go ?_; (repeat (first | exact ah | refine ae ?_ | refine Below.alloc ?_ (by simp <;> omega) _))); rw [hw2]; rintro e w' ⟨rfl, hb5⟩))
             go_ret
             exact ⟨aj Hf.out.symm, bt HB.out (bt Hb.out (bt (by first | exact ah | exact ab _ _) hb5))⟩
            | true =>
             have Hf := hid (show trB y = true from by rw [trB, hw1, hw2]; rfl)
             go_wp2_with (first | (go_at_call 80; refine (eQ _ _).mono ?_; rintro e w' ⟨rfl, rfl⟩) | (go_at_call 81; with_reducible refine (bJ y.pk _ _ _ ?_ ?_).mono ?_; (refine S1.out.go ?_; (repeat (first | exact ah | refine ae ?_ | refine Below.alloc ?_ (by simp <;> omega) _))); (refine S2.out.go ?_; (repeat (first | exact ah | refine ae ?_ | refine Below.alloc ?_ (by simp <;> omega) _))); rw [hw2]; rintro e w' ⟨rfl, hb5⟩))
             go_roundw
             case rel => exact ⟨k3 + 1, by omega, by go_num, by rw [aP Hx.out]; exact dM Hall.out Hf.out, bt Hb.out (bt (by first | exact ah | exact ab _ _) hb5)⟩
             case measure => simp [intOf]; omega
          ·have Hnet := hid (show ke x.net = true from by rw [← aR hk3 hlt3]; exact Hall.out)
           obtain ⟨k0, k1, k2c, k3c, k4, k5⟩ := HK.out _ Hb.out
           obtain ⟨wD, rfl⟩ : ∃ wD : World, wD = wr := ⟨_, rfl⟩
           clear Hall r2
           go_wp2
           clear k0 k1 k2c k3c k4 k5
           have HB := hid (bt HB.out Hb.out)
           have HK := hid (fun (wx : World) (hb : Below wD.heap.size wD wx) => HK.out wx (bt Hb.out hb))
           have Hm := hid (Hm.out.go Hb.out)
           clear Hb Hn
           have hps := jA Hmp.out
           have Hps := hid hps
           clear hps
           go_loopw [7, 101] (fun cv i wr => ∃ k : Nat, k ≤ x.mixes.length ∧ i = .int .i64 k ∧ cv = .int .i64 ((x.net.length : Int) + x.got.length + x.lost + bN (x.mixes.take k)) ∧ Below wD.heap.size wD wr) (fun _ i _ => x.mixes.length - (intOf i).toNat)
           case atStart => exact ⟨0, by omega, rfl, by simp [bN], ah⟩
           case round =>
            obtain ⟨k4, hk4, rfl, rfl, hb⟩ := hrel
            have Hb := hid hb
            have r2 := Hm.out.go hb
            clear hb
            have h15 : bN (x.mixes.take k4) ≤ 15 := by
             have h1 := jA (l := x.mixes.take k4) (fun m hm => Hmp.out m (List.mem_of_mem_take hm))
             have h2 : (x.mixes.take k4).length ≤ 3 := by rw [List.length_take, Hml.out]; omega
             omega
            by_cases hlt4 : k4 < x.mixes.length
            ·obtain ⟨y, hx⟩ := ak hlt4
             obtain ⟨b, o, vs, vp, rfl, _, _, s1, s2, q0, q1, q2⟩ := r2.mx hx
             obtain ⟨Ah, ch, rfl, _, _, _⟩ := s1.form
             obtain ⟨Ab, cb, rfl, _, _, _⟩ := s2.form
             have hy5 := Hmp.out y (List.mem_of_getElem? hx)
             have Ht := hid (show bN (x.mixes.take (k4 + 1)) = bN (x.mixes.take k4) + y.pool.length from by rw [aP hx, lK])
             clear hx r2 s1 s2
             generalize bN (x.mixes.take k4) = q at *
             go_wp2
             go_roundw
             case rel => exact ⟨k4 + 1, by omega, by go_num, by rw [Ht.out]; go_num, bt Hb.out (by first | exact ah | exact ab _ _)⟩
             case measure => simp [intOf]; omega
            ·have Hq := hid (show x.mixes.take k4 = x.mixes from aR hk4 hlt4)
             have hG := HG.out Hsent.out Hgot.out Hnet.out
             have HG2 := hid hG
             obtain ⟨k0, k1, k2c, k3c, k4c, k5⟩ := HK.out _ Hb.out
             rw [Hq.out] at *
             have HI := hid (show (x.net.length : Int) + x.got.length + x.lost + bN x.mixes = cU x from rfl)
             clear hG r2
             go_wp2
             go_ret
             exact ⟨aj (by rw [HG2.out, ← HI.out]; first | rfl | (rw [Bool.eq_iff_iff]; simp)), bt HB.out Hb.out⟩
   ·have Hf := hid (tQ g4)
    go_wp2
    go_ret
    exact ⟨aj Hf.out.symm, HB.out⟩
  ·have Hf := hid (tP g3)
   go_wp2
   go_ret
   exact ⟨aj Hf.out.symm, HB.out⟩
 ·have Hf := hid (tN g2)
  go_wp2
  go_ret
  exact ⟨aj Hf.out.symm, HB.out⟩
def de : Ty (List Int) := af.own 3
def oPk : Ty Pk := tx de
def oPl : Ty Pl := tz oPk
def oTr : Ty Tr := tJ oPk
def eh : Ty (List Pl) := oPl.own 144
def oMx : Ty Mx := tw de eh
theorem lx : de.le af.sl := Ty.le_own (Ty.le_refl _) _
theorem qE : oPk.le tPk := Ty.le_via (Ty.le_prod (Ty.le_refl _) (Ty.le_prod lx (Ty.le_prod (Ty.le_refl _) lx)))
theorem ly : oPl.le tPl := Ty.le_via (Ty.le_prod (Ty.le_refl _) (Ty.le_prod (Ty.le_refl _) qE))
theorem nO : oTr.le tTr := Ty.le_via (Ty.le_prod (Ty.le_refl _) (Ty.le_prod qE (Ty.le_refl _)))
theorem qD : oMx.le tMx := Ty.le_via (Ty.le_prod (Ty.le_refl _) (Ty.le_prod lx (Ty.le_own ly _)))
def jk (k : Nat) : Mx := ⟨cD k, [], []⟩
def ba (k : Nat) : List Mx := (List.range k).map jk
def dT : Wd := ⟨ba 3, [], [], [], 0, 0⟩
theorem ka (k : Nat) : ba (k + 1) = ba k ++ [jk k] := by simp [ba, List.range_succ]
theorem cL (k : Nat) : (ba k).length = k := by simp [ba]
theorem gy : (Tryz.prog.info? 70).map (fun i => (i.zero, i.size, i.bytes)) = some (some (.agg #[.int .i64 0, .slice none 0 0, .slice none 0 0]), 3, 56) := by kernel_rfl
theorem mu (w : World) (k : Nat) (A B : Option Addr) : tMx.E w [.int .i64 (cD k), .slice A 0 0, .slice B 0 0] (jk k) [] :=
 sd.2 ⟨_, _, [], [], rfl, rfl, Sl.nil 0 _ (by simp [maxLen]), Sl.nil 0 _ (by simp [maxLen])⟩
theorem gM {k : Nat} (h : k < 3) : win (cD k) 1 996 = true := aK.2 (by unfold cD; omega)
theorem bC {α : Type} {T : Ty α} {e B : Nat} {w : World} {v : Value} {xs : List α} {G : List Nat} {p : Addr} {u : Value} (h : Own T e B w v xs G) (hv : v.ownBlock ≠ some p.block) (hG : p.block ∉ G) : Own T e B (w.setCell p u) v xs G :=
 h.keep (fun b hb => Below.heap_setCell _ _ _ _ (fun e => hv (by rw [hb, e]))) (fun b hb => Below.heap_setCell _ _ _ _ (fun e => hG (by rw [← e]; exact hb)))
def nMx : Ty Mx := Ty.flat 3 (fun x => [.int .i64 x.sec, .slice none 0 0, .slice none 0 0]) (fun _ => rfl) (fun _ u hu => by simp at hu; rcases hu with rfl | rfl | rfl <;> rfl)
theorem sO (w : World) (k : Nat) : nMx.E w [.int .i64 (cD k), .slice none 0 0, .slice none 0 0] (jk k) [] := ⟨rfl, rfl⟩
theorem jl (k : Nat) : ∀ x ∈ ba k, x.seen = [] ∧ x.pool = [] := fun x hx => by
 simp only [ba, List.mem_map] at hx
 obtain ⟨i, _, rfl⟩ := hx
 exact ⟨rfl, rfl⟩
theorem lg (s : Int) (hs : win s 1 996 = true) (w : World) : Calls Tryz.prog 51 #[.int .i64 s] w fun e w' => e = .returned (.tuple #[.agg #[.int .i64 s, .slice none 0 0, .slice none 0 0], .bool true]) ∧ Below w.heap.size w w' := by
 go_enter Tryz.func51, Tryz.ntmps51
 go_wp2_with (go_at_call 90; refine (aF _ _).mono ?_; rw [hs]; rintro e w' ⟨rfl, rfl⟩)
 refine bodyPost_ret (v := .tuple #[.agg #[.int .i64 s, .slice none 0 0, .slice none 0 0], .bool true]) (by simp [results, go_sem]) rfl ⟨rfl, ab _ _⟩
theorem gR (s : Int) (hs : win s 1 996 = true) (w : World) : Calls Tryz.prog 59 #[.int .i64 s] w fun e w' => ∃ a b, e = .returned (.tuple #[.agg #[.int .i64 s, .slice (some ⟨a, 0, none⟩) 0 0, .slice (some ⟨b, 0, none⟩) 0 0], .bool true]) ∧ Below w.heap.size w w' := by
 go_enter Tryz.func59, Tryz.ntmps59
 go_wp2_with (go_at_call 106; refine (cd _ _).mono ?_; rw [hs]; rintro e w' ⟨rfl, rfl⟩)
 refine bodyPost_ret (v := .tuple #[.agg #[.int .i64 s, .slice (some ⟨w.heap.size + 1, 0, none⟩) 0 0, .slice (some ⟨w.heap.size + 1 + 1, 0, none⟩) 0 0], .bool true]) (by simp [results, go_sem]) rfl ⟨_, _, rfl, ?_⟩
 (repeat (first | exact ah | refine ae ?_ | refine Below.alloc ?_ (by simp <;> omega) _))
theorem Sl.boxn {α : Type} {T : Ty α} {w : World} {cs : List Value} {x : α} {G : List Nat} {e : TypeId} (n : Nat) (hn : n = w.heap.size) (h : T.E w cs x G) :
  Sl T (w.alloc (.cells cs.toArray e)) (.slice (some ⟨n, 0, none⟩) 1 1) [x] (n :: G) := by subst hn; exact Sl.box h
def FrW (T : Ty Mx) (s1 s2 s3 : Value) (W wr : World) (m n k : Nat) : Prop :=
 ∃ vm, wr.heap[n]? = some (.cells #[vm, s1, s2, s3, .int .i64 0, .int .i64 0] 33 (0, 0)) ∧ wr.heap[m]? = some (.cells #[Value.slice none 0 0, Value.slice none 0 0, Value.slice none 0 0, Value.slice none 0 0, Value.int IntKind.i64 0, Value.int IntKind.i64 0] 33 (0, 0)) ∧
  Own T 70 W.heap.size wr vm (ba k) [] ∧ m < n ∧ n < W.heap.size ∧ W.heap.size ≤ wr.heap.size
theorem ex {wr : World} {n : Nat} {vm s1 s2 s3 : Value} (h : wr.heap[n]? = some (.cells #[vm, s1, s2, s3, .int .i64 0, .int .i64 0] 33 (0, 0))) :
  wr.cell? ⟨n, 0, none⟩ = some vm ∧ wr.cell? ⟨n, 1, none⟩ = some s1 ∧ wr.cell? ⟨n, 2, none⟩ = some s2 ∧ wr.cell? ⟨n, 3, none⟩ = some s3 ∧ wr.cell? ⟨n, 4, none⟩ = some (.int .i64 0) ∧ wr.cell? ⟨n, 5, none⟩ = some (.int .i64 0) ∧ ∀ j, wr.frozen? ⟨n, j, none⟩ = false :=
 ⟨by rw [cell_of_row wr n 0 _ _ _ h]; rfl, by rw [cell_of_row wr n 1 _ _ _ h]; rfl, by rw [cell_of_row wr n 2 _ _ _ h]; rfl, by rw [cell_of_row wr n 3 _ _ _ h]; rfl, by rw [cell_of_row wr n 4 _ _ _ h]; rfl, by rw [cell_of_row wr n 5 _ _ _ h]; rfl, fun j => frozen_of_row wr n j _ _ h⟩
theorem FrW.step {T : Ty Mx} {s1 s2 s3 : Value} {W wr w6 : World} {m n k : Nat} {vm v2 : Value} (h : wr.heap[n]? = some (.cells #[vm, s1, s2, s3, .int .i64 0, .int .i64 0] 33 (0, 0))) (hm : wr.heap[m]? = some (.cells #[Value.slice none 0 0, Value.slice none 0 0, Value.slice none 0 0, Value.slice none 0 0, Value.int IntKind.i64 0, Value.int IntKind.i64 0] 33 (0, 0)))
  (ho : Own T 70 W.heap.size w6 v2 (ba k ++ [jk k]) []) (hb : Below W.heap.size wr w6) (hmn : m < n) (hn : n < W.heap.size) (hW : W.heap.size ≤ wr.heap.size) : FrW T s1 s2 s3 W (w6.setCell ⟨n, 0, none⟩ v2) m n (k + 1) := by
 have h6 := (hb.block n hn).trans h
 have m6 := (hb.block m (by omega)).trans hm
 refine ⟨v2, ?_, ?_, ?_, hmn, hn, ?_⟩
 ·rw [heap_setCell_same w6 n 0 _ _ _ h6]; rfl
 ·exact (Below.heap_setCell _ _ _ _ (fun e => by simp at e; omega)).trans m6
 ·rw [ka]
  exact bC ho (fun e => by have := (ho.top n e).1; omega) (by simp)
 ·have := hb.size; simp [World.setCell]; omega
theorem pB (w : World) : Calls Tryz.prog 30 #[] w fun e w' => ∃ vm, e = .returned (.agg #[vm, .slice none 0 0, .slice none 0 0, .slice none 0 0, .int .i64 0, .int .i64 0]) ∧ bp nMx 70 w.heap.size w' vm (ba 3) ∧ Below w.heap.size w w' := by
 obtain ⟨i0, hi, hz0, hz1, hz2⟩ := info_parts gy
 go_enter Tryz.func30, Tryz.ntmps30
 go_wp2_with fail
 have hB : Below w.heap.size w ((w.alloc (Obj.cells #[Value.slice none 0 0, Value.slice none 0 0, Value.slice none 0 0, Value.slice none 0 0, Value.int IntKind.i64 0, Value.int IntKind.i64 0] 33)).alloc (Obj.cells #[Value.slice none 0 0, Value.slice none 0 0, Value.slice none 0 0, Value.slice none 0 0, Value.int IntKind.i64 0, Value.int IntKind.i64 0] 33)) := by (repeat (first | exact ah | refine ae ?_ | refine Below.alloc ?_ (by simp <;> omega) _))
 have kn : ((w.alloc (Obj.cells #[Value.slice none 0 0, Value.slice none 0 0, Value.slice none 0 0, Value.slice none 0 0, Value.int IntKind.i64 0, Value.int IntKind.i64 0] 33)).alloc (Obj.cells #[Value.slice none 0 0, Value.slice none 0 0, Value.slice none 0 0, Value.slice none 0 0, Value.int IntKind.i64 0, Value.int IntKind.i64 0] 33)).heap[w.heap.size + 1]? = some (.cells #[Value.slice none 0 0, Value.slice none 0 0, Value.slice none 0 0, Value.slice none 0 0, Value.int IntKind.i64 0, Value.int IntKind.i64 0] 33 (0, 0)) := by have := heap_alloc_new (w.alloc (Obj.cells #[Value.slice none 0 0, Value.slice none 0 0, Value.slice none 0 0, Value.slice none 0 0, Value.int IntKind.i64 0, Value.int IntKind.i64 0] 33)) (.cells #[Value.slice none 0 0, Value.slice none 0 0, Value.slice none 0 0, Value.slice none 0 0, Value.int IntKind.i64 0, Value.int IntKind.i64 0] 33 (0, 0)); simpa using this
 have km : ((w.alloc (Obj.cells #[Value.slice none 0 0, Value.slice none 0 0, Value.slice none 0 0, Value.slice none 0 0, Value.int IntKind.i64 0, Value.int IntKind.i64 0] 33)).alloc (Obj.cells #[Value.slice none 0 0, Value.slice none 0 0, Value.slice none 0 0, Value.slice none 0 0, Value.int IntKind.i64 0, Value.int IntKind.i64 0] 33)).heap[w.heap.size]? = some (.cells #[Value.slice none 0 0, Value.slice none 0 0, Value.slice none 0 0, Value.slice none 0 0, Value.int IntKind.i64 0, Value.int IntKind.i64 0] 33 (0, 0)) := (Below.heap_alloc _ _ _ (by simp)).trans (heap_alloc_new w _)
 have hz : w.heap.size + 1 < ((w.alloc (Obj.cells #[Value.slice none 0 0, Value.slice none 0 0, Value.slice none 0 0, Value.slice none 0 0, Value.int IntKind.i64 0, Value.int IntKind.i64 0] 33)).alloc (Obj.cells #[Value.slice none 0 0, Value.slice none 0 0, Value.slice none 0 0, Value.slice none 0 0, Value.int IntKind.i64 0, Value.int IntKind.i64 0] 33)).heap.size := by simp
 generalize ((w.alloc (Obj.cells #[Value.slice none 0 0, Value.slice none 0 0, Value.slice none 0 0, Value.slice none 0 0, Value.int IntKind.i64 0, Value.int IntKind.i64 0] 33)).alloc (Obj.cells #[Value.slice none 0 0, Value.slice none 0 0, Value.slice none 0 0, Value.slice none 0 0, Value.int IntKind.i64 0, Value.int IntKind.i64 0] 33)) = W at *
 have HB := hid hB
 have K : FrW nMx (.slice none 0 0) (.slice none 0 0) (.slice none 0 0) W W w.heap.size (w.heap.size + 1) 0 := ⟨_, kn, km, Own.nil _ _, by omega, hz, Nat.le_refl _⟩
 clear kn km hB
 go_loopw [6] (fun i wr => ∃ k : Nat, k ≤ 3 ∧ i = .int .i64 k ∧ FrW nMx (.slice none 0 0) (.slice none 0 0) (.slice none 0 0) W wr w.heap.size (w.heap.size + 1) k ∧ Below w.heap.size w wr) (fun i _ => 3 - (intOf i).toNat)
 case atStart => exact ⟨0, by omega, rfl, K, HB.out⟩
 case round =>
  obtain ⟨k, hk, rfl, ⟨vm, hn, hm, ho, _, _, hWr⟩, hb⟩ := hrel
  have Ho := hid ho; have Hb := hid hb; have HN := hid hn; have HM := hid hm
  obtain ⟨A, c, rfl, _, _, _⟩ := ho.form
  have hzr := Nat.lt_of_lt_of_le hz hWr
  obtain ⟨q0, q1, q2, q3, q4, q5, qf⟩ := ex hn
  have qf0 := qf 0
  clear ho hb K hn hm
  by_cases hlt : k < 3
  ·clear qf
   go_wp2_with (first | (go_at_call 52; refine (ey _ ?_ _).mono ?_; omega; rintro e w' ⟨rfl, rfl⟩) | (go_at_call 51; refine (lg _ ?_ _).mono ?_; exact gM hlt; rintro e w5 ⟨rfl, hb5⟩; have p0 := (hb5.cell (p := ⟨w.heap.size + 1, 0, none⟩) hzr).trans q0; have pf := (hb5.frozen (p := ⟨w.heap.size + 1, 0, none⟩) hzr).trans qf0; have hz5 := Nat.lt_of_lt_of_le hzr hb5.size; have Ho5 := hid (Ho.out.go hb5); have hW5 := Nat.le_trans hWr hb5.size) | (at_builtin; go_loud (refine cW rfl (.tmp 16) (.tmp 18) 29 rfl nMx Tryz.underlying29 hi hz0 hz1 hz2 rfl (by decide) (v := .slice A (ba k).length c) (B := W.heap.size) rfl (Ho5.out.below ?_ (Nat.le_refl _)) _ 1 1 rfl (Sl.boxn _ ?_ (sO _ k)) ?_ ?_ ?_ ?_ ?_); go_loud (((repeat (first | exact ah | refine ae ?_ | refine Below.alloc ?_ (by simp <;> omega) _))); (simp); (intro b _ h; cases h); (rw [cL]; simp; omega); (rw [cL]; simp [maxLen]; omega); (simp; omega); intro v2 w6 ho2 hg2 hv2; obtain ⟨A2, c2, rfl, _, _, _⟩ := ho2.form; have hbG := (show Below W.heap.size w5 w6 from ((show Below W.heap.size w5 _ from (((Below.refl W.heap.size w5).alloc hW5 _).alloc (by simp; omega) _)).trans (Below.of_grown hg2 (by simp; omega) (fun q hq => (Ho5.out.top q hq).1)))); have p06 := (hbG.cell (p := ⟨w.heap.size + 1, 0, none⟩) hz).trans p0; have pf6 := (hbG.frozen (p := ⟨w.heap.size + 1, 0, none⟩) hz).trans pf)))
   go_roundw
   case rel => exact ⟨k + 1, by omega, by go_num, FrW.step HN.out HM.out (by simpa using ho2) ((hb5.mono hWr).trans hbG) (by omega) hz hWr, (Hb.out.trans (((hb5.mono hWr).trans hbG).mono (by omega))).setCell (by simp) _⟩
   case measure => simp [intOf]; omega
  ·have hk3 : k = 3 := by omega
   subst hk3
   have mc := ex HM.out
   obtain ⟨r0, r1, r2, r3, r4, r5, rf⟩ := mc
   have rf0 := rf 0; have rf1 := rf 1; have rf2 := rf 2; have rf3 := rf 3; have rf4 := rf 4; have rf5 := rf 5
   clear qf rf
   go_wp2
   refine bodyPost_ret (v := .agg #[.slice A (ba 3).length c, .slice none 0 0, .slice none 0 0, .slice none 0 0, .int .i64 0, .int .i64 0]) (by simp [results, go_sem, r0, r1, r2, r3, r4, r5]) rfl ⟨_, rfl, ⟨[], ?_, List.nodup_nil, fun _ h => by cases h⟩, ?_⟩
   ·have ne : (Value.slice A (ba 3).length c).ownBlock ≠ some w.heap.size := fun e => by have := (Ho.out.top _ e).1; omega
    exact ((bC (bC (bC (bC (bC (bC Ho.out ne (by simp)) ne (by simp)) ne (by simp)) ne (by simp)) ne (by simp)) ne (by simp)).base (by omega))
   ·exact ((((((Hb.out.setCell (by simp) _).setCell (by simp) _).setCell (by simp) _).setCell (by simp) _).setCell (by simp) _).setCell (by simp) _)
theorem p9 (w : World) : Calls Tryz.prog 35 #[] w fun e w' => ∃ v, e = .returned v ∧ WdB w'.heap.size w' v dT ∧ Below w.heap.size w w' := by
 obtain ⟨i0, hi, hz0, hz1, hz2⟩ := info_parts gy
 go_enter Tryz.func35, Tryz.ntmps35
 go_wp2_with fail
 have hB : Below w.heap.size w (((((w.alloc (Obj.cells #[Value.slice none 0 0, Value.slice none 0 0, Value.slice none 0 0, Value.slice none 0 0, Value.int IntKind.i64 0, Value.int IntKind.i64 0] 33)).alloc (Obj.cells #[] 56)).alloc (Obj.cells #[] 74)).alloc (Obj.cells #[] 56)).alloc (Obj.cells #[Value.slice none 0 0, (Value.slice (some ⟨w.heap.size + 1, 0, none⟩) 0 0), (Value.slice (some ⟨w.heap.size + 1 + 1, 0, none⟩) 0 0), (Value.slice (some ⟨w.heap.size + 1 + 1 + 1, 0, none⟩) 0 0), Value.int IntKind.i64 0, Value.int IntKind.i64 0] 33)) := by (repeat (first | exact ah | refine ae ?_ | refine Below.alloc ?_ (by simp <;> omega) _))
 have kn : (((((w.alloc (Obj.cells #[Value.slice none 0 0, Value.slice none 0 0, Value.slice none 0 0, Value.slice none 0 0, Value.int IntKind.i64 0, Value.int IntKind.i64 0] 33)).alloc (Obj.cells #[] 56)).alloc (Obj.cells #[] 74)).alloc (Obj.cells #[] 56)).alloc (Obj.cells #[Value.slice none 0 0, (Value.slice (some ⟨w.heap.size + 1, 0, none⟩) 0 0), (Value.slice (some ⟨w.heap.size + 1 + 1, 0, none⟩) 0 0), (Value.slice (some ⟨w.heap.size + 1 + 1 + 1, 0, none⟩) 0 0), Value.int IntKind.i64 0, Value.int IntKind.i64 0] 33)).heap[w.heap.size + 1 + 1 + 1 + 1]? = some (.cells #[Value.slice none 0 0, (Value.slice (some ⟨w.heap.size + 1, 0, none⟩) 0 0), (Value.slice (some ⟨w.heap.size + 1 + 1, 0, none⟩) 0 0), (Value.slice (some ⟨w.heap.size + 1 + 1 + 1, 0, none⟩) 0 0), Value.int IntKind.i64 0, Value.int IntKind.i64 0] 33 (0, 0)) := by have := heap_alloc_new ((((w.alloc (Obj.cells #[Value.slice none 0 0, Value.slice none 0 0, Value.slice none 0 0, Value.slice none 0 0, Value.int IntKind.i64 0, Value.int IntKind.i64 0] 33)).alloc (Obj.cells #[] 56)).alloc (Obj.cells #[] 74)).alloc (Obj.cells #[] 56)) (.cells #[Value.slice none 0 0, (Value.slice (some ⟨w.heap.size + 1, 0, none⟩) 0 0), (Value.slice (some ⟨w.heap.size + 1 + 1, 0, none⟩) 0 0), (Value.slice (some ⟨w.heap.size + 1 + 1 + 1, 0, none⟩) 0 0), Value.int IntKind.i64 0, Value.int IntKind.i64 0] 33 (0, 0)); simpa using this
 have km : (((((w.alloc (Obj.cells #[Value.slice none 0 0, Value.slice none 0 0, Value.slice none 0 0, Value.slice none 0 0, Value.int IntKind.i64 0, Value.int IntKind.i64 0] 33)).alloc (Obj.cells #[] 56)).alloc (Obj.cells #[] 74)).alloc (Obj.cells #[] 56)).alloc (Obj.cells #[Value.slice none 0 0, (Value.slice (some ⟨w.heap.size + 1, 0, none⟩) 0 0), (Value.slice (some ⟨w.heap.size + 1 + 1, 0, none⟩) 0 0), (Value.slice (some ⟨w.heap.size + 1 + 1 + 1, 0, none⟩) 0 0), Value.int IntKind.i64 0, Value.int IntKind.i64 0] 33)).heap[w.heap.size]? = some (.cells #[Value.slice none 0 0, Value.slice none 0 0, Value.slice none 0 0, Value.slice none 0 0, Value.int IntKind.i64 0, Value.int IntKind.i64 0] 33 (0, 0)) := (show Below (w.heap.size + 1) (w.alloc _) (((((w.alloc (Obj.cells #[Value.slice none 0 0, Value.slice none 0 0, Value.slice none 0 0, Value.slice none 0 0, Value.int IntKind.i64 0, Value.int IntKind.i64 0] 33)).alloc (Obj.cells #[] 56)).alloc (Obj.cells #[] 74)).alloc (Obj.cells #[] 56)).alloc (Obj.cells #[Value.slice none 0 0, (Value.slice (some ⟨w.heap.size + 1, 0, none⟩) 0 0), (Value.slice (some ⟨w.heap.size + 1 + 1, 0, none⟩) 0 0), (Value.slice (some ⟨w.heap.size + 1 + 1 + 1, 0, none⟩) 0 0), Value.int IntKind.i64 0, Value.int IntKind.i64 0] 33)) from by (repeat (first | exact ah | refine Below.alloc ?_ (by simp <;> omega) _))).block _ (by omega) |>.trans (heap_alloc_new w _)
 have hz : w.heap.size + 1 + 1 + 1 + 1 < (((((w.alloc (Obj.cells #[Value.slice none 0 0, Value.slice none 0 0, Value.slice none 0 0, Value.slice none 0 0, Value.int IntKind.i64 0, Value.int IntKind.i64 0] 33)).alloc (Obj.cells #[] 56)).alloc (Obj.cells #[] 74)).alloc (Obj.cells #[] 56)).alloc (Obj.cells #[Value.slice none 0 0, (Value.slice (some ⟨w.heap.size + 1, 0, none⟩) 0 0), (Value.slice (some ⟨w.heap.size + 1 + 1, 0, none⟩) 0 0), (Value.slice (some ⟨w.heap.size + 1 + 1 + 1, 0, none⟩) 0 0), Value.int IntKind.i64 0, Value.int IntKind.i64 0] 33)).heap.size := by simp
 generalize (((((w.alloc (Obj.cells #[Value.slice none 0 0, Value.slice none 0 0, Value.slice none 0 0, Value.slice none 0 0, Value.int IntKind.i64 0, Value.int IntKind.i64 0] 33)).alloc (Obj.cells #[] 56)).alloc (Obj.cells #[] 74)).alloc (Obj.cells #[] 56)).alloc (Obj.cells #[Value.slice none 0 0, (Value.slice (some ⟨w.heap.size + 1, 0, none⟩) 0 0), (Value.slice (some ⟨w.heap.size + 1 + 1, 0, none⟩) 0 0), (Value.slice (some ⟨w.heap.size + 1 + 1 + 1, 0, none⟩) 0 0), Value.int IntKind.i64 0, Value.int IntKind.i64 0] 33)) = W at *
 have HB := hid hB
 have K : FrW tMx (Value.slice (some ⟨w.heap.size + 1, 0, none⟩) 0 0) (Value.slice (some ⟨w.heap.size + 1 + 1, 0, none⟩) 0 0) (Value.slice (some ⟨w.heap.size + 1 + 1 + 1, 0, none⟩) 0 0) W W w.heap.size (w.heap.size + 1 + 1 + 1 + 1) 0 := ⟨_, kn, km, Own.nil _ _, by omega, hz, Nat.le_refl _⟩
 clear kn km hB
 go_loopw [2] (fun i wr => ∃ k : Nat, k ≤ 3 ∧ i = .int .i64 k ∧ FrW tMx (Value.slice (some ⟨w.heap.size + 1, 0, none⟩) 0 0) (Value.slice (some ⟨w.heap.size + 1 + 1, 0, none⟩) 0 0) (Value.slice (some ⟨w.heap.size + 1 + 1 + 1, 0, none⟩) 0 0) W wr w.heap.size (w.heap.size + 1 + 1 + 1 + 1) k ∧ Below w.heap.size w wr) (fun i _ => 3 - (intOf i).toNat)
 case atStart => exact ⟨0, by omega, rfl, K, HB.out⟩
 case round =>
  obtain ⟨k, hk, rfl, ⟨vm, hn, hm, ho, _, _, hWr⟩, hb⟩ := hrel
  have Ho := hid ho; have Hb := hid hb; have HN := hid hn; have HM := hid hm
  obtain ⟨A, c, rfl, _, _, _⟩ := ho.form
  have hzr := Nat.lt_of_lt_of_le hz hWr
  obtain ⟨q0, q1, q2, q3, q4, q5, qf⟩ := ex hn
  have qf0 := qf 0
  clear ho hb K hn hm
  by_cases hlt : k < 3
  ·clear qf
   go_wp2_with (first | (go_at_call 60; refine (il _ ?_ _).mono ?_; omega; rintro e w' ⟨rfl, rfl⟩) | (go_at_call 59; refine (gR _ ?_ _).mono ?_; exact gM hlt; rintro e w5 ⟨aa, bb, rfl, hb5⟩; have p0 := (hb5.cell (p := ⟨w.heap.size + 1 + 1 + 1 + 1, 0, none⟩) hzr).trans q0; have pf := (hb5.frozen (p := ⟨w.heap.size + 1 + 1 + 1 + 1, 0, none⟩) hzr).trans qf0; have hz5 := Nat.lt_of_lt_of_le hzr hb5.size; have Ho5 := hid (Ho.out.go hb5); have hW5 := Nat.le_trans hWr hb5.size) | (at_builtin; go_loud (refine cW rfl (.tmp 20) (.tmp 22) 29 rfl tMx Tryz.underlying29 hi hz0 hz1 hz2 rfl (by decide) (v := .slice A (ba k).length c) (B := W.heap.size) rfl (Ho5.out.below ?_ (Nat.le_refl _)) _ 1 1 rfl (Sl.boxn _ ?_ (mu _ k _ _)) ?_ ?_ ?_ ?_ ?_); go_loud (((repeat (first | exact ah | refine ae ?_ | refine Below.alloc ?_ (by simp <;> omega) _))); (simp); (intro b _ h; cases h); (rw [cL]; simp; omega); (rw [cL]; simp [maxLen]; omega); (simp; omega); intro v2 w6 ho2 hg2 hv2; obtain ⟨A2, c2, rfl, _, _, _⟩ := ho2.form; have hbG := (show Below W.heap.size w5 w6 from ((show Below W.heap.size w5 _ from (((Below.refl W.heap.size w5).alloc hW5 _).alloc (by simp; omega) _)).trans (Below.of_grown hg2 (by simp; omega) (fun q hq => (Ho5.out.top q hq).1)))); have p06 := (hbG.cell (p := ⟨w.heap.size + 1 + 1 + 1 + 1, 0, none⟩) hz).trans p0; have pf6 := (hbG.frozen (p := ⟨w.heap.size + 1 + 1 + 1 + 1, 0, none⟩) hz).trans pf)))
   go_roundw
   case rel => exact ⟨k + 1, by omega, by go_num, FrW.step HN.out HM.out (by simpa using ho2) ((hb5.mono hWr).trans hbG) (by omega) hz hWr, (Hb.out.trans (((hb5.mono hWr).trans hbG).mono (by omega))).setCell (by simp <;> omega) _⟩
   case measure => simp [intOf]; omega
  ·have hk3 : k = 3 := by omega
   subst hk3
   have mc := ex HM.out
   obtain ⟨r0, r1, r2, r3, r4, r5, rf⟩ := mc
   have rf0 := rf 0; have rf1 := rf 1; have rf2 := rf 2; have rf3 := rf 3; have rf4 := rf 4; have rf5 := rf 5
   clear qf rf
   go_wp2
   refine bodyPost_ret (v := .agg #[.slice A (ba 3).length c, (Value.slice (some ⟨w.heap.size + 1, 0, none⟩) 0 0), (Value.slice (some ⟨w.heap.size + 1 + 1, 0, none⟩) 0 0), (Value.slice (some ⟨w.heap.size + 1 + 1 + 1, 0, none⟩) 0 0), .int .i64 0, .int .i64 0]) (by simp [results, go_sem, r0, r1, r2, r3, r4, r5]) rfl ⟨_, rfl, ?_, ?_⟩
   ·have ne : (Value.slice A (ba 3).length c).ownBlock ≠ some w.heap.size := fun e => by have := (Ho.out.top _ e).1; omega
    exact ⟨_, _, _, _, rfl, (bC (bC (bC (bC (bC (bC Ho.out ne (by simp)) ne (by simp)) ne (by simp)) ne (by simp)) ne (by simp)) ne (by simp)).slB, ⟨[], Sl.nil _ _ (by simp [maxLen]), fun _ h => by cases h⟩, ⟨[], Sl.nil _ _ (by simp [maxLen]), fun _ h => by cases h⟩, ⟨[], Sl.nil _ _ (by simp [maxLen]), fun _ h => by cases h⟩⟩
   ·exact ((((((Hb.out.setCell (by simp) _).setCell (by simp) _).setCell (by simp) _).setCell (by simp) _).setCell (by simp) _).setCell (by simp) _)
theorem SlB.lit {W : World} {b c : Nat} {xs : List Int} (hc : xs.length ≤ c) (hm : c ≤ maxLen) (h : ∀ i x, xs[i]? = some x → W.cell? ⟨b, i, none⟩ = some (.int .i64 x)) : SlB af W.heap.size W (.slice (some ⟨b, 0, none⟩) xs.length c) xs := by
 by_cases hx : xs = []
 ·subst hx
  exact ⟨[], Sl.nil _ _ hm, fun b hb => by cases hb⟩
 ·have h0 : 0 < xs.length := List.length_pos_iff.2 hx
  have hb : b < W.heap.size := World.block_lt_of_cell? W ⟨b, 0, none⟩ (h 0 xs[0] (List.getElem?_eq_getElem h0))
  refine ⟨[b], ⟨_, c, xs.flatMap (fun n => [.int .i64 n]), rfl, hc, hm, .inr ⟨b, 0, [], rfl, rfl, hx, hb, cP.2 ⟨rfl, rfl⟩, fun j u hj => ?_⟩⟩, fun b' hb' => by simp at hb'; omega⟩
  rw [bg, List.getElem?_map] at hj
  cases hxj : xs[j]? with
  | none => rw [hxj] at hj; cases hj
  | some x => rw [hxj] at hj; cases hj; rw [Nat.zero_add]; exact h j x hxj
def fO : List (List Int) := [[0], [1], [2], [0, 1], [1, 2], [2, 0], [0, 1, 2], [2, 1, 0], [1, 0, 2]]
def aI (k : Int) : List Int := if 0 ≤ k ∧ k ≤ 8 then fO.getD k.toNat [] else []
theorem kQ (i : Nat) : (fO.getD i []).length ≤ 3 := by
 rcases i with _ | _ | _ | _ | _ | _ | _ | _ | _ | i <;> simp [fO]
def Laid (W : World) (b : Nat) : Prop := ∀ i, i < 9 → ∃ v, W.cell? ⟨b, i, none⟩ = some v ∧ SlB af W.heap.size W v (fO.getD i [])
theorem fc (w : World) : Below w.heap.size w ((((((((((w.alloc (.cells #[.int .i64 0] 3)).alloc (.cells #[.int .i64 1] 3)).alloc (.cells #[.int .i64 2] 3)).alloc (.cells #[.int .i64 0, .int .i64 1] 3)).alloc (.cells #[.int .i64 1, .int .i64 2] 3)).alloc (.cells #[.int .i64 2, .int .i64 0] 3)).alloc (.cells #[.int .i64 0, .int .i64 1, .int .i64 2] 3)).alloc (.cells #[.int .i64 2, .int .i64 1, .int .i64 0] 3)).alloc (.cells #[.int .i64 1, .int .i64 0, .int .i64 2] 3)).alloc (.cells #[.slice (some ⟨w.heap.size, 0, none⟩) 1 1, .slice (some ⟨w.heap.size + 1, 0, none⟩) 1 1, .slice (some ⟨w.heap.size + 1 + 1, 0, none⟩) 1 1, .slice (some ⟨w.heap.size + 1 + 1 + 1, 0, none⟩) 2 2, .slice (some ⟨w.heap.size + 1 + 1 + 1 + 1, 0, none⟩) 2 2, .slice (some ⟨w.heap.size + 1 + 1 + 1 + 1 + 1, 0, none⟩) 2 2, .slice (some ⟨w.heap.size + 1 + 1 + 1 + 1 + 1 + 1, 0, none⟩) 3 3, .slice (some ⟨w.heap.size + 1 + 1 + 1 + 1 + 1 + 1 + 1, 0, none⟩) 3 3, .slice (some ⟨w.heap.size + 1 + 1 + 1 + 1 + 1 + 1 + 1 + 1, 0, none⟩) 3 3] 67)) := by
 repeat (first | exact ah | refine Below.alloc ?_ (by simp <;> omega) _)
theorem iL (w : World) : Laid ((((((((((w.alloc (.cells #[.int .i64 0] 3)).alloc (.cells #[.int .i64 1] 3)).alloc (.cells #[.int .i64 2] 3)).alloc (.cells #[.int .i64 0, .int .i64 1] 3)).alloc (.cells #[.int .i64 1, .int .i64 2] 3)).alloc (.cells #[.int .i64 2, .int .i64 0] 3)).alloc (.cells #[.int .i64 0, .int .i64 1, .int .i64 2] 3)).alloc (.cells #[.int .i64 2, .int .i64 1, .int .i64 0] 3)).alloc (.cells #[.int .i64 1, .int .i64 0, .int .i64 2] 3)).alloc (.cells #[.slice (some ⟨w.heap.size, 0, none⟩) 1 1, .slice (some ⟨w.heap.size + 1, 0, none⟩) 1 1, .slice (some ⟨w.heap.size + 1 + 1, 0, none⟩) 1 1, .slice (some ⟨w.heap.size + 1 + 1 + 1, 0, none⟩) 2 2, .slice (some ⟨w.heap.size + 1 + 1 + 1 + 1, 0, none⟩) 2 2, .slice (some ⟨w.heap.size + 1 + 1 + 1 + 1 + 1, 0, none⟩) 2 2, .slice (some ⟨w.heap.size + 1 + 1 + 1 + 1 + 1 + 1, 0, none⟩) 3 3, .slice (some ⟨w.heap.size + 1 + 1 + 1 + 1 + 1 + 1 + 1, 0, none⟩) 3 3, .slice (some ⟨w.heap.size + 1 + 1 + 1 + 1 + 1 + 1 + 1 + 1, 0, none⟩) 3 3] 67)) (w.heap.size + 9) := by
 intro i hi
 obtain rfl | rfl | rfl | rfl | rfl | rfl | rfl | rfl | rfl : i = 0 ∨ i = 1 ∨ i = 2 ∨ i = 3 ∨ i = 4 ∨ i = 5 ∨ i = 6 ∨ i = 7 ∨ i = 8 := by omega
 ·exact ⟨.slice (some ⟨w.heap.size, 0, none⟩) 1 1, (by simp (disch := (first | omega | (simp; done) | (simp; omega))) [World.cell?_alloc_at, World.cell?_alloc_past]), SlB.lit (xs := [0]) (by decide) (by decide) (fun j x hj => by rcases j with _ | _ | _ | j <;> simp at hj <;> subst hj <;> simp (disch := (first | omega | (simp; done) | (simp; omega))) [World.cell?_alloc_at, World.cell?_alloc_past])⟩
 ·exact ⟨.slice (some ⟨w.heap.size + 1, 0, none⟩) 1 1, (by simp (disch := (first | omega | (simp; done) | (simp; omega))) [World.cell?_alloc_at, World.cell?_alloc_past]), SlB.lit (xs := [1]) (by decide) (by decide) (fun j x hj => by rcases j with _ | _ | _ | j <;> simp at hj <;> subst hj <;> simp (disch := (first | omega | (simp; done) | (simp; omega))) [World.cell?_alloc_at, World.cell?_alloc_past])⟩
 ·exact ⟨.slice (some ⟨w.heap.size + 1 + 1, 0, none⟩) 1 1, (by simp (disch := (first | omega | (simp; done) | (simp; omega))) [World.cell?_alloc_at, World.cell?_alloc_past]), SlB.lit (xs := [2]) (by decide) (by decide) (fun j x hj => by rcases j with _ | _ | _ | j <;> simp at hj <;> subst hj <;> simp (disch := (first | omega | (simp; done) | (simp; omega))) [World.cell?_alloc_at, World.cell?_alloc_past])⟩
 ·exact ⟨.slice (some ⟨w.heap.size + 1 + 1 + 1, 0, none⟩) 2 2, (by simp (disch := (first | omega | (simp; done) | (simp; omega))) [World.cell?_alloc_at, World.cell?_alloc_past]), SlB.lit (xs := [0, 1]) (by decide) (by decide) (fun j x hj => by rcases j with _ | _ | _ | j <;> simp at hj <;> subst hj <;> simp (disch := (first | omega | (simp; done) | (simp; omega))) [World.cell?_alloc_at, World.cell?_alloc_past])⟩
 ·exact ⟨.slice (some ⟨w.heap.size + 1 + 1 + 1 + 1, 0, none⟩) 2 2, (by simp (disch := (first | omega | (simp; done) | (simp; omega))) [World.cell?_alloc_at, World.cell?_alloc_past]), SlB.lit (xs := [1, 2]) (by decide) (by decide) (fun j x hj => by rcases j with _ | _ | _ | j <;> simp at hj <;> subst hj <;> simp (disch := (first | omega | (simp; done) | (simp; omega))) [World.cell?_alloc_at, World.cell?_alloc_past])⟩
 ·exact ⟨.slice (some ⟨w.heap.size + 1 + 1 + 1 + 1 + 1, 0, none⟩) 2 2, (by simp (disch := (first | omega | (simp; done) | (simp; omega))) [World.cell?_alloc_at, World.cell?_alloc_past]), SlB.lit (xs := [2, 0]) (by decide) (by decide) (fun j x hj => by rcases j with _ | _ | _ | j <;> simp at hj <;> subst hj <;> simp (disch := (first | omega | (simp; done) | (simp; omega))) [World.cell?_alloc_at, World.cell?_alloc_past])⟩
 ·exact ⟨.slice (some ⟨w.heap.size + 1 + 1 + 1 + 1 + 1 + 1, 0, none⟩) 3 3, (by simp (disch := (first | omega | (simp; done) | (simp; omega))) [World.cell?_alloc_at, World.cell?_alloc_past]), SlB.lit (xs := [0, 1, 2]) (by decide) (by decide) (fun j x hj => by rcases j with _ | _ | _ | j <;> simp at hj <;> subst hj <;> simp (disch := (first | omega | (simp; done) | (simp; omega))) [World.cell?_alloc_at, World.cell?_alloc_past])⟩
 ·exact ⟨.slice (some ⟨w.heap.size + 1 + 1 + 1 + 1 + 1 + 1 + 1, 0, none⟩) 3 3, (by simp (disch := (first | omega | (simp; done) | (simp; omega))) [World.cell?_alloc_at, World.cell?_alloc_past]), SlB.lit (xs := [2, 1, 0]) (by decide) (by decide) (fun j x hj => by rcases j with _ | _ | _ | j <;> simp at hj <;> subst hj <;> simp (disch := (first | omega | (simp; done) | (simp; omega))) [World.cell?_alloc_at, World.cell?_alloc_past])⟩
 ·exact ⟨.slice (some ⟨w.heap.size + 1 + 1 + 1 + 1 + 1 + 1 + 1 + 1, 0, none⟩) 3 3, (by simp (disch := (first | omega | (simp; done) | (simp; omega))) [World.cell?_alloc_at, World.cell?_alloc_past]), SlB.lit (xs := [1, 0, 2]) (by decide) (by decide) (fun j x hj => by rcases j with _ | _ | _ | j <;> simp at hj <;> subst hj <;> simp (disch := (first | omega | (simp; done) | (simp; omega))) [World.cell?_alloc_at, World.cell?_alloc_past])⟩
theorem kP (k : Int) (w : World) : Calls Tryz.prog 133 #[.int .i64 k] w fun e w' => ∃ v', e = .returned v' ∧ bp af 3 w.heap.size w' v' (aI k) ∧ Below w.heap.size w w' := by
 go_enter Tryz.func133, Tryz.ntmps133
 go_wp2_with fail
 refine (a9 _ _ _ _).mono ?_
 rintro e W ⟨rfl, hw⟩
 have hb : Below w.heap.size w W := by rw [← hw]; exact fc w
 have hL : Laid W (w.heap.size + 9) := by rw [← hw]; exact iL w
 clear hw
 by_cases hk : 0 ≤ k ∧ k ≤ 8
 ·have hw : win k 0 8 = true := by simp [win]; omega
  obtain ⟨i, rfl⟩ := Int.eq_ofNat_of_zero_le hk.1
  have hi : i < 9 := by omega
  obtain ⟨v, hv, hs⟩ := hL i hi
  have h0 : (0 : Int) ≤ (i : Int) := by omega
  have h9 : (i : Int) < 9 := by omega
  have Hk := hid hk
  clear hL hk
  go_wp2_with (go_at_call 129; refine (dw v (fO.getD i []) _ hs (by have := kQ i; omega)).mono ?_; rintro e w' ⟨v', rfl, hn, hb'⟩)
  go_ret
  exact ⟨v', rfl, by rw [show aI i = fO.getD i [] from by simp [aI, Hk.out]]; exact hn.base hb.size, hb.trans (hb'.mono hb.size)⟩
 ·have hw : win k 0 8 = false := by simp [win]; omega
  go_wp2
  go_ret
  exact ⟨_, rfl, by rw [show aI k = [] from if_neg hk]; exact bp.nil _ _, hb⟩
theorem ib (k : Int) (w : World) : Calls Tryz.prog 109 #[.int .i64 k] w fun e w' => ∃ v', e = .returned v' ∧ SlB af w'.heap.size w' v' (aI k) ∧ Below w.heap.size w w' := by
 go_enter Tryz.func109, Tryz.ntmps109
 go_wp2_with fail
 refine (aS _ _ _ _).mono ?_
 rintro e W ⟨rfl, hw⟩
 have hb : Below w.heap.size w W := by rw [← hw]; exact fc w
 have hL : Laid W (w.heap.size + 9) := by rw [← hw]; exact iL w
 clear hw
 by_cases hk : 0 ≤ k ∧ k ≤ 8
 ·have hw : win k 0 8 = true := by simp [win]; omega
  obtain ⟨i, rfl⟩ := Int.eq_ofNat_of_zero_le hk.1
  have hi : i < 9 := by omega
  obtain ⟨v, hv, hs⟩ := hL i hi
  have h0 : (0 : Int) ≤ (i : Int) := by omega
  have h9 : (i : Int) < 9 := by omega
  have Hk := hid hk
  clear hL hk
  go_wp2
  go_ret
  exact ⟨v, rfl, by rw [show aI i = fO.getD i [] from by simp [aI, Hk.out]]; exact hs, hb⟩
 ·have hw : win k 0 8 = false := by simp [win]; omega
  go_wp2
  go_ret
  exact ⟨_, rfl, by rw [show aI k = [] from if_neg hk]; exact ⟨[], Sl.nil _ _ (by decide), fun b hb => by cases hb⟩, hb.alloc hb.size _⟩
structure Ev where
 kind : Int
 a : Int
 b : Int
 c : Int
def cM (key : Int) (i : Nat) : Int := (key * ((i : Int) + 2) + 11 * (i : Int) * (i : Int) + 5) % 991
def onL (l : List Int) (key : Int) : List Int := l.mapIdx fun i n => (n + cM key i) % 991
def bY (l : List Int) (key : Int) : List Int := l.mapIdx fun i n => (n + 991 - cM key i) % 991
def fE (t x : Int) : Int := (613 * t + x + 1) % 991
def cJ (key : Int) (l : List Int) : Int := l.foldl fE ((3 * key + 41 * (l.length : Int) + 1) % 991)
def aq (a b : Int) : Int := a * b % 997
def dn (s : Int) : Int := 1 + (7 * s + 3) % 996
def dG (letter : List Int) : List Int := (letter.length : Int) :: letter ++ List.replicate (4 - letter.length) 0
def bI (letter : List Int) : List Int := dG letter ++ [cJ 1 (dG letter)]
def fm (body : List Int) : Int := body.getD 0 0
def dB (body : List Int) : List Int := (body.drop 1).take (fm body).toNat
def df (body : List Int) : Option (List Int) :=
 if dQ body 6 = true ∧ fm body ≤ 4 ∧ bI (dB body) = body then some (dB body) else none
def bO (x : Int) : List Int → List Int
 | [] => []
 | p :: ps => aq x p :: bO (aq x (dn (aq x p))) ps
def aO (out : List Int) (key : Int) : List Int := (out ++ [0, 0, 0]).mapIdx fun k n => (n + 991 - cM key (12 - (out.length + 3) + k)) % 991
def bw (keys : List Int) : List Int := keys.dropLast.foldl aO []
def cX (rcv : Int) (f : Nat) : List Int := [1, rcv, 0] ++ List.replicate (6 - f) 0
def hdT (filler : List Int) (rcv : Int) : List Int → List Int → List Int × Int
 | [k], _ => (onL (cX rcv filler.length) k ++ filler, cJ k (onL (cX rcv filler.length) k ++ filler))
 | k :: ks, _ :: ns =>
  let r := hdT filler rcv ks ns
  (onL ([0, ns.getD 0 0, r.2] ++ r.1.take 6) k, cJ k (onL ([0, ns.getD 0 0, r.2] ++ r.1.take 6) k))
 | _, _ => ([], 0)
def rY (letter keys : List Int) : List Int := keys.foldl onL (bI letter)
def dH (secret : Int) (publics names : List Int) (rcv : Int) (letter : List Int) : Pk :=
 let keys := bO secret publics
 let r := hdT (bw keys) rcv keys names
 ⟨aq secret 5, r.1, r.2, rY letter keys⟩
def aM (s : Int) (p : Pk) : List Int := bY (p.hd ++ [0, 0, 0]) s
def aW (secret : Int) (p : Pk) : Option Pl :=
 let s := aq secret p.el
 let l := aM s p
 if cJ s p.hd = p.tag ∧ win (l.getD 0 0) 0 1 = true ∧ win (l.getD 1 0) 0 7 = true then
  some ⟨l.getD 0 0, l.getD 1 0, ⟨aq p.el (dn s), l.drop 3, l.getD 2 0, bY p.bd s⟩⟩
 else none
def bB (m : Mx) (p : Pk) : Mx × Int :=
 match aW m.sec p with
 | none => (m, 2)
 | some x =>
  if aq m.sec p.el ∈ m.seen then (m, 1)
  else if 12 ≤ m.seen.length ∨ 5 ≤ m.pool.length then (m, 3)
  else (⟨m.sec, m.seen ++ [aq m.sec p.el], m.pool ++ [x]⟩, 0)
def bS (a b : Pl) : Bool :=
 if a.kind ≠ b.kind then decide (a.kind < b.kind)
 else if a.next ≠ b.next then decide (a.next < b.next)
 else if a.pk.el ≠ b.pk.el then decide (a.pk.el < b.pk.el)
 else decide (a.pk.tag < b.pk.tag)
def fX (x : Pl) : List Pl → List Pl
 | [] => [x]
 | y :: ys => if bS x y = true then x :: y :: ys else y :: fX x ys
def br (l : List Pl) : List Pl := l.foldl (fun out x => fX x out) []
def cF (m : Mx) (all : Bool) : Mx × List Pl :=
 if m.pool.length < 2 ∧ all = false then (m, []) else (⟨m.sec, m.seen, []⟩, br m.pool)
def cK (w : Wd) : Wd := ⟨w.mixes, w.sent, w.net, w.got, w.made, w.lost + 1⟩
def bG (w : Wd) (l : List Tr) : Wd := ⟨w.mixes, w.sent, l, w.got, w.made, w.lost⟩
def dk (w : Wd) (mix : Int) (p : Pk) (ch : Bool) : Wd :=
 if 10 ≤ w.net.length ∨ win mix 0 2 = false then cK w else bG w (w.net ++ [⟨mix, p, ch⟩])
def cR (names : List Int) : List Int := names.map fun k => aq (100 + 37 * k) 5
def mr (n : Nat) (fr dst path : Int) : Pk := dH (7 + 41 * (n : Int)) (cR (aI path)) (aI path) dst [fr, (n : Int)]
def cY (w : Wd) (fr dst path : Int) : Wd :=
 if win fr 0 7 = true ∧ win dst 0 7 = true ∧ aI path ≠ [] ∧ w.sent.length < 12 ∧ w.made < 999 then
  dk ⟨w.mixes, w.sent ++ [⟨fr, dst, (w.sent.length : Int)⟩], w.net, w.got, w.made + 1, w.lost⟩ ((aI path).getD 0 0) (mr w.sent.length fr dst path) false
 else w
def iA (x : Pl) : Option Lt :=
 match df x.pk.bd with
 | none => none
 | some l => if l.length = 2 ∧ ltB ⟨l.getD 0 0, x.next, l.getD 1 0⟩ = true then some ⟨l.getD 0 0, x.next, l.getD 1 0⟩ else none
def dN (w : Wd) (x : Pl) : Wd :=
 match iA x with
 | none => cK w
 | some l => ⟨w.mixes, w.sent, w.net, w.got ++ [l], w.made, w.lost⟩
def cN (w : Wd) (x : Pl) : Wd := if x.kind = 1 then dN w x else dk w x.next x.pk false
def b9 (w : Wd) (k : Nat) (m : Mx) : Wd := ⟨w.mixes.set k m, w.sent, w.net, w.got, w.made, w.lost⟩
def td : Mx := ⟨0, [], []⟩
def cT (w : Wd) (k : Nat) (all : Bool) : Wd :=
 let r := cF (w.mixes.getD k td) all
 r.2.foldl cN (b9 w k r.1)
def dO (w : Wd) (t : Tr) : Wd :=
 let r := bB (w.mixes.getD t.mix.toNat td) t.pk
 if r.2 = 0 then b9 w t.mix.toNat r.1 else cK (b9 w t.mix.toNat r.1)
def rt (p : Pk) (k : Nat) : Pk := ⟨p.el, p.hd.set k ((p.hd.getD k 0 + 1) % 991), p.tag, p.bd⟩
def eK (w : Wd) (i : Nat) (t : Tr) (k : Int) : Wd :=
 if win k 0 8 = true ∧ t.ch = false then bG w (w.net.set i ⟨t.mix, rt t.pk k.toNat, true⟩) else w
def eI (w : Wd) (e : Ev) : Wd :=
 if e.a < 0 then w else
 match w.net[e.a.toNat]? with
 | none => w
 | some t =>
  if e.kind = 4 then (if w.net.length < 10 ∧ w.made < 999 then dk ⟨w.mixes, w.sent, w.net, w.got, w.made + 1, w.lost⟩ t.mix t.pk t.ch else w)
  else if e.kind = 5 then eK w e.a.toNat t e.b
  else if e.kind = 3 then cK (bG w (w.net.eraseIdx e.a.toNat))
  else dO (bG w (w.net.eraseIdx e.a.toNat)) t
def doW (w : Wd) (e : Ev) : Wd :=
 if e.kind = 1 then cY w e.a e.b e.c
 else if e.kind = 2 ∨ e.kind = 3 ∨ e.kind = 4 ∨ e.kind = 5 then eI w e
 else if e.kind = 6 ∧ win e.a 0 2 = true then cT w e.a.toNat false
 else w
def zWd : Wd := ⟨[], [], [], [], 0, 0⟩
def fa (w : Wd) (e : Ev) : Wd := if wdB w = true then doW w e else zWd
def dD (evs : List Ev) : Wd := evs.foldl doW dT
end Go.Proofs.YtfaeojmndaplcaaGreatDoor
