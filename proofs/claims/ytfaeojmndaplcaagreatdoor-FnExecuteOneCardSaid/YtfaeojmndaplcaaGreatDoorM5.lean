/- Texts that the last file leans on (part 5). -/
import Derived.Deep.RegionHeld3
import Derived.Test.YtfaeojmndaplcaaGreatDoorM0
import Derived.Test.YtfaeojmndaplcaaGreatDoorM2
set_option linter.unusedVariables false
set_option linter.unusedSimpArgs false
set_option maxHeartbeats 4000000
set_option maxRecDepth 100000
namespace Go.Proofs.YtfaeojmndaplcaaGreatDoor
open Go Go.RowKit
theorem uH {l : List Mx} (h : l.length = 3) (ha : ∀ j, j < l.length → iU l j = true) : bu l = true := by
 unfold bu; rw [decide_eq_true h, fg ha]; rfl
theorem oL {l : List Mx} {k : Nat} (hk : k < l.length) (h : iU l k = false) : bu l = false := by
 unfold bu; rw [dq hk h]; simp
theorem si {l : List Mx} (h : ¬ l.length = 3) : bu l = false := by unfold bu; rw [decide_eq_false h]; rfl
theorem wW (x : Wd) (v : Value) (w : World) (h : WdB w.heap.size w v x) (hgl : x.got.length ≤ 1073741824) : Calls Tryz.prog 107 #[v] w (ok (wdB x) w.heap.size w) := by
 obtain ⟨vm, vs, vn, vg, rfl, hm, hs, hn, hg⟩ := h
 obtain ⟨A1, c1, rfl, m1, m2, m3⟩ := hm.form
 obtain ⟨A2, c2, rfl, s1, s2, s3⟩ := hs.form
 obtain ⟨A3, c3, rfl, n1, n2, n3⟩ := hn.form
 obtain ⟨A4, c4, rfl, t1, t2, t3⟩ := hg.form
 clear m2 s2 n2 t2
 go_enter Tryz.func107, Tryz.ntmps107
 by_cases g1 : x.mixes.length = 3
 ·have g1B : ((x.mixes.length : Int) != 3) = false := by simp [g1]
  have Hml := hid g1
  clear g1
  by_cases g2 : x.sent.length ≤ 12
  ·by_cases g3 : x.net.length ≤ 10
   ·cases g5 : win x.lost 0 x.made with
    | false =>
     have Hf := hid (yc g5)
     go_wp2_with (go_at_call 68; refine (aU _ _ _ _).mono ?_; rw [g5]; rintro e w' ⟨rfl, rfl⟩)
     go_ret
     exact ⟨ah Hf.out.symm, by (repeat (first | exact zm | refine ae ?_ | refine Below.alloc ?_ (by simp <;> omega) _))⟩
    | true =>
     have l0 := (aH.1 g5).1; have l1 := (aH.1 g5).2
     by_cases g4 : x.made ≤ 999
     ·go_wp2_with (go_at_call 68; refine (aU _ _ _ _).mono ?_; rw [g5]; rintro e w' ⟨rfl, rfl⟩)
      have hB : Below w.heap.size w (w.alloc (Obj.cells #[Value.slice A1 x.mixes.length c1, Value.slice A2 x.sent.length c2, Value.slice A3 x.net.length c3, Value.slice A4 x.got.length c4, Value.int IntKind.i64 x.made, Value.int IntKind.i64 x.lost] 33)) := ab _ _
      have k0 := bZ w #[Value.slice A1 x.mixes.length c1, Value.slice A2 x.sent.length c2, Value.slice A3 x.net.length c3, Value.slice A4 x.got.length c4, Value.int IntKind.i64 x.made, Value.int IntKind.i64 x.lost] 33 0 _ rfl
      have k1 := bZ w #[Value.slice A1 x.mixes.length c1, Value.slice A2 x.sent.length c2, Value.slice A3 x.net.length c3, Value.slice A4 x.got.length c4, Value.int IntKind.i64 x.made, Value.int IntKind.i64 x.lost] 33 1 _ rfl
      have k2 := bZ w #[Value.slice A1 x.mixes.length c1, Value.slice A2 x.sent.length c2, Value.slice A3 x.net.length c3, Value.slice A4 x.got.length c4, Value.int IntKind.i64 x.made, Value.int IntKind.i64 x.lost] 33 2 _ rfl
      have k3 := bZ w #[Value.slice A1 x.mixes.length c1, Value.slice A2 x.sent.length c2, Value.slice A3 x.net.length c3, Value.slice A4 x.got.length c4, Value.int IntKind.i64 x.made, Value.int IntKind.i64 x.lost] 33 3 _ rfl
      have k4 := bZ w #[Value.slice A1 x.mixes.length c1, Value.slice A2 x.sent.length c2, Value.slice A3 x.net.length c3, Value.slice A4 x.got.length c4, Value.int IntKind.i64 x.made, Value.int IntKind.i64 x.lost] 33 4 _ rfl
      have k5 := bZ w #[Value.slice A1 x.mixes.length c1, Value.slice A2 x.sent.length c2, Value.slice A3 x.net.length c3, Value.slice A4 x.got.length c4, Value.int IntKind.i64 x.made, Value.int IntKind.i64 x.lost] 33 5 _ rfl
      have hz : w.heap.size < (w.alloc (Obj.cells #[Value.slice A1 x.mixes.length c1, Value.slice A2 x.sent.length c2, Value.slice A3 x.net.length c3, Value.slice A4 x.got.length c4, Value.int IntKind.i64 x.made, Value.int IntKind.i64 x.lost] 33)).heap.size := by simp
      generalize (w.alloc (Obj.cells #[Value.slice A1 x.mixes.length c1, Value.slice A2 x.sent.length c2, Value.slice A3 x.net.length c3, Value.slice A4 x.got.length c4, Value.int IntKind.i64 x.made, Value.int IntKind.i64 x.lost] 33)) = w1 at *
      have Hm := hid (hm.go hB); have Hs := hid (hs.go hB); have Hn := hid (hn.go hB); have Hg := hid (hg.go hB)
      have HB := hid hB
      have HK := hid (oR hz k0 k1 k2 k3 k4 k5)
      clear hm hs hn hg hB k0 k1 k2 k3 k4 k5
      go_loopw [3, 4] (fun cv i wr => ∃ k : Nat, k ≤ x.mixes.length ∧ i = .int .i64 k ∧ cv = .int .i64 ((x.net.length : Int) + x.got.length + x.lost + aO (x.mixes.take k)) ∧ aO (x.mixes.take k) ≤ 5 * k ∧ (∀ j, j < k → iU x.mixes j = true) ∧ Below w1.heap.size w1 wr) (fun _ i _ => x.mixes.length - (intOf i).toNat)
      case atStart => exact ⟨0, by omega, rfl, by simp [aO], by simp [aO], fun j hj => absurd hj (by omega), zm⟩
      case round =>
       obtain ⟨k, hk, rfl, rfl, hps, hall, hb⟩ := hrel
       have Hall := hid hall; have Hb := hid hb
       have r2 := Hm.out.go hb
       obtain ⟨k0, k1, k2, k3, k4, k5⟩ := HK.out _ hb
       have hzr := Nat.lt_of_lt_of_le hz hb.size
       have hk3 : k ≤ 3 := by rw [← Hml.out]; exact hk
       clear hall hb
       by_cases hlt : k < x.mixes.length
       ·obtain ⟨y, hx⟩ := ai hlt
        obtain ⟨b, o, vs, vp, rfl, _, hbl, s1, s2, q0, q1, q2⟩ := r2.mx hx
        obtain ⟨Ah, ch, rfl, _, _, _⟩ := s1.form
        obtain ⟨Ab, cb, rfl, _, _, _⟩ := s2.form
        have Hx := hid hx; have S1 := hid s1; have S2 := hid s2
        have HS := hid (fun (wx : World) (hb : Below wr.heap.size wr wx) => And.intro hb (And.intro ((hb.cell (p := ⟨w.heap.size, 0, none⟩) hzr).trans k0) (And.intro ((hb.cell (p := ⟨b, o + k * 3, none⟩) hbl).trans q0) (And.intro ((hb.cell (p := ⟨b, o + k * 3 + 1, none⟩) hbl).trans q1) ((hb.cell (p := ⟨b, o + k * 3 + 2, none⟩) hbl).trans q2)))))
        have HC := hid (fun (wx : World) (hb : Below wr.heap.size wr wx) => And.intro ((hb.cell (p := ⟨w.heap.size, 0, none⟩) hzr).trans k0) ((hb.cell (p := ⟨b, o + k * 3, none⟩) hbl).trans q0))
        have HC2 := hid (fun (wx : World) (hb : Below wr.heap.size wr wx) => And.intro ((hb.cell (p := ⟨w.heap.size, 0, none⟩) hzr).trans k0) ((hb.cell (p := ⟨b, o + k * 3 + 2, none⟩) hbl).trans q2))
        have Ht := hid (show aO (x.mixes.take (k + 1)) = aO (x.mixes.take k) + y.pool.length from by rw [aK hx, fa])
        clear hx r2 s1 s2 k1 k2 k3 k4 k5
        generalize aO (x.mixes.take k) = q at *
        cases hw : mxB y with
        | false =>
         have Hf := hid (tD (oL hlt (by rw [kj Hx.out, hw]; rfl)))
         go_wp2
         refine rh (S := (fun w' => Below wr.heap.size wr w' ∧ w'.cell? ⟨w.heap.size, 0, none⟩ = some (.slice (some ⟨b, o, none⟩) x.mixes.length c1) ∧ w'.cell? ⟨b, o + k * 3, none⟩ = some (.int .i64 y.sec) ∧ w'.cell? ⟨b, o + k * 3 + 1, none⟩ = some (.slice Ah y.seen.length ch) ∧ w'.cell? ⟨b, o + k * 3 + 2, none⟩ = some (.slice Ab y.pool.length cb))) 18 (by kernel_rfl) rfl (fun | none, _, _, _, _ => id | some _, _, _, _, _ => id) ?_ (fun hH => ?_)
         ·(try dsimp only); first | assumption | exact HS.out _ (bt (And.left (by assumption)) hb5) | exact HS.out _ (ae zm)
         simp only [pw]
         refine ts 0 rfl (by kernel_rfl) rfl (fun _ f => by (try dsimp only at f); go_simp; try with_reducible rfl) ?_
         refine ts 1 rfl (by kernel_rfl) rfl (fun _ f => by (try dsimp only at f); go_simp; try with_reducible rfl) ?_
         refine ts 2 rfl (by kernel_rfl) rfl (fun _ f => by (try dsimp only at f); go_simp; try with_reducible rfl) ?_
         try simp only [pw]
         refine ts 3 rfl (by kernel_rfl) rfl (fun _ f => by (try dsimp only at f); go_simp; try with_reducible rfl) ?_
         refine ts 4 rfl (by kernel_rfl) rfl (fun _ f => by (try dsimp only at f); go_simp; try with_reducible rfl) ?_
         try simp only [pw]
         refine rq 5 (by kernel_rfl) rfl fun K hK => ?_
         go_simp
         (go_at_call 153; with_reducible refine (ld y _ _ _ ?_ ?_).mono ?_; (refine S1.out.go ?_; (repeat (first | exact zm | refine ae ?_ | refine Below.alloc ?_ (by simp <;> omega) _))); (refine S2.out.go ?_; (repeat (first | exact zm | refine ae ?_ | refine Below.alloc ?_ (by simp <;> omega) _))); rw [hw]; rintro e w' ⟨rfl, hb5⟩)
         refine hK.out _ _ ?_ (fun hH => ?_)
         ·(try dsimp only); first | assumption | exact HS.out _ (bt (And.left (by assumption)) hb5) | exact HS.out _ (ae zm)
         clear hK K
         refine ts 6 rfl (by kernel_rfl) rfl (fun _ f => by (try dsimp only at f); go_simp; try with_reducible rfl) ?_
         try simp only [pw]
         refine ts 7 rfl (by kernel_rfl) rfl (fun _ f => by (try dsimp only at f); go_simp; try with_reducible rfl) ?_
         refine tu 8 rfl (by kernel_rfl) rfl ?_
         refine tu 9 rfl (by kernel_rfl) rfl ?_
         try simp only [pw]
         refine tu 10 rfl (by kernel_rfl) rfl ?_
         refine tu 11 rfl (by kernel_rfl) rfl ?_
         refine tu 12 rfl (by kernel_rfl) rfl ?_
         try simp only [pw]
         refine tu 13 rfl (by kernel_rfl) rfl ?_
         refine tu 14 rfl (by kernel_rfl) rfl ?_
         refine tu 15 rfl (by kernel_rfl) rfl ?_
         try simp only [pw]
         refine tu 16 rfl (by kernel_rfl) rfl ?_
         refine ts 17 rfl (by kernel_rfl) rfl (fun _ f => by (try dsimp only at f); go_simp; try with_reducible rfl) ?_
         try simp only [pw]
         refine dm (by kernel_rfl) ?_
         go_wp2
         go_ret
         exact ⟨ah Hf.out.symm, bt HB.out (bt Hb.out (bt (by (repeat (first | exact zm | refine ae ?_ | refine Below.alloc ?_ (by simp <;> omega) _))) hb5))⟩
        | true =>
         have hy5 := mQ hw
         by_cases hs : y.sec = cS k
         ·have hsB : (y.sec != cS k) = false := by simp [hs]
          have Hf := hid (show iU x.mixes k = true from by rw [kj Hx.out, hw, decide_eq_true hs]; rfl)
          clear hs
          go_wp2
          refine rh (S := (fun w' => Below wr.heap.size wr w' ∧ w'.cell? ⟨w.heap.size, 0, none⟩ = some (.slice (some ⟨b, o, none⟩) x.mixes.length c1) ∧ w'.cell? ⟨b, o + k * 3, none⟩ = some (.int .i64 y.sec) ∧ w'.cell? ⟨b, o + k * 3 + 1, none⟩ = some (.slice Ah y.seen.length ch) ∧ w'.cell? ⟨b, o + k * 3 + 2, none⟩ = some (.slice Ab y.pool.length cb))) 18 (by kernel_rfl) rfl (fun | none, _, _, _, _ => id | some _, _, _, _, _ => id) ?_ (fun hH => ?_)
          ·(try dsimp only); first | assumption | exact HS.out _ (bt (And.left (by assumption)) hb5) | exact HS.out _ (ae zm)
          simp only [pw]
          refine ts 0 rfl (by kernel_rfl) rfl (fun _ f => by (try dsimp only at f); go_simp; try with_reducible rfl) ?_
          refine ts 1 rfl (by kernel_rfl) rfl (fun _ f => by (try dsimp only at f); go_simp; try with_reducible rfl) ?_
          refine ts 2 rfl (by kernel_rfl) rfl (fun _ f => by (try dsimp only at f); go_simp; try with_reducible rfl) ?_
          try simp only [pw]
          refine ts 3 rfl (by kernel_rfl) rfl (fun _ f => by (try dsimp only at f); go_simp; try with_reducible rfl) ?_
          refine ts 4 rfl (by kernel_rfl) rfl (fun _ f => by (try dsimp only at f); go_simp; try with_reducible rfl) ?_
          try simp only [pw]
          refine rq 5 (by kernel_rfl) rfl fun K hK => ?_
          go_simp
          (go_at_call 153; with_reducible refine (ld y _ _ _ ?_ ?_).mono ?_; (refine S1.out.go ?_; (repeat (first | exact zm | refine ae ?_ | refine Below.alloc ?_ (by simp <;> omega) _))); (refine S2.out.go ?_; (repeat (first | exact zm | refine ae ?_ | refine Below.alloc ?_ (by simp <;> omega) _))); rw [hw]; rintro e w' ⟨rfl, hb5⟩)
          refine hK.out _ _ ?_ (fun hH => ?_)
          ·(try dsimp only); first | assumption | exact HS.out _ (bt (And.left (by assumption)) hb5) | exact HS.out _ (ae zm)
          clear hK K
          refine ts 6 rfl (by kernel_rfl) rfl (fun _ f => by (try dsimp only at f); go_simp; try with_reducible rfl) ?_
          try simp only [pw]
          refine ts 7 rfl (by kernel_rfl) rfl (fun _ f => by (try dsimp only at f); go_simp; try with_reducible rfl) ?_
          refine ts 8 rfl (by kernel_rfl) rfl (fun _ f => by (try dsimp only at f); go_simp; try with_reducible rfl) ?_
          refine ts 9 rfl (by kernel_rfl) rfl (fun _ f => by (try dsimp only at f); go_simp; try with_reducible rfl) ?_
          try simp only [pw]
          refine ts 10 rfl (by kernel_rfl) rfl (fun _ f => by (try dsimp only at f); go_simp; try with_reducible rfl) ?_
          refine ts 11 rfl (by kernel_rfl) rfl (fun _ f => by (try dsimp only at f); go_simp; try with_reducible rfl) ?_
          refine ts 12 rfl (by kernel_rfl) rfl (fun _ f => by (try dsimp only at f); go_simp; try with_reducible rfl) ?_
          try simp only [pw]
          refine ts 13 rfl (by kernel_rfl) rfl (fun _ f => by (try dsimp only at f); go_simp; try with_reducible rfl) ?_
          refine ts 14 rfl (by kernel_rfl) rfl (fun _ f => by (try dsimp only at f); go_simp; try with_reducible rfl) ?_
          try simp only [pw]
          refine rq 15 (by kernel_rfl) rfl fun K hK => ?_
          go_simp
          (go_at_call 60; refine (jw _ ?_ _).mono ?_; omega; rintro e w' ⟨rfl, rfl⟩)
          refine hK.out _ _ ?_ (fun hH => ?_)
          ·(try dsimp only); first | assumption | exact HS.out _ (bt (And.left (by assumption)) hb5) | exact HS.out _ (ae zm)
          clear hK K
          refine ts 16 rfl (by kernel_rfl) rfl (fun _ f => by (try dsimp only at f); go_simp; try with_reducible rfl) ?_
          try simp only [pw]
          refine ts 17 rfl (by kernel_rfl) rfl (fun _ f => by (try dsimp only at f); go_simp; try with_reducible rfl) ?_
          try simp only [pw]
          refine dm (by kernel_rfl) ?_
          obtain ⟨kk0, kk2⟩ := HC2.out _ (bt (ae zm) hb5)
          go_wp2
          go_roundw
          case rel => exact ⟨k + 1, by omega, by go_num, by rw [Ht.out]; go_num, by rw [Ht.out]; omega, fun j hj => by rcases Nat.lt_or_ge j k with h | h; exact Hall.out j h; rw [show j = k from by omega]; exact Hf.out, bt Hb.out (bt (by (repeat (first | exact zm | refine ae ?_ | refine Below.alloc ?_ (by simp <;> omega) _))) hb5)⟩
          case measure => simp [intOf]; omega
         ·have hsB : (y.sec != cS k) = true := by simp [hs]
          have Hf := hid (tD (oL hlt (by rw [kj Hx.out, hw, decide_eq_false hs]; rfl)))
          clear hs
          go_wp2
          refine rh (S := (fun w' => Below wr.heap.size wr w' ∧ w'.cell? ⟨w.heap.size, 0, none⟩ = some (.slice (some ⟨b, o, none⟩) x.mixes.length c1) ∧ w'.cell? ⟨b, o + k * 3, none⟩ = some (.int .i64 y.sec) ∧ w'.cell? ⟨b, o + k * 3 + 1, none⟩ = some (.slice Ah y.seen.length ch) ∧ w'.cell? ⟨b, o + k * 3 + 2, none⟩ = some (.slice Ab y.pool.length cb))) 18 (by kernel_rfl) rfl (fun | none, _, _, _, _ => id | some _, _, _, _, _ => id) ?_ (fun hH => ?_)
          ·(try dsimp only); first | assumption | exact HS.out _ (bt (And.left (by assumption)) hb5) | exact HS.out _ (ae zm)
          simp only [pw]
          refine ts 0 rfl (by kernel_rfl) rfl (fun _ f => by (try dsimp only at f); go_simp; try with_reducible rfl) ?_
          refine ts 1 rfl (by kernel_rfl) rfl (fun _ f => by (try dsimp only at f); go_simp; try with_reducible rfl) ?_
          refine ts 2 rfl (by kernel_rfl) rfl (fun _ f => by (try dsimp only at f); go_simp; try with_reducible rfl) ?_
          try simp only [pw]
          refine ts 3 rfl (by kernel_rfl) rfl (fun _ f => by (try dsimp only at f); go_simp; try with_reducible rfl) ?_
          refine ts 4 rfl (by kernel_rfl) rfl (fun _ f => by (try dsimp only at f); go_simp; try with_reducible rfl) ?_
          try simp only [pw]
          refine rq 5 (by kernel_rfl) rfl fun K hK => ?_
          go_simp
          (go_at_call 153; with_reducible refine (ld y _ _ _ ?_ ?_).mono ?_; (refine S1.out.go ?_; (repeat (first | exact zm | refine ae ?_ | refine Below.alloc ?_ (by simp <;> omega) _))); (refine S2.out.go ?_; (repeat (first | exact zm | refine ae ?_ | refine Below.alloc ?_ (by simp <;> omega) _))); rw [hw]; rintro e w' ⟨rfl, hb5⟩)
          refine hK.out _ _ ?_ (fun hH => ?_)
          ·(try dsimp only); first | assumption | exact HS.out _ (bt (And.left (by assumption)) hb5) | exact HS.out _ (ae zm)
          clear hK K
          refine ts 6 rfl (by kernel_rfl) rfl (fun _ f => by (try dsimp only at f); go_simp; try with_reducible rfl) ?_
          try simp only [pw]
          refine ts 7 rfl (by kernel_rfl) rfl (fun _ f => by (try dsimp only at f); go_simp; try with_reducible rfl) ?_
          refine ts 8 rfl (by kernel_rfl) rfl (fun _ f => by (try dsimp only at f); go_simp; try with_reducible rfl) ?_
          refine ts 9 rfl (by kernel_rfl) rfl (fun _ f => by (try dsimp only at f); go_simp; try with_reducible rfl) ?_
          try simp only [pw]
          refine ts 10 rfl (by kernel_rfl) rfl (fun _ f => by (try dsimp only at f); go_simp; try with_reducible rfl) ?_
          refine ts 11 rfl (by kernel_rfl) rfl (fun _ f => by (try dsimp only at f); go_simp; try with_reducible rfl) ?_
          refine ts 12 rfl (by kernel_rfl) rfl (fun _ f => by (try dsimp only at f); go_simp; try with_reducible rfl) ?_
          try simp only [pw]
          refine ts 13 rfl (by kernel_rfl) rfl (fun _ f => by (try dsimp only at f); go_simp; try with_reducible rfl) ?_
          refine ts 14 rfl (by kernel_rfl) rfl (fun _ f => by (try dsimp only at f); go_simp; try with_reducible rfl) ?_
          try simp only [pw]
          refine rq 15 (by kernel_rfl) rfl fun K hK => ?_
          go_simp
          (go_at_call 60; refine (jw _ ?_ _).mono ?_; omega; rintro e w' ⟨rfl, rfl⟩)
          refine hK.out _ _ ?_ (fun hH => ?_)
          ·(try dsimp only); first | assumption | exact HS.out _ (bt (And.left (by assumption)) hb5) | exact HS.out _ (ae zm)
          clear hK K
          refine ts 16 rfl (by kernel_rfl) rfl (fun _ f => by (try dsimp only at f); go_simp; try with_reducible rfl) ?_
          try simp only [pw]
          refine ts 17 rfl (by kernel_rfl) rfl (fun _ f => by (try dsimp only at f); go_simp; try with_reducible rfl) ?_
          try simp only [pw]
          refine dm (by kernel_rfl) ?_
          go_wp2
          go_ret
          exact ⟨ah Hf.out.symm, bt HB.out (bt Hb.out (bt (by (repeat (first | exact zm | refine ae ?_ | refine Below.alloc ?_ (by simp <;> omega) _))) hb5))⟩
       ·have g1 : bu x.mixes = true := uH Hml.out fun j hj => Hall.out j (by omega)
        have Hq := hid (show x.mixes.take k = x.mixes from aV hk hlt)
        have HG := hid (sI (x := x) g1 g2 g3 g4 g5)
        obtain ⟨wA, rfl⟩ : ∃ wA : World, wA = wr := ⟨_, rfl⟩
        rw [Hq.out] at *
        have HB := hid (bt HB.out Hb.out)
        have HK := hid (fun (wx : World) (hb : Below wA.heap.size wA wx) => HK.out wx (bt Hb.out hb))
        have Hs := hid (Hs.out.go Hb.out); have Hn := hid (Hn.out.go Hb.out); have Hg := hid (Hg.out.go Hb.out)
        have HZ := hid Hb.out.size
        have HI := hid (show (x.net.length : Int) + x.got.length + x.lost + aO x.mixes = dH x from rfl)
        clear Hall r2 Hb Hm
        go_wp2
        clear k0 k1 k2 k3 k4 k5
        go_loopw [5] (fun i wr => ∃ k : Nat, k ≤ x.sent.length ∧ i = .int .i64 k ∧ (∀ j, j < k → je x.sent j = true) ∧ Below wA.heap.size wA wr) (fun i _ => x.sent.length - (intOf i).toNat)
        case atStart => exact ⟨0, by omega, rfl, fun j hj => absurd hj (by omega), zm⟩
        case round =>
         obtain ⟨k6, hk6, rfl, hall, hb⟩ := hrel
         have Hall := hid hall; have Hb := hid hb
         have r2 := Hs.out.go hb
         obtain ⟨k0, k1, k2, k3, k4, k5⟩ := HK.out _ hb
         have hzr := Nat.lt_of_lt_of_le hz (Nat.le_trans HZ.out hb.size)
         clear hall hb
         by_cases hlt6 : k6 < x.sent.length
         ·obtain ⟨l, hx⟩ := ai hlt6
          obtain ⟨b, o, rfl, _, hbl, q0, q1, q2⟩ := r2.lt3 hx
          have Hx := hid hx
          have HC := hid (fun (wx : World) (hb : Below wr.heap.size wr wx) => And.intro ((hb.cell (p := ⟨w.heap.size, 1, none⟩) hzr).trans k1) ((hb.cell (p := ⟨b, o + k6 * 3 + 2, none⟩) hbl).trans q2))
          clear hx r2
          cases hw : ltB l with
          | false =>
           have Hf := hid (tE (dq hlt6 (by rw [gS Hx.out, hw]; rfl)))
           go_wp2_with (go_at_call 110; refine (ej l _).mono ?_; rw [hw]; rintro e w' ⟨rfl, hb5⟩)
           go_ret
           exact ⟨ah Hf.out.symm, bt HB.out (bt Hb.out hb5)⟩
          | true =>
           by_cases hn : l.num = (k6 : Int)
           ·have hnB : (l.num != (k6 : Int)) = false := by simp [hn]
            have Hf := hid (show je x.sent k6 = true from by rw [gS Hx.out, hw, decide_eq_true hn]; rfl)
            clear hn
            go_wp2_with (go_at_call 110; refine (ej l _).mono ?_; rw [hw]; rintro e w' ⟨rfl, hb5⟩; obtain ⟨kk0, kk1⟩ := HC.out _ hb5)
            go_roundw
            case rel => exact ⟨k6 + 1, by omega, by go_num, fun j hj => by rcases Nat.lt_or_ge j k6 with h | h; exact Hall.out j h; rw [show j = k6 from by omega]; exact Hf.out, bt Hb.out hb5⟩
            case measure => simp [intOf]; omega
           ·have hnB : (l.num != (k6 : Int)) = true := by simp [hn]
            have Hf := hid (tE (dq hlt6 (by rw [gS Hx.out, hw, decide_eq_false hn]; rfl)))
            clear hn
            go_wp2_with (go_at_call 110; refine (ej l _).mono ?_; rw [hw]; rintro e w' ⟨rfl, hb5⟩; obtain ⟨kk0, kk1⟩ := HC.out _ hb5)
            go_ret
            exact ⟨ah Hf.out.symm, bt HB.out (bt Hb.out hb5)⟩
         ·have Hsent := hid (show kZ x.sent = true from fg fun j hj => Hall.out j (by omega))
          obtain ⟨wC, rfl⟩ : ∃ wC : World, wC = wr := ⟨_, rfl⟩
          have HB := hid (bt HB.out Hb.out)
          have HK := hid (fun (wx : World) (hb : Below wC.heap.size wC wx) => HK.out wx (bt Hb.out hb))
          have HZ := hid (Nat.le_trans HZ.out Hb.out.size)
          have Hn := hid (Hn.out.go Hb.out); have Hg := hid (Hg.out.go Hb.out)
          clear Hall r2 Hb Hs
          go_wp2
          clear k0 k1 k2 k3 k4 k5
          go_loopw [6] (fun i wr => ∃ k : Nat, k ≤ x.got.length ∧ i = .int .i64 k ∧ nE (x.got.take k) = true ∧ Below wC.heap.size wC wr) (fun i _ => x.got.length - (intOf i).toNat)
          case atStart => exact ⟨0, by omega, rfl, rfl, zm⟩
          case round =>
           obtain ⟨k7, hk7, rfl, hall, hb⟩ := hrel
           have Hall := hid hall; have Hb := hid hb
           have r2 := Hg.out.go hb
           obtain ⟨k0, k1, k2, k3, k4, k5⟩ := HK.out _ hb
           clear hall hb
           by_cases hlt7 : k7 < x.got.length
           ·obtain ⟨l, hx⟩ := ai hlt7
            obtain ⟨b, o, rfl, _, hbl, q0, q1, q2⟩ := r2.lt3 hx
            have Hx := hid hx
            clear hx r2
            cases hw : ltB l with
            | false =>
             have Hf := hid (yd (fK Hx.out hw))
             go_wp2_with (go_at_call 110; refine (ej l _).mono ?_; rw [hw]; rintro e w' ⟨rfl, hb5⟩)
             go_ret
             exact ⟨ah Hf.out.symm, bt HB.out (bt Hb.out hb5)⟩
            | true =>
             go_wp2_with (go_at_call 110; refine (ej l _).mono ?_; rw [hw]; rintro e w' ⟨rfl, hb5⟩)
             go_roundw
             case rel => exact ⟨k7 + 1, by omega, by go_num, by rw [aK Hx.out]; exact dV Hall.out hw, bt Hb.out hb5⟩
             case measure => simp [intOf]; omega
           ·have Hgot := hid (show nE x.got = true from by rw [← aV hk7 hlt7]; exact Hall.out)
            obtain ⟨wD, rfl⟩ : ∃ wD : World, wD = wr := ⟨_, rfl⟩
            have HB := hid (bt HB.out Hb.out)
            have HK := hid (fun (wx : World) (hb : Below wD.heap.size wD wx) => HK.out wx (bt Hb.out hb))
            have HZ := hid (Nat.le_trans HZ.out Hb.out.size)
            have Hn := hid (Hn.out.go Hb.out)
            clear Hall r2 Hb Hg
            go_wp2
            clear k0 k1 k2 k3 k4 k5
            go_loopw [7] (fun i wr => ∃ k : Nat, k ≤ x.net.length ∧ i = .int .i64 k ∧ lR (x.net.take k) = true ∧ Below wD.heap.size wD wr) (fun i _ => x.net.length - (intOf i).toNat)
            case atStart => exact ⟨0, by omega, rfl, rfl, zm⟩
            case round =>
             obtain ⟨k8, hk8, rfl, hall, hb⟩ := hrel
             have Hall := hid hall; have Hb := hid hb
             have r2 := Hn.out.go hb
             obtain ⟨k0, k1, k2, k3, k4, k5⟩ := HK.out _ hb
             clear hall hb
             by_cases hlt8 : k8 < x.net.length
             ·obtain ⟨y, hx⟩ := ai hlt8
              obtain ⟨b, o, vh, vb, rfl, _, _, s1, s2, q0, q1, q2, q3, q4, q5⟩ := r2.tr hx
              obtain ⟨Ah, ch, rfl, _, _, _⟩ := s1.form
              obtain ⟨Ab, cb, rfl, _, _, _⟩ := s2.form
              have Hx := hid hx; have S1 := hid s1; have S2 := hid s2
              clear hx r2 s1 s2
              cases hw1 : win y.mix 0 2 with
              | false =>
               have Hf := hid (tF (fK Hx.out (show trB y = false from by rw [trB, hw1]; rfl)))
               go_wp2_with (go_at_call 68; refine (aU _ _ _ _).mono ?_; rw [hw1]; rintro e w' ⟨rfl, rfl⟩)
               go_ret
               exact ⟨ah Hf.out.symm, bt HB.out Hb.out⟩
              | true =>
               cases hw2 : pkB y.pk with
               | false =>
                have Hf := hid (tF (fK Hx.out (show trB y = false from by rw [trB, hw1, hw2]; rfl)))
                go_wp2_with (first | (go_at_call 68; refine (aU _ _ _ _).mono ?_; rw [hw1]; rintro e w' ⟨rfl, rfl⟩) | (go_at_call 154; with_reducible refine (gB y.pk _ _ _ ?_ ?_).mono ?_; exact S1.out; exact S2.out; rw [hw2]; rintro e w' ⟨rfl, hb5⟩))
                go_ret
                exact ⟨ah Hf.out.symm, bt HB.out (bt Hb.out hb5)⟩
               | true =>
                have Hf := hid (show trB y = true from by rw [trB, hw1, hw2]; rfl)
                go_wp2_with (first | (go_at_call 68; refine (aU _ _ _ _).mono ?_; rw [hw1]; rintro e w' ⟨rfl, rfl⟩) | (go_at_call 154; with_reducible refine (gB y.pk _ _ _ ?_ ?_).mono ?_; exact S1.out; exact S2.out; rw [hw2]; rintro e w' ⟨rfl, hb5⟩))
                go_roundw
                case rel => exact ⟨k8 + 1, by omega, by go_num, by rw [aK Hx.out]; exact dV Hall.out Hf.out, bt Hb.out hb5⟩
                case measure => simp [intOf]; omega
             ·have Hnet := hid (show lR x.net = true from by rw [← aV hk8 hlt8]; exact Hall.out)
              have HG2 := hid (HG.out Hsent.out Hgot.out Hnet.out)
              clear r2
              go_wp2
              go_ret
              exact ⟨ah (by rw [HG2.out, ← HI.out]; first | rfl | (rw [Bool.eq_iff_iff]; simp)), bt HB.out Hb.out⟩
     ·have Hf := hid (yb g4)
      go_wp2_with (go_at_call 68; refine (aU _ _ _ _).mono ?_; rw [g5]; rintro e w' ⟨rfl, rfl⟩)
      go_ret
      exact ⟨ah Hf.out.symm, by (repeat (first | exact zm | refine ae ?_ | refine Below.alloc ?_ (by simp <;> omega) _))⟩
   ·have Hf := hid (ya g3)
    go_wp2
    go_ret
    exact ⟨ah Hf.out.symm, by (repeat (first | exact zm | refine ae ?_ | refine Below.alloc ?_ (by simp <;> omega) _))⟩
  ·have Hf := hid (x9 g2)
   go_wp2
   go_ret
   exact ⟨ah Hf.out.symm, by (repeat (first | exact zm | refine ae ?_ | refine Below.alloc ?_ (by simp <;> omega) _))⟩
 ·have g1B : ((x.mixes.length : Int) != 3) = true := by simp; omega
  have Hf := hid (tD (si g1))
  clear g1
  go_wp2
  go_ret
  exact ⟨ah Hf.out.symm, by (repeat (first | exact zm | refine ae ?_ | refine Below.alloc ?_ (by simp <;> omega) _))⟩
end Go.Proofs.YtfaeojmndaplcaaGreatDoor
