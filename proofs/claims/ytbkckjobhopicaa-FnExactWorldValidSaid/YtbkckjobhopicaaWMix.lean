/- Both texts' checks of mixes. -/
import Derived.Test.YtbkckjobhopicaaWVal
namespace Go.Proofs.Ytbkckjobhopicaa
open Go Go.RowKit
set_option maxHeartbeats 400000
theorem implMx_c (m : Mx) (vs vp : Value) (w : World) (h1 : SlB tInt w.heap.size w vs m.seen) (h2 : SlB tPl w.heap.size w vp m.pool) : Calls Try.prog 52 #[.agg #[.int .i64 m.sec, vs, vp]] w (ok (mxB m) w.heap.size w) := by
  obtain ⟨A1, c1, rfl, a1, a2, a3⟩ := h1.form
  obtain ⟨A2, c2, rfl, b1, b2, b3⟩ := h2.form
  clear a2 b2
  cases g1 : win m.sec 1 996 with
  | false =>
    go_enter Try.func52, Try.ntmps52
    go_wp2_with (go_at_call 48; refine (isElement_c _ _).mono ?_; rintro e w' ⟨rfl, rfl⟩)
    go_ret
    exact ⟨ret_bool (mx_sec g1).symm, by (repeat (first | exact Below.refl _ _ | refine Below.alloc ?_ (by simp <;> omega) _))⟩
  | true =>
  by_cases g2 : m.seen.length ≤ 12
  · by_cases g3 : m.pool.length ≤ 5
    · go_enter Try.func52, Try.ntmps52
      go_wp2_with (go_at_call 48; refine (isElement_c _ _).mono ?_; rintro e w' ⟨rfl, rfl⟩)
      have hB : Below w.heap.size w (w.alloc (Obj.cells #[Value.int IntKind.i64 m.sec, Value.slice A1 m.seen.length c1, Value.slice A2 m.pool.length c2] 46)) := by (repeat (first | exact Below.refl _ _ | refine Below.alloc ?_ (by simp <;> omega) _))
      have r1 := h1.go hB
      have hc1 : (w.alloc (Obj.cells #[Value.int IntKind.i64 m.sec, Value.slice A1 m.seen.length c1, Value.slice A2 m.pool.length c2] 46)).cell? ⟨w.heap.size, 1, none⟩ = some (Value.slice A1 m.seen.length c1) := rowcell _ _ _ 1 _ rfl
      have hc2 : (w.alloc (Obj.cells #[Value.int IntKind.i64 m.sec, Value.slice A1 m.seen.length c1, Value.slice A2 m.pool.length c2] 46)).cell? ⟨w.heap.size, 2, none⟩ = some (Value.slice A2 m.pool.length c2) := rowcell _ _ _ 2 _ rfl
      have r2 := h2.go hB
      generalize w.alloc (Obj.cells #[Value.int IntKind.i64 m.sec, Value.slice A1 m.seen.length c1, Value.slice A2 m.pool.length c2] 46) = W at *
      have HB := hid hB; have R2 := hid r2
      clear hB r2 h1 h2
      go_loop [26] (fun i => ∃ k : Nat, k ≤ m.seen.length ∧ i = .int .i64 k ∧ ∀ j, j < k → seenAt m.seen j = true) (fun i => m.seen.length - (intOf i).toNat)
      case atStart => exact ⟨0, by omega, rfl, fun j hj => absurd hj (by omega)⟩
      case round =>
        obtain ⟨k, hk, rfl, hall⟩ := hrel
        have Hall := hid hall
        clear hall
        by_cases hlt : k < m.seen.length
        · obtain ⟨x, hx⟩ := get_ex hlt
          obtain ⟨b, o, rfl, _, _, hcx⟩ := r1.int hx
          have Hx := hid hx
          have hkc : (k : Int) ≤ (c1 : Int) := by omega
          have Rt := hid (r1.take k (by omega))
          clear hx
          cases hw : win x 1 996 with
          | false =>
            have Hf := hid (mx_seen (range_at hlt (by rw [seen_at Hx.out, hw]; rfl)))
            go_wp2_with (go_at_call 48; refine (isElement_c _ _).mono ?_; rintro e w' ⟨rfl, rfl⟩)
            go_ret
            exact ⟨ret_bool Hf.out.symm, HB.out⟩
          | true =>
            cases hd : decide (x ∈ m.seen.take k) with
            | true =>
              have Hf := hid (mx_seen (range_at hlt (by rw [seen_at Hx.out, hw, hd]; rfl)))
              go_wp2_with (first | (go_at_call 48; refine (isElement_c _ _).mono ?_; rintro e w' ⟨rfl, rfl⟩) | (go_at_call 72; refine (Contains_c _ _ _ _ Rt.out).mono ?_; rw [hd]; rintro e w' ⟨rfl, rfl⟩))
              go_ret
              exact ⟨ret_bool Hf.out.symm, HB.out⟩
            | false =>
              have Hf := hid (show seenAt m.seen k = true from by rw [seen_at Hx.out, hw, hd]; rfl)
              go_wp2_with (first | (go_at_call 48; refine (isElement_c _ _).mono ?_; rintro e w' ⟨rfl, rfl⟩) | (go_at_call 72; refine (Contains_c _ _ _ _ Rt.out).mono ?_; rw [hd]; rintro e w' ⟨rfl, rfl⟩))
              go_round
              case rel => exact ⟨k + 1, by omega, by go_num, fun j hj => by rcases Nat.lt_or_ge j k with h | h; exact Hall.out j h; rw [show j = k from by omega]; exact Hf.out⟩
              case measure => simp [intOf]; omega
        · have Hs := hid (show seenB m.seen = true from range_all fun j hj => Hall.out j (by omega))
          clear Hall r1
          go_wp2
          go_loopw [46] (fun i wr => ∃ k : Nat, k ≤ m.pool.length ∧ i = .int .i64 k ∧ poolB (m.pool.take k) = true ∧ Below W.heap.size W wr) (fun i _ => m.pool.length - (intOf i).toNat)
          case atStart => exact ⟨0, by omega, rfl, rfl, Below.refl _ _⟩
          case round =>
            obtain ⟨j, hj, rfl, hall, hb⟩ := hrel
            have Hall := hid hall
            have r2 := R2.out.go hb
            have Hb := hid hb
            clear hall hb
            by_cases hlt2 : j < m.pool.length
            · obtain ⟨x, hx⟩ := get_ex hlt2
              obtain ⟨b, o, vh, vb, rfl, _, _, s1, s2, q0, q1, q2, q3, q4, q5⟩ := r2.pl hx
              obtain ⟨Ah, ch, rfl, _, _, _⟩ := s1.form
              obtain ⟨Ab, cb, rfl, _, _, _⟩ := s2.form
              have Hx := hid hx; have S1 := hid s1; have S2 := hid s2
              clear hx r2 s1 s2
              cases hw : plB x with
              | false =>
                have Hf := hid (mx_pool (all_at Hx.out hw))
                go_wp2_with (go_at_call 73; with_reducible refine (implPl_c x _ _ _ ?_ ?_).mono ?_; exact S1.out.go (lit_below _ _); exact S2.out.go (lit_below _ _); rw [hw]; rintro e w' ⟨rfl, hb5⟩)
                go_ret
                exact ⟨ret_bool Hf.out.symm, bt HB.out (bt Hb.out (bt (lit_below _ _) hb5))⟩
              | true =>
                go_wp2_with (go_at_call 73; with_reducible refine (implPl_c x _ _ _ ?_ ?_).mono ?_; exact S1.out.go (lit_below _ _); exact S2.out.go (lit_below _ _); rw [hw]; rintro e w' ⟨rfl, hb5⟩)
                go_roundw
                case rel => exact ⟨j + 1, by omega, by go_num, by rw [take_ex Hx.out]; exact all_snoc Hall.out hw, bt Hb.out (bt (lit_below _ _) hb5)⟩
                case measure => simp [intOf]; omega
            · have Hf := hid (mx_all g1 g2 g3 Hs.out (by rw [← take_all hj hlt2]; exact Hall.out))
              go_wp2
              go_ret
              exact ⟨ret_bool Hf.out.symm, bt HB.out Hb.out⟩
    · go_enter Try.func52, Try.ntmps52
      go_wp2_with (go_at_call 48; refine (isElement_c _ _).mono ?_; rintro e w' ⟨rfl, rfl⟩)
      go_ret
      exact ⟨ret_bool (mx_many g3).symm, by (repeat (first | exact Below.refl _ _ | refine Below.alloc ?_ (by simp <;> omega) _))⟩
  · go_enter Try.func52, Try.ntmps52
    go_wp2_with (go_at_call 48; refine (isElement_c _ _).mono ?_; rintro e w' ⟨rfl, rfl⟩)
    go_ret
    exact ⟨ret_bool (mx_long g2).symm, by (repeat (first | exact Below.refl _ _ | refine Below.alloc ?_ (by simp <;> omega) _))⟩
theorem l1Is_q (n : Int) (b : Bool) (h : win n 1 996 = b) (w : World) (k : Nat) : Calls Try.prog 51 #[.int .i64 n] (w.drewN k) fun e w' => e = .returned (.bool b) ∧ w' = w.drewN k := by
  subst h; exact (l1Is_c n _).mono fun _ _ ⟨h1, h2⟩ => ⟨h1, h2.symm⟩
theorem l1Has_q (v : Value) (xs : List Int) (n : Int) (b : Bool) (hb : decide (n ∈ xs) = b) (w : World) (k : Nat) (h : SlB tInt w.heap.size w v xs) : Calls Try.prog 65 #[v, .int .i64 n] (w.drewN k) fun e w' => e = .returned (.bool b) ∧ w' = w.drewN k := by
  subst hb; exact (l1Has_c v xs n _ (h.drewN (Nat.le_refl _) k)).mono fun _ _ ⟨h1, h2⟩ => ⟨h1, h2.symm⟩
theorem specMx_c (m : Mx) (vs vp : Value) (w : World) (h1 : SlB tInt w.heap.size w vs m.seen) (h2 : SlB tPl w.heap.size w vp m.pool) : Calls Try.prog 42 #[.agg #[.int .i64 m.sec, vs, vp]] w (ok (mxB m) w.heap.size w) := by
  obtain ⟨A1, c1, rfl, a1, a2, a3⟩ := h1.form
  obtain ⟨A2, c2, rfl, b1, b2, b3⟩ := h2.form
  clear a2 b2
  go_enter Try.func42, Try.ntmps42
  go_wp2_with fail
  have hB : Below w.heap.size w (w.alloc (Obj.cells #[Value.int IntKind.i64 m.sec, Value.slice A1 m.seen.length c1, Value.slice A2 m.pool.length c2] 46)) := by (repeat (first | exact Below.refl _ _ | refine Below.alloc ?_ (by simp <;> omega) _))
  have r1 := h1.go hB
  have hc0 : (w.alloc (Obj.cells #[Value.int IntKind.i64 m.sec, Value.slice A1 m.seen.length c1, Value.slice A2 m.pool.length c2] 46)).cell? ⟨w.heap.size, 0, none⟩ = some (Value.int IntKind.i64 m.sec) := rowcell _ _ _ 0 _ rfl
  have hc1 : (w.alloc (Obj.cells #[Value.int IntKind.i64 m.sec, Value.slice A1 m.seen.length c1, Value.slice A2 m.pool.length c2] 46)).cell? ⟨w.heap.size, 1, none⟩ = some (Value.slice A1 m.seen.length c1) := rowcell _ _ _ 1 _ rfl
  have hc2 : (w.alloc (Obj.cells #[Value.int IntKind.i64 m.sec, Value.slice A1 m.seen.length c1, Value.slice A2 m.pool.length c2] 46)).cell? ⟨w.heap.size, 2, none⟩ = some (Value.slice A2 m.pool.length c2) := rowcell _ _ _ 2 _ rfl
  have r2 := h2.go hB
  have hz : w.heap.size < (w.alloc (Obj.cells #[Value.int IntKind.i64 m.sec, Value.slice A1 m.seen.length c1, Value.slice A2 m.pool.length c2] 46)).heap.size := by simp
  generalize w.alloc (Obj.cells #[Value.int IntKind.i64 m.sec, Value.slice A1 m.seen.length c1, Value.slice A2 m.pool.length c2] 46) = W at *
  have HB := hid hB; have R2 := hid r2; have R1 := hid r1; have Hc0 := hid hc0; have Hc1 := hid hc1; have Hc2 := hid hc2
  clear hB r2 h1 h2 r1 hc0 hc1 hc2
  go_loopw [3] (fun i wr => ∃ k : Nat, k ≤ m.seen.length ∧ i = .int .i64 k ∧ (∀ j, j < k → seenAt m.seen j = true) ∧ Below W.heap.size W wr) (fun i _ => m.seen.length - (intOf i).toNat)
  case atStart => exact ⟨0, by omega, rfl, fun j hj => absurd hj (by omega), Below.refl _ _⟩
  case round =>
    obtain ⟨k, hk, rfl, hall, hb⟩ := hrel
    have Hall := hid hall; have Hb := hid hb
    have r1 := R1.out.go hb
    have hc1 := (hb.cell (p := ⟨w.heap.size, 1, none⟩) hz).trans Hc1.out
    have hc2 := (hb.cell (p := ⟨w.heap.size, 2, none⟩) hz).trans Hc2.out
    clear hall hb
    by_cases hlt : k < m.seen.length
    · obtain ⟨x, hx⟩ := get_ex hlt
      obtain ⟨b, o, rfl, _, _, hcx⟩ := r1.int hx
      have Hx := hid hx
      have hkc : (k : Int) ≤ (c1 : Int) := by omega
      have Rt := hid (r1.take k (by omega))
      clear hx r1
      cases hw : win x 1 996 with
      | false =>
        have Hf := hid (mx_seen (range_at hlt (by rw [seen_at Hx.out, hw]; rfl)))
        go_wp2
        go_quiet ((go_at_call 51; exact Calls.quiet_of_same (l1Is_q _ false hw _ _)))
        go_wp2
        go_ret
        exact ⟨ret_bool Hf.out.symm, below_drewN (bt HB.out Hb.out) _⟩
      | true =>
        cases hd : decide (x ∈ m.seen.take k) with
        | true =>
          have Hf := hid (mx_seen (range_at hlt (by rw [seen_at Hx.out, hw, hd]; rfl)))
          go_wp2
          go_quiet ((first | (go_at_call 51; exact Calls.quiet_of_same (l1Is_q _ true hw _ _)) | (go_at_call 65; exact Calls.quiet_of_same (l1Has_q _ _ _ true hd _ _ (by exact Rt.out)))))
          go_wp2
          go_ret
          exact ⟨ret_bool Hf.out.symm, below_drewN (bt HB.out Hb.out) _⟩
        | false =>
          have Hf := hid (show seenAt m.seen k = true from by rw [seen_at Hx.out, hw, hd]; rfl)
          go_wp2
          go_quiet ((first | (go_at_call 51; exact Calls.quiet_of_same (l1Is_q _ true hw _ _)) | (go_at_call 65; exact Calls.quiet_of_same (l1Has_q _ _ _ false hd _ _ (by exact Rt.out)))))
          go_wp2
          go_roundw
          case rel => exact ⟨k + 1, by omega, by go_num, fun j hj => by rcases Nat.lt_or_ge j k with h | h; exact Hall.out j h; rw [show j = k from by omega]; exact Hf.out, below_drewN Hb.out _⟩
          case measure => simp [intOf]; omega
    · have Hs := hid (show seenB m.seen = true from range_all fun j hj => Hall.out j (by omega))
      have HB := hid (bt HB.out Hb.out)
      have R2 := hid (R2.out.go Hb.out)
      have Hd0 := hid ((Hb.out.cell (p := ⟨w.heap.size, 0, none⟩) hz).trans Hc0.out)
      have Hd1 := hid ((Hb.out.cell (p := ⟨w.heap.size, 1, none⟩) hz).trans Hc1.out)
      have Hd2 := hid hc2
      have hz := Nat.lt_of_lt_of_le hz Hb.out.size
      clear Hall r1 Hc0 Hc1 Hc2 Hb R1
      obtain ⟨wo, rfl⟩ : ∃ wo : World, wo = wr := ⟨_, rfl⟩
      go_wp2
      clear hc1 hc2
      go_loopw [4] (fun i wr => ∃ k : Nat, k ≤ m.pool.length ∧ i = .int .i64 k ∧ poolB (m.pool.take k) = true ∧ Below wo.heap.size wo wr) (fun i _ => m.pool.length - (intOf i).toNat)
      case atStart => exact ⟨0, by omega, rfl, rfl, Below.refl _ _⟩
      case round =>
        obtain ⟨j, hj, rfl, hall, hb⟩ := hrel
        have Hall := hid hall
        have r2 := R2.out.go hb
        have Hb := hid hb
        have hc0 := (hb.cell (p := ⟨w.heap.size, 0, none⟩) hz).trans Hd0.out
        have hc1 := (hb.cell (p := ⟨w.heap.size, 1, none⟩) hz).trans Hd1.out
        have hc2 := (hb.cell (p := ⟨w.heap.size, 2, none⟩) hz).trans Hd2.out
        clear hall hb
        by_cases hlt2 : j < m.pool.length
        · obtain ⟨x, hx⟩ := get_ex hlt2
          obtain ⟨b, o, vh, vb, rfl, _, _, s1, s2, q0, q1, q2, q3, q4, q5⟩ := r2.pl hx
          obtain ⟨Ah, ch, rfl, _, _, _⟩ := s1.form
          obtain ⟨Ab, cb, rfl, _, _, _⟩ := s2.form
          have Hx := hid hx; have S1 := hid s1; have S2 := hid s2
          clear hx r2 s1 s2
          cases hw : plB x with
          | false =>
            have Hf := hid (mx_pool (all_at Hx.out hw))
            go_wp2_with (go_at_call 66; with_reducible refine (specPl_c x _ _ _ ?_ ?_).mono ?_; exact S1.out; exact S2.out; rw [hw]; rintro e w' ⟨rfl, hb5⟩)
            go_ret
            exact ⟨ret_bool Hf.out.symm, bt HB.out (bt Hb.out hb5)⟩
          | true =>
            go_wp2_with (go_at_call 66; with_reducible refine (specPl_c x _ _ _ ?_ ?_).mono ?_; exact S1.out; exact S2.out; rw [hw]; rintro e w' ⟨rfl, hb5⟩)
            go_roundw
            case rel => exact ⟨j + 1, by omega, by go_num, by rw [take_ex Hx.out]; exact all_snoc Hall.out hw, bt Hb.out hb5⟩
            case measure => simp [intOf]; omega
        · have hp : poolB m.pool = true := by rw [← take_all hj hlt2]; exact Hall.out
          have Hp := hid hp
          clear hp r2
          cases g1 : win m.sec 1 996 with
          | false =>
            have Hf := hid (mx_sec g1)
            go_wp2_with (go_at_call 51; refine (l1Is_c _ _).mono ?_; rw [g1]; rintro e w' ⟨rfl, rfl⟩)
            go_ret
            exact ⟨ret_bool Hf.out.symm, bt HB.out Hb.out⟩
          | true =>
          by_cases g2 : m.seen.length ≤ 12
          · by_cases g3 : m.pool.length ≤ 5
            · have Hf := hid (mx_all g1 g2 g3 Hs.out Hp.out)
              go_wp2_with (go_at_call 51; refine (l1Is_c _ _).mono ?_; rw [g1]; rintro e w' ⟨rfl, rfl⟩)
              go_ret
              exact ⟨ret_bool (by rw [Hf.out]; simp; try omega), bt HB.out Hb.out⟩
            · have Hf := hid (mx_many g3)
              go_wp2_with (go_at_call 51; refine (l1Is_c _ _).mono ?_; rw [g1]; rintro e w' ⟨rfl, rfl⟩)
              go_ret
              exact ⟨ret_bool (by rw [Hf.out]; simp; try omega), bt HB.out Hb.out⟩
          · have Hf := hid (mx_long g2)
            go_wp2_with (go_at_call 51; refine (l1Is_c _ _).mono ?_; rw [g1]; rintro e w' ⟨rfl, rfl⟩)
            go_ret
            exact ⟨ret_bool Hf.out.symm, bt HB.out Hb.out⟩
end Go.Proofs.Ytbkckjobhopicaa
