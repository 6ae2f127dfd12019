/- Both texts' checks of letters and runs. -/
import Derived.Test.YtbkckjobhopicaaWMix
import Derived.Deep.RegionHeld3
namespace Go.Proofs.Ytbkckjobhopicaa
open Go Go.RowKit
set_option maxHeartbeats 400000
def ltB (l : Lt) : Bool := win l.fr 0 7 && (win l.to 0 7 && win l.num 0 11)
def trB (t : Tr) : Bool := win t.mix 0 2 && pkB t.pk
def secOf (k : Nat) : Int := 100 + 37 * (k : Int)
def mixAt (l : List Mx) (k : Nat) : Bool := match l[k]? with | some m => mxB m && decide (m.sec = secOf k) | none => false
def mixesB (l : List Mx) : Bool := decide (l.length = 3) && (List.range l.length).all (mixAt l)
def sentAt (l : List Lt) (k : Nat) : Bool := match l[k]? with | some x => ltB x && decide (x.num = (k : Int)) | none => false
def sentB (l : List Lt) : Bool := (List.range l.length).all (sentAt l)
def gotB (l : List Lt) : Bool := l.all ltB
def netB (l : List Tr) : Bool := l.all trB
def poolSum (l : List Mx) : Nat := (l.map (fun m => m.pool.length)).sum
def inside (x : Wd) : Int := (x.net.length : Int) + x.got.length + x.lost + poolSum x.mixes
def wdB (x : Wd) : Bool := mixesB x.mixes && (decide (x.sent.length ≤ 12) && (decide (x.net.length ≤ 10) && (decide (x.made ≤ 999) && (win x.lost 0 x.made && (sentB x.sent && (gotB x.got && (netB x.net && decide (inside x = x.made))))))))
theorem implLt_c (l : Lt) (w : World) : Calls Try.prog 26 #[.agg #[.int .i64 l.fr, .int .i64 l.to, .int .i64 l.num]] w (ok (ltB l) w.heap.size w) := by
  cases g1 : win l.fr 0 7 with
  | false =>
    go_enter Try.func26, Try.ntmps26
    go_wp2_with (first | (go_at_call 25; refine (within_c _ _ _ _).mono ?_; rintro e w' ⟨rfl, rfl⟩) | (go_at_call 53; refine (isName_c _ _).mono ?_; rintro e w' ⟨rfl, rfl⟩))
    go_ret
    exact ⟨ret_bool (by rw [ltB, g1]; rfl), by (repeat (first | exact Below.refl _ _ | refine below_drew1 ?_ | refine Below.alloc ?_ (by simp <;> omega) _))⟩
  | true =>
  cases g2 : win l.to 0 7 with
  | false =>
    go_enter Try.func26, Try.ntmps26
    go_wp2_with (first | (go_at_call 25; refine (within_c _ _ _ _).mono ?_; rintro e w' ⟨rfl, rfl⟩) | (go_at_call 53; refine (isName_c _ _).mono ?_; rintro e w' ⟨rfl, rfl⟩))
    go_ret
    exact ⟨ret_bool (by rw [ltB, g1, g2]; rfl), by (repeat (first | exact Below.refl _ _ | refine below_drew1 ?_ | refine Below.alloc ?_ (by simp <;> omega) _))⟩
  | true =>
    go_enter Try.func26, Try.ntmps26
    go_wp2_with (first | (go_at_call 25; refine (within_c _ _ _ _).mono ?_; rintro e w' ⟨rfl, rfl⟩) | (go_at_call 53; refine (isName_c _ _).mono ?_; rintro e w' ⟨rfl, rfl⟩))
    go_ret
    exact ⟨ret_bool (by rw [ltB, g1, g2]; rfl), by (repeat (first | exact Below.refl _ _ | refine below_drew1 ?_ | refine Below.alloc ?_ (by simp <;> omega) _))⟩
theorem specLt_c (l : Lt) (w : World) : Calls Try.prog 43 #[.agg #[.int .i64 l.fr, .int .i64 l.to, .int .i64 l.num]] w (ok (ltB l) w.heap.size w) := by
  cases g1 : win l.fr 0 7 with
  | false =>
    go_enter Try.func43, Try.ntmps43
    go_wp2_with (go_at_call 41; refine (l6In_c _ _ _ _).mono ?_; rintro e w' ⟨rfl, rfl⟩)
    go_ret
    exact ⟨ret_bool (by rw [ltB, g1]; rfl), by (repeat (first | exact Below.refl _ _ | refine below_drew1 ?_ | refine Below.alloc ?_ (by simp <;> omega) _))⟩
  | true =>
  cases g2 : win l.to 0 7 with
  | false =>
    go_enter Try.func43, Try.ntmps43
    go_wp2_with (go_at_call 41; refine (l6In_c _ _ _ _).mono ?_; rintro e w' ⟨rfl, rfl⟩)
    go_ret
    exact ⟨ret_bool (by rw [ltB, g1, g2]; rfl), by (repeat (first | exact Below.refl _ _ | refine below_drew1 ?_ | refine Below.alloc ?_ (by simp <;> omega) _))⟩
  | true =>
    go_enter Try.func43, Try.ntmps43
    go_wp2_with (go_at_call 41; refine (l6In_c _ _ _ _).mono ?_; rintro e w' ⟨rfl, rfl⟩)
    go_ret
    exact ⟨ret_bool (by rw [ltB, g1, g2]; rfl), by (repeat (first | exact Below.refl _ _ | refine below_drew1 ?_ | refine Below.alloc ?_ (by simp <;> omega) _))⟩
theorem implSec_c (k : Nat) (hk : k ≤ 1000) (w : World) : Calls Try.prog 18 #[.int .i64 k] w fun e w' => e = .returned (.int .i64 (secOf k)) ∧ w = w' := by
  go_enter Try.func18, Try.ntmps18
  go_wp2
  go_ret
  exact ⟨rfl, rfl⟩
theorem specSec_c (k : Nat) (hk : k ≤ 1000) (w : World) : Calls Try.prog 23 #[.int .i64 k] w fun e w' => e = .returned (.int .i64 (secOf k)) ∧ w = w' := by
  go_enter Try.func23, Try.ntmps23
  go_wp2
  go_ret
  exact ⟨rfl, rfl⟩
theorem mix_at {l : List Mx} {k : Nat} {m : Mx} (hm : l[k]? = some m) : mixAt l k = (mxB m && decide (m.sec = secOf k)) := by unfold mixAt; rw [hm]
theorem sent_at {l : List Lt} {k : Nat} {m : Lt} (hm : l[k]? = some m) : sentAt l k = (ltB m && decide (m.num = (k : Int))) := by unfold sentAt; rw [hm]
theorem box_cell {w w' : World} {cs : Array Value} {e i : Nat} {v : Value} (hb : Below (w.alloc (.cells cs e)).drew.heap.size (w.alloc (.cells cs e)).drew w') (h : cs[i]? = some v) : w'.cell? ⟨w.heap.size, i, none⟩ = some v :=
  (hb.cell (p := ⟨w.heap.size, i, none⟩) (by show _ < (w.alloc _).heap.size; simp)).trans (rowcell w cs e i v h)
theorem held_step {wr u u' : World} {n : Nat} {a b c : Value} (h : Below wr.heap.size wr u ∧ u.cell? ⟨n, 0, none⟩ = some a ∧ u.cell? ⟨n, 1, none⟩ = some b ∧ u.cell? ⟨n, 2, none⟩ = some c ∧ n < u.heap.size) (hb : Below u.heap.size u u') :
    Below wr.heap.size wr u' ∧ u'.cell? ⟨n, 0, none⟩ = some a ∧ u'.cell? ⟨n, 1, none⟩ = some b ∧ u'.cell? ⟨n, 2, none⟩ = some c ∧ n < u'.heap.size :=
  ⟨bt h.1 hb, (hb.cell (p := ⟨n, 0, none⟩) h.2.2.2.2).trans h.2.1, (hb.cell (p := ⟨n, 1, none⟩) h.2.2.2.2).trans h.2.2.1, (hb.cell (p := ⟨n, 2, none⟩) h.2.2.2.2).trans h.2.2.2.1, Nat.lt_of_lt_of_le h.2.2.2.2 hb.size⟩
theorem mixesValid_c (v : Value) (l : List Mx) (w : World) (h : SlB tMx w.heap.size w v l) : Calls Try.prog 24 #[v] w (ok (mixesB l) w.heap.size w) := by
  obtain ⟨A, c, rfl, a1, a2, a3⟩ := h.form
  clear a2
  by_cases hl : l.length = 3
  · have hl2 : ((l.length : Int) != 3) = false := by simp [hl]
    have Hl := hid hl
    have Hm := hid (show mixesB l = (List.range l.length).all (mixAt l) from by unfold mixesB; rw [decide_eq_true hl]; rfl)
    clear hl
    go_enter Try.func24, Try.ntmps24
    go_wp2
    go_loopw [10] (fun i wr => ∃ k : Nat, k ≤ l.length ∧ i = .int .i64 k ∧ (∀ j, j < k → mixAt l j = true) ∧ Below w.heap.size w wr) (fun i _ => l.length - (intOf i).toNat)
    case atStart => exact ⟨0, by omega, rfl, fun j hj => absurd hj (by omega), Below.refl _ _⟩
    case round =>
      obtain ⟨k, hk, rfl, hall, hb⟩ := hrel
      have Hall := hid hall; have Hb := hid hb
      have r1 := h.go hb
      clear hall hb
      by_cases hlt : k < l.length
      · obtain ⟨x, hx⟩ := get_ex hlt
        obtain ⟨b, o, vs, vp, rfl, _, _, s1, s2, q0, q1, q2⟩ := r1.mx hx
        obtain ⟨Ah, ch, rfl, _, _, _⟩ := s1.form
        obtain ⟨Ab, cb, rfl, _, _, _⟩ := s2.form
        have Hx := hid hx; have S1 := hid s1; have S2 := hid s2
        have hk9 : k ≤ 1000 := by have := Hl.out; omega
        clear hx r1 s1 s2 h
        cases hw : mxB x with
        | false =>
          have Hf := hid (show mixesB l = false from by rw [Hm.out]; exact range_at hlt (by rw [mix_at Hx.out, hw]; rfl))
          go_wp2
          first
            | (go_region_with (first | (go_at_call 52; with_reducible refine (implMx_c x _ _ _ ?_ ?_).mono ?_; (refine S1.out.go ?_; (repeat (first | exact Below.refl _ _ | refine below_drew1 ?_ | refine Below.alloc ?_ (by simp <;> omega) _))); (refine S2.out.go ?_; (repeat (first | exact Below.refl _ _ | refine below_drew1 ?_ | refine Below.alloc ?_ (by simp <;> omega) _))); rw [hw]; rintro e w' ⟨rfl, hb5⟩) | (go_at_call 18; refine (implSec_c _ ?_ _).mono ?_; omega; rintro e w' ⟨rfl, rfl⟩)))
            | fail
          all_goals go_wp2
          all_goals go_ret
          all_goals exact ⟨ret_bool Hf.out.symm, bt Hb.out (bt (by (repeat (first | exact Below.refl _ _ | refine below_drew1 ?_ | refine Below.alloc ?_ (by simp <;> omega) _))) hb5)⟩
        | true =>
          by_cases hs : x.sec = secOf k
          · have hsB : (x.sec != secOf k) = false := by simp [hs]
            have Hf := hid (show mixAt l k = true from by rw [mix_at Hx.out, hw, decide_eq_true hs]; rfl)
            clear hs
            go_wp2
            go_region_with (first | (go_at_call 52; with_reducible refine (implMx_c x _ _ _ ?_ ?_).mono ?_; (refine S1.out.go ?_; (repeat (first | exact Below.refl _ _ | refine below_drew1 ?_ | refine Below.alloc ?_ (by simp <;> omega) _))); (refine S2.out.go ?_; (repeat (first | exact Below.refl _ _ | refine below_drew1 ?_ | refine Below.alloc ?_ (by simp <;> omega) _))); rw [hw]; rintro e w' ⟨rfl, hb5⟩; have k0 := box_cell (i := 0) hb5 rfl) | (go_at_call 18; refine (implSec_c _ ?_ _).mono ?_; omega; rintro e w' ⟨rfl, rfl⟩))
            all_goals go_wp2
            all_goals (go_roundw; (case rel => exact ⟨k + 1, by omega, by go_num, fun j hj => by rcases Nat.lt_or_ge j k with h | h; exact Hall.out j h; rw [show j = k from by omega]; exact Hf.out, bt Hb.out (bt (by (repeat (first | exact Below.refl _ _ | refine below_drew1 ?_ | refine Below.alloc ?_ (by simp <;> omega) _))) hb5)⟩); (case measure => simp [intOf]; omega))
          · have hsB : (x.sec != secOf k) = true := by simp [hs]
            have Hf := hid (show mixesB l = false from by rw [Hm.out]; exact range_at hlt (by rw [mix_at Hx.out, hw, decide_eq_false hs]; rfl))
            clear hs
            go_wp2
            go_region_with (first | (go_at_call 52; with_reducible refine (implMx_c x _ _ _ ?_ ?_).mono ?_; (refine S1.out.go ?_; (repeat (first | exact Below.refl _ _ | refine below_drew1 ?_ | refine Below.alloc ?_ (by simp <;> omega) _))); (refine S2.out.go ?_; (repeat (first | exact Below.refl _ _ | refine below_drew1 ?_ | refine Below.alloc ?_ (by simp <;> omega) _))); rw [hw]; rintro e w' ⟨rfl, hb5⟩; have k0 := box_cell (i := 0) hb5 rfl) | (go_at_call 18; refine (implSec_c _ ?_ _).mono ?_; omega; rintro e w' ⟨rfl, rfl⟩))
            all_goals go_wp2
            all_goals go_ret
            all_goals exact ⟨ret_bool Hf.out.symm, bt Hb.out (bt (by (repeat (first | exact Below.refl _ _ | refine below_drew1 ?_ | refine Below.alloc ?_ (by simp <;> omega) _))) hb5)⟩
      · have Hf := hid (show mixesB l = true from by rw [Hm.out]; exact range_all fun j hj => Hall.out j (by omega))
        go_wp2
        go_ret
        exact ⟨ret_bool Hf.out.symm, Hb.out⟩
  · have hl2 : ((l.length : Int) != 3) = true := by simp; omega
    have Hm := hid (show mixesB l = false from by unfold mixesB; rw [decide_eq_false hl]; rfl)
    clear hl
    go_enter Try.func24, Try.ntmps24
    go_wp2
    go_ret
    exact ⟨ret_bool Hm.out.symm, Below.refl _ _⟩
end Go.Proofs.Ytbkckjobhopicaa
