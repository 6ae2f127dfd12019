/- What a valid packet and mix are; both texts' checks of lists, packets and mixes. -/
import Derived.Test.YtbkckjobhopicaaBase
import Derived.Test.YtbkckjobhopicaaWTy
import Derived.Outline
import Derived.StillTailTactics
namespace Go.Proofs.Ytbkckjobhopicaa
open Go Go.RowKit
set_option maxHeartbeats 400000

def numsB (l : List Int) : Bool := l.all fun x => win x 0 990
def lstB (l : List Int) (n : Int) : Bool := decide ((l.length : Int) = n) && numsB l
def shortB (l : List Int) : Bool := decide (l.length ≤ 24) && numsB l
def pkB (p : Pk) : Bool := win p.el 1 996 && (lstB p.hd 9 && (lstB p.bd 6 && win p.tag 0 990))
def plB (x : Pl) : Bool := win x.kind 0 1 && (win x.next 0 7 && pkB x.pk)
def seenAt (l : List Int) (k : Nat) : Bool := win (l.getD k 0) 1 996 && !decide (l.getD k 0 ∈ l.take k)
def seenB (l : List Int) : Bool := (List.range l.length).all (seenAt l)
def poolB (l : List Pl) : Bool := l.all plB
def mxB (m : Mx) : Bool := win m.sec 1 996 && (decide (m.seen.length ≤ 12) && (decide (m.pool.length ≤ 5) && (seenB m.seen && poolB m.pool)))
theorem win_t {n a b : Int} : win n a b = true ↔ a ≤ n ∧ n ≤ b := by simp [win]
theorem win_f {n a b : Int} : win n a b = false ↔ ¬ (a ≤ n ∧ n ≤ b) := by simp [win]
/-- a call that answers b and turns nothing -/
abbrev okQ (b : Bool) (w : World) (e : Ending) (w' : World) : Prop := e = .returned (.bool b) ∧ w = w'
theorem all_snoc {α : Type} {f : α → Bool} {xs : List α} {x : α} (h : xs.all f = true) (hx : f x = true) : (xs ++ [x]).all f = true := by rw [List.all_append, h]; simp [hx]
theorem all_at {α : Type} {f : α → Bool} {xs : List α} {k : Nat} {x : α} (hx : xs[k]? = some x) (h : f x = false) : xs.all f = false := by
  cases ha : xs.all f with
  | false => rfl
  | true => rw [List.all_eq_true.1 ha x (List.mem_of_getElem? hx)] at h; cases h
theorem range_all {f : Nat → Bool} {n : Nat} (h : ∀ j, j < n → f j = true) : (List.range n).all f = true := List.all_eq_true.2 fun x hx => h x (List.mem_range.1 hx)
theorem range_at {f : Nat → Bool} {n k : Nat} (hk : k < n) (h : f k = false) : (List.range n).all f = false := by
  cases ha : (List.range n).all f with
  | false => rfl
  | true => rw [List.all_eq_true.1 ha k (List.mem_range.2 hk)] at h; cases h
theorem lst_short {l : List Int} {n : Int} (hn : n ≤ 24) (h : (l.length : Int) = n) : shortB l = lstB l n := by
  unfold shortB lstB; rw [decide_eq_true h, decide_eq_true (show l.length ≤ 24 by omega)]

theorem isElement_c (n : Int) (w : World) : Calls Try.prog 48 #[.int .i64 n] w (okQ (win n 1 996) w) := by
  go_enter Try.func48, Try.ntmps48
  go_wp2_with (go_at_call 25; refine (within_c _ _ _ _).mono ?_; rintro e w' ⟨rfl, rfl⟩)
  go_ret
  exact ⟨rfl, rfl⟩
theorem isName_c (n : Int) (w : World) : Calls Try.prog 53 #[.int .i64 n] w (okQ (win n 0 7) w) := by
  go_enter Try.func53, Try.ntmps53
  go_wp2_with (go_at_call 25; refine (within_c _ _ _ _).mono ?_; rintro e w' ⟨rfl, rfl⟩)
  go_ret
  exact ⟨rfl, rfl⟩
theorem isNumber_c (n : Int) (w : World) : Calls Try.prog 55 #[.int .i64 n] w (okQ (win n 0 990) w) := by
  go_enter Try.func55, Try.ntmps55
  go_wp2_with (go_at_call 25; refine (within_c _ _ _ _).mono ?_; rintro e w' ⟨rfl, rfl⟩)
  go_ret
  exact ⟨rfl, rfl⟩
theorem isMix_c (n : Int) (w : World) : Calls Try.prog 27 #[.int .i64 n] w (okQ (win n 0 2) w) := by
  go_enter Try.func27, Try.ntmps27
  go_wp2_with (go_at_call 25; refine (within_c _ _ _ _).mono ?_; rintro e w' ⟨rfl, rfl⟩)
  go_ret
  exact ⟨rfl, rfl⟩
theorem l1Is_c (n : Int) (w : World) : Calls Try.prog 51 #[.int .i64 n] w (okQ (win n 1 996) w) := by
  go_enter Try.func51, Try.ntmps51
  go_wp2_with (go_at_call 41; refine (l6In_c _ _ _ _).mono ?_; rintro e w' ⟨rfl, rfl⟩)
  go_ret
  exact ⟨rfl, rfl⟩
theorem isList_c (v : Value) (xs : List Int) (w : World) (h : SlB tInt w.heap.size w v xs) : Calls Try.prog 74 #[v] w (okQ (shortB xs) w) := by
  obtain ⟨A, c, rfl, a1, a2, a3⟩ := h.form
  clear a2
  by_cases hl : 24 < xs.length
  · go_enter Try.func74, Try.ntmps74
    go_wp2
    go_ret
    exact ⟨ret_bool (by simp [shortB]; omega), rfl⟩
  · have Hs := hid (show shortB xs = numsB xs from by unfold shortB; rw [decide_eq_true (by omega)]; rfl)
    go_enter Try.func74, Try.ntmps74
    go_wp2
    go_loop [10] (fun i => ∃ k : Nat, k ≤ xs.length ∧ i = .int .i64 k ∧ numsB (xs.take k) = true) (fun i => xs.length - (intOf i).toNat)
    case atStart => exact ⟨0, by omega, rfl, rfl⟩
    case round =>
      obtain ⟨k, hk, rfl, hall⟩ := hrel
      have Hall := hid hall
      clear hall
      by_cases hlt : k < xs.length
      · obtain ⟨x, hx⟩ := get_ex hlt
        obtain ⟨b, o, rfl, _, _, hcx⟩ := h.int hx
        have Hx := hid hx
        clear hx
        cases hw : win x 0 990 with
        | true =>
          go_wp2_with (go_at_call 55; refine (isNumber_c _ _).mono ?_; rintro e w' ⟨rfl, rfl⟩)
          go_round
          case rel => exact ⟨k + 1, by omega, by go_num, by rw [take_ex Hx.out]; exact all_snoc Hall.out hw⟩
          case measure => simp [intOf]; omega
        | false =>
          go_wp2_with (go_at_call 55; refine (isNumber_c _ _).mono ?_; rintro e w' ⟨rfl, rfl⟩)
          go_ret
          exact ⟨ret_bool (by rw [Hs.out]; exact (all_at Hx.out hw).symm), rfl⟩
      · go_wp2
        go_ret
        exact ⟨ret_bool (by rw [Hs.out, ← take_all hk hlt]; exact Hall.out.symm), rfl⟩
theorem l2List_c (v : Value) (xs : List Int) (w : World) (h : SlB tInt w.heap.size w v xs) : Calls Try.prog 67 #[v] w (okQ (shortB xs) w) := by
  obtain ⟨A, c, rfl, a1, a2, a3⟩ := h.form
  clear a2
  go_enter Try.func67, Try.ntmps67
  go_wp2
  go_loop [3] (fun i => ∃ k : Nat, k ≤ xs.length ∧ i = .int .i64 k ∧ numsB (xs.take k) = true) (fun i => xs.length - (intOf i).toNat)
  case atStart => exact ⟨0, by omega, rfl, rfl⟩
  case round =>
    obtain ⟨k, hk, rfl, hall⟩ := hrel
    have Hall := hid hall
    clear hall
    by_cases hlt : k < xs.length
    · obtain ⟨x, hx⟩ := get_ex hlt
      obtain ⟨b, o, rfl, _, _, hcx⟩ := h.int hx
      have Hx := hid hx
      clear hx
      cases hw : win x 0 990 with
      | true =>
        go_wp2_with (go_at_call 41; refine (l6In_c _ _ _ _).mono ?_; rintro e w' ⟨rfl, rfl⟩)
        go_round
        case rel => exact ⟨k + 1, by omega, by go_num, by rw [take_ex Hx.out]; exact all_snoc Hall.out hw⟩
        case measure => simp [intOf]; omega
      | false =>
        have Hf := hid (show shortB xs = false from by unfold shortB; rw [show numsB xs = false from all_at Hx.out hw]; simp)
        go_wp2_with (go_at_call 41; refine (l6In_c _ _ _ _).mono ?_; rintro e w' ⟨rfl, rfl⟩)
        go_ret
        exact ⟨ret_bool Hf.out.symm, rfl⟩
    · have Ha := hid (show shortB xs = decide (xs.length ≤ 24) from by unfold shortB; rw [show numsB xs = true from by rw [← take_all hk hlt]; exact Hall.out]; simp)
      go_wp2
      go_ret
      exact ⟨ret_bool (by rw [Ha.out]; simp; try omega), rfl⟩
theorem listOf_c (v : Value) (xs : List Int) (n : Int) (w : World) (h : SlB tInt w.heap.size w v xs) (hn : n ≤ 24) : Calls Try.prog 54 #[v, .int .i64 n] w (okQ (lstB xs n) w) := by
  obtain ⟨A, c, rfl, a1, a2, a3⟩ := h.form
  clear a2
  by_cases hl : (xs.length : Int) = n
  · have hl2 : ((xs.length : Int) == n) = true := by simp [hl]
    have Hs := hid (lst_short hn hl)
    clear hl
    go_enter Try.func54, Try.ntmps54
    go_wp2_with (go_at_call 74; refine (isList_c _ _ _ h).mono ?_; rintro e w' ⟨rfl, rfl⟩)
    go_ret
    exact ⟨ret_bool Hs.out, rfl⟩
  · have hl2 : ((xs.length : Int) == n) = false := by simp [hl]
    have Hs := hid (show lstB xs n = false from by unfold lstB; rw [decide_eq_false hl]; rfl)
    clear hl
    go_enter Try.func54, Try.ntmps54
    go_wp2
    go_ret
    exact ⟨ret_bool Hs.out.symm, rfl⟩
theorem listOf9_c (v : Value) (xs : List Int) (w : World) (h : SlB tInt w.heap.size w v xs) : Calls Try.prog 54 #[v, .int .i64 9] w (okQ (lstB xs 9) w) := listOf_c v xs 9 w h (by decide)
theorem listOf6_c (v : Value) (xs : List Int) (w : World) (h : SlB tInt w.heap.size w v xs) : Calls Try.prog 54 #[v, .int .i64 6] w (okQ (lstB xs 6) w) := listOf_c v xs 6 w h (by decide)
theorem l1Has_c (v : Value) (xs : List Int) (n : Int) (w : World) (h : SlB tInt w.heap.size w v xs) : Calls Try.prog 65 #[v, .int .i64 n] w (okQ (decide (n ∈ xs)) w) := by
  obtain ⟨A, c, rfl, a1, a2, a3⟩ := h.form
  clear a2
  go_enter Try.func65, Try.ntmps65
  go_wp2
  go_loop [5] (fun i => ∃ k : Nat, k ≤ xs.length ∧ i = .int .i64 k ∧ n ∉ xs.take k) (fun i => xs.length - (intOf i).toNat)
  case atStart => exact ⟨0, by omega, rfl, by simp⟩
  case round =>
    obtain ⟨k, hk, rfl, hall⟩ := hrel
    have Hall := hid hall
    clear hall
    by_cases hlt : k < xs.length
    · obtain ⟨x, hx⟩ := get_ex hlt
      obtain ⟨b, o, rfl, _, _, hcx⟩ := h.int hx
      have Hx := hid hx
      clear hx
      go_wp2
      · have hxy : (x == n) = true := by assumption
        go_ret
        exact ⟨ret_bool (decide_eq_true (by rw [← show x = n from by simpa using hxy]; exact List.mem_of_getElem? Hx.out)).symm, rfl⟩
      · have hxy : (x == n) = false := by assumption
        go_round
        case rel => exact ⟨k + 1, by omega, by go_num, by rw [take_ex Hx.out]; simp; exact ⟨Hall.out, fun h => by simp [h] at hxy⟩⟩
        case measure => simp [intOf]; omega
    · go_wp2
      go_ret
      exact ⟨ret_bool (decide_eq_false (by rw [← take_all hk hlt]; exact Hall.out)).symm, rfl⟩
theorem Index_c (v : Value) (xs : List Int) (n : Int) (w : World) (h : SlB tInt w.heap.size w v xs) : Calls Try.prog 84 #[v, .int .i64 n] w fun e w' => ∃ k : Int, e = .returned (.int .i64 k) ∧ decide (0 ≤ k) = decide (n ∈ xs) ∧ w = w' := by
  obtain ⟨A, c, rfl, a1, a2, a3⟩ := h.form
  clear a2
  go_enter Try.func84, Try.ntmps84
  go_wp2
  go_loop [8] (fun i => ∃ k : Nat, k ≤ xs.length ∧ i = .int .i64 k ∧ n ∉ xs.take k) (fun i => xs.length - (intOf i).toNat)
  case atStart => exact ⟨0, by omega, rfl, by simp⟩
  case round =>
    obtain ⟨k, hk, rfl, hall⟩ := hrel
    have Hall := hid hall
    clear hall
    by_cases hlt : k < xs.length
    · obtain ⟨x, hx⟩ := get_ex hlt
      obtain ⟨b, o, rfl, _, _, hcx⟩ := h.int hx
      have Hx := hid hx
      clear hx
      by_cases hxn : n = x
      · subst hxn
        go_wp2
        go_ret
        exact ⟨k, rfl, ⟨fun _ => List.mem_of_getElem? Hx.out, fun _ => by omega⟩, rfl⟩
      · have hxy : (n == x) = false := by simp [hxn]
        have Hxn := hid hxn
        clear hxn
        go_wp2
        go_round
        case rel => exact ⟨k + 1, by omega, by go_num, by rw [take_ex Hx.out]; simp; exact ⟨Hall.out, Hxn.out⟩⟩
        case measure => simp [intOf]; omega
    · go_wp2
      go_ret
      exact ⟨-1, rfl, ⟨fun h => by omega, fun h => absurd h (by rw [← take_all hk hlt]; exact Hall.out)⟩, rfl⟩
theorem Contains_c (v : Value) (xs : List Int) (n : Int) (w : World) (h : SlB tInt w.heap.size w v xs) : Calls Try.prog 72 #[v, .int .i64 n] w (okQ (decide (n ∈ xs)) w) := by
  go_enter Try.func72, Try.ntmps72
  go_wp2_with (go_at_call 84; refine (Index_c _ _ _ _ h).mono ?_; rintro e w' ⟨k, rfl, hk, rfl⟩)
  go_ret
  exact ⟨rfl, rfl⟩
theorem pkB_spec (p : Pk) : pkB p = (win p.el 1 996 && (shortB p.hd && (((p.hd.length : Int) == 9) && (win p.tag 0 990 && (shortB p.bd && ((p.bd.length : Int) == 6)))))) := by
  have key : ∀ (l : List Int) (n : Int), n ≤ 24 → lstB l n = (shortB l && ((l.length : Int) == n)) := by
    intro l n hn
    by_cases h : (l.length : Int) = n
    · rw [← lst_short hn h, show ((l.length : Int) == n) = true from by simp [h]]; simp
    · rw [show ((l.length : Int) == n) = false from by simp [h], show lstB l n = false from by unfold lstB; rw [decide_eq_false h]; rfl]; simp
  unfold pkB
  rw [key p.hd 9 (by decide), key p.bd 6 (by decide)]
  cases win p.el 1 996 <;> cases shortB p.hd <;> cases ((p.hd.length : Int) == 9) <;> cases win p.tag 0 990 <;> cases shortB p.bd <;> cases ((p.bd.length : Int) == 6) <;> rfl
theorem implPk_c (p : Pk) (vh vb : Value) (w : World) (h1 : SlB tInt w.heap.size w vh p.hd) (h2 : SlB tInt w.heap.size w vb p.bd) : Calls Try.prog 28 #[.agg #[.int .i64 p.el, vh, .int .i64 p.tag, vb]] w (ok (pkB p) w.heap.size w) := by
  have H1 := hid (fun (wx : World) (hb : Below w.heap.size w wx) => (h1.below hb (Nat.le_refl _)).mono hb.size)
  have H2 := hid (fun (wx : World) (hb : Below w.heap.size w wx) => (h2.below hb (Nat.le_refl _)).mono hb.size)
  clear h1 h2
  cases g1 : win p.el 1 996 with
  | false =>
    go_enter Try.func28, Try.ntmps28
    go_wp2_with (first | (go_at_call 48; refine (isElement_c _ _).mono ?_; rintro e w' ⟨rfl, rfl⟩) | (go_at_call 55; refine (isNumber_c _ _).mono ?_; rintro e w' ⟨rfl, rfl⟩) | (go_at_call 54; with_reducible refine (listOf9_c vh p.hd _ ?_).mono ?_; (refine H1.out _ ?_; (repeat (first | exact Below.refl _ _ | refine Below.alloc ?_ (by simp <;> omega) _))); rintro e w' ⟨rfl, rfl⟩) | (go_at_call 54; with_reducible refine (listOf6_c vb p.bd _ ?_).mono ?_; (refine H2.out _ ?_; (repeat (first | exact Below.refl _ _ | refine Below.alloc ?_ (by simp <;> omega) _))); rintro e w' ⟨rfl, rfl⟩))
    go_ret
    exact ⟨ret_bool (by rw [pkB, g1]; rfl), by (repeat (first | exact Below.refl _ _ | refine Below.alloc ?_ (by simp <;> omega) _))⟩
  | true =>
  cases g2 : lstB p.hd 9 with
  | false =>
    go_enter Try.func28, Try.ntmps28
    go_wp2_with (first | (go_at_call 48; refine (isElement_c _ _).mono ?_; rintro e w' ⟨rfl, rfl⟩) | (go_at_call 55; refine (isNumber_c _ _).mono ?_; rintro e w' ⟨rfl, rfl⟩) | (go_at_call 54; with_reducible refine (listOf9_c vh p.hd _ ?_).mono ?_; (refine H1.out _ ?_; (repeat (first | exact Below.refl _ _ | refine Below.alloc ?_ (by simp <;> omega) _))); rintro e w' ⟨rfl, rfl⟩) | (go_at_call 54; with_reducible refine (listOf6_c vb p.bd _ ?_).mono ?_; (refine H2.out _ ?_; (repeat (first | exact Below.refl _ _ | refine Below.alloc ?_ (by simp <;> omega) _))); rintro e w' ⟨rfl, rfl⟩))
    go_ret
    exact ⟨ret_bool (by rw [pkB, g1, g2]; rfl), by (repeat (first | exact Below.refl _ _ | refine Below.alloc ?_ (by simp <;> omega) _))⟩
  | true =>
  cases g3 : lstB p.bd 6 with
  | false =>
    go_enter Try.func28, Try.ntmps28
    go_wp2_with (first | (go_at_call 48; refine (isElement_c _ _).mono ?_; rintro e w' ⟨rfl, rfl⟩) | (go_at_call 55; refine (isNumber_c _ _).mono ?_; rintro e w' ⟨rfl, rfl⟩) | (go_at_call 54; with_reducible refine (listOf9_c vh p.hd _ ?_).mono ?_; (refine H1.out _ ?_; (repeat (first | exact Below.refl _ _ | refine Below.alloc ?_ (by simp <;> omega) _))); rintro e w' ⟨rfl, rfl⟩) | (go_at_call 54; with_reducible refine (listOf6_c vb p.bd _ ?_).mono ?_; (refine H2.out _ ?_; (repeat (first | exact Below.refl _ _ | refine Below.alloc ?_ (by simp <;> omega) _))); rintro e w' ⟨rfl, rfl⟩))
    go_ret
    exact ⟨ret_bool (by rw [pkB, g1, g2, g3]; rfl), by (repeat (first | exact Below.refl _ _ | refine Below.alloc ?_ (by simp <;> omega) _))⟩
  | true =>
  cases g4 : win p.tag 0 990 with
  | false =>
    go_enter Try.func28, Try.ntmps28
    go_wp2_with (first | (go_at_call 48; refine (isElement_c _ _).mono ?_; rintro e w' ⟨rfl, rfl⟩) | (go_at_call 55; refine (isNumber_c _ _).mono ?_; rintro e w' ⟨rfl, rfl⟩) | (go_at_call 54; with_reducible refine (listOf9_c vh p.hd _ ?_).mono ?_; (refine H1.out _ ?_; (repeat (first | exact Below.refl _ _ | refine Below.alloc ?_ (by simp <;> omega) _))); rintro e w' ⟨rfl, rfl⟩) | (go_at_call 54; with_reducible refine (listOf6_c vb p.bd _ ?_).mono ?_; (refine H2.out _ ?_; (repeat (first | exact Below.refl _ _ | refine Below.alloc ?_ (by simp <;> omega) _))); rintro e w' ⟨rfl, rfl⟩))
    go_ret
    exact ⟨ret_bool (by rw [pkB, g1, g2, g3, g4]; rfl), by (repeat (first | exact Below.refl _ _ | refine Below.alloc ?_ (by simp <;> omega) _))⟩
  | true =>
  · go_enter Try.func28, Try.ntmps28
    go_wp2_with (first | (go_at_call 48; refine (isElement_c _ _).mono ?_; rintro e w' ⟨rfl, rfl⟩) | (go_at_call 55; refine (isNumber_c _ _).mono ?_; rintro e w' ⟨rfl, rfl⟩) | (go_at_call 54; with_reducible refine (listOf9_c vh p.hd _ ?_).mono ?_; (refine H1.out _ ?_; (repeat (first | exact Below.refl _ _ | refine Below.alloc ?_ (by simp <;> omega) _))); rintro e w' ⟨rfl, rfl⟩) | (go_at_call 54; with_reducible refine (listOf6_c vb p.bd _ ?_).mono ?_; (refine H2.out _ ?_; (repeat (first | exact Below.refl _ _ | refine Below.alloc ?_ (by simp <;> omega) _))); rintro e w' ⟨rfl, rfl⟩))
    go_ret
    exact ⟨ret_bool (by rw [pkB, g1, g2, g3, g4]; rfl), by (repeat (first | exact Below.refl _ _ | refine Below.alloc ?_ (by simp <;> omega) _))⟩
theorem specPk_c (p : Pk) (vh vb : Value) (w : World) (h1 : SlB tInt w.heap.size w vh p.hd) (h2 : SlB tInt w.heap.size w vb p.bd) : Calls Try.prog 44 #[.agg #[.int .i64 p.el, vh, .int .i64 p.tag, vb]] w (ok (pkB p) w.heap.size w) := by
  obtain ⟨A1, c1, rfl, _, _, b1⟩ := h1.form
  obtain ⟨A2, c2, rfl, _, _, b2⟩ := h2.form
  have H1 := hid (fun (wx : World) (hb : Below w.heap.size w wx) => (h1.below hb (Nat.le_refl _)).mono hb.size)
  have H2 := hid (fun (wx : World) (hb : Below w.heap.size w wx) => (h2.below hb (Nat.le_refl _)).mono hb.size)
  clear h1 h2
  cases g1 : win p.el 1 996 with
  | false =>
    go_enter Try.func44, Try.ntmps44
    go_wp2_with (first | (go_at_call 41; refine (l6In_c _ _ _ _).mono ?_; rintro e w' ⟨rfl, rfl⟩) | (go_at_call 51; refine (l1Is_c _ _).mono ?_; rintro e w' ⟨rfl, rfl⟩) | (go_at_call 67; with_reducible refine (l2List_c (.slice A1 p.hd.length c1) p.hd _ ?_).mono ?_; (refine H1.out _ ?_; (repeat (first | exact Below.refl _ _ | refine Below.alloc ?_ (by simp <;> omega) _))); rintro e w' ⟨rfl, rfl⟩) | (go_at_call 67; with_reducible refine (l2List_c (.slice A2 p.bd.length c2) p.bd _ ?_).mono ?_; (refine H2.out _ ?_; (repeat (first | exact Below.refl _ _ | refine Below.alloc ?_ (by simp <;> omega) _))); rintro e w' ⟨rfl, rfl⟩))
    go_ret
    exact ⟨ret_bool (by rw [pkB_spec, g1]; rfl), by (repeat (first | exact Below.refl _ _ | refine Below.alloc ?_ (by simp <;> omega) _))⟩
  | true =>
  cases g2 : shortB p.hd with
  | false =>
    go_enter Try.func44, Try.ntmps44
    go_wp2_with (first | (go_at_call 41; refine (l6In_c _ _ _ _).mono ?_; rintro e w' ⟨rfl, rfl⟩) | (go_at_call 51; refine (l1Is_c _ _).mono ?_; rintro e w' ⟨rfl, rfl⟩) | (go_at_call 67; with_reducible refine (l2List_c (.slice A1 p.hd.length c1) p.hd _ ?_).mono ?_; (refine H1.out _ ?_; (repeat (first | exact Below.refl _ _ | refine Below.alloc ?_ (by simp <;> omega) _))); rintro e w' ⟨rfl, rfl⟩) | (go_at_call 67; with_reducible refine (l2List_c (.slice A2 p.bd.length c2) p.bd _ ?_).mono ?_; (refine H2.out _ ?_; (repeat (first | exact Below.refl _ _ | refine Below.alloc ?_ (by simp <;> omega) _))); rintro e w' ⟨rfl, rfl⟩))
    go_ret
    exact ⟨ret_bool (by rw [pkB_spec, g1, g2]; rfl), by (repeat (first | exact Below.refl _ _ | refine Below.alloc ?_ (by simp <;> omega) _))⟩
  | true =>
  cases g3 : ((p.hd.length : Int) == 9) with
  | false =>
    go_enter Try.func44, Try.ntmps44
    go_wp2_with (first | (go_at_call 41; refine (l6In_c _ _ _ _).mono ?_; rintro e w' ⟨rfl, rfl⟩) | (go_at_call 51; refine (l1Is_c _ _).mono ?_; rintro e w' ⟨rfl, rfl⟩) | (go_at_call 67; with_reducible refine (l2List_c (.slice A1 p.hd.length c1) p.hd _ ?_).mono ?_; (refine H1.out _ ?_; (repeat (first | exact Below.refl _ _ | refine Below.alloc ?_ (by simp <;> omega) _))); rintro e w' ⟨rfl, rfl⟩) | (go_at_call 67; with_reducible refine (l2List_c (.slice A2 p.bd.length c2) p.bd _ ?_).mono ?_; (refine H2.out _ ?_; (repeat (first | exact Below.refl _ _ | refine Below.alloc ?_ (by simp <;> omega) _))); rintro e w' ⟨rfl, rfl⟩))
    go_ret
    exact ⟨ret_bool (by rw [pkB_spec, g1, g2, g3]; rfl), by (repeat (first | exact Below.refl _ _ | refine Below.alloc ?_ (by simp <;> omega) _))⟩
  | true =>
  cases g4 : win p.tag 0 990 with
  | false =>
    go_enter Try.func44, Try.ntmps44
    go_wp2_with (first | (go_at_call 41; refine (l6In_c _ _ _ _).mono ?_; rintro e w' ⟨rfl, rfl⟩) | (go_at_call 51; refine (l1Is_c _ _).mono ?_; rintro e w' ⟨rfl, rfl⟩) | (go_at_call 67; with_reducible refine (l2List_c (.slice A1 p.hd.length c1) p.hd _ ?_).mono ?_; (refine H1.out _ ?_; (repeat (first | exact Below.refl _ _ | refine Below.alloc ?_ (by simp <;> omega) _))); rintro e w' ⟨rfl, rfl⟩) | (go_at_call 67; with_reducible refine (l2List_c (.slice A2 p.bd.length c2) p.bd _ ?_).mono ?_; (refine H2.out _ ?_; (repeat (first | exact Below.refl _ _ | refine Below.alloc ?_ (by simp <;> omega) _))); rintro e w' ⟨rfl, rfl⟩))
    go_ret
    exact ⟨ret_bool (by rw [pkB_spec, g1, g2, g3, g4]; rfl), by (repeat (first | exact Below.refl _ _ | refine Below.alloc ?_ (by simp <;> omega) _))⟩
  | true =>
  cases g5 : shortB p.bd with
  | false =>
    go_enter Try.func44, Try.ntmps44
    go_wp2_with (first | (go_at_call 41; refine (l6In_c _ _ _ _).mono ?_; rintro e w' ⟨rfl, rfl⟩) | (go_at_call 51; refine (l1Is_c _ _).mono ?_; rintro e w' ⟨rfl, rfl⟩) | (go_at_call 67; with_reducible refine (l2List_c (.slice A1 p.hd.length c1) p.hd _ ?_).mono ?_; (refine H1.out _ ?_; (repeat (first | exact Below.refl _ _ | refine Below.alloc ?_ (by simp <;> omega) _))); rintro e w' ⟨rfl, rfl⟩) | (go_at_call 67; with_reducible refine (l2List_c (.slice A2 p.bd.length c2) p.bd _ ?_).mono ?_; (refine H2.out _ ?_; (repeat (first | exact Below.refl _ _ | refine Below.alloc ?_ (by simp <;> omega) _))); rintro e w' ⟨rfl, rfl⟩))
    go_ret
    exact ⟨ret_bool (by rw [pkB_spec, g1, g2, g3, g4, g5]; rfl), by (repeat (first | exact Below.refl _ _ | refine Below.alloc ?_ (by simp <;> omega) _))⟩
  | true =>
  cases g6 : ((p.bd.length : Int) == 6) with
  | false =>
    go_enter Try.func44, Try.ntmps44
    go_wp2_with (first | (go_at_call 41; refine (l6In_c _ _ _ _).mono ?_; rintro e w' ⟨rfl, rfl⟩) | (go_at_call 51; refine (l1Is_c _ _).mono ?_; rintro e w' ⟨rfl, rfl⟩) | (go_at_call 67; with_reducible refine (l2List_c (.slice A1 p.hd.length c1) p.hd _ ?_).mono ?_; (refine H1.out _ ?_; (repeat (first | exact Below.refl _ _ | refine Below.alloc ?_ (by simp <;> omega) _))); rintro e w' ⟨rfl, rfl⟩) | (go_at_call 67; with_reducible refine (l2List_c (.slice A2 p.bd.length c2) p.bd _ ?_).mono ?_; (refine H2.out _ ?_; (repeat (first | exact Below.refl _ _ | refine Below.alloc ?_ (by simp <;> omega) _))); rintro e w' ⟨rfl, rfl⟩))
    go_ret
    exact ⟨ret_bool (by rw [pkB_spec, g1, g2, g3, g4, g5, g6]; rfl), by (repeat (first | exact Below.refl _ _ | refine Below.alloc ?_ (by simp <;> omega) _))⟩
  | true =>
  · go_enter Try.func44, Try.ntmps44
    go_wp2_with (first | (go_at_call 41; refine (l6In_c _ _ _ _).mono ?_; rintro e w' ⟨rfl, rfl⟩) | (go_at_call 51; refine (l1Is_c _ _).mono ?_; rintro e w' ⟨rfl, rfl⟩) | (go_at_call 67; with_reducible refine (l2List_c (.slice A1 p.hd.length c1) p.hd _ ?_).mono ?_; (refine H1.out _ ?_; (repeat (first | exact Below.refl _ _ | refine Below.alloc ?_ (by simp <;> omega) _))); rintro e w' ⟨rfl, rfl⟩) | (go_at_call 67; with_reducible refine (l2List_c (.slice A2 p.bd.length c2) p.bd _ ?_).mono ?_; (refine H2.out _ ?_; (repeat (first | exact Below.refl _ _ | refine Below.alloc ?_ (by simp <;> omega) _))); rintro e w' ⟨rfl, rfl⟩))
    go_ret
    exact ⟨ret_bool (by rw [pkB_spec, g1, g2, g3, g4, g5, g6]; rfl), by (repeat (first | exact Below.refl _ _ | refine Below.alloc ?_ (by simp <;> omega) _))⟩
theorem plB_cells (x : Pl) : plB x = (win x.kind 0 1 && (win x.next 0 7 && pkB x.pk)) := rfl
theorem implPl_c (x : Pl) (vh vb : Value) (w : World) (h1 : SlB tInt w.heap.size w vh x.pk.hd) (h2 : SlB tInt w.heap.size w vb x.pk.bd) : Calls Try.prog 73 #[.agg #[.int .i64 x.kind, .int .i64 x.next, .int .i64 x.pk.el, vh, .int .i64 x.pk.tag, vb]] w (ok (plB x) w.heap.size w) := by
  have H1 := hid (fun (wx : World) (hb : Below w.heap.size w wx) => (h1.below hb (Nat.le_refl _)).mono hb.size)
  have H2 := hid (fun (wx : World) (hb : Below w.heap.size w wx) => (h2.below hb (Nat.le_refl _)).mono hb.size)
  clear h1 h2
  cases g1 : win x.kind 0 1 with
  | false =>
    go_enter Try.func73, Try.ntmps73
    go_wp2_with (first | (go_at_call 25; refine (within_c _ _ _ _).mono ?_; rintro e w' ⟨rfl, rfl⟩) | (go_at_call 53; refine (isName_c _ _).mono ?_; rintro e w' ⟨rfl, rfl⟩) | (go_at_call 28; refine (implPk_c x.pk vh vb _ ?_ ?_).mono ?_; (refine H1.out _ ?_; (repeat (first | exact Below.refl _ _ | refine Below.alloc ?_ (by simp <;> omega) _))); (refine H2.out _ ?_; (repeat (first | exact Below.refl _ _ | refine Below.alloc ?_ (by simp <;> omega) _))); rintro e w' ⟨rfl, hb⟩))
    go_ret
    exact ⟨ret_bool (by rw [plB, g1]; rfl), by (repeat (first | exact Below.refl _ _ | refine Below.alloc ?_ (by simp <;> omega) _))⟩
  | true =>
  cases g2 : win x.next 0 7 with
  | false =>
    go_enter Try.func73, Try.ntmps73
    go_wp2_with (first | (go_at_call 25; refine (within_c _ _ _ _).mono ?_; rintro e w' ⟨rfl, rfl⟩) | (go_at_call 53; refine (isName_c _ _).mono ?_; rintro e w' ⟨rfl, rfl⟩) | (go_at_call 28; refine (implPk_c x.pk vh vb _ ?_ ?_).mono ?_; (refine H1.out _ ?_; (repeat (first | exact Below.refl _ _ | refine Below.alloc ?_ (by simp <;> omega) _))); (refine H2.out _ ?_; (repeat (first | exact Below.refl _ _ | refine Below.alloc ?_ (by simp <;> omega) _))); rintro e w' ⟨rfl, hb⟩))
    go_ret
    exact ⟨ret_bool (by rw [plB, g1, g2]; rfl), by (repeat (first | exact Below.refl _ _ | refine Below.alloc ?_ (by simp <;> omega) _))⟩
  | true =>
  cases g3 : pkB x.pk with
  | false =>
    go_enter Try.func73, Try.ntmps73
    go_wp2_with (first | (go_at_call 25; refine (within_c _ _ _ _).mono ?_; rintro e w' ⟨rfl, rfl⟩) | (go_at_call 53; refine (isName_c _ _).mono ?_; rintro e w' ⟨rfl, rfl⟩) | (go_at_call 28; refine (implPk_c x.pk vh vb _ ?_ ?_).mono ?_; (refine H1.out _ ?_; (repeat (first | exact Below.refl _ _ | refine Below.alloc ?_ (by simp <;> omega) _))); (refine H2.out _ ?_; (repeat (first | exact Below.refl _ _ | refine Below.alloc ?_ (by simp <;> omega) _))); rintro e w' ⟨rfl, hb⟩))
    go_ret
    exact ⟨ret_bool (by rw [plB, g1, g2, g3]; rfl), by (repeat (first | exact hb | exact Below.refl _ _ | refine Below.trans ?_ (Below.mono hb ?_) | refine Below.alloc ?_ (by simp <;> omega) _ | (simp; done) | (simp; omega)))⟩
  | true =>
  · go_enter Try.func73, Try.ntmps73
    go_wp2_with (first | (go_at_call 25; refine (within_c _ _ _ _).mono ?_; rintro e w' ⟨rfl, rfl⟩) | (go_at_call 53; refine (isName_c _ _).mono ?_; rintro e w' ⟨rfl, rfl⟩) | (go_at_call 28; refine (implPk_c x.pk vh vb _ ?_ ?_).mono ?_; (refine H1.out _ ?_; (repeat (first | exact Below.refl _ _ | refine Below.alloc ?_ (by simp <;> omega) _))); (refine H2.out _ ?_; (repeat (first | exact Below.refl _ _ | refine Below.alloc ?_ (by simp <;> omega) _))); rintro e w' ⟨rfl, hb⟩))
    go_ret
    exact ⟨ret_bool (by rw [plB, g1, g2, g3]; rfl), by (repeat (first | exact hb | exact Below.refl _ _ | refine Below.trans ?_ (Below.mono hb ?_) | refine Below.alloc ?_ (by simp <;> omega) _ | (simp; done) | (simp; omega)))⟩
theorem specPl_c (x : Pl) (vh vb : Value) (w : World) (h1 : SlB tInt w.heap.size w vh x.pk.hd) (h2 : SlB tInt w.heap.size w vb x.pk.bd) : Calls Try.prog 66 #[.agg #[.int .i64 x.kind, .int .i64 x.next, .int .i64 x.pk.el, vh, .int .i64 x.pk.tag, vb]] w (ok (plB x) w.heap.size w) := by
  have H1 := hid (fun (wx : World) (hb : Below w.heap.size w wx) => (h1.below hb (Nat.le_refl _)).mono hb.size)
  have H2 := hid (fun (wx : World) (hb : Below w.heap.size w wx) => (h2.below hb (Nat.le_refl _)).mono hb.size)
  clear h1 h2
  cases g1 : win x.kind 0 1 with
  | false =>
    go_enter Try.func66, Try.ntmps66
    go_wp2_with (first | (go_at_call 41; refine (l6In_c _ _ _ _).mono ?_; rintro e w' ⟨rfl, rfl⟩) | (go_at_call 44; refine (specPk_c x.pk vh vb _ ?_ ?_).mono ?_; (refine H1.out _ ?_; (repeat (first | exact Below.refl _ _ | refine Below.alloc ?_ (by simp <;> omega) _))); (refine H2.out _ ?_; (repeat (first | exact Below.refl _ _ | refine Below.alloc ?_ (by simp <;> omega) _))); rintro e w' ⟨rfl, hb⟩))
    go_ret
    exact ⟨ret_bool (by rw [plB, g1]; rfl), by (repeat (first | exact Below.refl _ _ | refine Below.alloc ?_ (by simp <;> omega) _))⟩
  | true =>
  cases g2 : win x.next 0 7 with
  | false =>
    go_enter Try.func66, Try.ntmps66
    go_wp2_with (first | (go_at_call 41; refine (l6In_c _ _ _ _).mono ?_; rintro e w' ⟨rfl, rfl⟩) | (go_at_call 44; refine (specPk_c x.pk vh vb _ ?_ ?_).mono ?_; (refine H1.out _ ?_; (repeat (first | exact Below.refl _ _ | refine Below.alloc ?_ (by simp <;> omega) _))); (refine H2.out _ ?_; (repeat (first | exact Below.refl _ _ | refine Below.alloc ?_ (by simp <;> omega) _))); rintro e w' ⟨rfl, hb⟩))
    go_ret
    exact ⟨ret_bool (by rw [plB, g1, g2]; rfl), by (repeat (first | exact Below.refl _ _ | refine Below.alloc ?_ (by simp <;> omega) _))⟩
  | true =>
  cases g3 : pkB x.pk with
  | false =>
    go_enter Try.func66, Try.ntmps66
    go_wp2_with (first | (go_at_call 41; refine (l6In_c _ _ _ _).mono ?_; rintro e w' ⟨rfl, rfl⟩) | (go_at_call 44; refine (specPk_c x.pk vh vb _ ?_ ?_).mono ?_; (refine H1.out _ ?_; (repeat (first | exact Below.refl _ _ | refine Below.alloc ?_ (by simp <;> omega) _))); (refine H2.out _ ?_; (repeat (first | exact Below.refl _ _ | refine Below.alloc ?_ (by simp <;> omega) _))); rintro e w' ⟨rfl, hb⟩))
    go_ret
    exact ⟨ret_bool (by rw [plB, g1, g2, g3]; rfl), by (repeat (first | exact hb | exact Below.refl _ _ | refine Below.trans ?_ (Below.mono hb ?_) | refine Below.alloc ?_ (by simp <;> omega) _ | (simp; done) | (simp; omega)))⟩
  | true =>
  · go_enter Try.func66, Try.ntmps66
    go_wp2_with (first | (go_at_call 41; refine (l6In_c _ _ _ _).mono ?_; rintro e w' ⟨rfl, rfl⟩) | (go_at_call 44; refine (specPk_c x.pk vh vb _ ?_ ?_).mono ?_; (refine H1.out _ ?_; (repeat (first | exact Below.refl _ _ | refine Below.alloc ?_ (by simp <;> omega) _))); (refine H2.out _ ?_; (repeat (first | exact Below.refl _ _ | refine Below.alloc ?_ (by simp <;> omega) _))); rintro e w' ⟨rfl, hb⟩))
    go_ret
    exact ⟨ret_bool (by rw [plB, g1, g2, g3]; rfl), by (repeat (first | exact hb | exact Below.refl _ _ | refine Below.trans ?_ (Below.mono hb ?_) | refine Below.alloc ?_ (by simp <;> omega) _ | (simp; done) | (simp; omega)))⟩
theorem seen_at {l : List Int} {k : Nat} {x : Int} (hx : l[k]? = some x) : seenAt l k = (win x 1 996 && !decide (x ∈ l.take k)) := by
  have : l.getD k 0 = x := by simp [List.getD, hx]
  unfold seenAt; rw [this]
theorem mx_seen {m : Mx} (h : seenB m.seen = false) : mxB m = false := by unfold mxB; rw [h]; simp
theorem mx_pool {m : Mx} (h : poolB m.pool = false) : mxB m = false := by unfold mxB; rw [h]; simp
theorem mx_sec {m : Mx} (h : win m.sec 1 996 = false) : mxB m = false := by unfold mxB; rw [h]; rfl
theorem mx_long {m : Mx} (h : ¬ m.seen.length ≤ 12) : mxB m = false := by unfold mxB; rw [decide_eq_false h]; simp
theorem mx_many {m : Mx} (h : ¬ m.pool.length ≤ 5) : mxB m = false := by unfold mxB; rw [decide_eq_false h]; simp
theorem mx_all {m : Mx} (h1 : win m.sec 1 996 = true) (h2 : m.seen.length ≤ 12) (h3 : m.pool.length ≤ 5) (h4 : seenB m.seen = true) (h5 : poolB m.pool = true) : mxB m = true := by unfold mxB; rw [h1, h4, h5, decide_eq_true h2, decide_eq_true h3]; rfl
end Go.Proofs.Ytbkckjobhopicaa
