/- Walks over plans of cover: that a plan is valid, and the plan, in both texts. -/
import Derived.Test.YtbeiacoplhbmeaaBase
import Derived.Test.YtbeiacoplhbmeaaCovLaw
namespace Go.Proofs.Ytbeiacoplhbmeaa
open Go Go.RowKit
set_option maxHeartbeats 400000

theorem okAt_of {r : List Int} {k : Nat} {x : Int} (hx : r[k]? = some x) : Cov.okAt r k = (win x 0 40 && !(decide (0 < k) && decide (x < r.getD (k - 1) 0))) := by
  have : r.getD k 0 = x := by simp [List.getD, hx]
  unfold Cov.okAt win; rw [this]
theorem okAt_out {r : List Int} {k : Nat} {x : Int} (hx : r[k]? = some x) (h : win x 0 40 = false) : Cov.okAt r k = false := by rw [okAt_of hx, h]; rfl
theorem okAt_zero {r : List Int} {k : Nat} {x : Int} (hx : r[k]? = some x) (h0 : ¬ 0 < k) (h : win x 0 40 = true) : Cov.okAt r k = true := by rw [okAt_of hx, h, decide_eq_false h0]; rfl
theorem okAt_less {r : List Int} {k : Nat} {x y : Int} (hx : r[k]? = some x) (hy : r[k - 1]? = some y) (h0 : 0 < k) (h : x < y) : Cov.okAt r k = false := by
  rw [okAt_of hx]; simp [List.getD, hy, h0, h]
theorem okAt_good {r : List Int} {k : Nat} {x y : Int} (hx : r[k]? = some x) (hy : r[k - 1]? = some y) (hw : win x 0 40 = true) (h : ¬ x < y) : Cov.okAt r k = true := by
  rw [okAt_of hx, hw]; simp [List.getD, hy]; omega
theorem win_t {n a b : Int} : win n a b = true ↔ a ≤ n ∧ n ≤ b := by simp [win]
theorem win_f {n a b : Int} : win n a b = false ↔ ¬ (a ≤ n ∧ n ≤ b) := by simp [win]

theorem planValid_c (v : Value) (r : List Int) (p u : Int) (w : World) (h : SlB tInt w.heap.size w v r) :
    Calls Try.prog 55 #[v, .int .i64 p, .int .i64 u] w (ok (Cov.ok r p u) w.heap.size w) := by
  obtain ⟨A, c, rfl, a1, a2, a3⟩ := h.form
  clear a2
  by_cases h8 : 8 < r.length
  · have hf : Cov.ok r p u = false := by cases hh : Cov.ok r p u with | false => rfl | true => have := (Cov.ok_parts.1 hh).2.2.2; omega
    rw [hf]; clear hf
    go_enter Try.func55, Try.ntmps55
    go_wp2_with (go_at_call 47; refine (within_c _ _ _ _).mono ?_; rintro e w' ⟨rfl, rfl⟩)
    all_goals go_ret
    all_goals exact ⟨rfl, Below.refl _ _⟩
  · cases hp : win p 1 9 with
    | false =>
      have hf : Cov.ok r p u = false := by cases hh : Cov.ok r p u with | false => rfl | true => exact absurd (Cov.ok_parts.1 hh).2.1 (win_f.1 hp)
      rw [hf]; clear hf
      go_enter Try.func55, Try.ntmps55
      go_wp2_with (go_at_call 47; refine (within_c _ _ _ _).mono ?_; rintro e w' ⟨rfl, rfl⟩)
      all_goals go_ret
      all_goals exact ⟨rfl, Below.refl _ _⟩
    | true =>
      cases hu : win u 0 40 with
      | false =>
        have hf : Cov.ok r p u = false := by cases hh : Cov.ok r p u with | false => rfl | true => exact absurd (Cov.ok_parts.1 hh).2.2.1 (win_f.1 hu)
        rw [hf]; clear hf
        go_enter Try.func55, Try.ntmps55
        go_wp2_with (go_at_call 47; refine (within_c _ _ _ _).mono ?_; rintro e w' ⟨rfl, rfl⟩)
        all_goals go_ret
        all_goals exact ⟨rfl, Below.refl _ _⟩
      | true =>
        have Hp := hid (win_t.1 hp); have Hu := hid (win_t.1 hu)
        go_enter Try.func55, Try.ntmps55
        go_wp2_with (go_at_call 47; refine (within_c _ _ _ _).mono ?_; rintro e w' ⟨rfl, rfl⟩)
        go_loopw [24] (fun i wr => ∃ k : Nat, k ≤ r.length ∧ i = .int .i64 k ∧ (∀ j, j < k → Cov.okAt r j = true) ∧ Below w.heap.size w wr) (fun i _ => r.length - (intOf i).toNat)
        case atStart => exact ⟨0, by omega, rfl, fun _ h => absurd h (by omega), Below.refl _ _⟩
        case round =>
          obtain ⟨k, hk, rfl, hall, hb⟩ := hrel
          have Hall := hid hall
          have hr := (h.below hb (Nat.le_refl _)).mono hb.size
          have Hb := hid hb
          clear hall hb
          by_cases hlt : k < r.length
          · obtain ⟨x, hx⟩ := get_ex hlt
            obtain ⟨b, o, rfl, _, _, hcx⟩ := hr.int hx
            cases hw : win x 0 40 with
            | false =>
              have Hf := hid (Cov.ok_at_false (p := p) (u := u) hlt (okAt_out hx hw))
              clear hx hr h
              go_wp2_with (go_at_call 47; refine (within_c _ _ _ _).mono ?_; rintro e w' ⟨rfl, rfl⟩)
              all_goals go_ret
              all_goals exact ⟨ret_bool Hf.out.symm, Hb.out⟩
            | true =>
              by_cases hk0 : 0 < k
              · have hk0' : (0 : Int) < (k : Int) := by omega
                obtain ⟨y, hy⟩ := get_ex (xs := r) (k := k - 1) (by omega)
                obtain ⟨b', o', e', _, _, hcy⟩ := hr.int hy
                injection e' with e'; injection e' with e1 e2; subst e1 e2
                by_cases hxy : x < y
                · have Hf := hid (Cov.ok_at_false (p := p) (u := u) hlt (okAt_less hx hy hk0 hxy))
                  clear hx hy hr h
                  go_wp2_with (go_at_call 47; refine (within_c _ _ _ _).mono ?_; rintro e w' ⟨rfl, rfl⟩)
                  all_goals go_ret
                  all_goals exact ⟨ret_bool Hf.out.symm, Hb.out⟩
                · have Hf := hid (okAt_good hx hy hw hxy)
                  clear hx hy hr h
                  go_wp2_with (go_at_call 47; refine (within_c _ _ _ _).mono ?_; rintro e w' ⟨rfl, rfl⟩)
                  all_goals go_roundw
                  case rel => exact ⟨k + 1, by omega, by go_num, fun j hj => by rcases Nat.lt_or_ge j k with h | h; exact Hall.out j h; rw [show j = k from by omega]; exact Hf.out, Hb.out⟩
                  case measure => simp [intOf]; omega
              · have hk0' : ¬ (0 : Int) < (k : Int) := by omega
                have Hf := hid (okAt_zero hx hk0 hw)
                clear hx hr h
                go_wp2_with (go_at_call 47; refine (within_c _ _ _ _).mono ?_; rintro e w' ⟨rfl, rfl⟩)
                all_goals go_roundw
                case rel => exact ⟨k + 1, by omega, by go_num, fun j hj => by rw [show j = k from by omega]; exact Hf.out, Hb.out⟩
                case measure => simp [intOf]; omega
          · have Hf := hid (Cov.ok_parts.2 ⟨fun i hi => Hall.out i (by omega), Hp.out, Hu.out, by omega⟩)
            go_wp2
            go_ret
            exact ⟨ret_bool Hf.out.symm, Hb.out⟩

theorem l34Ok_c (v : Value) (r : List Int) (p u : Int) (w : World) (h : SlB tInt w.heap.size w v r) :
    Calls Try.prog 56 #[v, .int .i64 p, .int .i64 u] w (ok (Cov.ok r p u) w.heap.size w) := by
  obtain ⟨A, c, rfl, a1, a2, a3⟩ := h.form
  clear a2
  go_enter Try.func56, Try.ntmps56
  go_wp2_with fail
  go_loopw [7] (fun i wr => ∃ k : Nat, k ≤ r.length ∧ i = .int .i64 k ∧ (∀ j, j < k → Cov.okAt r j = true) ∧ Below w.heap.size w wr) (fun i _ => r.length - (intOf i).toNat)
  case atStart => exact ⟨0, by omega, rfl, fun _ h => absurd h (by omega), Below.refl _ _⟩
  case round =>
    obtain ⟨k, hk, rfl, hall, hb⟩ := hrel
    have Hall := hid hall
    have hr := (h.below hb (Nat.le_refl _)).mono hb.size
    have Hb := hid hb
    clear hall hb
    by_cases hlt : k < r.length
    · obtain ⟨x, hx⟩ := get_ex hlt
      obtain ⟨b, o, rfl, _, _, hcx⟩ := hr.int hx
      cases hw : win x 0 40 with
      | false =>
        have Hf := hid (Cov.ok_at_false (p := p) (u := u) hlt (okAt_out hx hw))
        clear hx hr h
        go_wp2
        go_quiet ((go_at_call 46; exact Calls.quiet_of_same ((l6In_c _ _ _ _).mono fun e w' ⟨h1, h2⟩ => ⟨h1, h2.symm⟩)))
        go_wp2
        all_goals go_ret
        all_goals exact ⟨ret_bool Hf.out.symm, below_drewN Hb.out _⟩
      | true =>
        by_cases hk0 : 0 < k
        · have hk0' : (0 : Int) < (k : Int) := by omega
          obtain ⟨y, hy⟩ := get_ex (xs := r) (k := k - 1) (by omega)
          obtain ⟨b', o', e', _, _, hcy⟩ := hr.int hy
          injection e' with e'; injection e' with e1 e2; subst e1 e2
          by_cases hxy : x < y
          · have Hf := hid (Cov.ok_at_false (p := p) (u := u) hlt (okAt_less hx hy hk0 hxy))
            clear hx hy hr h
            go_wp2
            go_quiet ((go_at_call 46; exact Calls.quiet_of_same ((l6In_c _ _ _ _).mono fun e w' ⟨h1, h2⟩ => ⟨h1, h2.symm⟩)))
            go_wp2
            all_goals go_ret
            all_goals exact ⟨ret_bool Hf.out.symm, below_drewN Hb.out _⟩
          · have Hf := hid (okAt_good hx hy hw hxy)
            clear hx hy hr h
            go_wp2
            go_quiet ((go_at_call 46; exact Calls.quiet_of_same ((l6In_c _ _ _ _).mono fun e w' ⟨h1, h2⟩ => ⟨h1, h2.symm⟩)))
            go_wp2
            all_goals go_roundw
            case rel => exact ⟨k + 1, by omega, by go_num, fun j hj => by rcases Nat.lt_or_ge j k with h | h; exact Hall.out j h; rw [show j = k from by omega]; exact Hf.out, below_drewN Hb.out _⟩
            case measure => simp [intOf]; omega
        · have hk0' : ¬ (0 : Int) < (k : Int) := by omega
          have Hf := hid (okAt_zero hx hk0 hw)
          clear hx hr h
          go_wp2
          go_quiet ((go_at_call 46; exact Calls.quiet_of_same ((l6In_c _ _ _ _).mono fun e w' ⟨h1, h2⟩ => ⟨h1, h2.symm⟩)))
          go_wp2
          all_goals go_roundw
          case rel => exact ⟨k + 1, by omega, by go_num, fun j hj => by rw [show j = k from by omega]; exact Hf.out, below_drewN Hb.out _⟩
          case measure => simp [intOf]; omega
    · have Hk := hid (show k = r.length from by omega)
      cases hp : win p 1 9 with
      | false =>
        have hf : Cov.ok r p u = false := by cases hh : Cov.ok r p u with | false => rfl | true => exact absurd (Cov.ok_parts.1 hh).2.1 (win_f.1 hp)
        have Hf := hid hf; clear hf
        go_wp2_with (go_at_call 46; refine (l6In_c _ _ _ _).mono ?_; rintro e w' ⟨rfl, rfl⟩)
        all_goals go_ret
        all_goals exact ⟨ret_bool Hf.out.symm, Hb.out⟩
      | true =>
        cases hu : win u 0 40 with
        | false =>
          have hf : Cov.ok r p u = false := by cases hh : Cov.ok r p u with | false => rfl | true => exact absurd (Cov.ok_parts.1 hh).2.2.1 (win_f.1 hu)
          have Hf := hid hf; clear hf
          go_wp2_with (go_at_call 46; refine (l6In_c _ _ _ _).mono ?_; rintro e w' ⟨rfl, rfl⟩)
          all_goals go_ret
          all_goals exact ⟨ret_bool Hf.out.symm, Hb.out⟩
        | true =>
          by_cases h8 : r.length ≤ 8
          · have hf : Cov.ok r p u = true := Cov.ok_parts.2 ⟨fun i hi => Hall.out i (by have := Hk.out; omega), win_t.1 hp, win_t.1 hu, h8⟩
            have Hf := hid hf; clear hf
            go_wp2_with (go_at_call 46; refine (l6In_c _ _ _ _).mono ?_; rintro e w' ⟨rfl, rfl⟩)
            all_goals go_ret
            all_goals exact ⟨ret_bool ((decide_eq_true (by omega)).trans Hf.out.symm), Hb.out⟩
          · have hf : Cov.ok r p u = false := by cases hh : Cov.ok r p u with | false => rfl | true => have := (Cov.ok_parts.1 hh).2.2.2; omega
            have Hf := hid hf; clear hf
            go_wp2_with (go_at_call 46; refine (l6In_c _ _ _ _).mono ?_; rintro e w' ⟨rfl, rfl⟩)
            all_goals go_ret
            all_goals exact ⟨ret_bool ((decide_eq_false (by omega)).trans Hf.out.symm), Hb.out⟩
end Go.Proofs.Ytbeiacoplhbmeaa
