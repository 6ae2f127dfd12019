/- Walks: what a packet carries, counting cover, delays, visible times; in both texts. -/
import Derived.Test.YtbeiacoplhbmeaaCovB
namespace Go.Proofs.Ytbeiacoplhbmeaa
open Go Go.RowKit
set_option maxHeartbeats 400000

/-- what a packet carries -/
def carried (t l : Int) : Value := if l = -1 then .iface 59 (.agg #[.int .i64 t]) else .iface 66 (.agg #[.int .i64 t, .int .i64 l])
theorem content_c (t l : Int) (w : World) : Calls Try.prog 52 #[.agg #[.int .i64 t, .int .i64 l]] w fun e w' => e = .returned (carried t l) ∧ Below w.heap.size w w' := by
  by_cases hl : l = -1
  · subst hl
    go_enter Try.func52, Try.ntmps52
    go_wp2
    go_ret
    exact ⟨rfl, (Below.refl _ _).alloc (Nat.le_refl _) _⟩
  · have hB : (l == -1) = false := by simp [hl]
    have hc := hid (show carried t l = .iface 66 (.agg #[.int .i64 t, .int .i64 l]) from if_neg hl)
    clear hl
    go_enter Try.func52, Try.ntmps52
    go_wp2
    go_ret
    exact ⟨by rw [hc.out]; rfl, (Below.refl _ _).alloc (Nat.le_refl _) _⟩

theorem cover_snoc (l : List (Int × Int)) (x : Int × Int) : Cov.cover (l ++ [x]) = Cov.cover l + (if x.2 = -1 then 1 else 0) := by
  simp only [Cov.cover, List.filter_append, List.length_append]
  congr 1
  by_cases h : x.2 = -1 <;> simp [h]
theorem CoverCount_spec (v : Value) (xs : List (Int × Int)) (w : World) (h : SlB tTwo w.heap.size w v xs) :
    Calls Try.prog 30 #[v] w fun e w' => e = .returned (.int .i64 (Cov.cover xs)) ∧ Below w.heap.size w w' := by
  obtain ⟨A, c, rfl, a1, a2, a3⟩ := h.form
  clear a2
  go_enter Try.func30, Try.ntmps30
  go_wp2
  go_loopw [3, 4] (fun nv i wr => ∃ k : Nat, k ≤ xs.length ∧ i = .int .i64 k ∧ nv = .int .i64 (Cov.cover (xs.take k)) ∧ Cov.cover (xs.take k) ≤ k ∧ Below w.heap.size w wr) (fun _ i _ => xs.length - (intOf i).toNat)
  case atStart => exact ⟨0, by omega, rfl, rfl, by simp [Cov.cover], Below.refl _ _⟩
  case round =>
    obtain ⟨k, hk, rfl, rfl, hck, hb⟩ := hrel
    have hr := (h.below hb (Nat.le_refl _)).mono hb.size
    have Hb := hid hb
    clear hb
    by_cases hlt : k < xs.length
    · obtain ⟨x, hx⟩ := get_ex hlt
      obtain ⟨b, o, rfl, _, _, p1, p2⟩ := hr.two hx
      have Ht := hid (take_ex hx)
      have Hs := hid (cover_snoc (xs.take k) x)
      by_cases hl : x.2 = -1
      · have hB : (x.2 == -1) = true := by simp [hl]
        have Hl := hid hl
        clear hx hr h hl p1
        generalize Cov.cover (xs.take k) = n at *
        go_wp2
        go_roundw
        case rel => exact ⟨k + 1, by omega, by go_num, by rw [Ht.out, Hs.out, if_pos Hl.out]; go_num, by rw [Ht.out, Hs.out, if_pos Hl.out]; omega, Hb.out⟩
        case measure => simp [intOf]; omega
      · have hB : (x.2 == -1) = false := by simp [hl]
        have Hl := hid hl
        clear hx hr h hl p1
        generalize Cov.cover (xs.take k) = n at *
        go_wp2
        go_roundw
        case rel => exact ⟨k + 1, by omega, by go_num, by rw [Ht.out, Hs.out, if_neg Hl.out]; rfl, by rw [Ht.out, Hs.out, if_neg Hl.out]; omega, Hb.out⟩
        case measure => simp [intOf]; omega
    · have Ha := hid (take_all hk hlt)
      go_wp2
      go_ret
      exact ⟨ret_int (by rw [Ha.out]), Hb.out⟩

theorem content_cover (t l : Int) (hl : l = -1) (w : World) : Calls Try.prog 52 #[.agg #[.int .i64 t, .int .i64 l]] w fun e w' => e = .returned (.iface 59 (.agg #[.int .i64 t])) ∧ Below w.heap.size w w' :=
  (content_c t l w).mono fun e w' ⟨h1, h2⟩ => ⟨by rw [h1, carried, if_pos hl], h2⟩
theorem content_letter (t l : Int) (hl : ¬ l = -1) (w : World) : Calls Try.prog 52 #[.agg #[.int .i64 t, .int .i64 l]] w fun e w' => e = .returned (.iface 66 (.agg #[.int .i64 t, .int .i64 l])) ∧ Below w.heap.size w w' :=
  (content_c t l w).mono fun e w' ⟨h1, h2⟩ => ⟨by rw [h1, carried, if_neg hl], h2⟩
theorem ta_yes (t : Int) (wx : World) : (Instr.typeAssert (.iface 59 (.agg #[.int .i64 t])) 62 59 true).run Try.prog wx = .ok (.tuple #[.agg #[.int .i64 t], .bool true]) wx := by kernel_rfl
theorem ta_no (t l : Int) (wx : World) : (Instr.typeAssert (.iface 66 (.agg #[.int .i64 t, .int .i64 l])) 62 59 true).run Try.prog wx = .ok (.tuple #[.agg #[.int .i64 0], .bool false]) wx := by kernel_rfl
theorem CoverCount_impl (v : Value) (xs : List (Int × Int)) (w : World) (h : SlB tTwo w.heap.size w v xs) :
    Calls Try.prog 32 #[v] w fun e w' => e = .returned (.int .i64 (Cov.cover xs)) ∧ Below w.heap.size w w' := by
  obtain ⟨A, c, rfl, a1, a2, a3⟩ := h.form
  clear a2
  go_enter Try.func32, Try.ntmps32
  go_wp2
  go_loopw [3, 10] (fun nv i wr => ∃ k : Nat, k ≤ xs.length ∧ i = .int .i64 k ∧ nv = .int .i64 (Cov.cover (xs.take k)) ∧ Cov.cover (xs.take k) ≤ k ∧ Below w.heap.size w wr) (fun _ i _ => xs.length - (intOf i).toNat)
  case atStart => exact ⟨0, by omega, rfl, rfl, by simp [Cov.cover], Below.refl _ _⟩
  case round =>
    obtain ⟨k, hk, rfl, rfl, hck, hb⟩ := hrel
    have hr := (h.below hb (Nat.le_refl _)).mono hb.size
    have Hb := hid hb
    clear hb
    by_cases hlt : k < xs.length
    · obtain ⟨x, hx⟩ := get_ex hlt
      obtain ⟨b, o, rfl, _, _, p1, p2⟩ := hr.two hx
      have Ht := hid (take_ex hx)
      have Hs := hid (cover_snoc (xs.take k) x)
      by_cases hl : x.2 = -1
      · have Hl := hid hl
        clear hx hr h hl
        generalize Cov.cover (xs.take k) = n at *
        have ty := ta_yes x.1
        have hsz := Hb.out.size
        go_wp2_with (go_at_call 52; refine (content_cover _ _ Hl.out _).mono ?_; rintro e w5 ⟨rfl, hb5⟩)
        go_roundw
        case rel => exact ⟨k + 1, by omega, by go_num, by rw [Ht.out, Hs.out, if_pos Hl.out]; go_num, by rw [Ht.out, Hs.out, if_pos Hl.out]; omega, Hb.out.trans (by refine Below.mono (B := wr.heap.size) ?_ hsz; have hz := hb5.size; simp at hz; exact ((((Below.refl _ _).alloc (Nat.le_refl _) _).trans (hb5.mono (by simp))).alloc (by omega) _))⟩
        case measure => simp [intOf]; omega
      · have Hl := hid hl
        clear hx hr h hl
        generalize Cov.cover (xs.take k) = n at *
        have tn := ta_no x.1 x.2
        have hsz := Hb.out.size
        go_wp2_with (go_at_call 52; refine (content_letter _ _ Hl.out _).mono ?_; rintro e w5 ⟨rfl, hb5⟩)
        go_roundw
        case rel => exact ⟨k + 1, by omega, by go_num, by rw [Ht.out, Hs.out, if_neg Hl.out]; rfl, by rw [Ht.out, Hs.out, if_neg Hl.out]; omega, Hb.out.trans (by refine Below.mono (B := wr.heap.size) ?_ hsz; have hz := hb5.size; simp at hz; exact ((((Below.refl _ _).alloc (Nat.le_refl _) _).trans (hb5.mono (by simp))).alloc (by omega) _))⟩
        case measure => simp [intOf]; omega
    · have Ha := hid (take_all hk hlt)
      go_wp2
      go_ret
      exact ⟨ret_int (by rw [Ha.out]), Hb.out⟩
end Go.Proofs.Ytbeiacoplhbmeaa
