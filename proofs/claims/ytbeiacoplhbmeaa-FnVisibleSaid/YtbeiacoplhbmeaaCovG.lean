/- Walks: delays, in both texts. -/
import Derived.Test.YtbeiacoplhbmeaaCovF
namespace Go.Proofs.Ytbeiacoplhbmeaa
open Go Go.RowKit
set_option maxHeartbeats 400000

theorem drop_ex {α : Type} {xs : List α} {k : Nat} {x : α} (h : xs[k]? = some x) : xs.drop k = x :: xs.drop (k + 1) := by
  obtain ⟨hk, rfl⟩ := List.getElem?_eq_some_iff.1 h
  exact List.drop_eq_getElem_cons hk
theorem dgo_cover {r : List Int} {m t l : Int} {L : List (Int × Int)} (hl : l = -1) : Cov.dgo r m ((t, l) :: L) = Cov.dgo r m L := by simp [Cov.dgo, hl]
theorem dgo_bad {r : List Int} {m t l : Int} {L : List (Int × Int)} (hl : ¬ l = -1) (h : (win l 0 (r.length - 1) && win t 0 40 && win (r.getD l.toNat 0) 0 40) = false) : Cov.dgo r m ((t, l) :: L) = -1 := by
  rw [Cov.dgo, if_neg hl]; unfold win at h; unfold Cov.within; rw [h]; rfl
theorem dgo_good {r : List Int} {m t y : Int} {j : Nat} {L : List (Int × Int)} (hj : win j 0 (r.length - 1) = true) (ht : win t 0 40 = true) (hr : r[j]? = some y) (hy : win y 0 40 = true) : Cov.dgo r m ((t, (j : Int)) :: L) = Cov.dgo r (max m (t - y)) L := by
  rw [Cov.dgo, if_neg (by omega)]
  have e : r.getD ((j : Int).toNat) 0 = y := by simp [List.getD, hr]
  simp only [e]
  unfold win at *; unfold Cov.within; rw [hj, ht, hy]; rfl
theorem dgo_bad1 {r : List Int} {m t l : Int} {L : List (Int × Int)} (hl : ¬ l = -1) (h : win l 0 (r.length - 1) = false) : Cov.dgo r m ((t, l) :: L) = -1 := dgo_bad hl (by rw [h]; rfl)
theorem dgo_bad2 {r : List Int} {m t l : Int} {L : List (Int × Int)} (hl : ¬ l = -1) (h : win t 0 40 = false) : Cov.dgo r m ((t, l) :: L) = -1 := dgo_bad hl (by rw [h]; simp)
theorem dgo_bad3 {r : List Int} {m t y : Int} {j : Nat} {L : List (Int × Int)} (hr : r[j]? = some y) (h : win y 0 40 = false) : Cov.dgo r m ((t, (j : Int)) :: L) = -1 :=
  dgo_bad (by omega) (by rw [show r.getD ((j : Int).toNat) 0 = y from by simp [List.getD, hr], h]; simp)

theorem tl_no (t : Int) (wx : World) : (Instr.typeAssert (.iface 59 (.agg #[.int .i64 t])) 62 66 true).run Try.prog wx = .ok (.tuple #[.agg #[.int .i64 0, .int .i64 0], .bool false]) wx := by kernel_rfl
theorem tl_yes (t l : Int) (wx : World) : (Instr.typeAssert (.iface 66 (.agg #[.int .i64 t, .int .i64 l])) 62 66 true).run Try.prog wx = .ok (.tuple #[.agg #[.int .i64 t, .int .i64 l], .bool true]) wx := by kernel_rfl
theorem max_if {m a : Int} : Value.int .i64 (if m < a then a else m) = .int .i64 (max m a) := by congr 1; split <;> omega
theorem CoverDelay_spec (v1 v : Value) (r : List Int) (xs : List (Int × Int)) (w : World) (h1 : SlB tInt w.heap.size w v1 r) (h : SlB tTwo w.heap.size w v xs) :
    Calls Try.prog 34 #[v1, v] w fun e w' => e = .returned (.int .i64 (Cov.delay r xs)) ∧ Below w.heap.size w w' := by
  obtain ⟨A1, c1, rfl, b1, b2, b3⟩ := h1.form
  obtain ⟨A, c, rfl, a1, a2, a3⟩ := h.form
  clear a2 b2
  go_enter Try.func34, Try.ntmps34
  go_wp2
  go_loopw [5, 6] (fun mv i wr => ∃ (k : Nat) (m : Int), k ≤ xs.length ∧ i = .int .i64 k ∧ mv = .int .i64 m ∧ -1 ≤ m ∧ m ≤ 40 ∧ Cov.dgo r (-1) xs = Cov.dgo r m (xs.drop k) ∧ Below w.heap.size w wr) (fun _ i _ => xs.length - (intOf i).toNat)
  case atStart => exact ⟨0, -1, by omega, rfl, rfl, by omega, by omega, rfl, Below.refl _ _⟩
  case round =>
    obtain ⟨k, m, hk, rfl, rfl, m0, m1, hd, hb⟩ := hrel
    have hr := (h.below hb (Nat.le_refl _)).mono hb.size
    have hr1 := (h1.below hb (Nat.le_refl _)).mono hb.size
    have Hb := hid hb
    have Hd := hid hd
    clear hb hd h h1
    by_cases hlt : k < xs.length
    · obtain ⟨⟨t, l⟩, hx⟩ := get_ex hlt
      obtain ⟨b, o, rfl, _, _, p1, p2⟩ := hr.two hx
      dsimp only at p1 p2
      have Ht := hid (drop_ex hx)
      by_cases hl : l = -1
      · have hB : (l == -1) = true := by simp [hl]
        have Hl := hid hl
        clear hx hr hl p1
        go_wp2
        go_roundw
        case rel => exact ⟨k + 1, m, by omega, by go_num, rfl, m0, m1, by rw [Hd.out, Ht.out, dgo_cover Hl.out], Hb.out⟩
        case measure => simp [intOf]; omega
      · have hB : (l == -1) = false := by simp [hl]
        have Hl := hid hl
        clear hx hr
        cases hw : win l 0 (r.length - 1) with
        | false =>
          go_wp2_with (go_at_call 46; refine (l6In_c _ _ _ _).mono ?_; rintro e w' ⟨rfl, rfl⟩)
          go_ret
          exact ⟨ret_int (by rw [Cov.delay, Hd.out, Ht.out, dgo_bad1 Hl.out hw]), Hb.out⟩
        | true =>
          have hj := win_t.1 hw
          obtain ⟨j, rfl⟩ := Int.eq_ofNat_of_zero_le hj.1
          have hjr : j < r.length := by omega
          clear hj hl
          obtain ⟨y, hy⟩ := get_ex hjr
          obtain ⟨b', o', rfl, _, _, q1⟩ := hr1.int hy
          have Hw := hid hw; have Hy := hid hy
          clear hy hr1
          cases hw2 : win t 0 40 with
          | false =>
            go_wp2_with (go_at_call 46; refine (l6In_c _ _ _ _).mono ?_; rintro e w' ⟨rfl, rfl⟩)
            go_ret
            exact ⟨ret_int (by rw [Cov.delay, Hd.out, Ht.out, dgo_bad2 Hl.out hw2]), Hb.out⟩
          | true =>
            have Hw2 := hid hw2
            have ht := win_t.1 hw2
            have ht0 := ht.1; have ht1 := ht.2
            clear ht
            cases hw3 : win y 0 40 with
            | false =>
              go_wp2_with (go_at_call 46; refine (l6In_c _ _ _ _).mono ?_; rintro e w' ⟨rfl, rfl⟩)
              go_ret
              exact ⟨ret_int (by rw [Cov.delay, Hd.out, Ht.out, dgo_bad3 Hy.out hw3]), Hb.out⟩
            | true =>
              have Hw3 := hid hw3
              have hy := win_t.1 hw3
              have hy0 := hy.1; have hy1 := hy.2
              clear hy
              go_wp2_with (go_at_call 46; refine (l6In_c _ _ _ _).mono ?_; rintro e w' ⟨rfl, rfl⟩)
              go_quiet (fail)
              go_wp2
              go_roundw
              case rel => exact ⟨k + 1, max m (t - y), by omega, by go_num, max_if, by omega, by omega, by rw [Hd.out, Ht.out, dgo_good Hw.out Hw2.out Hy.out Hw3.out], below_drewN Hb.out _⟩
              case measure => simp [intOf]; omega
    · have Ha := hid (show xs.drop k = [] from List.drop_eq_nil_of_le (by omega))
      go_wp2
      go_ret
      exact ⟨ret_int (by rw [Cov.delay, Hd.out, Ha.out]; rfl), Hb.out⟩
theorem CoverDelay_impl (v1 v : Value) (r : List Int) (xs : List (Int × Int)) (w : World) (h1 : SlB tInt w.heap.size w v1 r) (h : SlB tTwo w.heap.size w v xs) :
    Calls Try.prog 36 #[v1, v] w fun e w' => e = .returned (.int .i64 (Cov.delay r xs)) ∧ Below w.heap.size w w' := by
  obtain ⟨A1, c1, rfl, b1, b2, b3⟩ := h1.form
  obtain ⟨A, c, rfl, a1, a2, a3⟩ := h.form
  clear a2 b2
  go_enter Try.func36, Try.ntmps36
  go_wp2
  go_loopw [5, 12] (fun mv i wr => ∃ (k : Nat) (m : Int), k ≤ xs.length ∧ i = .int .i64 k ∧ mv = .int .i64 m ∧ -1 ≤ m ∧ m ≤ 40 ∧ Cov.dgo r (-1) xs = Cov.dgo r m (xs.drop k) ∧ Below w.heap.size w wr) (fun _ i _ => xs.length - (intOf i).toNat)
  case atStart => exact ⟨0, -1, by omega, rfl, rfl, by omega, by omega, rfl, Below.refl _ _⟩
  case round =>
    obtain ⟨k, m, hk, rfl, rfl, m0, m1, hd, hb⟩ := hrel
    have hr := (h.below hb (Nat.le_refl _)).mono hb.size
    have hr1 := (h1.below hb (Nat.le_refl _)).mono hb.size
    have Hb := hid hb
    have Hd := hid hd
    clear hb hd h h1
    by_cases hlt : k < xs.length
    · obtain ⟨⟨t, l⟩, hx⟩ := get_ex hlt
      obtain ⟨b, o, rfl, _, _, p1, p2⟩ := hr.two hx
      dsimp only at p1 p2
      have Ht := hid (drop_ex hx)
      by_cases hl : l = -1
      · have Hl := hid hl
        clear hx hr hl
        have ty1 := tl_no t
        have ty2 := ta_yes t
        have hsz := Hb.out.size
        go_wp2_with (go_at_call 52; refine (content_cover _ _ Hl.out _).mono ?_; rintro e w5 ⟨rfl, hb5⟩; have z5 := hb5.size; simp at z5)
        go_roundw
        case rel => exact ⟨k + 1, m, by omega, by go_num, rfl, m0, m1, by rw [Hd.out, Ht.out, dgo_cover Hl.out], Hb.out.trans (((((Below.refl _ _).alloc (Nat.le_refl _) _).trans (hb5.mono (by simp))).alloc (by omega) _).mono hsz)⟩
        case measure => simp [intOf]; omega
      · have Hl := hid hl
        clear hx hr
        have ty1 := tl_yes t l
        have hsz := Hb.out.size
        cases hw : win l 0 (r.length - 1) with
        | false =>
          go_wp2_with (first | (go_at_call 52; refine (content_letter _ _ Hl.out _).mono ?_; rintro e w5 ⟨rfl, hb5⟩; have z5 := hb5.size; simp at z5) | (go_at_call 47; refine (within_c _ _ _ _).mono ?_; rintro e w' ⟨rfl, rfl⟩))
          go_ret
          exact ⟨ret_int (by rw [Cov.delay, Hd.out, Ht.out, dgo_bad1 Hl.out hw]), Hb.out.trans (((((Below.refl _ _).alloc (Nat.le_refl _) _).trans (hb5.mono (by simp))).alloc (by omega) _).mono hsz)⟩
        | true =>
          have hj := win_t.1 hw
          obtain ⟨j, rfl⟩ := Int.eq_ofNat_of_zero_le hj.1
          have hjr : j < r.length := by omega
          clear hj hl
          obtain ⟨y, hy⟩ := get_ex hjr
          obtain ⟨b', o', rfl, _, hbl, q1⟩ := hr1.int hy
          have Hq := hid (show ∀ wx, Below wr.heap.size wr wx → wx.cell? ⟨b', o' + j, none⟩ = some (.int .i64 y) from fun wx hb => (hb.cell (p := ⟨b', o' + j, none⟩) hbl).trans q1)
          have Hw := hid hw; have Hy := hid hy
          clear hy hr1 q1
          cases hw2 : win t 0 40 with
          | false =>
            go_wp2_with (first | (go_at_call 52; refine (content_letter _ _ Hl.out _).mono ?_; rintro e w5 ⟨rfl, hb5⟩; have z5 := hb5.size; simp at z5; have hbl5 : b' < w5.heap.size := (by omega); have q5 := Hq.out _ (((Below.refl _ _).alloc (Nat.le_refl _) _).trans (hb5.mono (by simp)))) | (go_at_call 47; refine (within_c _ _ _ _).mono ?_; rintro e w' ⟨rfl, rfl⟩))
            go_ret
            exact ⟨ret_int (by rw [Cov.delay, Hd.out, Ht.out, dgo_bad2 Hl.out hw2]), Hb.out.trans (((((Below.refl _ _).alloc (Nat.le_refl _) _).trans (hb5.mono (by simp))).alloc (by omega) _).mono hsz)⟩
          | true =>
            have Hw2 := hid hw2
            have ht := win_t.1 hw2
            have ht0 := ht.1; have ht1 := ht.2
            clear ht
            cases hw3 : win y 0 40 with
            | false =>
              go_wp2_with (first | (go_at_call 52; refine (content_letter _ _ Hl.out _).mono ?_; rintro e w5 ⟨rfl, hb5⟩; have z5 := hb5.size; simp at z5; have hbl5 : b' < w5.heap.size := (by omega); have q5 := Hq.out _ (((Below.refl _ _).alloc (Nat.le_refl _) _).trans (hb5.mono (by simp)))) | (go_at_call 47; refine (within_c _ _ _ _).mono ?_; rintro e w' ⟨rfl, rfl⟩))
              go_ret
              exact ⟨ret_int (by rw [Cov.delay, Hd.out, Ht.out, dgo_bad3 Hy.out hw3]), Hb.out.trans (((((Below.refl _ _).alloc (Nat.le_refl _) _).trans (hb5.mono (by simp))).alloc (by omega) _).mono hsz)⟩
            | true =>
              have Hw3 := hid hw3
              have hy := win_t.1 hw3
              have hy0 := hy.1; have hy1 := hy.2
              clear hy
              go_wp2_with (first | (go_at_call 52; refine (content_letter _ _ Hl.out _).mono ?_; rintro e w5 ⟨rfl, hb5⟩; have z5 := hb5.size; simp at z5; have hbl5 : b' < w5.heap.size := (by omega); have q5 := Hq.out _ (((Below.refl _ _).alloc (Nat.le_refl _) _).trans (hb5.mono (by simp)))) | (go_at_call 47; refine (within_c _ _ _ _).mono ?_; rintro e w' ⟨rfl, rfl⟩))
              go_quiet (fail)
              go_wp2
              go_roundw
              case rel => exact ⟨k + 1, max m (t - y), by omega, by go_num, max_if, by omega, by omega, by rw [Hd.out, Ht.out, dgo_good Hw.out Hw2.out Hy.out Hw3.out], below_drewN (Hb.out.trans (((((Below.refl _ _).alloc (Nat.le_refl _) _).trans (hb5.mono (by simp))).alloc (by omega) _).mono hsz)) _⟩
              case measure => simp [intOf]; omega
    · have Ha := hid (show xs.drop k = [] from List.drop_eq_nil_of_le (by omega))
      go_wp2
      go_ret
      exact ⟨ret_int (by rw [Cov.delay, Hd.out, Ha.out]; rfl), Hb.out⟩
end Go.Proofs.Ytbeiacoplhbmeaa
