/- Both texts' checks of runs. -/
import Derived.Test.YtbkckjobhopicaaWRun
namespace Go.Proofs.Ytbkckjobhopicaa
open Go Go.RowKit
set_option maxHeartbeats 400000
theorem wd_f1 {x : Wd} (h : mixesB x.mixes = false) : wdB x = false := by unfold wdB; rw [h]; rfl
theorem wd_f2 {x : Wd} (h : ¬ x.sent.length ≤ 12) : wdB x = false := by unfold wdB; rw [decide_eq_false h]; simp
theorem wd_f3 {x : Wd} (h : ¬ x.net.length ≤ 10) : wdB x = false := by unfold wdB; rw [decide_eq_false h]; simp
theorem wd_f4 {x : Wd} (h : ¬ x.made ≤ 999) : wdB x = false := by unfold wdB; rw [decide_eq_false h]; simp
theorem wd_f5 {x : Wd} (h : win x.lost 0 x.made = false) : wdB x = false := by unfold wdB; rw [h]; simp
theorem wd_f6 {x : Wd} (h : sentB x.sent = false) : wdB x = false := by unfold wdB; rw [h]; simp
theorem wd_f7 {x : Wd} (h : gotB x.got = false) : wdB x = false := by unfold wdB; rw [h]; simp
theorem wd_f8 {x : Wd} (h : netB x.net = false) : wdB x = false := by unfold wdB; rw [h]; simp
theorem wd_all {x : Wd} (h1 : mixesB x.mixes = true) (h2 : x.sent.length ≤ 12) (h3 : x.net.length ≤ 10) (h4 : x.made ≤ 999) (h5 : win x.lost 0 x.made = true) (h6 : sentB x.sent = true) (h7 : gotB x.got = true) (h8 : netB x.net = true) : wdB x = decide (inside x = x.made) := by
  unfold wdB; rw [h1, h5, h6, h7, h8, decide_eq_true h2, decide_eq_true h3, decide_eq_true h4]; rfl
theorem box_cell0 {w w' : World} {cs : Array Value} {e i : Nat} {v : Value} (hb : Below (w.alloc (.cells cs e)).heap.size (w.alloc (.cells cs e)) w') (h : cs[i]? = some v) : w'.cell? ⟨w.heap.size, i, none⟩ = some v :=
  (hb.cell (p := ⟨w.heap.size, i, none⟩) (by simp)).trans (rowcell w cs e i v h)
theorem six_cells {w1 : World} {n : Nat} {a b c d e f : Value} (hz : n < w1.heap.size) (k0 : w1.cell? ⟨n, 0, none⟩ = some a) (k1 : w1.cell? ⟨n, 1, none⟩ = some b) (k2 : w1.cell? ⟨n, 2, none⟩ = some c) (k3 : w1.cell? ⟨n, 3, none⟩ = some d) (k4 : w1.cell? ⟨n, 4, none⟩ = some e) (k5 : w1.cell? ⟨n, 5, none⟩ = some f)
    (wx : World) (hb : Below w1.heap.size w1 wx) : wx.cell? ⟨n, 0, none⟩ = some a ∧ wx.cell? ⟨n, 1, none⟩ = some b ∧ wx.cell? ⟨n, 2, none⟩ = some c ∧ wx.cell? ⟨n, 3, none⟩ = some d ∧ wx.cell? ⟨n, 4, none⟩ = some e ∧ wx.cell? ⟨n, 5, none⟩ = some f :=
  ⟨(hb.cell (p := ⟨n, 0, none⟩) hz).trans k0, (hb.cell (p := ⟨n, 1, none⟩) hz).trans k1, (hb.cell (p := ⟨n, 2, none⟩) hz).trans k2, (hb.cell (p := ⟨n, 3, none⟩) hz).trans k3, (hb.cell (p := ⟨n, 4, none⟩) hz).trans k4, (hb.cell (p := ⟨n, 5, none⟩) hz).trans k5⟩
theorem poolSum_snoc (l : List Mx) (m : Mx) : poolSum (l ++ [m]) = poolSum l + m.pool.length := by simp [poolSum]
theorem poolSum_le {l : List Mx} (h : ∀ m ∈ l, m.pool.length ≤ 5) : poolSum l ≤ 5 * l.length := by
  induction l with
  | nil => simp [poolSum]
  | cons m l ih =>
    have h1 := ih (fun m hm => h m (List.mem_cons_of_mem _ hm))
    have h2 := h m List.mem_cons_self
    simp only [poolSum, List.map_cons, List.sum_cons, List.length_cons] at *
    omega
theorem mixes_len {l : List Mx} (h : mixesB l = true) : l.length = 3 := by
  unfold mixesB at h; rw [Bool.and_eq_true, decide_eq_true_eq] at h; exact h.1
theorem mixes_mx {l : List Mx} (h : mixesB l = true) {k : Nat} {m : Mx} (hm : l[k]? = some m) : mxB m = true ∧ m.sec = secOf k := by
  unfold mixesB at h; rw [Bool.and_eq_true] at h
  have := List.all_eq_true.1 h.2 k (List.mem_range.2 (List.getElem?_eq_some_iff.1 hm).1)
  rw [mix_at hm, Bool.and_eq_true, decide_eq_true_eq] at this; exact this
theorem mx_pool_le {m : Mx} (h : mxB m = true) : m.pool.length ≤ 5 := by
  unfold mxB at h; simp only [Bool.and_eq_true, decide_eq_true_eq] at h; exact h.2.2.1
theorem mixes_pool {l : List Mx} (h : mixesB l = true) : ∀ m ∈ l, m.pool.length ≤ 5 := fun m hm => by
  obtain ⟨k, hk⟩ := List.mem_iff_getElem?.1 hm
  exact mx_pool_le (mixes_mx h hk).1
theorem implWd_c (x : Wd) (v : Value) (w : World) (h : WdB w.heap.size w v x) (hgl : x.got.length ≤ 1073741824) : Calls Try.prog 9 #[v] w (ok (wdB x) w.heap.size w) := by
  obtain ⟨vm, vs, vn, vg, rfl, hm, hs, hn, hg⟩ := h
  obtain ⟨A1, c1, rfl, m1, m2, m3⟩ := hm.form
  obtain ⟨A2, c2, rfl, s1, s2, s3⟩ := hs.form
  obtain ⟨A3, c3, rfl, n1, n2, n3⟩ := hn.form
  obtain ⟨A4, c4, rfl, t1, t2, t3⟩ := hg.form
  clear m2 s2 n2 t2
  go_enter Try.func9, Try.ntmps9
  go_wp2_with fail
  refine (mixesValid_c _ x.mixes _ (hm.go (lit_below _ _))).mono ?_
  rintro e w1 ⟨rfl, hb1⟩
  have hB : Below w.heap.size w w1 := bt (lit_below _ _) hb1
  have k0 := (hb1.cell (p := ⟨w.heap.size, 0, none⟩) (by simp)).trans (rowcell w _ _ 0 _ rfl)
  have k1 := (hb1.cell (p := ⟨w.heap.size, 1, none⟩) (by simp)).trans (rowcell w _ _ 1 _ rfl)
  have k2 := (hb1.cell (p := ⟨w.heap.size, 2, none⟩) (by simp)).trans (rowcell w _ _ 2 _ rfl)
  have k3 := (hb1.cell (p := ⟨w.heap.size, 3, none⟩) (by simp)).trans (rowcell w _ _ 3 _ rfl)
  have k4 := (hb1.cell (p := ⟨w.heap.size, 4, none⟩) (by simp)).trans (rowcell w _ _ 4 _ rfl)
  have k5 := (hb1.cell (p := ⟨w.heap.size, 5, none⟩) (by simp)).trans (rowcell w _ _ 5 _ rfl)
  have hz : w.heap.size < w1.heap.size := Nat.lt_of_lt_of_le (by simp) hb1.size
  have Hm := hid (hm.go hB); have Hs := hid (hs.go hB); have Hn := hid (hn.go hB); have Hg := hid (hg.go hB)
  have HB := hid hB
  have HK := hid (six_cells hz k0 k1 k2 k3 k4 k5)
  clear hm hs hn hg hB hb1
  cases g1 : mixesB x.mixes with
  | false =>
    have Hf := hid (wd_f1 g1)
    go_wp2
    go_ret
    exact ⟨ret_bool Hf.out.symm, HB.out⟩
  | true =>
  by_cases g2 : x.sent.length ≤ 12
  · by_cases g3 : x.net.length ≤ 10
    · by_cases g4 : x.made ≤ 999
      · cases g5 : win x.lost 0 x.made with
        | false =>
          have Hf := hid (wd_f5 g5)
          go_wp2_with (go_at_call 25; refine (within_c _ _ _ _).mono ?_; rintro e w' ⟨rfl, rfl⟩)
          go_ret
          exact ⟨ret_bool Hf.out.symm, HB.out⟩
        | true =>
          have l0 := (win_t.1 g5).1; have l1 := (win_t.1 g5).2
          go_wp2_with (go_at_call 25; refine (within_c _ _ _ _).mono ?_; rintro e w' ⟨rfl, rfl⟩)
          have Hml := hid (mixes_len g1)
          have Hmp := hid (mixes_pool g1)
          have HG := hid (wd_all (x := x) g1 g2 g3 g4 g5)
          clear k0 k1 k2 k3 k4 k5
          go_loopw [44] (fun i wr => ∃ k : Nat, k ≤ x.sent.length ∧ i = .int .i64 k ∧ (∀ j, j < k → sentAt x.sent j = true) ∧ Below w1.heap.size w1 wr) (fun i _ => x.sent.length - (intOf i).toNat)
          case atStart => exact ⟨0, by omega, rfl, fun j hj => absurd hj (by omega), Below.refl _ _⟩
          case round =>
            obtain ⟨k, hk, rfl, hall, hb⟩ := hrel
            have Hall := hid hall; have Hb := hid hb
            have r2 := Hs.out.go hb
            clear hall hb
            by_cases hlt : k < x.sent.length
            · obtain ⟨l, hx⟩ := get_ex hlt
              obtain ⟨b, o, rfl, _, _, q0, q1, q2⟩ := r2.lt3 hx
              have Hx := hid hx
              clear hx r2
              cases hw : ltB l with
              | false =>
                have Hf := hid (wd_f6 (range_at hlt (by rw [sent_at Hx.out, hw]; rfl)))
                go_wp2_with (go_at_call 26; refine (implLt_c l _).mono ?_; rw [hw]; rintro e w' ⟨rfl, hb5⟩; have kk := box_cell0 (i := 2) hb5 rfl)
                go_ret
                exact ⟨ret_bool Hf.out.symm, bt HB.out (bt Hb.out (bt (lit_below _ _) hb5))⟩
              | true =>
                by_cases hn : l.num = (k : Int)
                · have hnB : (l.num != (k : Int)) = false := by simp [hn]
                  have Hf := hid (show sentAt x.sent k = true from by rw [sent_at Hx.out, hw, decide_eq_true hn]; rfl)
                  clear hn
                  go_wp2_with (go_at_call 26; refine (implLt_c l _).mono ?_; rw [hw]; rintro e w' ⟨rfl, hb5⟩; have kk := box_cell0 (i := 2) hb5 rfl)
                  go_roundw
                  case rel => exact ⟨k + 1, by omega, by go_num, fun j hj => by rcases Nat.lt_or_ge j k with h | h; exact Hall.out j h; rw [show j = k from by omega]; exact Hf.out, bt Hb.out (bt (lit_below _ _) hb5)⟩
                  case measure => simp [intOf]; omega
                · have hnB : (l.num != (k : Int)) = true := by simp [hn]
                  have Hf := hid (wd_f6 (range_at hlt (by rw [sent_at Hx.out, hw, decide_eq_false hn]; rfl)))
                  clear hn
                  go_wp2_with (go_at_call 26; refine (implLt_c l _).mono ?_; rw [hw]; rintro e w' ⟨rfl, hb5⟩; have kk := box_cell0 (i := 2) hb5 rfl)
                  go_ret
                  exact ⟨ret_bool Hf.out.symm, bt HB.out (bt Hb.out (bt (lit_below _ _) hb5))⟩
            · have Hsent := hid (show sentB x.sent = true from range_all fun j hj => Hall.out j (by omega))
              obtain ⟨k0, k1, k2, k3, k4, k5⟩ := HK.out _ Hb.out
              obtain ⟨wA, rfl⟩ : ∃ wA : World, wA = wr := ⟨_, rfl⟩
              clear Hall r2
              go_wp2
              clear k0 k1 k2 k3 k4 k5
              have HB := hid (bt HB.out Hb.out)
              have HK := hid (fun (wx : World) (hb : Below wA.heap.size wA wx) => HK.out wx (bt Hb.out hb))
              have Hm := hid (Hm.out.go Hb.out); have Hn := hid (Hn.out.go Hb.out); have Hg := hid (Hg.out.go Hb.out)
              clear Hb Hs
              go_loopw [62] (fun i wr => ∃ k : Nat, k ≤ x.got.length ∧ i = .int .i64 k ∧ gotB (x.got.take k) = true ∧ Below wA.heap.size wA wr) (fun i _ => x.got.length - (intOf i).toNat)
              case atStart => exact ⟨0, by omega, rfl, rfl, Below.refl _ _⟩
              case round =>
                obtain ⟨k2, hk2, rfl, hall, hb⟩ := hrel
                have Hall := hid hall; have Hb := hid hb
                have r2 := Hg.out.go hb
                clear hall hb
                by_cases hlt2 : k2 < x.got.length
                · obtain ⟨l, hx⟩ := get_ex hlt2
                  obtain ⟨b, o, rfl, _, _, q0, q1, q2⟩ := r2.lt3 hx
                  have Hx := hid hx
                  clear hx r2
                  cases hw : ltB l with
                  | false =>
                    have Hf := hid (wd_f7 (all_at Hx.out hw))
                    go_wp2_with (go_at_call 26; refine (implLt_c l _).mono ?_; rw [hw]; rintro e w' ⟨rfl, hb5⟩)
                    go_ret
                    exact ⟨ret_bool Hf.out.symm, bt HB.out (bt Hb.out (bt (by first | exact Below.refl _ _ | exact lit_below _ _) hb5))⟩
                  | true =>
                    go_wp2_with (go_at_call 26; refine (implLt_c l _).mono ?_; rw [hw]; rintro e w' ⟨rfl, hb5⟩)
                    go_roundw
                    case rel => exact ⟨k2 + 1, by omega, by go_num, by rw [take_ex Hx.out]; exact all_snoc Hall.out hw, bt Hb.out (bt (by first | exact Below.refl _ _ | exact lit_below _ _) hb5)⟩
                    case measure => simp [intOf]; omega
                · have Hgot := hid (show gotB x.got = true from by rw [← take_all hk2 hlt2]; exact Hall.out)
                  obtain ⟨k0, k1, k2c, k3, k4, k5⟩ := HK.out _ Hb.out
                  obtain ⟨wC, rfl⟩ : ∃ wC : World, wC = wr := ⟨_, rfl⟩
                  clear Hall r2
                  go_wp2
                  clear k0 k1 k2c k3 k4 k5
                  have HB := hid (bt HB.out Hb.out)
                  have HK := hid (fun (wx : World) (hb : Below wC.heap.size wC wx) => HK.out wx (bt Hb.out hb))
                  have Hm := hid (Hm.out.go Hb.out); have Hn := hid (Hn.out.go Hb.out)
                  clear Hb Hg
                  go_loopw [83] (fun i wr => ∃ k : Nat, k ≤ x.net.length ∧ i = .int .i64 k ∧ netB (x.net.take k) = true ∧ Below wC.heap.size wC wr) (fun i _ => x.net.length - (intOf i).toNat)
                  case atStart => exact ⟨0, by omega, rfl, rfl, Below.refl _ _⟩
                  case round =>
                    obtain ⟨k3, hk3, rfl, hall, hb⟩ := hrel
                    have Hall := hid hall; have Hb := hid hb
                    have r2 := Hn.out.go hb
                    clear hall hb
                    by_cases hlt3 : k3 < x.net.length
                    · obtain ⟨y, hx⟩ := get_ex hlt3
                      obtain ⟨b, o, vh, vb, rfl, _, _, s1, s2, q0, q1, q2, q3, q4, q5⟩ := r2.tr hx
                      obtain ⟨Ah, ch, rfl, _, _, _⟩ := s1.form
                      obtain ⟨Ab, cb, rfl, _, _, _⟩ := s2.form
                      have Hx := hid hx; have S1 := hid s1; have S2 := hid s2
                      clear hx r2 s1 s2
                      cases hw1 : win y.mix 0 2 with
                      | false =>
                        have Hf := hid (wd_f8 (all_at Hx.out (show trB y = false from by rw [trB, hw1]; rfl)))
                        go_wp2_with (go_at_call 27; refine (isMix_c _ _).mono ?_; rintro e w' ⟨rfl, rfl⟩)
                        go_ret
                        exact ⟨ret_bool Hf.out.symm, bt HB.out (bt Hb.out (by first | exact Below.refl _ _ | exact lit_below _ _))⟩
                      | true =>
                        cases hw2 : pkB y.pk with
                        | false =>
                          have Hf := hid (wd_f8 (all_at Hx.out (show trB y = false from by rw [trB, hw1, hw2]; rfl)))
                          go_wp2_with (first | (go_at_call 27; refine (isMix_c _ _).mono ?_; rintro e w' ⟨rfl, rfl⟩) | (go_at_call 28; with_reducible refine (implPk_c y.pk _ _ _ ?_ ?_).mono ?_; (refine S1.out.go ?_; (repeat (first | exact Below.refl _ _ | refine below_drew1 ?_ | refine Below.alloc ?_ (by simp <;> omega) _))); (refine S2.out.go ?_; (repeat (first | exact Below.refl _ _ | refine below_drew1 ?_ | refine Below.alloc ?_ (by simp <;> omega) _))); rw [hw2]; rintro e w' ⟨rfl, hb5⟩))
                          go_ret
                          exact ⟨ret_bool Hf.out.symm, bt HB.out (bt Hb.out (bt (by first | exact Below.refl _ _ | exact lit_below _ _) hb5))⟩
                        | true =>
                          have Hf := hid (show trB y = true from by rw [trB, hw1, hw2]; rfl)
                          go_wp2_with (first | (go_at_call 27; refine (isMix_c _ _).mono ?_; rintro e w' ⟨rfl, rfl⟩) | (go_at_call 28; with_reducible refine (implPk_c y.pk _ _ _ ?_ ?_).mono ?_; (refine S1.out.go ?_; (repeat (first | exact Below.refl _ _ | refine below_drew1 ?_ | refine Below.alloc ?_ (by simp <;> omega) _))); (refine S2.out.go ?_; (repeat (first | exact Below.refl _ _ | refine below_drew1 ?_ | refine Below.alloc ?_ (by simp <;> omega) _))); rw [hw2]; rintro e w' ⟨rfl, hb5⟩))
                          go_roundw
                          case rel => exact ⟨k3 + 1, by omega, by go_num, by rw [take_ex Hx.out]; exact all_snoc Hall.out Hf.out, bt Hb.out (bt (by first | exact Below.refl _ _ | exact lit_below _ _) hb5)⟩
                          case measure => simp [intOf]; omega
                    · have Hnet := hid (show netB x.net = true from by rw [← take_all hk3 hlt3]; exact Hall.out)
                      obtain ⟨k0, k1, k2c, k3c, k4, k5⟩ := HK.out _ Hb.out
                      obtain ⟨wD, rfl⟩ : ∃ wD : World, wD = wr := ⟨_, rfl⟩
                      clear Hall r2
                      go_wp2
                      clear k0 k1 k2c k3c k4 k5
                      have HB := hid (bt HB.out Hb.out)
                      have HK := hid (fun (wx : World) (hb : Below wD.heap.size wD wx) => HK.out wx (bt Hb.out hb))
                      have Hm := hid (Hm.out.go Hb.out)
                      clear Hb Hn
                      have hps := poolSum_le Hmp.out
                      have Hps := hid hps
                      clear hps
                      go_loopw [7, 101] (fun cv i wr => ∃ k : Nat, k ≤ x.mixes.length ∧ i = .int .i64 k ∧ cv = .int .i64 ((x.net.length : Int) + x.got.length + x.lost + poolSum (x.mixes.take k)) ∧ Below wD.heap.size wD wr) (fun _ i _ => x.mixes.length - (intOf i).toNat)
                      case atStart => exact ⟨0, by omega, rfl, by simp [poolSum], Below.refl _ _⟩
                      case round =>
                        obtain ⟨k4, hk4, rfl, rfl, hb⟩ := hrel
                        have Hb := hid hb
                        have r2 := Hm.out.go hb
                        clear hb
                        have h15 : poolSum (x.mixes.take k4) ≤ 15 := by
                          have h1 := poolSum_le (l := x.mixes.take k4) (fun m hm => Hmp.out m (List.mem_of_mem_take hm))
                          have h2 : (x.mixes.take k4).length ≤ 3 := by rw [List.length_take, Hml.out]; omega
                          omega
                        by_cases hlt4 : k4 < x.mixes.length
                        · obtain ⟨y, hx⟩ := get_ex hlt4
                          obtain ⟨b, o, vs, vp, rfl, _, _, s1, s2, q0, q1, q2⟩ := r2.mx hx
                          obtain ⟨Ah, ch, rfl, _, _, _⟩ := s1.form
                          obtain ⟨Ab, cb, rfl, _, _, _⟩ := s2.form
                          have hy5 := Hmp.out y (List.mem_of_getElem? hx)
                          have Ht := hid (show poolSum (x.mixes.take (k4 + 1)) = poolSum (x.mixes.take k4) + y.pool.length from by rw [take_ex hx, poolSum_snoc])
                          clear hx r2 s1 s2
                          generalize poolSum (x.mixes.take k4) = q at *
                          go_wp2
                          go_roundw
                          case rel => exact ⟨k4 + 1, by omega, by go_num, by rw [Ht.out]; go_num, bt Hb.out (by first | exact Below.refl _ _ | exact lit_below _ _)⟩
                          case measure => simp [intOf]; omega
                        · have Hq := hid (show x.mixes.take k4 = x.mixes from take_all hk4 hlt4)
                          have hG := HG.out Hsent.out Hgot.out Hnet.out
                          have HG2 := hid hG
                          obtain ⟨k0, k1, k2c, k3c, k4c, k5⟩ := HK.out _ Hb.out
                          rw [Hq.out] at *
                          have HI := hid (show (x.net.length : Int) + x.got.length + x.lost + poolSum x.mixes = inside x from rfl)
                          clear hG r2
                          go_wp2
                          go_ret
                          exact ⟨ret_bool (by rw [HG2.out, ← HI.out]; first | rfl | (rw [Bool.eq_iff_iff]; simp)), bt HB.out Hb.out⟩
      · have Hf := hid (wd_f4 g4)
        go_wp2
        go_ret
        exact ⟨ret_bool Hf.out.symm, HB.out⟩
    · have Hf := hid (wd_f3 g3)
      go_wp2
      go_ret
      exact ⟨ret_bool Hf.out.symm, HB.out⟩
  · have Hf := hid (wd_f2 g2)
    go_wp2
    go_ret
    exact ⟨ret_bool Hf.out.symm, HB.out⟩
end Go.Proofs.Ytbkckjobhopicaa
