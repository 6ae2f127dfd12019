/- The reference's check of runs. -/
import Derived.Test.YtbkckjobhopicaaWRun2
import Derived.Deep.RegionHeld3
namespace Go.Proofs.Ytbkckjobhopicaa
open Go Go.RowKit
set_option maxHeartbeats 400000
theorem mixesB_of {l : List Mx} (h : l.length = 3) (ha : ∀ j, j < l.length → mixAt l j = true) : mixesB l = true := by
  unfold mixesB; rw [decide_eq_true h, range_all ha]; rfl
theorem mixesB_no {l : List Mx} {k : Nat} (hk : k < l.length) (h : mixAt l k = false) : mixesB l = false := by
  unfold mixesB; rw [range_at hk h]; simp
theorem mixesB_len {l : List Mx} (h : ¬ l.length = 3) : mixesB l = false := by unfold mixesB; rw [decide_eq_false h]; rfl
set_option maxRecDepth 100000 in
set_option maxHeartbeats 1600000 in
theorem specWd_c (x : Wd) (v : Value) (w : World) (h : WdB w.heap.size w v x) (hgl : x.got.length ≤ 1073741824) : Calls Try.prog 15 #[v] w (ok (wdB x) w.heap.size w) := by
  obtain ⟨vm, vs, vn, vg, rfl, hm, hs, hn, hg⟩ := h
  obtain ⟨A1, c1, rfl, m1, m2, m3⟩ := hm.form
  obtain ⟨A2, c2, rfl, s1, s2, s3⟩ := hs.form
  obtain ⟨A3, c3, rfl, n1, n2, n3⟩ := hn.form
  obtain ⟨A4, c4, rfl, t1, t2, t3⟩ := hg.form
  clear m2 s2 n2 t2
  go_enter Try.func15, Try.ntmps15
  by_cases g1 : x.mixes.length = 3
  · have g1B : ((x.mixes.length : Int) != 3) = false := by simp [g1]
    have Hml := hid g1
    clear g1
    by_cases g2 : x.sent.length ≤ 12
    · by_cases g3 : x.net.length ≤ 10
      · cases g5 : win x.lost 0 x.made with
        | false =>
          have Hf := hid (wd_f5 g5)
          go_wp2_with (go_at_call 41; refine (l6In_c _ _ _ _).mono ?_; rw [g5]; rintro e w' ⟨rfl, rfl⟩)
          go_ret
          exact ⟨ret_bool Hf.out.symm, by (repeat (first | exact Below.refl _ _ | refine below_drew1 ?_ | refine Below.alloc ?_ (by simp <;> omega) _))⟩
        | true =>
          have l0 := (win_t.1 g5).1; have l1 := (win_t.1 g5).2
          by_cases g4 : x.made ≤ 999
          · go_wp2_with (go_at_call 41; refine (l6In_c _ _ _ _).mono ?_; rw [g5]; rintro e w' ⟨rfl, rfl⟩)
            have hB : Below w.heap.size w (w.alloc (Obj.cells #[Value.slice A1 x.mixes.length c1, Value.slice A2 x.sent.length c2, Value.slice A3 x.net.length c3, Value.slice A4 x.got.length c4, Value.int IntKind.i64 x.made, Value.int IntKind.i64 x.lost] 27)) := lit_below _ _
            have k0 := rowcell w #[Value.slice A1 x.mixes.length c1, Value.slice A2 x.sent.length c2, Value.slice A3 x.net.length c3, Value.slice A4 x.got.length c4, Value.int IntKind.i64 x.made, Value.int IntKind.i64 x.lost] 27 0 _ rfl
            have k1 := rowcell w #[Value.slice A1 x.mixes.length c1, Value.slice A2 x.sent.length c2, Value.slice A3 x.net.length c3, Value.slice A4 x.got.length c4, Value.int IntKind.i64 x.made, Value.int IntKind.i64 x.lost] 27 1 _ rfl
            have k2 := rowcell w #[Value.slice A1 x.mixes.length c1, Value.slice A2 x.sent.length c2, Value.slice A3 x.net.length c3, Value.slice A4 x.got.length c4, Value.int IntKind.i64 x.made, Value.int IntKind.i64 x.lost] 27 2 _ rfl
            have k3 := rowcell w #[Value.slice A1 x.mixes.length c1, Value.slice A2 x.sent.length c2, Value.slice A3 x.net.length c3, Value.slice A4 x.got.length c4, Value.int IntKind.i64 x.made, Value.int IntKind.i64 x.lost] 27 3 _ rfl
            have k4 := rowcell w #[Value.slice A1 x.mixes.length c1, Value.slice A2 x.sent.length c2, Value.slice A3 x.net.length c3, Value.slice A4 x.got.length c4, Value.int IntKind.i64 x.made, Value.int IntKind.i64 x.lost] 27 4 _ rfl
            have k5 := rowcell w #[Value.slice A1 x.mixes.length c1, Value.slice A2 x.sent.length c2, Value.slice A3 x.net.length c3, Value.slice A4 x.got.length c4, Value.int IntKind.i64 x.made, Value.int IntKind.i64 x.lost] 27 5 _ rfl
            have hz : w.heap.size < (w.alloc (Obj.cells #[Value.slice A1 x.mixes.length c1, Value.slice A2 x.sent.length c2, Value.slice A3 x.net.length c3, Value.slice A4 x.got.length c4, Value.int IntKind.i64 x.made, Value.int IntKind.i64 x.lost] 27)).heap.size := by simp
            generalize (w.alloc (Obj.cells #[Value.slice A1 x.mixes.length c1, Value.slice A2 x.sent.length c2, Value.slice A3 x.net.length c3, Value.slice A4 x.got.length c4, Value.int IntKind.i64 x.made, Value.int IntKind.i64 x.lost] 27)) = w1 at *
            have Hm := hid (hm.go hB); have Hs := hid (hs.go hB); have Hn := hid (hn.go hB); have Hg := hid (hg.go hB)
            have HB := hid hB
            have HK := hid (six_cells hz k0 k1 k2 k3 k4 k5)
            clear hm hs hn hg hB k0 k1 k2 k3 k4 k5
            go_loopw [3, 4] (fun cv i wr => ∃ k : Nat, k ≤ x.mixes.length ∧ i = .int .i64 k ∧ cv = .int .i64 ((x.net.length : Int) + x.got.length + x.lost + poolSum (x.mixes.take k)) ∧ poolSum (x.mixes.take k) ≤ 5 * k ∧ (∀ j, j < k → mixAt x.mixes j = true) ∧ Below w1.heap.size w1 wr) (fun _ i _ => x.mixes.length - (intOf i).toNat)
            case atStart => exact ⟨0, by omega, rfl, by simp [poolSum], by simp [poolSum], fun j hj => absurd hj (by omega), Below.refl _ _⟩
            case round =>
              obtain ⟨k, hk, rfl, rfl, hps, hall, hb⟩ := hrel
              have Hall := hid hall; have Hb := hid hb
              have r2 := Hm.out.go hb
              obtain ⟨k0, k1, k2, k3, k4, k5⟩ := HK.out _ hb
              have hzr := Nat.lt_of_lt_of_le hz hb.size
              have hk3 : k ≤ 3 := by rw [← Hml.out]; exact hk
              clear hall hb
              by_cases hlt : k < x.mixes.length
              · obtain ⟨y, hx⟩ := get_ex hlt
                obtain ⟨b, o, vs, vp, rfl, _, hbl, s1, s2, q0, q1, q2⟩ := r2.mx hx
                obtain ⟨Ah, ch, rfl, _, _, _⟩ := s1.form
                obtain ⟨Ab, cb, rfl, _, _, _⟩ := s2.form
                have Hx := hid hx; have S1 := hid s1; have S2 := hid s2
                have HS := hid (fun (wx : World) (hb : Below wr.heap.size wr wx) => And.intro hb (And.intro ((hb.cell (p := ⟨w.heap.size, 0, none⟩) hzr).trans k0) (And.intro ((hb.cell (p := ⟨b, o + k * 3, none⟩) hbl).trans q0) (And.intro ((hb.cell (p := ⟨b, o + k * 3 + 1, none⟩) hbl).trans q1) ((hb.cell (p := ⟨b, o + k * 3 + 2, none⟩) hbl).trans q2)))))
                have HC := hid (fun (wx : World) (hb : Below wr.heap.size wr wx) => And.intro ((hb.cell (p := ⟨w.heap.size, 0, none⟩) hzr).trans k0) ((hb.cell (p := ⟨b, o + k * 3, none⟩) hbl).trans q0))
                have HC2 := hid (fun (wx : World) (hb : Below wr.heap.size wr wx) => And.intro ((hb.cell (p := ⟨w.heap.size, 0, none⟩) hzr).trans k0) ((hb.cell (p := ⟨b, o + k * 3 + 2, none⟩) hbl).trans q2))
                have Ht := hid (show poolSum (x.mixes.take (k + 1)) = poolSum (x.mixes.take k) + y.pool.length from by rw [take_ex hx, poolSum_snoc])
                clear hx r2 s1 s2 k1 k2 k3 k4 k5
                generalize poolSum (x.mixes.take k) = q at *
                cases hw : mxB y with
                | false =>
                  have Hf := hid (wd_f1 (mixesB_no hlt (by rw [mix_at Hx.out, hw]; rfl)))
                  go_wp2
                  refine wp_region_held_drew (S := (fun w' => Below wr.heap.size wr w' ∧ w'.cell? ⟨w.heap.size, 0, none⟩ = some (.slice (some ⟨b, o, none⟩) x.mixes.length c1) ∧ w'.cell? ⟨b, o + k * 3, none⟩ = some (.int .i64 y.sec) ∧ w'.cell? ⟨b, o + k * 3 + 1, none⟩ = some (.slice Ah y.seen.length ch) ∧ w'.cell? ⟨b, o + k * 3 + 2, none⟩ = some (.slice Ab y.pool.length cb))) (by kernel_rfl) ?_ (fun hHeld => ?_)
                  · (try dsimp only); first | assumption | exact HS.out _ (bt (And.left (by assumption)) hb5) | exact HS.out _ (below_drew1 (Below.refl _ _))
                  refine wpAnyH_take (i := 0) (v := ?vvq10) rfl (by kernel_rfl) (by kernel_rfl) (by kernel_rfl) (fun _ _ _ h => h) (Or.inl ⟨by rfl, ?hyq10⟩) (by assumption) ?restq10
                  case hyq10 => ((intro w hSw); (try dsimp only at hSw); go_simp; try with_reducible rfl)
                  try simp only [List.getElem_toArray, List.getElem_cons_succ, List.getElem_cons_zero, Act.put, List.setIfInBounds_toArray, List.set_cons_zero, List.set_cons_succ]
                  refine wpAnyH_take (i := 1) (v := ?vvq11) rfl (by kernel_rfl) (by kernel_rfl) (by kernel_rfl) (fun _ _ _ h => h) (Or.inl ⟨by rfl, ?hyq11⟩) (by assumption) ?restq11
                  case hyq11 => ((intro w hSw); (try dsimp only at hSw); go_simp; try with_reducible rfl)
                  try simp only [List.getElem_toArray, List.getElem_cons_succ, List.getElem_cons_zero, Act.put, List.setIfInBounds_toArray, List.set_cons_zero, List.set_cons_succ]
                  refine wpAnyH_take (i := 2) (v := ?vvq12) rfl (by kernel_rfl) (by kernel_rfl) (by kernel_rfl) (fun _ _ _ h => h) (Or.inl ⟨by rfl, ?hyq12⟩) (by assumption) ?restq12
                  case hyq12 => ((intro w hSw); (try dsimp only at hSw); go_simp; try with_reducible rfl)
                  try simp only [List.getElem_toArray, List.getElem_cons_succ, List.getElem_cons_zero, Act.put, List.setIfInBounds_toArray, List.set_cons_zero, List.set_cons_succ]
                  refine wpAnyH_take (i := 3) (v := ?vvq13) rfl (by kernel_rfl) (by kernel_rfl) (by kernel_rfl) (fun _ _ _ h => h) (Or.inl ⟨by rfl, ?hyq13⟩) (by assumption) ?restq13
                  case hyq13 => ((intro w hSw); (try dsimp only at hSw); go_simp; try with_reducible rfl)
                  try simp only [List.getElem_toArray, List.getElem_cons_succ, List.getElem_cons_zero, Act.put, List.setIfInBounds_toArray, List.set_cons_zero, List.set_cons_succ]
                  refine wpAnyH_take (i := 4) (v := ?vvq14) rfl (by kernel_rfl) (by kernel_rfl) (by kernel_rfl) (fun _ _ _ h => h) (Or.inl ⟨by rfl, ?hyq14⟩) (by assumption) ?restq14
                  case hyq14 => ((intro w hSw); (try dsimp only at hSw); go_simp; try with_reducible rfl)
                  try simp only [List.getElem_toArray, List.getElem_cons_succ, List.getElem_cons_zero, Act.put, List.setIfInBounds_toArray, List.set_cons_zero, List.set_cons_succ]
                  refine wpAnyH_ready (rs := [5]) (by kernel_rfl) (by simp) ?_
                  refine AllReadyH.cons rfl (fun K hK => ?_) AllReadyH.nil
                  go_simp
                  (go_at_call 42; with_reducible refine (specMx_c y _ _ _ ?_ ?_).mono ?_; (refine S1.out.go ?_; (repeat (first | exact Below.refl _ _ | refine below_drew1 ?_ | refine Below.alloc ?_ (by simp <;> omega) _))); (refine S2.out.go ?_; (repeat (first | exact Below.refl _ _ | refine below_drew1 ?_ | refine Below.alloc ?_ (by simp <;> omega) _))); rw [hw]; rintro e w' ⟨rfl, hb5⟩)
                  refine hK.out _ _ ?_ (fun hHeld => ?_)
                  · (try dsimp only); first | assumption | exact HS.out _ (bt (And.left (by assumption)) hb5) | exact HS.out _ (below_drew1 (Below.refl _ _))
                  clear hK K
                  refine wpAnyH_take (i := 6) (v := ?vvq16) rfl (by kernel_rfl) (by kernel_rfl) (by kernel_rfl) (fun _ _ _ h => h) (Or.inl ⟨by rfl, ?hyq16⟩) (by assumption) ?restq16
                  case hyq16 => ((intro w hSw); (try dsimp only at hSw); go_simp; try with_reducible rfl)
                  try simp only [List.getElem_toArray, List.getElem_cons_succ, List.getElem_cons_zero, Act.put, List.setIfInBounds_toArray, List.set_cons_zero, List.set_cons_succ]
                  refine wpAnyH_take (i := 7) (v := ?vvq17) rfl (by kernel_rfl) (by kernel_rfl) (by kernel_rfl) (fun _ _ _ h => h) (Or.inl ⟨by rfl, ?hyq17⟩) (by assumption) ?restq17
                  case hyq17 => ((intro w hSw); (try dsimp only at hSw); go_simp; try with_reducible rfl)
                  try simp only [List.getElem_toArray, List.getElem_cons_succ, List.getElem_cons_zero, Act.put, List.setIfInBounds_toArray, List.set_cons_zero, List.set_cons_succ]
                  refine wpAnyH_take (i := 8) (v := undef) rfl (by kernel_rfl) (by kernel_rfl) (by kernel_rfl) (fun _ _ _ h => h) (Or.inr ⟨by rfl, rfl⟩) (by assumption) ?restq18
                  try simp only [List.getElem_toArray, List.getElem_cons_succ, List.getElem_cons_zero, Act.put, List.setIfInBounds_toArray, List.set_cons_zero, List.set_cons_succ]
                  refine wpAnyH_take (i := 9) (v := undef) rfl (by kernel_rfl) (by kernel_rfl) (by kernel_rfl) (fun _ _ _ h => h) (Or.inr ⟨by rfl, rfl⟩) (by assumption) ?restq19
                  try simp only [List.getElem_toArray, List.getElem_cons_succ, List.getElem_cons_zero, Act.put, List.setIfInBounds_toArray, List.set_cons_zero, List.set_cons_succ]
                  refine wpAnyH_take (i := 10) (v := undef) rfl (by kernel_rfl) (by kernel_rfl) (by kernel_rfl) (fun _ _ _ h => h) (Or.inr ⟨by rfl, rfl⟩) (by assumption) ?restq110
                  try simp only [List.getElem_toArray, List.getElem_cons_succ, List.getElem_cons_zero, Act.put, List.setIfInBounds_toArray, List.set_cons_zero, List.set_cons_succ]
                  refine wpAnyH_take (i := 11) (v := undef) rfl (by kernel_rfl) (by kernel_rfl) (by kernel_rfl) (fun _ _ _ h => h) (Or.inr ⟨by rfl, rfl⟩) (by assumption) ?restq111
                  try simp only [List.getElem_toArray, List.getElem_cons_succ, List.getElem_cons_zero, Act.put, List.setIfInBounds_toArray, List.set_cons_zero, List.set_cons_succ]
                  refine wpAnyH_take (i := 12) (v := undef) rfl (by kernel_rfl) (by kernel_rfl) (by kernel_rfl) (fun _ _ _ h => h) (Or.inr ⟨by rfl, rfl⟩) (by assumption) ?restq112
                  try simp only [List.getElem_toArray, List.getElem_cons_succ, List.getElem_cons_zero, Act.put, List.setIfInBounds_toArray, List.set_cons_zero, List.set_cons_succ]
                  refine wpAnyH_take (i := 13) (v := undef) rfl (by kernel_rfl) (by kernel_rfl) (by kernel_rfl) (fun _ _ _ h => h) (Or.inr ⟨by rfl, rfl⟩) (by assumption) ?restq113
                  try simp only [List.getElem_toArray, List.getElem_cons_succ, List.getElem_cons_zero, Act.put, List.setIfInBounds_toArray, List.set_cons_zero, List.set_cons_succ]
                  refine wpAnyH_take (i := 14) (v := undef) rfl (by kernel_rfl) (by kernel_rfl) (by kernel_rfl) (fun _ _ _ h => h) (Or.inr ⟨by rfl, rfl⟩) (by assumption) ?restq114
                  try simp only [List.getElem_toArray, List.getElem_cons_succ, List.getElem_cons_zero, Act.put, List.setIfInBounds_toArray, List.set_cons_zero, List.set_cons_succ]
                  refine wpAnyH_take (i := 15) (v := undef) rfl (by kernel_rfl) (by kernel_rfl) (by kernel_rfl) (fun _ _ _ h => h) (Or.inr ⟨by rfl, rfl⟩) (by assumption) ?restq115
                  try simp only [List.getElem_toArray, List.getElem_cons_succ, List.getElem_cons_zero, Act.put, List.setIfInBounds_toArray, List.set_cons_zero, List.set_cons_succ]
                  refine wpAnyH_take (i := 16) (v := undef) rfl (by kernel_rfl) (by kernel_rfl) (by kernel_rfl) (fun _ _ _ h => h) (Or.inr ⟨by rfl, rfl⟩) (by assumption) ?restq116
                  try simp only [List.getElem_toArray, List.getElem_cons_succ, List.getElem_cons_zero, Act.put, List.setIfInBounds_toArray, List.set_cons_zero, List.set_cons_succ]
                  refine wpAnyH_take (i := 17) (v := ?vvq117) rfl (by kernel_rfl) (by kernel_rfl) (by kernel_rfl) (fun _ _ _ h => h) (Or.inl ⟨by rfl, ?hyq117⟩) (by assumption) ?restq117
                  case hyq117 => ((intro w hSw); (try dsimp only at hSw); go_simp; try with_reducible rfl)
                  try simp only [List.getElem_toArray, List.getElem_cons_succ, List.getElem_cons_zero, Act.put, List.setIfInBounds_toArray, List.set_cons_zero, List.set_cons_succ]
                  refine wpAnyH_done (by kernel_rfl) ?_ _
                  go_wp2
                  go_ret
                  exact ⟨ret_bool Hf.out.symm, bt HB.out (bt Hb.out (bt (by (repeat (first | exact Below.refl _ _ | refine below_drew1 ?_ | refine Below.alloc ?_ (by simp <;> omega) _))) hb5))⟩
                | true =>
                  have hy5 := mx_pool_le hw
                  by_cases hs : y.sec = secOf k
                  · have hsB : (y.sec != secOf k) = false := by simp [hs]
                    have Hf := hid (show mixAt x.mixes k = true from by rw [mix_at Hx.out, hw, decide_eq_true hs]; rfl)
                    clear hs
                    go_wp2
                    refine wp_region_held_drew (S := (fun w' => Below wr.heap.size wr w' ∧ w'.cell? ⟨w.heap.size, 0, none⟩ = some (.slice (some ⟨b, o, none⟩) x.mixes.length c1) ∧ w'.cell? ⟨b, o + k * 3, none⟩ = some (.int .i64 y.sec) ∧ w'.cell? ⟨b, o + k * 3 + 1, none⟩ = some (.slice Ah y.seen.length ch) ∧ w'.cell? ⟨b, o + k * 3 + 2, none⟩ = some (.slice Ab y.pool.length cb))) (by kernel_rfl) ?_ (fun hHeld => ?_)
                    · (try dsimp only); first | assumption | exact HS.out _ (bt (And.left (by assumption)) hb5) | exact HS.out _ (below_drew1 (Below.refl _ _))
                    refine wpAnyH_take (i := 0) (v := ?vvq20) rfl (by kernel_rfl) (by kernel_rfl) (by kernel_rfl) (fun _ _ _ h => h) (Or.inl ⟨by rfl, ?hyq20⟩) (by assumption) ?restq20
                    case hyq20 => ((intro w hSw); (try dsimp only at hSw); go_simp; try with_reducible rfl)
                    try simp only [List.getElem_toArray, List.getElem_cons_succ, List.getElem_cons_zero, Act.put, List.setIfInBounds_toArray, List.set_cons_zero, List.set_cons_succ]
                    refine wpAnyH_take (i := 1) (v := ?vvq21) rfl (by kernel_rfl) (by kernel_rfl) (by kernel_rfl) (fun _ _ _ h => h) (Or.inl ⟨by rfl, ?hyq21⟩) (by assumption) ?restq21
                    case hyq21 => ((intro w hSw); (try dsimp only at hSw); go_simp; try with_reducible rfl)
                    try simp only [List.getElem_toArray, List.getElem_cons_succ, List.getElem_cons_zero, Act.put, List.setIfInBounds_toArray, List.set_cons_zero, List.set_cons_succ]
                    refine wpAnyH_take (i := 2) (v := ?vvq22) rfl (by kernel_rfl) (by kernel_rfl) (by kernel_rfl) (fun _ _ _ h => h) (Or.inl ⟨by rfl, ?hyq22⟩) (by assumption) ?restq22
                    case hyq22 => ((intro w hSw); (try dsimp only at hSw); go_simp; try with_reducible rfl)
                    try simp only [List.getElem_toArray, List.getElem_cons_succ, List.getElem_cons_zero, Act.put, List.setIfInBounds_toArray, List.set_cons_zero, List.set_cons_succ]
                    refine wpAnyH_take (i := 3) (v := ?vvq23) rfl (by kernel_rfl) (by kernel_rfl) (by kernel_rfl) (fun _ _ _ h => h) (Or.inl ⟨by rfl, ?hyq23⟩) (by assumption) ?restq23
                    case hyq23 => ((intro w hSw); (try dsimp only at hSw); go_simp; try with_reducible rfl)
                    try simp only [List.getElem_toArray, List.getElem_cons_succ, List.getElem_cons_zero, Act.put, List.setIfInBounds_toArray, List.set_cons_zero, List.set_cons_succ]
                    refine wpAnyH_take (i := 4) (v := ?vvq24) rfl (by kernel_rfl) (by kernel_rfl) (by kernel_rfl) (fun _ _ _ h => h) (Or.inl ⟨by rfl, ?hyq24⟩) (by assumption) ?restq24
                    case hyq24 => ((intro w hSw); (try dsimp only at hSw); go_simp; try with_reducible rfl)
                    try simp only [List.getElem_toArray, List.getElem_cons_succ, List.getElem_cons_zero, Act.put, List.setIfInBounds_toArray, List.set_cons_zero, List.set_cons_succ]
                    refine wpAnyH_ready (rs := [5]) (by kernel_rfl) (by simp) ?_
                    refine AllReadyH.cons rfl (fun K hK => ?_) AllReadyH.nil
                    go_simp
                    (go_at_call 42; with_reducible refine (specMx_c y _ _ _ ?_ ?_).mono ?_; (refine S1.out.go ?_; (repeat (first | exact Below.refl _ _ | refine below_drew1 ?_ | refine Below.alloc ?_ (by simp <;> omega) _))); (refine S2.out.go ?_; (repeat (first | exact Below.refl _ _ | refine below_drew1 ?_ | refine Below.alloc ?_ (by simp <;> omega) _))); rw [hw]; rintro e w' ⟨rfl, hb5⟩)
                    refine hK.out _ _ ?_ (fun hHeld => ?_)
                    · (try dsimp only); first | assumption | exact HS.out _ (bt (And.left (by assumption)) hb5) | exact HS.out _ (below_drew1 (Below.refl _ _))
                    clear hK K
                    refine wpAnyH_take (i := 6) (v := ?vvq26) rfl (by kernel_rfl) (by kernel_rfl) (by kernel_rfl) (fun _ _ _ h => h) (Or.inl ⟨by rfl, ?hyq26⟩) (by assumption) ?restq26
                    case hyq26 => ((intro w hSw); (try dsimp only at hSw); go_simp; try with_reducible rfl)
                    try simp only [List.getElem_toArray, List.getElem_cons_succ, List.getElem_cons_zero, Act.put, List.setIfInBounds_toArray, List.set_cons_zero, List.set_cons_succ]
                    refine wpAnyH_take (i := 7) (v := ?vvq27) rfl (by kernel_rfl) (by kernel_rfl) (by kernel_rfl) (fun _ _ _ h => h) (Or.inl ⟨by rfl, ?hyq27⟩) (by assumption) ?restq27
                    case hyq27 => ((intro w hSw); (try dsimp only at hSw); go_simp; try with_reducible rfl)
                    try simp only [List.getElem_toArray, List.getElem_cons_succ, List.getElem_cons_zero, Act.put, List.setIfInBounds_toArray, List.set_cons_zero, List.set_cons_succ]
                    refine wpAnyH_take (i := 8) (v := ?vvq28) rfl (by kernel_rfl) (by kernel_rfl) (by kernel_rfl) (fun _ _ _ h => h) (Or.inl ⟨by rfl, ?hyq28⟩) (by assumption) ?restq28
                    case hyq28 => ((intro w hSw); (try dsimp only at hSw); go_simp; try with_reducible rfl)
                    try simp only [List.getElem_toArray, List.getElem_cons_succ, List.getElem_cons_zero, Act.put, List.setIfInBounds_toArray, List.set_cons_zero, List.set_cons_succ]
                    refine wpAnyH_take (i := 9) (v := ?vvq29) rfl (by kernel_rfl) (by kernel_rfl) (by kernel_rfl) (fun _ _ _ h => h) (Or.inl ⟨by rfl, ?hyq29⟩) (by assumption) ?restq29
                    case hyq29 => ((intro w hSw); (try dsimp only at hSw); go_simp; try with_reducible rfl)
                    try simp only [List.getElem_toArray, List.getElem_cons_succ, List.getElem_cons_zero, Act.put, List.setIfInBounds_toArray, List.set_cons_zero, List.set_cons_succ]
                    refine wpAnyH_take (i := 10) (v := ?vvq210) rfl (by kernel_rfl) (by kernel_rfl) (by kernel_rfl) (fun _ _ _ h => h) (Or.inl ⟨by rfl, ?hyq210⟩) (by assumption) ?restq210
                    case hyq210 => ((intro w hSw); (try dsimp only at hSw); go_simp; try with_reducible rfl)
                    try simp only [List.getElem_toArray, List.getElem_cons_succ, List.getElem_cons_zero, Act.put, List.setIfInBounds_toArray, List.set_cons_zero, List.set_cons_succ]
                    refine wpAnyH_take (i := 11) (v := ?vvq211) rfl (by kernel_rfl) (by kernel_rfl) (by kernel_rfl) (fun _ _ _ h => h) (Or.inl ⟨by rfl, ?hyq211⟩) (by assumption) ?restq211
                    case hyq211 => ((intro w hSw); (try dsimp only at hSw); go_simp; try with_reducible rfl)
                    try simp only [List.getElem_toArray, List.getElem_cons_succ, List.getElem_cons_zero, Act.put, List.setIfInBounds_toArray, List.set_cons_zero, List.set_cons_succ]
                    refine wpAnyH_take (i := 12) (v := ?vvq212) rfl (by kernel_rfl) (by kernel_rfl) (by kernel_rfl) (fun _ _ _ h => h) (Or.inl ⟨by rfl, ?hyq212⟩) (by assumption) ?restq212
                    case hyq212 => ((intro w hSw); (try dsimp only at hSw); go_simp; try with_reducible rfl)
                    try simp only [List.getElem_toArray, List.getElem_cons_succ, List.getElem_cons_zero, Act.put, List.setIfInBounds_toArray, List.set_cons_zero, List.set_cons_succ]
                    refine wpAnyH_take (i := 13) (v := ?vvq213) rfl (by kernel_rfl) (by kernel_rfl) (by kernel_rfl) (fun _ _ _ h => h) (Or.inl ⟨by rfl, ?hyq213⟩) (by assumption) ?restq213
                    case hyq213 => ((intro w hSw); (try dsimp only at hSw); go_simp; try with_reducible rfl)
                    try simp only [List.getElem_toArray, List.getElem_cons_succ, List.getElem_cons_zero, Act.put, List.setIfInBounds_toArray, List.set_cons_zero, List.set_cons_succ]
                    refine wpAnyH_take (i := 14) (v := ?vvq214) rfl (by kernel_rfl) (by kernel_rfl) (by kernel_rfl) (fun _ _ _ h => h) (Or.inl ⟨by rfl, ?hyq214⟩) (by assumption) ?restq214
                    case hyq214 => ((intro w hSw); (try dsimp only at hSw); go_simp; try with_reducible rfl)
                    try simp only [List.getElem_toArray, List.getElem_cons_succ, List.getElem_cons_zero, Act.put, List.setIfInBounds_toArray, List.set_cons_zero, List.set_cons_succ]
                    refine wpAnyH_ready (rs := [15]) (by kernel_rfl) (by simp) ?_
                    refine AllReadyH.cons rfl (fun K hK => ?_) AllReadyH.nil
                    go_simp
                    (go_at_call 23; refine (specSec_c _ ?_ _).mono ?_; omega; rintro e w' ⟨rfl, rfl⟩)
                    refine hK.out _ _ ?_ (fun hHeld => ?_)
                    · (try dsimp only); first | assumption | exact HS.out _ (bt (And.left (by assumption)) hb5) | exact HS.out _ (below_drew1 (Below.refl _ _))
                    clear hK K
                    refine wpAnyH_take (i := 16) (v := ?vvq216) rfl (by kernel_rfl) (by kernel_rfl) (by kernel_rfl) (fun _ _ _ h => h) (Or.inl ⟨by rfl, ?hyq216⟩) (by assumption) ?restq216
                    case hyq216 => ((intro w hSw); (try dsimp only at hSw); go_simp; try with_reducible rfl)
                    try simp only [List.getElem_toArray, List.getElem_cons_succ, List.getElem_cons_zero, Act.put, List.setIfInBounds_toArray, List.set_cons_zero, List.set_cons_succ]
                    refine wpAnyH_take (i := 17) (v := ?vvq217) rfl (by kernel_rfl) (by kernel_rfl) (by kernel_rfl) (fun _ _ _ h => h) (Or.inl ⟨by rfl, ?hyq217⟩) (by assumption) ?restq217
                    case hyq217 => ((intro w hSw); (try dsimp only at hSw); go_simp; try with_reducible rfl)
                    try simp only [List.getElem_toArray, List.getElem_cons_succ, List.getElem_cons_zero, Act.put, List.setIfInBounds_toArray, List.set_cons_zero, List.set_cons_succ]
                    refine wpAnyH_done (by kernel_rfl) ?_ _
                    obtain ⟨kk0, kk2⟩ := HC2.out _ (bt (below_drew1 (Below.refl _ _)) hb5)
                    go_wp2
                    go_roundw
                    case rel => exact ⟨k + 1, by omega, by go_num, by rw [Ht.out]; go_num, by rw [Ht.out]; omega, fun j hj => by rcases Nat.lt_or_ge j k with h | h; exact Hall.out j h; rw [show j = k from by omega]; exact Hf.out, bt Hb.out (bt (by (repeat (first | exact Below.refl _ _ | refine below_drew1 ?_ | refine Below.alloc ?_ (by simp <;> omega) _))) hb5)⟩
                    case measure => simp [intOf]; omega
                  · have hsB : (y.sec != secOf k) = true := by simp [hs]
                    have Hf := hid (wd_f1 (mixesB_no hlt (by rw [mix_at Hx.out, hw, decide_eq_false hs]; rfl)))
                    clear hs
                    go_wp2
                    refine wp_region_held_drew (S := (fun w' => Below wr.heap.size wr w' ∧ w'.cell? ⟨w.heap.size, 0, none⟩ = some (.slice (some ⟨b, o, none⟩) x.mixes.length c1) ∧ w'.cell? ⟨b, o + k * 3, none⟩ = some (.int .i64 y.sec) ∧ w'.cell? ⟨b, o + k * 3 + 1, none⟩ = some (.slice Ah y.seen.length ch) ∧ w'.cell? ⟨b, o + k * 3 + 2, none⟩ = some (.slice Ab y.pool.length cb))) (by kernel_rfl) ?_ (fun hHeld => ?_)
                    · (try dsimp only); first | assumption | exact HS.out _ (bt (And.left (by assumption)) hb5) | exact HS.out _ (below_drew1 (Below.refl _ _))
                    refine wpAnyH_take (i := 0) (v := ?vvq30) rfl (by kernel_rfl) (by kernel_rfl) (by kernel_rfl) (fun _ _ _ h => h) (Or.inl ⟨by rfl, ?hyq30⟩) (by assumption) ?restq30
                    case hyq30 => ((intro w hSw); (try dsimp only at hSw); go_simp; try with_reducible rfl)
                    try simp only [List.getElem_toArray, List.getElem_cons_succ, List.getElem_cons_zero, Act.put, List.setIfInBounds_toArray, List.set_cons_zero, List.set_cons_succ]
                    refine wpAnyH_take (i := 1) (v := ?vvq31) rfl (by kernel_rfl) (by kernel_rfl) (by kernel_rfl) (fun _ _ _ h => h) (Or.inl ⟨by rfl, ?hyq31⟩) (by assumption) ?restq31
                    case hyq31 => ((intro w hSw); (try dsimp only at hSw); go_simp; try with_reducible rfl)
                    try simp only [List.getElem_toArray, List.getElem_cons_succ, List.getElem_cons_zero, Act.put, List.setIfInBounds_toArray, List.set_cons_zero, List.set_cons_succ]
                    refine wpAnyH_take (i := 2) (v := ?vvq32) rfl (by kernel_rfl) (by kernel_rfl) (by kernel_rfl) (fun _ _ _ h => h) (Or.inl ⟨by rfl, ?hyq32⟩) (by assumption) ?restq32
                    case hyq32 => ((intro w hSw); (try dsimp only at hSw); go_simp; try with_reducible rfl)
                    try simp only [List.getElem_toArray, List.getElem_cons_succ, List.getElem_cons_zero, Act.put, List.setIfInBounds_toArray, List.set_cons_zero, List.set_cons_succ]
                    refine wpAnyH_take (i := 3) (v := ?vvq33) rfl (by kernel_rfl) (by kernel_rfl) (by kernel_rfl) (fun _ _ _ h => h) (Or.inl ⟨by rfl, ?hyq33⟩) (by assumption) ?restq33
                    case hyq33 => ((intro w hSw); (try dsimp only at hSw); go_simp; try with_reducible rfl)
                    try simp only [List.getElem_toArray, List.getElem_cons_succ, List.getElem_cons_zero, Act.put, List.setIfInBounds_toArray, List.set_cons_zero, List.set_cons_succ]
                    refine wpAnyH_take (i := 4) (v := ?vvq34) rfl (by kernel_rfl) (by kernel_rfl) (by kernel_rfl) (fun _ _ _ h => h) (Or.inl ⟨by rfl, ?hyq34⟩) (by assumption) ?restq34
                    case hyq34 => ((intro w hSw); (try dsimp only at hSw); go_simp; try with_reducible rfl)
                    try simp only [List.getElem_toArray, List.getElem_cons_succ, List.getElem_cons_zero, Act.put, List.setIfInBounds_toArray, List.set_cons_zero, List.set_cons_succ]
                    refine wpAnyH_ready (rs := [5]) (by kernel_rfl) (by simp) ?_
                    refine AllReadyH.cons rfl (fun K hK => ?_) AllReadyH.nil
                    go_simp
                    (go_at_call 42; with_reducible refine (specMx_c y _ _ _ ?_ ?_).mono ?_; (refine S1.out.go ?_; (repeat (first | exact Below.refl _ _ | refine below_drew1 ?_ | refine Below.alloc ?_ (by simp <;> omega) _))); (refine S2.out.go ?_; (repeat (first | exact Below.refl _ _ | refine below_drew1 ?_ | refine Below.alloc ?_ (by simp <;> omega) _))); rw [hw]; rintro e w' ⟨rfl, hb5⟩)
                    refine hK.out _ _ ?_ (fun hHeld => ?_)
                    · (try dsimp only); first | assumption | exact HS.out _ (bt (And.left (by assumption)) hb5) | exact HS.out _ (below_drew1 (Below.refl _ _))
                    clear hK K
                    refine wpAnyH_take (i := 6) (v := ?vvq36) rfl (by kernel_rfl) (by kernel_rfl) (by kernel_rfl) (fun _ _ _ h => h) (Or.inl ⟨by rfl, ?hyq36⟩) (by assumption) ?restq36
                    case hyq36 => ((intro w hSw); (try dsimp only at hSw); go_simp; try with_reducible rfl)
                    try simp only [List.getElem_toArray, List.getElem_cons_succ, List.getElem_cons_zero, Act.put, List.setIfInBounds_toArray, List.set_cons_zero, List.set_cons_succ]
                    refine wpAnyH_take (i := 7) (v := ?vvq37) rfl (by kernel_rfl) (by kernel_rfl) (by kernel_rfl) (fun _ _ _ h => h) (Or.inl ⟨by rfl, ?hyq37⟩) (by assumption) ?restq37
                    case hyq37 => ((intro w hSw); (try dsimp only at hSw); go_simp; try with_reducible rfl)
                    try simp only [List.getElem_toArray, List.getElem_cons_succ, List.getElem_cons_zero, Act.put, List.setIfInBounds_toArray, List.set_cons_zero, List.set_cons_succ]
                    refine wpAnyH_take (i := 8) (v := ?vvq38) rfl (by kernel_rfl) (by kernel_rfl) (by kernel_rfl) (fun _ _ _ h => h) (Or.inl ⟨by rfl, ?hyq38⟩) (by assumption) ?restq38
                    case hyq38 => ((intro w hSw); (try dsimp only at hSw); go_simp; try with_reducible rfl)
                    try simp only [List.getElem_toArray, List.getElem_cons_succ, List.getElem_cons_zero, Act.put, List.setIfInBounds_toArray, List.set_cons_zero, List.set_cons_succ]
                    refine wpAnyH_take (i := 9) (v := ?vvq39) rfl (by kernel_rfl) (by kernel_rfl) (by kernel_rfl) (fun _ _ _ h => h) (Or.inl ⟨by rfl, ?hyq39⟩) (by assumption) ?restq39
                    case hyq39 => ((intro w hSw); (try dsimp only at hSw); go_simp; try with_reducible rfl)
                    try simp only [List.getElem_toArray, List.getElem_cons_succ, List.getElem_cons_zero, Act.put, List.setIfInBounds_toArray, List.set_cons_zero, List.set_cons_succ]
                    refine wpAnyH_take (i := 10) (v := ?vvq310) rfl (by kernel_rfl) (by kernel_rfl) (by kernel_rfl) (fun _ _ _ h => h) (Or.inl ⟨by rfl, ?hyq310⟩) (by assumption) ?restq310
                    case hyq310 => ((intro w hSw); (try dsimp only at hSw); go_simp; try with_reducible rfl)
                    try simp only [List.getElem_toArray, List.getElem_cons_succ, List.getElem_cons_zero, Act.put, List.setIfInBounds_toArray, List.set_cons_zero, List.set_cons_succ]
                    refine wpAnyH_take (i := 11) (v := ?vvq311) rfl (by kernel_rfl) (by kernel_rfl) (by kernel_rfl) (fun _ _ _ h => h) (Or.inl ⟨by rfl, ?hyq311⟩) (by assumption) ?restq311
                    case hyq311 => ((intro w hSw); (try dsimp only at hSw); go_simp; try with_reducible rfl)
                    try simp only [List.getElem_toArray, List.getElem_cons_succ, List.getElem_cons_zero, Act.put, List.setIfInBounds_toArray, List.set_cons_zero, List.set_cons_succ]
                    refine wpAnyH_take (i := 12) (v := ?vvq312) rfl (by kernel_rfl) (by kernel_rfl) (by kernel_rfl) (fun _ _ _ h => h) (Or.inl ⟨by rfl, ?hyq312⟩) (by assumption) ?restq312
                    case hyq312 => ((intro w hSw); (try dsimp only at hSw); go_simp; try with_reducible rfl)
                    try simp only [List.getElem_toArray, List.getElem_cons_succ, List.getElem_cons_zero, Act.put, List.setIfInBounds_toArray, List.set_cons_zero, List.set_cons_succ]
                    refine wpAnyH_take (i := 13) (v := ?vvq313) rfl (by kernel_rfl) (by kernel_rfl) (by kernel_rfl) (fun _ _ _ h => h) (Or.inl ⟨by rfl, ?hyq313⟩) (by assumption) ?restq313
                    case hyq313 => ((intro w hSw); (try dsimp only at hSw); go_simp; try with_reducible rfl)
                    try simp only [List.getElem_toArray, List.getElem_cons_succ, List.getElem_cons_zero, Act.put, List.setIfInBounds_toArray, List.set_cons_zero, List.set_cons_succ]
                    refine wpAnyH_take (i := 14) (v := ?vvq314) rfl (by kernel_rfl) (by kernel_rfl) (by kernel_rfl) (fun _ _ _ h => h) (Or.inl ⟨by rfl, ?hyq314⟩) (by assumption) ?restq314
                    case hyq314 => ((intro w hSw); (try dsimp only at hSw); go_simp; try with_reducible rfl)
                    try simp only [List.getElem_toArray, List.getElem_cons_succ, List.getElem_cons_zero, Act.put, List.setIfInBounds_toArray, List.set_cons_zero, List.set_cons_succ]
                    refine wpAnyH_ready (rs := [15]) (by kernel_rfl) (by simp) ?_
                    refine AllReadyH.cons rfl (fun K hK => ?_) AllReadyH.nil
                    go_simp
                    (go_at_call 23; refine (specSec_c _ ?_ _).mono ?_; omega; rintro e w' ⟨rfl, rfl⟩)
                    refine hK.out _ _ ?_ (fun hHeld => ?_)
                    · (try dsimp only); first | assumption | exact HS.out _ (bt (And.left (by assumption)) hb5) | exact HS.out _ (below_drew1 (Below.refl _ _))
                    clear hK K
                    refine wpAnyH_take (i := 16) (v := ?vvq316) rfl (by kernel_rfl) (by kernel_rfl) (by kernel_rfl) (fun _ _ _ h => h) (Or.inl ⟨by rfl, ?hyq316⟩) (by assumption) ?restq316
                    case hyq316 => ((intro w hSw); (try dsimp only at hSw); go_simp; try with_reducible rfl)
                    try simp only [List.getElem_toArray, List.getElem_cons_succ, List.getElem_cons_zero, Act.put, List.setIfInBounds_toArray, List.set_cons_zero, List.set_cons_succ]
                    refine wpAnyH_take (i := 17) (v := ?vvq317) rfl (by kernel_rfl) (by kernel_rfl) (by kernel_rfl) (fun _ _ _ h => h) (Or.inl ⟨by rfl, ?hyq317⟩) (by assumption) ?restq317
                    case hyq317 => ((intro w hSw); (try dsimp only at hSw); go_simp; try with_reducible rfl)
                    try simp only [List.getElem_toArray, List.getElem_cons_succ, List.getElem_cons_zero, Act.put, List.setIfInBounds_toArray, List.set_cons_zero, List.set_cons_succ]
                    refine wpAnyH_done (by kernel_rfl) ?_ _
                    go_wp2
                    go_ret
                    exact ⟨ret_bool Hf.out.symm, bt HB.out (bt Hb.out (bt (by (repeat (first | exact Below.refl _ _ | refine below_drew1 ?_ | refine Below.alloc ?_ (by simp <;> omega) _))) hb5))⟩
              · have g1 : mixesB x.mixes = true := mixesB_of Hml.out fun j hj => Hall.out j (by omega)
                have Hq := hid (show x.mixes.take k = x.mixes from take_all hk hlt)
                have HG := hid (wd_all (x := x) g1 g2 g3 g4 g5)
                obtain ⟨wA, rfl⟩ : ∃ wA : World, wA = wr := ⟨_, rfl⟩
                rw [Hq.out] at *
                have HB := hid (bt HB.out Hb.out)
                have HK := hid (fun (wx : World) (hb : Below wA.heap.size wA wx) => HK.out wx (bt Hb.out hb))
                have Hs := hid (Hs.out.go Hb.out); have Hn := hid (Hn.out.go Hb.out); have Hg := hid (Hg.out.go Hb.out)
                have HZ := hid Hb.out.size
                have HI := hid (show (x.net.length : Int) + x.got.length + x.lost + poolSum x.mixes = inside x from rfl)
                clear Hall r2 Hb Hm
                go_wp2
                clear k0 k1 k2 k3 k4 k5
                go_loopw [5] (fun i wr => ∃ k : Nat, k ≤ x.sent.length ∧ i = .int .i64 k ∧ (∀ j, j < k → sentAt x.sent j = true) ∧ Below wA.heap.size wA wr) (fun i _ => x.sent.length - (intOf i).toNat)
                case atStart => exact ⟨0, by omega, rfl, fun j hj => absurd hj (by omega), Below.refl _ _⟩
                case round =>
                  obtain ⟨k6, hk6, rfl, hall, hb⟩ := hrel
                  have Hall := hid hall; have Hb := hid hb
                  have r2 := Hs.out.go hb
                  obtain ⟨k0, k1, k2, k3, k4, k5⟩ := HK.out _ hb
                  have hzr := Nat.lt_of_lt_of_le hz (Nat.le_trans HZ.out hb.size)
                  clear hall hb
                  by_cases hlt6 : k6 < x.sent.length
                  · obtain ⟨l, hx⟩ := get_ex hlt6
                    obtain ⟨b, o, rfl, _, hbl, q0, q1, q2⟩ := r2.lt3 hx
                    have Hx := hid hx
                    have HC := hid (fun (wx : World) (hb : Below wr.heap.size wr wx) => And.intro ((hb.cell (p := ⟨w.heap.size, 1, none⟩) hzr).trans k1) ((hb.cell (p := ⟨b, o + k6 * 3 + 2, none⟩) hbl).trans q2))
                    clear hx r2
                    cases hw : ltB l with
                    | false =>
                      have Hf := hid (wd_f6 (range_at hlt6 (by rw [sent_at Hx.out, hw]; rfl)))
                      go_wp2_with (go_at_call 43; refine (specLt_c l _).mono ?_; rw [hw]; rintro e w' ⟨rfl, hb5⟩)
                      go_ret
                      exact ⟨ret_bool Hf.out.symm, bt HB.out (bt Hb.out hb5)⟩
                    | true =>
                      by_cases hn : l.num = (k6 : Int)
                      · have hnB : (l.num != (k6 : Int)) = false := by simp [hn]
                        have Hf := hid (show sentAt x.sent k6 = true from by rw [sent_at Hx.out, hw, decide_eq_true hn]; rfl)
                        clear hn
                        go_wp2_with (go_at_call 43; refine (specLt_c l _).mono ?_; rw [hw]; rintro e w' ⟨rfl, hb5⟩; obtain ⟨kk0, kk1⟩ := HC.out _ hb5)
                        go_roundw
                        case rel => exact ⟨k6 + 1, by omega, by go_num, fun j hj => by rcases Nat.lt_or_ge j k6 with h | h; exact Hall.out j h; rw [show j = k6 from by omega]; exact Hf.out, bt Hb.out hb5⟩
                        case measure => simp [intOf]; omega
                      · have hnB : (l.num != (k6 : Int)) = true := by simp [hn]
                        have Hf := hid (wd_f6 (range_at hlt6 (by rw [sent_at Hx.out, hw, decide_eq_false hn]; rfl)))
                        clear hn
                        go_wp2_with (go_at_call 43; refine (specLt_c l _).mono ?_; rw [hw]; rintro e w' ⟨rfl, hb5⟩; obtain ⟨kk0, kk1⟩ := HC.out _ hb5)
                        go_ret
                        exact ⟨ret_bool Hf.out.symm, bt HB.out (bt Hb.out hb5)⟩
                  · have Hsent := hid (show sentB x.sent = true from range_all fun j hj => Hall.out j (by omega))
                    obtain ⟨wC, rfl⟩ : ∃ wC : World, wC = wr := ⟨_, rfl⟩
                    have HB := hid (bt HB.out Hb.out)
                    have HK := hid (fun (wx : World) (hb : Below wC.heap.size wC wx) => HK.out wx (bt Hb.out hb))
                    have HZ := hid (Nat.le_trans HZ.out Hb.out.size)
                    have Hn := hid (Hn.out.go Hb.out); have Hg := hid (Hg.out.go Hb.out)
                    clear Hall r2 Hb Hs
                    go_wp2
                    clear k0 k1 k2 k3 k4 k5
                    go_loopw [6] (fun i wr => ∃ k : Nat, k ≤ x.got.length ∧ i = .int .i64 k ∧ gotB (x.got.take k) = true ∧ Below wC.heap.size wC wr) (fun i _ => x.got.length - (intOf i).toNat)
                    case atStart => exact ⟨0, by omega, rfl, rfl, Below.refl _ _⟩
                    case round =>
                      obtain ⟨k7, hk7, rfl, hall, hb⟩ := hrel
                      have Hall := hid hall; have Hb := hid hb
                      have r2 := Hg.out.go hb
                      obtain ⟨k0, k1, k2, k3, k4, k5⟩ := HK.out _ hb
                      clear hall hb
                      by_cases hlt7 : k7 < x.got.length
                      · obtain ⟨l, hx⟩ := get_ex hlt7
                        obtain ⟨b, o, rfl, _, hbl, q0, q1, q2⟩ := r2.lt3 hx
                        have Hx := hid hx
                        clear hx r2
                        cases hw : ltB l with
                        | false =>
                          have Hf := hid (wd_f7 (all_at Hx.out hw))
                          go_wp2_with (go_at_call 43; refine (specLt_c l _).mono ?_; rw [hw]; rintro e w' ⟨rfl, hb5⟩)
                          go_ret
                          exact ⟨ret_bool Hf.out.symm, bt HB.out (bt Hb.out hb5)⟩
                        | true =>
                          go_wp2_with (go_at_call 43; refine (specLt_c l _).mono ?_; rw [hw]; rintro e w' ⟨rfl, hb5⟩)
                          go_roundw
                          case rel => exact ⟨k7 + 1, by omega, by go_num, by rw [take_ex Hx.out]; exact all_snoc Hall.out hw, bt Hb.out hb5⟩
                          case measure => simp [intOf]; omega
                      · have Hgot := hid (show gotB x.got = true from by rw [← take_all hk7 hlt7]; exact Hall.out)
                        obtain ⟨wD, rfl⟩ : ∃ wD : World, wD = wr := ⟨_, rfl⟩
                        have HB := hid (bt HB.out Hb.out)
                        have HK := hid (fun (wx : World) (hb : Below wD.heap.size wD wx) => HK.out wx (bt Hb.out hb))
                        have HZ := hid (Nat.le_trans HZ.out Hb.out.size)
                        have Hn := hid (Hn.out.go Hb.out)
                        clear Hall r2 Hb Hg
                        go_wp2
                        clear k0 k1 k2 k3 k4 k5
                        go_loopw [7] (fun i wr => ∃ k : Nat, k ≤ x.net.length ∧ i = .int .i64 k ∧ netB (x.net.take k) = true ∧ Below wD.heap.size wD wr) (fun i _ => x.net.length - (intOf i).toNat)
                        case atStart => exact ⟨0, by omega, rfl, rfl, Below.refl _ _⟩
                        case round =>
                          obtain ⟨k8, hk8, rfl, hall, hb⟩ := hrel
                          have Hall := hid hall; have Hb := hid hb
                          have r2 := Hn.out.go hb
                          obtain ⟨k0, k1, k2, k3, k4, k5⟩ := HK.out _ hb
                          clear hall hb
                          by_cases hlt8 : k8 < x.net.length
                          · obtain ⟨y, hx⟩ := get_ex hlt8
                            obtain ⟨b, o, vh, vb, rfl, _, _, s1, s2, q0, q1, q2, q3, q4, q5⟩ := r2.tr hx
                            obtain ⟨Ah, ch, rfl, _, _, _⟩ := s1.form
                            obtain ⟨Ab, cb, rfl, _, _, _⟩ := s2.form
                            have Hx := hid hx; have S1 := hid s1; have S2 := hid s2
                            clear hx r2 s1 s2
                            cases hw1 : win y.mix 0 2 with
                            | false =>
                              have Hf := hid (wd_f8 (all_at Hx.out (show trB y = false from by rw [trB, hw1]; rfl)))
                              go_wp2_with (go_at_call 41; refine (l6In_c _ _ _ _).mono ?_; rw [hw1]; rintro e w' ⟨rfl, rfl⟩)
                              go_ret
                              exact ⟨ret_bool Hf.out.symm, bt HB.out Hb.out⟩
                            | true =>
                              cases hw2 : pkB y.pk with
                              | false =>
                                have Hf := hid (wd_f8 (all_at Hx.out (show trB y = false from by rw [trB, hw1, hw2]; rfl)))
                                go_wp2_with (first | (go_at_call 41; refine (l6In_c _ _ _ _).mono ?_; rw [hw1]; rintro e w' ⟨rfl, rfl⟩) | (go_at_call 44; with_reducible refine (specPk_c y.pk _ _ _ ?_ ?_).mono ?_; exact S1.out; exact S2.out; rw [hw2]; rintro e w' ⟨rfl, hb5⟩))
                                go_ret
                                exact ⟨ret_bool Hf.out.symm, bt HB.out (bt Hb.out hb5)⟩
                              | true =>
                                have Hf := hid (show trB y = true from by rw [trB, hw1, hw2]; rfl)
                                go_wp2_with (first | (go_at_call 41; refine (l6In_c _ _ _ _).mono ?_; rw [hw1]; rintro e w' ⟨rfl, rfl⟩) | (go_at_call 44; with_reducible refine (specPk_c y.pk _ _ _ ?_ ?_).mono ?_; exact S1.out; exact S2.out; rw [hw2]; rintro e w' ⟨rfl, hb5⟩))
                                go_roundw
                                case rel => exact ⟨k8 + 1, by omega, by go_num, by rw [take_ex Hx.out]; exact all_snoc Hall.out Hf.out, bt Hb.out hb5⟩
                                case measure => simp [intOf]; omega
                          · have Hnet := hid (show netB x.net = true from by rw [← take_all hk8 hlt8]; exact Hall.out)
                            have HG2 := hid (HG.out Hsent.out Hgot.out Hnet.out)
                            clear r2
                            go_wp2
                            go_ret
                            exact ⟨ret_bool (by rw [HG2.out, ← HI.out]; first | rfl | (rw [Bool.eq_iff_iff]; simp)), bt HB.out Hb.out⟩
          · have Hf := hid (wd_f4 g4)
            go_wp2_with (go_at_call 41; refine (l6In_c _ _ _ _).mono ?_; rw [g5]; rintro e w' ⟨rfl, rfl⟩)
            go_ret
            exact ⟨ret_bool Hf.out.symm, by (repeat (first | exact Below.refl _ _ | refine below_drew1 ?_ | refine Below.alloc ?_ (by simp <;> omega) _))⟩
      · have Hf := hid (wd_f3 g3)
        go_wp2
        go_ret
        exact ⟨ret_bool Hf.out.symm, by (repeat (first | exact Below.refl _ _ | refine below_drew1 ?_ | refine Below.alloc ?_ (by simp <;> omega) _))⟩
    · have Hf := hid (wd_f2 g2)
      go_wp2
      go_ret
      exact ⟨ret_bool Hf.out.symm, by (repeat (first | exact Below.refl _ _ | refine below_drew1 ?_ | refine Below.alloc ?_ (by simp <;> omega) _))⟩
  · have g1B : ((x.mixes.length : Int) != 3) = true := by simp; omega
    have Hf := hid (wd_f1 (mixesB_len g1))
    clear g1
    go_wp2
    go_ret
    exact ⟨ret_bool Hf.out.symm, by (repeat (first | exact Below.refl _ _ | refine below_drew1 ?_ | refine Below.alloc ?_ (by simp <;> omega) _))⟩
end Go.Proofs.Ytbkckjobhopicaa
