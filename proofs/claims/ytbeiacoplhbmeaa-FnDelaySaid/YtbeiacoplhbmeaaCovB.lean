/- Walks over plans of cover: the plan itself, in both texts; and comparing two plans. -/
import Derived.Test.YtbeiacoplhbmeaaCovA
namespace Go.Proofs.Ytbeiacoplhbmeaa
open Go Go.RowKit
set_option maxHeartbeats 400000

theorem infoSending : (Try.prog.info? 45).map (fun i => (i.zero, i.size, i.bytes)) = some (some (.agg #[.int .i64 0, .int .i64 0]), 2, 16) := by kernel_rfl
def NewPlan (B : Nat) (l : List (Int × Int)) (w : World) (e : Ending) (w' : World) : Prop := ∃ v, e = .returned v ∧ NewS tTwo 45 B w' v l ∧ Below B w w'
theorem two_own {w : World} {e B : Nat} (o : Obj) (h : B ≤ w.heap.size) (ho : o = .cells #[] e) : Own tTwo e B (w.alloc o) (.slice (some ⟨w.heap.size, 0, none⟩) 0 0) [] [] := by
  subst ho
  exact ⟨[], World.ownsRow_made w #[] 0 h (by simp [maxLen]) rfl, ⟨rfl, rfl⟩, fun _ _ h => by cases h⟩
theorem plan_step {w w1 : World} {v' : Value} {e : Nat} {r : List Int} {p : Int} {i : Nat} {t l : Int} (ho : Own tTwo e w.heap.size w1 v' (Cov.plan r p i ++ [(t, l)]) [])
    (ht : t = i * p) (hl : l = Cov.let_ r p i) : Own tTwo e w.heap.size w1 v' (Cov.plan r p (i + 1)) [] := by
  rw [Cov.plan_succ, Cov.pk, ← ht, ← hl]; exact ho
theorem hit_t {r : List Int} {p : Int} {i : Nat} {x t : Int} (hx : r[Cov.nx r p i]? = some x) (ht : t = i * p) (h : x ≤ t) : Cov.hit r p i = true := by
  have hl := (List.getElem?_eq_some_iff.1 hx).1
  simp only [Cov.hit, List.getD, hx, Option.getD_some, decide_eq_true_eq]; exact ⟨hl, by omega⟩
theorem hit_f {r : List Int} {p : Int} {i : Nat} {x t : Int} (hx : r[Cov.nx r p i]? = some x) (ht : t = i * p) (h : ¬ x ≤ t) : Cov.hit r p i = false := by
  simp only [Cov.hit, List.getD, hx, Option.getD_some, decide_eq_false_iff_not]; omega
theorem hit_end {r : List Int} {p : Int} {i : Nat} (h : ¬ Cov.nx r p i < r.length) : Cov.hit r p i = false := by
  simp only [Cov.hit, decide_eq_false_iff_not]; exact fun h' => h h'.1
theorem nx_hit {r : List Int} {p : Int} {i : Nat} (h : Cov.hit r p i = true) : Cov.nx r p (i + 1) = Cov.nx r p i + 1 := by rw [Cov.nx_succ, h]; rfl
theorem nx_miss {r : List Int} {p : Int} {i : Nat} (h : Cov.hit r p i = false) : Cov.nx r p (i + 1) = Cov.nx r p i := by rw [Cov.nx_succ, h]; rfl
theorem let_t {r : List Int} {p : Int} {i : Nat} (h : Cov.hit r p i = true) : (Cov.nx r p i : Int) = Cov.let_ r p i := (Cov.let_hit _ _ _ h).symm
theorem let_f {r : List Int} {p : Int} {i : Nat} (h : Cov.hit r p i = false) : (-1 : Int) = Cov.let_ r p i := ((Cov.let_neg _ _ _).2 h).symm

theorem cov_next {i : Nat} {t p u : Int} (ht : t = i * p) (h : t ≤ u) (hj : ∀ j : Nat, j < i → (j : Int) * p ≤ u) : ∀ j : Nat, j < i + 1 → (j : Int) * p ≤ u := by
  intro j hlt
  rcases Nat.lt_or_ge j i with h1 | h1
  · exact hj j h1
  · rw [show j = i from by omega, ← ht]; exact h
theorem cov_small {i : Nat} {t p u : Int} (ht : t = i * p) (h : t ≤ u) (hp : 1 ≤ p) (hu : u ≤ 40) : i ≤ 40 := by
  have : (i : Int) * 1 ≤ i * p := Int.mul_le_mul_of_nonneg_left hp (by omega)
  omega
theorem cov_t {i : Nat} {t p : Int} (ht : t = i * p) : t + p = ((i + 1 : Nat) : Int) * p := by rw [ht, Int.natCast_add, Int.add_mul]; simp
theorem CoverPlan_impl (v : Value) (r : List Int) (p u : Int) (w : World) (h : SlB tInt w.heap.size w v r) :
    Calls Try.prog 42 #[v, .int .i64 p, .int .i64 u] w (NewPlan w.heap.size (Cov.full r p u) w) := by
  obtain ⟨i0, hi, hz0, hz1, hz2⟩ := info_parts infoSending
  obtain ⟨A, c, rfl, a1, a2, a3⟩ := h.form
  clear a2
  go_enter Try.func42, Try.ntmps42
  go_wp2_with fail
  refine (planValid_c _ r p u _ h).mono ?_
  rintro e w1 ⟨rfl, hb1⟩
  cases hok : Cov.ok r p u with
  | false =>
    have Hf := hid (show Cov.full r p u = [] from by simp [Cov.full, hok])
    clear hok
    go_wp2
    go_ret
    exact ⟨_, rfl, by rw [Hf.out]; exact NewS.nil _ _, hb1⟩
  | true =>
    have Hf := hid (show Cov.full r p u = Cov.plan r p (Cov.num p u) from by simp [Cov.full, hok])
    have hp := Cov.ok_parts.1 hok
    have hp1 := hp.2.1.1; have hp9 := hp.2.1.2; have hu0 := hp.2.2.1.1; have hu40 := hp.2.2.1.2; have hr8 := hp.2.2.2
    clear hok hp
    have Hb1 := hid hb1
    clear hb1
    go_wp2_with fail
    go_loopw [7, 8, 9] (fun pv nv tv wr => ∃ (i : Nat) (t : Int) (n : Nat) , tv = .int .i64 t ∧ t = i * p ∧ 0 ≤ t ∧ t ≤ 49 ∧ nv = .int .i64 n ∧ n = Cov.nx r p i ∧ n ≤ 8 ∧ i ≤ 41 ∧ (∀ j : Nat, j < i → (j : Int) * p ≤ u) ∧ Own tTwo 45 w.heap.size wr pv (Cov.plan r p i) [] ∧ Below w.heap.size w wr) (fun _ _ tv _ => (50 - intOf tv).toNat)
    case atStart => exact ⟨0, 0, 0, rfl, by simp, by omega, by omega, rfl, rfl, by omega, by omega, fun j hj => absurd hj (by omega), two_own _ Hb1.out.size rfl, Hb1.out.alloc Hb1.out.size _⟩
    case round =>
      obtain ⟨i, t, n, rfl, ht, ht0, ht49, rfl, hn, hn8, hi41, hj, ho, hbw⟩ := hrel
      have Ht := hid ht; have Hn := hid hn; have Hj := hid hj; have Ho := hid ho; have Hbw := hid hbw
      have hr := (h.below hbw (Nat.le_refl _)).mono hbw.size
      have hsz := hbw.size
      clear ht hn hj ho hbw
      by_cases htu : t ≤ u
      · have hi40 := cov_small Ht.out htu hp1 hu40
        by_cases hlt : n < r.length
        · obtain ⟨x, hx⟩ := get_ex hlt
          obtain ⟨b, o, rfl, _, _, hcx⟩ := hr.int hx
          by_cases hxt : x ≤ t
          · have Hh := hid (hit_t (i := i) (by rw [← Hn.out]; exact hx) Ht.out hxt)
            clear hx hr h
            go_wp2_with (at_builtin; go_loud (refine wpList_appF rfl (.tmp 41) (.tmp 43) 34 rfl tTwo tTwo_flat (B := w.heap.size) (v := u7) Try.underlying34 hi hz0 hz1 hz2 rfl (by decide) (by decide) rfl (Ho.out.below ?_ (Nat.le_refl _)) _ 1 1 rfl (Sl.box' (T := tTwo) (x := (t, ↑n)) _ ?_ ⟨rfl, rfl⟩) ?_ ?_ ?_); go_loud ((repeat (first | exact Below.refl _ _ | refine Below.alloc ?_ (by simp) _ | refine Below.setCell ?_ (by simp) _)); (simp); (rw [Cov.plan_length]; simp; omega); (simp; omega); intro v2 w2 ho2 hg2 hv2))
            go_roundw
            case rel => exact ⟨i + 1, t + p, n + 1, rfl, cov_t Ht.out, by omega, by omega, by go_num, by rw [nx_hit Hh.out, ← Hn.out], by omega, by omega, cov_next Ht.out htu Hj.out, plan_step ho2 Ht.out (by rw [Hn.out]; exact let_t Hh.out), ((Hbw.out.alloc hsz _).alloc (by simp; omega) _).grown hg2 (by simp; omega) (fun k hk => (Ho.out.top k hk).1)⟩
            case measure => simp [intOf]; omega
          · have Hh := hid (hit_f (i := i) (by rw [← Hn.out]; exact hx) Ht.out hxt)
            clear hx hr h
            go_wp2_with (at_builtin; go_loud (refine wpList_appF rfl (.tmp 41) (.tmp 43) 34 rfl tTwo tTwo_flat (B := w.heap.size) (v := u7) Try.underlying34 hi hz0 hz1 hz2 rfl (by decide) (by decide) rfl (Ho.out.below ?_ (Nat.le_refl _)) _ 1 1 rfl (Sl.box' (T := tTwo) (x := (t, -1)) _ ?_ ⟨rfl, rfl⟩) ?_ ?_ ?_); go_loud ((repeat (first | exact Below.refl _ _ | refine Below.alloc ?_ (by simp) _ | refine Below.setCell ?_ (by simp) _)); (simp); (rw [Cov.plan_length]; simp; omega); (simp; omega); intro v2 w2 ho2 hg2 hv2))
            go_roundw
            case rel => exact ⟨i + 1, t + p, n, rfl, cov_t Ht.out, by omega, by omega, rfl, by rw [nx_miss Hh.out, ← Hn.out], by omega, by omega, cov_next Ht.out htu Hj.out, plan_step ho2 Ht.out (let_f Hh.out), ((Hbw.out.alloc hsz _).alloc (by simp; omega) _).grown hg2 (by simp; omega) (fun k hk => (Ho.out.top k hk).1)⟩
            case measure => simp [intOf]; omega
        · have Hh := hid (hit_end (r := r) (p := p) (i := i) (by rw [← Hn.out]; exact hlt))
          clear hr h
          go_wp2_with (at_builtin; go_loud (refine wpList_appF rfl (.tmp 41) (.tmp 43) 34 rfl tTwo tTwo_flat (B := w.heap.size) (v := u7) Try.underlying34 hi hz0 hz1 hz2 rfl (by decide) (by decide) rfl (Ho.out.below ?_ (Nat.le_refl _)) _ 1 1 rfl (Sl.box' (T := tTwo) (x := (t, -1)) _ ?_ ⟨rfl, rfl⟩) ?_ ?_ ?_); go_loud ((repeat (first | exact Below.refl _ _ | refine Below.alloc ?_ (by simp) _ | refine Below.setCell ?_ (by simp) _)); (simp); (rw [Cov.plan_length]; simp; omega); (simp; omega); intro v2 w2 ho2 hg2 hv2))
          go_roundw
          case rel => exact ⟨i + 1, t + p, n, rfl, cov_t Ht.out, by omega, by omega, rfl, by rw [nx_miss Hh.out, ← Hn.out], by omega, by omega, cov_next Ht.out htu Hj.out, plan_step ho2 Ht.out (let_f Hh.out), ((Hbw.out.alloc hsz _).alloc (by simp; omega) _).grown hg2 (by simp; omega) (fun k hk => (Ho.out.top k hk).1)⟩
          case measure => simp [intOf]; omega
      · have Hi := hid (Cov.num_eq hp1 hu0 (by rw [← Ht.out]; omega) Hj.out)
        go_wp2
        go_ret
        exact ⟨_, rfl, ⟨[], by rw [Hf.out, ← Hi.out]; exact Ho.out, List.nodup_nil, fun _ h => by cases h⟩, Hbw.out⟩

theorem two_nil {w w1 : World} (e : Nat) (h : Below (w.alloc (.cells #[] e)).heap.size (w.alloc (.cells #[] e)) w1) : NewS tTwo e w.heap.size w1 (.slice (some ⟨w.heap.size, 0, none⟩) 0 0) [] :=
  ⟨[], (two_own _ (Nat.le_refl _) rfl).below h (Nat.le_refl _), List.nodup_nil, fun _ h => by cases h⟩
theorem CoverPlan_spec (v : Value) (r : List Int) (p u : Int) (w : World) (h : SlB tInt w.heap.size w v r) :
    Calls Try.prog 43 #[v, .int .i64 p, .int .i64 u] w (NewPlan w.heap.size (Cov.full r p u) w) := by
  obtain ⟨i0, hi, hz0, hz1, hz2⟩ := info_parts infoSending
  obtain ⟨A, c, rfl, a1, a2, a3⟩ := h.form
  clear a2
  go_enter Try.func43, Try.ntmps43
  cases hok : Cov.ok r p u with
  | false =>
    have Hf := hid (show Cov.full r p u = [] from by simp [Cov.full, hok])
    have hl : ∀ (wx : World), Below w.heap.size w wx → Calls Try.prog 56 #[.slice A r.length c, .int .i64 p, .int .i64 u] wx (ok false wx.heap.size wx) := fun wx hb => by
      rw [← hok]; exact l34Ok_c _ r p u wx ((h.below hb (Nat.le_refl _)).mono hb.size)
    have Hl := hid hl
    clear hok hl
    go_wp2_with fail
    refine wp_loop_rounds 1 ?_
    rw [rounds_succ]
    by_cases hu : 0 ≤ u
    · go_wp2_with (go_at_call 56; refine (Hl.out _ ?_).mono ?_; exact (Below.refl _ _).alloc (Nat.le_refl _) _; rintro e w1 ⟨rfl, hb1⟩)
      go_ret
      exact ⟨_, rfl, by rw [Hf.out]; exact (two_nil _ hb1), ((Below.refl _ _).alloc (Nat.le_refl _) _).trans (hb1.mono (by simp))⟩
    · go_wp2
      go_ret
      exact ⟨_, rfl, by rw [Hf.out]; exact ⟨[], two_own _ (Nat.le_refl _) rfl, List.nodup_nil, fun _ h => by cases h⟩, (Below.refl _ _).alloc (Nat.le_refl _) _⟩
  | true =>
    have Hf := hid (show Cov.full r p u = Cov.plan r p (Cov.num p u) from by simp [Cov.full, hok])
    have hp := Cov.ok_parts.1 hok
    have hp1 := hp.2.1.1; have hp9 := hp.2.1.2; have hu0 := hp.2.2.1.1; have hu40 := hp.2.2.1.2; have hr8 := hp.2.2.2
    have hl : ∀ (wx : World), Below w.heap.size w wx → Calls Try.prog 56 #[.slice A r.length c, .int .i64 p, .int .i64 u] wx (ok true wx.heap.size wx) := fun wx hb => by
      rw [← hok]; exact l34Ok_c _ r p u wx ((h.below hb (Nat.le_refl _)).mono hb.size)
    have Hl := hid hl
    clear hok hp hl
    go_wp2_with fail
    go_loopw [7, 8, 9] (fun pv nv tv wr => ∃ (i : Nat) (t : Int) (n : Nat) , tv = .int .i64 t ∧ t = i * p ∧ 0 ≤ t ∧ t ≤ 49 ∧ nv = .int .i64 n ∧ n = Cov.nx r p i ∧ n ≤ 8 ∧ i ≤ 41 ∧ (∀ j : Nat, j < i → (j : Int) * p ≤ u) ∧ Own tTwo 45 w.heap.size wr pv (Cov.plan r p i) [] ∧ Below w.heap.size w wr) (fun _ _ tv _ => (50 - intOf tv).toNat)
    case atStart => exact ⟨0, 0, 0, rfl, by simp, by omega, by omega, rfl, rfl, by omega, by omega, fun j hj => absurd hj (by omega), two_own _ (Nat.le_refl _) rfl, (Below.refl _ _).alloc (Nat.le_refl _) _⟩
    case round =>
      obtain ⟨i, t, n, rfl, ht, ht0, ht49, rfl, hn, hn8, hi41, hj, ho, hbw⟩ := hrel
      have Ht := hid ht; have Hn := hid hn; have Hj := hid hj; have Ho := hid ho; have Hbw := hid hbw
      have hr := (h.below hbw (Nat.le_refl _)).mono hbw.size
      have hsz := hbw.size
      clear ht hn hj ho hbw
      by_cases htu : t ≤ u
      · have hi40 := cov_small Ht.out htu hp1 hu40
        go_wp2_with fail
        refine (Hl.out _ Hbw.out).mono ?_
        rintro e wq ⟨rfl, hbq⟩
        have Ho := hid (Ho.out.below hbq (Nat.le_refl _))
        have hr := (hr.below hbq (Nat.le_refl _)).mono hbq.size
        have Hbw := hid (Hbw.out.trans (hbq.mono Hbw.out.size))
        have hsz := Hbw.out.size
        clear hbq
        by_cases hlt : n < r.length
        · obtain ⟨x, hx⟩ := get_ex hlt
          obtain ⟨b, o, rfl, _, _, hcx⟩ := hr.int hx
          by_cases hxt : x ≤ t
          · have Hh := hid (hit_t (i := i) (by rw [← Hn.out]; exact hx) Ht.out hxt)
            clear hx hr h
            go_wp2_with (at_builtin; go_loud (refine wpList_appF rfl (.tmp 42) (.tmp 44) 34 rfl tTwo tTwo_flat (B := w.heap.size) (v := u7) Try.underlying34 hi hz0 hz1 hz2 rfl (by decide) (by decide) rfl (Ho.out.below ?_ (Nat.le_refl _)) _ 1 1 rfl (Sl.box' (T := tTwo) (x := (t, ↑n)) _ ?_ ⟨rfl, rfl⟩) ?_ ?_ ?_); go_loud ((repeat (first | exact Below.refl _ _ | refine Below.alloc ?_ (by simp) _ | refine Below.setCell ?_ (by simp) _)); (simp); (rw [Cov.plan_length]; simp; omega); (simp; omega); intro v2 w2 ho2 hg2 hv2))
            go_roundw
            case rel => exact ⟨i + 1, t + p, n + 1, rfl, cov_t Ht.out, by omega, by omega, by go_num, by rw [nx_hit Hh.out, ← Hn.out], by omega, by omega, cov_next Ht.out htu Hj.out, plan_step ho2 Ht.out (by rw [Hn.out]; exact let_t Hh.out), ((Hbw.out.alloc hsz _).alloc (by simp; omega) _).grown hg2 (by simp; omega) (fun k hk => (Ho.out.top k hk).1)⟩
            case measure => simp [intOf]; omega
          · have Hh := hid (hit_f (i := i) (by rw [← Hn.out]; exact hx) Ht.out hxt)
            clear hx hr h
            go_wp2_with (at_builtin; go_loud (refine wpList_appF rfl (.tmp 42) (.tmp 44) 34 rfl tTwo tTwo_flat (B := w.heap.size) (v := u7) Try.underlying34 hi hz0 hz1 hz2 rfl (by decide) (by decide) rfl (Ho.out.below ?_ (Nat.le_refl _)) _ 1 1 rfl (Sl.box' (T := tTwo) (x := (t, -1)) _ ?_ ⟨rfl, rfl⟩) ?_ ?_ ?_); go_loud ((repeat (first | exact Below.refl _ _ | refine Below.alloc ?_ (by simp) _ | refine Below.setCell ?_ (by simp) _)); (simp); (rw [Cov.plan_length]; simp; omega); (simp; omega); intro v2 w2 ho2 hg2 hv2))
            go_roundw
            case rel => exact ⟨i + 1, t + p, n, rfl, cov_t Ht.out, by omega, by omega, rfl, by rw [nx_miss Hh.out, ← Hn.out], by omega, by omega, cov_next Ht.out htu Hj.out, plan_step ho2 Ht.out (let_f Hh.out), ((Hbw.out.alloc hsz _).alloc (by simp; omega) _).grown hg2 (by simp; omega) (fun k hk => (Ho.out.top k hk).1)⟩
            case measure => simp [intOf]; omega
        · have Hh := hid (hit_end (r := r) (p := p) (i := i) (by rw [← Hn.out]; exact hlt))
          clear hr h
          go_wp2_with (at_builtin; go_loud (refine wpList_appF rfl (.tmp 42) (.tmp 44) 34 rfl tTwo tTwo_flat (B := w.heap.size) (v := u7) Try.underlying34 hi hz0 hz1 hz2 rfl (by decide) (by decide) rfl (Ho.out.below ?_ (Nat.le_refl _)) _ 1 1 rfl (Sl.box' (T := tTwo) (x := (t, -1)) _ ?_ ⟨rfl, rfl⟩) ?_ ?_ ?_); go_loud ((repeat (first | exact Below.refl _ _ | refine Below.alloc ?_ (by simp) _ | refine Below.setCell ?_ (by simp) _)); (simp); (rw [Cov.plan_length]; simp; omega); (simp; omega); intro v2 w2 ho2 hg2 hv2))
          go_roundw
          case rel => exact ⟨i + 1, t + p, n, rfl, cov_t Ht.out, by omega, by omega, rfl, by rw [nx_miss Hh.out, ← Hn.out], by omega, by omega, cov_next Ht.out htu Hj.out, plan_step ho2 Ht.out (let_f Hh.out), ((Hbw.out.alloc hsz _).alloc (by simp; omega) _).grown hg2 (by simp; omega) (fun k hk => (Ho.out.top k hk).1)⟩
          case measure => simp [intOf]; omega
      · have Hi := hid (Cov.num_eq hp1 hu0 (by rw [← Ht.out]; omega) Hj.out)
        go_wp2
        go_ret
        exact ⟨_, rfl, ⟨[], by rw [Hf.out, ← Hi.out]; exact Ho.out, List.nodup_nil, fun _ h => by cases h⟩, Hbw.out⟩
end Go.Proofs.Ytbeiacoplhbmeaa
