/- The laws' own comparing of letters, packets, mixes and runs: what is alike is found alike; how many wait. -/
import Derived.Test.YtbkckjobhopicaaWEq
import Derived.Test.YtbkckjobhopicaaWRun2
import Derived.Deep.RegionHeld3
namespace Go.Proofs.Ytbkckjobhopicaa
open Go Go.RowKit
set_option maxHeartbeats 400000
theorem sameInts_t (v1 v2 : Value) (xs : List Int) (w : World) (h1 : SlB tInt w.heap.size w v1 xs) (h2 : SlB tInt w.heap.size w v2 xs) :
    Calls Try.prog 49 #[v1, v2] w (ok true w.heap.size w) := by
  have := sameInts_c v1 v2 xs xs w h1 h2
  rwa [decide_eq_true rfl] at this
theorem samePacket_t (p : Pk) (vh vb uh ub : Value) (w : World) (h1 : SlB tInt w.heap.size w vh p.hd) (h2 : SlB tInt w.heap.size w vb p.bd) (h3 : SlB tInt w.heap.size w uh p.hd) (h4 : SlB tInt w.heap.size w ub p.bd) :
    Calls Try.prog 21 #[.agg #[.int .i64 p.el, vh, .int .i64 p.tag, vb], .agg #[.int .i64 p.el, uh, .int .i64 p.tag, ub]] w (ok true w.heap.size w) := by
  have H1 := hid (fun (wx : World) (hb : Below w.heap.size w wx) => h1.go hb)
  have H2 := hid (fun (wx : World) (hb : Below w.heap.size w wx) => h2.go hb)
  have H3 := hid (fun (wx : World) (hb : Below w.heap.size w wx) => h3.go hb)
  have H4 := hid (fun (wx : World) (hb : Below w.heap.size w wx) => h4.go hb)
  clear h1 h2 h3 h4
  have g1 : (p.el == p.el) = true := by simp
  have g2 : (p.tag == p.tag) = true := by simp
  go_enter Try.func21, Try.ntmps21
  go_wp2_with (first | (go_at_call 49; with_reducible refine (sameInts_t vh uh p.hd _ ?_ ?_).mono ?_; (refine H1.out _ ?_; (repeat (first | exact Below.refl _ _ | refine below_drew1 ?_ | refine Below.alloc ?_ (by simp <;> omega) _))); (refine H3.out _ ?_; (repeat (first | exact Below.refl _ _ | refine below_drew1 ?_ | refine Below.alloc ?_ (by simp <;> omega) _))); rintro e w1 ⟨rfl, hb1⟩; have hc1 : Below w.heap.size w w1 := bt (by (repeat (first | exact Below.refl _ _ | refine below_drew1 ?_ | refine Below.alloc ?_ (by simp <;> omega) _))) hb1; have kb := box2 hb1; have k2 := kb.1 2 _ rfl; have k3 := kb.1 3 _ rfl; have l2 := kb.2 2 _ rfl; have l3 := kb.2 3 _ rfl; clear kb) | (go_at_call 49; with_reducible refine (sameInts_t vb ub p.bd _ ?_ ?_).mono ?_; exact H2.out _ hc1; exact H4.out _ hc1; rintro e w2 ⟨rfl, hb2⟩))
  go_ret
  exact ⟨rfl, bt hc1 hb2⟩
theorem samePeeled_t (x : Pl) (vh vb uh ub : Value) (w : World) (h1 : SlB tInt w.heap.size w vh x.pk.hd) (h2 : SlB tInt w.heap.size w vb x.pk.bd) (h3 : SlB tInt w.heap.size w uh x.pk.hd) (h4 : SlB tInt w.heap.size w ub x.pk.bd) :
    Calls Try.prog 71 #[.agg #[.int .i64 x.kind, .int .i64 x.next, .int .i64 x.pk.el, vh, .int .i64 x.pk.tag, vb], .agg #[.int .i64 x.kind, .int .i64 x.next, .int .i64 x.pk.el, uh, .int .i64 x.pk.tag, ub]] w (ok true w.heap.size w) := by
  have H1 := hid (fun (wx : World) (hb : Below w.heap.size w wx) => h1.go hb)
  have H2 := hid (fun (wx : World) (hb : Below w.heap.size w wx) => h2.go hb)
  have H3 := hid (fun (wx : World) (hb : Below w.heap.size w wx) => h3.go hb)
  have H4 := hid (fun (wx : World) (hb : Below w.heap.size w wx) => h4.go hb)
  clear h1 h2 h3 h4
  have g1 : (x.kind == x.kind) = true := by simp
  have g2 : (x.next == x.next) = true := by simp
  go_enter Try.func71, Try.ntmps71
  go_wp2_with (go_at_call 21; with_reducible refine (samePacket_t x.pk vh vb uh ub _ ?_ ?_ ?_ ?_).mono ?_; (refine H1.out _ ?_; (repeat (first | exact Below.refl _ _ | refine below_drew1 ?_ | refine Below.alloc ?_ (by simp <;> omega) _))); (refine H2.out _ ?_; (repeat (first | exact Below.refl _ _ | refine below_drew1 ?_ | refine Below.alloc ?_ (by simp <;> omega) _))); (refine H3.out _ ?_; (repeat (first | exact Below.refl _ _ | refine below_drew1 ?_ | refine Below.alloc ?_ (by simp <;> omega) _))); (refine H4.out _ ?_; (repeat (first | exact Below.refl _ _ | refine below_drew1 ?_ | refine Below.alloc ?_ (by simp <;> omega) _))); rintro e w1 ⟨rfl, hb1⟩; have hc1 : Below w.heap.size w w1 := bt (by (repeat (first | exact Below.refl _ _ | refine below_drew1 ?_ | refine Below.alloc ?_ (by simp <;> omega) _))) hb1)
  go_ret
  exact ⟨rfl, hc1⟩
set_option maxRecDepth 100000 in
theorem sameLetters_t (v1 v2 : Value) (xs : List Lt) (w : World) (h1 : SlB tLt w.heap.size w v1 xs) (h2 : SlB tLt w.heap.size w v2 xs) :
    Calls Try.prog 19 #[v1, v2] w (ok true w.heap.size w) := by
  obtain ⟨A1, c1, rfl, a1, a2, a3⟩ := h1.form
  obtain ⟨A2, c2, rfl, b1, b2, b3⟩ := h2.form
  clear a2 b2
  go_enter Try.func19, Try.ntmps19
  go_wp2
  go_loopw [5] (fun i wr => ∃ k : Nat, k ≤ xs.length ∧ i = .int .i64 k ∧ Below w.heap.size w wr) (fun i _ => xs.length - (intOf i).toNat)
  case atStart => exact ⟨0, by omega, rfl, Below.refl _ _⟩
  case round =>
    obtain ⟨k, hk, rfl, hb⟩ := hrel
    have r1 := h1.go hb
    have r2 := h2.go hb
    have Hb := hid hb
    clear hb
    by_cases hlt : k < xs.length
    · obtain ⟨x, hx⟩ := get_ex hlt
      obtain ⟨b, o, rfl, _, _, p1, p2, p3⟩ := r1.lt3 hx
      obtain ⟨b', o', rfl, _, _, q1, q2, q3⟩ := r2.lt3 hx
      clear hx r1 r2 h1 h2
      go_wp2
      go_quiet (fail)
      go_wp2
      go_roundw
      case rel => exact ⟨k + 1, by omega, by go_num, below_drewN Hb.out _⟩
      case measure => simp [intOf]; omega
    · go_wp2
      go_ret
      exact ⟨rfl, Hb.out⟩
set_option maxRecDepth 100000 in
theorem samePool_t (v1 v2 : Value) (xs : List Pl) (w : World) (h1 : SlB tPl w.heap.size w v1 xs) (h2 : SlB tPl w.heap.size w v2 xs) :
    Calls Try.prog 50 #[v1, v2] w (ok true w.heap.size w) := by
  obtain ⟨A1, c1, rfl, a1, a2, a3⟩ := h1.form
  obtain ⟨A2, c2, rfl, b1, b2, b3⟩ := h2.form
  clear a2 b2
  go_enter Try.func50, Try.ntmps50
  go_wp2
  go_loopw [5] (fun i wr => ∃ k : Nat, k ≤ xs.length ∧ i = .int .i64 k ∧ Below w.heap.size w wr) (fun i _ => xs.length - (intOf i).toNat)
  case atStart => exact ⟨0, by omega, rfl, Below.refl _ _⟩
  case round =>
    obtain ⟨k, hk, rfl, hb⟩ := hrel
    have r1 := h1.go hb
    have r2 := h2.go hb
    have Hb := hid hb
    clear hb
    by_cases hlt : k < xs.length
    · obtain ⟨x, hx⟩ := get_ex hlt
      obtain ⟨b, o, vh, vb, rfl, _, _, s1, s2, p1, p2, p3, p4, p5, p6⟩ := r1.pl hx
      obtain ⟨b', o', uh, ub, rfl, _, _, s3, s4, q1, q2, q3, q4, q5, q6⟩ := r2.pl hx
      obtain ⟨Ah, ch, rfl, _, _, _⟩ := s1.form
      obtain ⟨Ab, cb, rfl, _, _, _⟩ := s2.form
      obtain ⟨Bh, dh, rfl, _, _, _⟩ := s3.form
      obtain ⟨Bb, db, rfl, _, _, _⟩ := s4.form
      have S1 := hid s1; have S2 := hid s2; have S3 := hid s3; have S4 := hid s4
      clear s1 s2 s3 s4
      clear hx r1 r2 h1 h2
      go_wp2
      go_still_tail 8, (by kernel_rfl)
      change wpList _ _ _ _ _ wr.drew
      have hd : Below wr.heap.size wr wr.drew := below_drewN (Below.refl _ _) 1
      generalize wr.drew = wt at *
      have Hd := hid (bt Hb.out hd)
      have S1 := hid (S1.out.go hd); have S2 := hid (S2.out.go hd); have S3 := hid (S3.out.go hd); have S4 := hid (S4.out.go hd)
      clear hd
      go_wp2_with (go_at_call 71; with_reducible refine (samePeeled_t x _ _ _ _ _ ?_ ?_ ?_ ?_).mono ?_; exact S1.out; exact S2.out; exact S3.out; exact S4.out; rintro e w5 ⟨rfl, hb5⟩)
      go_roundw
      case rel => exact ⟨k + 1, by omega, by go_num, bt Hd.out hb5⟩
      case measure => simp [intOf]; omega
    · go_wp2
      go_ret
      exact ⟨rfl, Hb.out⟩
theorem sameMix_t (x : Mx) (vs vp us up : Value) (w : World) (h1 : SlB tInt w.heap.size w vs x.seen) (h2 : SlB tPl w.heap.size w vp x.pool) (h3 : SlB tInt w.heap.size w us x.seen) (h4 : SlB tPl w.heap.size w up x.pool) :
    Calls Try.prog 20 #[.agg #[.int .i64 x.sec, vs, vp], .agg #[.int .i64 x.sec, us, up]] w (ok true w.heap.size w) := by
  have H1 := hid (fun (wx : World) (hb : Below w.heap.size w wx) => h1.go hb)
  have H2 := hid (fun (wx : World) (hb : Below w.heap.size w wx) => h2.go hb)
  have H3 := hid (fun (wx : World) (hb : Below w.heap.size w wx) => h3.go hb)
  have H4 := hid (fun (wx : World) (hb : Below w.heap.size w wx) => h4.go hb)
  clear h1 h2 h3 h4
  have g1 : (x.sec == x.sec) = true := by simp
  go_enter Try.func20, Try.ntmps20
  go_wp2_with (first | (go_at_call 49; with_reducible refine (sameInts_t vs us x.seen _ ?_ ?_).mono ?_; (refine H1.out _ ?_; (repeat (first | exact Below.refl _ _ | refine below_drew1 ?_ | refine Below.alloc ?_ (by simp <;> omega) _))); (refine H3.out _ ?_; (repeat (first | exact Below.refl _ _ | refine below_drew1 ?_ | refine Below.alloc ?_ (by simp <;> omega) _))); rintro e w1 ⟨rfl, hb1⟩; have hc1 : Below w.heap.size w w1 := bt (by (repeat (first | exact Below.refl _ _ | refine below_drew1 ?_ | refine Below.alloc ?_ (by simp <;> omega) _))) hb1; have kb := box2 hb1; have k2 := kb.1 2 _ rfl; have l2 := kb.2 2 _ rfl; clear kb) | (go_at_call 50; with_reducible refine (samePool_t vp up x.pool _ ?_ ?_).mono ?_; exact H2.out _ hc1; exact H4.out _ hc1; rintro e w2 ⟨rfl, hb2⟩))
  go_ret
  exact ⟨rfl, bt hc1 hb2⟩
theorem pick6 {w1 : World} {n : Nat} {a b c d e f : Value} (h : ∀ (i : Nat) v, (#[a, b, c, d, e, f] : Array Value)[i]? = some v → w1.cell? ⟨n, i, none⟩ = some v) :
    w1.cell? ⟨n, 0, none⟩ = some a ∧ w1.cell? ⟨n, 1, none⟩ = some b ∧ w1.cell? ⟨n, 2, none⟩ = some c ∧ w1.cell? ⟨n, 3, none⟩ = some d ∧ w1.cell? ⟨n, 4, none⟩ = some e ∧ w1.cell? ⟨n, 5, none⟩ = some f :=
  ⟨h 0 _ rfl, h 1 _ rfl, h 2 _ rfl, h 3 _ rfl, h 4 _ rfl, h 5 _ rfl⟩
set_option maxRecDepth 100000 in
set_option maxHeartbeats 1600000 in
theorem sameWorld_t (x : Wd) (v u : Value) (w : World) (h : WdB w.heap.size w v x) (h' : WdB w.heap.size w u x) : Calls Try.prog 7 #[v, u] w (ok true w.heap.size w) := by
  obtain ⟨vm, vs, vn, vg, rfl, hm, hs, hn, hg⟩ := h
  obtain ⟨um, us, un, ug, rfl, jm, js, jn, jg⟩ := h'
  obtain ⟨A1, c1, rfl, _, _, m3⟩ := hm.form
  obtain ⟨A3, c3, rfl, _, _, n3⟩ := hn.form
  obtain ⟨B1, d1, rfl, _, _, _⟩ := jm.form
  obtain ⟨B3, d3, rfl, _, _, _⟩ := jn.form
  have g1 : (x.made != x.made) = false := by simp
  have g2 : (x.lost != x.lost) = false := by simp
  have g3 : ((x.mixes.length : Int) != (x.mixes.length : Int)) = false := by simp
  have g4 : ((x.net.length : Int) != (x.net.length : Int)) = false := by simp
  go_enter Try.func7, Try.ntmps7
  go_wp2_with fail
  refine (sameLetters_t vs us x.sent _ (hs.go (bt (lit_below _ _) (lit_below _ _))) (js.go (bt (lit_below _ _) (lit_below _ _)))).mono ?_
  rintro e w1 ⟨rfl, hb1⟩
  have hc : Below w.heap.size w w1 := bt (bt (lit_below _ _) (lit_below _ _)) hb1
  have kb := box2 hb1
  have kv := pick6 kb.1
  have ku := pick6 kb.2
  have z0 : w.heap.size < w1.heap.size := by have := hb1.size; simp at this; omega
  have z1 : w.heap.size + 1 < w1.heap.size := by have := hb1.size; simp at this; omega
  have HV := hid (six_cells z0 kv.1 kv.2.1 kv.2.2.1 kv.2.2.2.1 kv.2.2.2.2.1 kv.2.2.2.2.2)
  have HU := hid (six_cells z1 ku.1 ku.2.1 ku.2.2.1 ku.2.2.2.1 ku.2.2.2.2.1 ku.2.2.2.2.2)
  have Hm := hid (hm.go hc); have Hn := hid (hn.go hc); have Hg := hid (hg.go hc)
  have Jm := hid (jm.go hc); have Jn := hid (jn.go hc); have Jg := hid (jg.go hc)
  have Hc := hid hc
  clear hm hs hn hg jm js jn jg hb1 kb kv ku hc
  obtain ⟨k0, k1, k2, k3, k4, k5⟩ := HV.out _ (Below.refl _ _)
  obtain ⟨l0, l1, l2, l3, l4, l5⟩ := HU.out _ (Below.refl _ _)
  go_wp2_with fail
  refine (sameLetters_t vg ug x.got _ Hg.out Jg.out).mono ?_
  rintro e w2 ⟨rfl, hb2⟩
  have Hc := hid (bt Hc.out hb2)
  have HV := hid (fun (wx : World) (hb : Below w2.heap.size w2 wx) => HV.out wx (bt hb2 hb))
  have HU := hid (fun (wx : World) (hb : Below w2.heap.size w2 wx) => HU.out wx (bt hb2 hb))
  have Hm := hid (Hm.out.go hb2); have Hn := hid (Hn.out.go hb2)
  have Jm := hid (Jm.out.go hb2); have Jn := hid (Jn.out.go hb2)
  have z0 := Nat.lt_of_lt_of_le z0 hb2.size
  have z1 := Nat.lt_of_lt_of_le z1 hb2.size
  clear k0 k1 k2 k3 k4 k5 l0 l1 l2 l3 l4 l5 hb2 Hg Jg
  obtain ⟨k0, k1, k2, k3, k4, k5⟩ := HV.out _ (Below.refl _ _)
  obtain ⟨l0, l1, l2, l3, l4, l5⟩ := HU.out _ (Below.refl _ _)
  go_wp2
  clear k0 k1 k2 k3 k4 k5 l0 l1 l2 l3 l4 l5
  go_loopw [5] (fun i wr => ∃ k : Nat, k ≤ x.mixes.length ∧ i = .int .i64 k ∧ Below w2.heap.size w2 wr) (fun i _ => x.mixes.length - (intOf i).toNat)
  case atStart => exact ⟨0, by omega, rfl, Below.refl _ _⟩
  case round =>
    obtain ⟨k, hk, rfl, hb⟩ := hrel
    have r1 := Hm.out.go hb
    have r2 := Jm.out.go hb
    obtain ⟨k0, k1, k2, k3, k4, k5⟩ := HV.out _ hb
    obtain ⟨l0, l1, l2, l3, l4, l5⟩ := HU.out _ hb
    have zr0 := Nat.lt_of_lt_of_le z0 hb.size
    have zr1 := Nat.lt_of_lt_of_le z1 hb.size
    have Hb := hid hb
    clear hb
    by_cases hlt : k < x.mixes.length
    · obtain ⟨y, hx⟩ := get_ex hlt
      obtain ⟨b, o, vs, vp, rfl, _, hbl, s1, s2, p1, p2, p3⟩ := r1.mx hx
      obtain ⟨b', o', us, up, rfl, _, hbl', s3, s4, q1, q2, q3⟩ := r2.mx hx
      obtain ⟨Ah, ch, rfl, _, _, _⟩ := s1.form
      obtain ⟨Ab, cb, rfl, _, _, _⟩ := s2.form
      obtain ⟨Bh, dh, rfl, _, _, _⟩ := s3.form
      obtain ⟨Bb, db, rfl, _, _, _⟩ := s4.form
      have S1 := hid s1; have S2 := hid s2; have S3 := hid s3; have S4 := hid s4
      have HS := hid (fun (wx : World) (hb : Below wr.heap.size wr wx) => And.intro hb (And.intro ((hb.cell (p := ⟨w.heap.size, 0, none⟩) zr0).trans k0) (And.intro ((hb.cell (p := ⟨w.heap.size + 1, 0, none⟩) zr1).trans l0) (And.intro ((hb.cell (p := ⟨b, o + k * 3, none⟩) hbl).trans p1) (And.intro ((hb.cell (p := ⟨b, o + k * 3 + 1, none⟩) hbl).trans p2) (And.intro ((hb.cell (p := ⟨b, o + k * 3 + 2, none⟩) hbl).trans p3) (And.intro ((hb.cell (p := ⟨b', o' + k * 3, none⟩) hbl').trans q1) (And.intro ((hb.cell (p := ⟨b', o' + k * 3 + 1, none⟩) hbl').trans q2) ((hb.cell (p := ⟨b', o' + k * 3 + 2, none⟩) hbl').trans q3)))))))))
      clear hx r1 r2 s1 s2 s3 s4
      go_wp2
      refine wp_region_held_drew (S := (fun w' => Below wr.heap.size wr w' ∧ w'.cell? ⟨w.heap.size, 0, none⟩ = some (.slice (some ⟨b, o, none⟩) x.mixes.length c1) ∧ w'.cell? ⟨w.heap.size + 1, 0, none⟩ = some (.slice (some ⟨b', o', none⟩) x.mixes.length d1) ∧  w'.cell? ⟨b, o + k * 3, none⟩ = some (.int .i64 y.sec) ∧ w'.cell? ⟨b, o + k * 3 + 1, none⟩ = some (.slice Ah y.seen.length ch) ∧ w'.cell? ⟨b, o + k * 3 + 2, none⟩ = some (.slice Ab y.pool.length cb) ∧  w'.cell? ⟨b', o' + k * 3, none⟩ = some (.int .i64 y.sec) ∧ w'.cell? ⟨b', o' + k * 3 + 1, none⟩ = some (.slice Bh y.seen.length dh) ∧ w'.cell? ⟨b', o' + k * 3 + 2, none⟩ = some (.slice Bb y.pool.length db))) (by kernel_rfl) ?_ (fun hHeld => ?_)
      · (try dsimp only); first | assumption | exact HS.out _ (bt (And.left (by assumption)) hb5) | exact HS.out _ (below_drew1 (Below.refl _ _))
      refine wpAnyH_take (i := 0) (v := ?vvq10) rfl (by kernel_rfl) (by kernel_rfl) (by kernel_rfl) (fun _ _ _ h => h) (Or.inl ⟨by rfl, ?hyq10⟩) (by assumption) ?restq10
      case hyq10 => ((intro w hSw); (try dsimp only at hSw); go_simp; try with_reducible rfl)
      try simp only [List.getElem_toArray, List.getElem_cons_succ, List.getElem_cons_zero, Act.put, List.setIfInBounds_toArray, List.set_cons_zero, List.set_cons_succ]
      refine wpAnyH_take (i := 1) (v := ?vvq11) rfl (by kernel_rfl) (by kernel_rfl) (by kernel_rfl) (fun _ _ _ h => h) (Or.inl ⟨by rfl, ?hyq11⟩) (by assumption) ?restq11
      case hyq11 => ((intro w hSw); (try dsimp only at hSw); go_simp; try with_reducible rfl)
      try simp only [List.getElem_toArray, List.getElem_cons_succ, List.getElem_cons_zero, Act.put, List.setIfInBounds_toArray, List.set_cons_zero, List.set_cons_succ]
      refine wpAnyH_take (i := 2) (v := ?vvq12) rfl (by kernel_rfl) (by kernel_rfl) (by kernel_rfl) (fun _ _ _ h => h) (Or.inl ⟨by rfl, ?hyq12⟩) (by assumption) ?restq12
      case hyq12 => ((intro w hSw); (try dsimp only at hSw); go_simp; try with_reducible rfl)
      try simp only [List.getElem_toArray, List.getElem_cons_succ, List.getElem_cons_zero, Act.put, List.setIfInBounds_toArray, List.set_cons_zero, List.set_cons_succ]
      refine wpAnyH_take (i := 3) (v := ?vvq13) rfl (by kernel_rfl) (by kernel_rfl) (by kernel_rfl) (fun _ _ _ h => h) (Or.inl ⟨by rfl, ?hyq13⟩) (by assumption) ?restq13
      case hyq13 => ((intro w hSw); (try dsimp only at hSw); go_simp; try with_reducible rfl)
      try simp only [List.getElem_toArray, List.getElem_cons_succ, List.getElem_cons_zero, Act.put, List.setIfInBounds_toArray, List.set_cons_zero, List.set_cons_succ]
      refine wpAnyH_take (i := 4) (v := ?vvq14) rfl (by kernel_rfl) (by kernel_rfl) (by kernel_rfl) (fun _ _ _ h => h) (Or.inl ⟨by rfl, ?hyq14⟩) (by assumption) ?restq14
      case hyq14 => ((intro w hSw); (try dsimp only at hSw); go_simp; try with_reducible rfl)
      try simp only [List.getElem_toArray, List.getElem_cons_succ, List.getElem_cons_zero, Act.put, List.setIfInBounds_toArray, List.set_cons_zero, List.set_cons_succ]
      refine wpAnyH_take (i := 5) (v := ?vvq15) rfl (by kernel_rfl) (by kernel_rfl) (by kernel_rfl) (fun _ _ _ h => h) (Or.inl ⟨by rfl, ?hyq15⟩) (by assumption) ?restq15
      case hyq15 => ((intro w hSw); (try dsimp only at hSw); go_simp; try with_reducible rfl)
      try simp only [List.getElem_toArray, List.getElem_cons_succ, List.getElem_cons_zero, Act.put, List.setIfInBounds_toArray, List.set_cons_zero, List.set_cons_succ]
      refine wpAnyH_take (i := 6) (v := ?vvq16) rfl (by kernel_rfl) (by kernel_rfl) (by kernel_rfl) (fun _ _ _ h => h) (Or.inl ⟨by rfl, ?hyq16⟩) (by assumption) ?restq16
      case hyq16 => ((intro w hSw); (try dsimp only at hSw); go_simp; try with_reducible rfl)
      try simp only [List.getElem_toArray, List.getElem_cons_succ, List.getElem_cons_zero, Act.put, List.setIfInBounds_toArray, List.set_cons_zero, List.set_cons_succ]
      refine wpAnyH_take (i := 7) (v := ?vvq17) rfl (by kernel_rfl) (by kernel_rfl) (by kernel_rfl) (fun _ _ _ h => h) (Or.inl ⟨by rfl, ?hyq17⟩) (by assumption) ?restq17
      case hyq17 => ((intro w hSw); (try dsimp only at hSw); go_simp; try with_reducible rfl)
      try simp only [List.getElem_toArray, List.getElem_cons_succ, List.getElem_cons_zero, Act.put, List.setIfInBounds_toArray, List.set_cons_zero, List.set_cons_succ]
      refine wpAnyH_take (i := 8) (v := ?vvq18) rfl (by kernel_rfl) (by kernel_rfl) (by kernel_rfl) (fun _ _ _ h => h) (Or.inl ⟨by rfl, ?hyq18⟩) (by assumption) ?restq18
      case hyq18 => ((intro w hSw); (try dsimp only at hSw); go_simp; try with_reducible rfl)
      try simp only [List.getElem_toArray, List.getElem_cons_succ, List.getElem_cons_zero, Act.put, List.setIfInBounds_toArray, List.set_cons_zero, List.set_cons_succ]
      refine wpAnyH_take (i := 9) (v := ?vvq19) rfl (by kernel_rfl) (by kernel_rfl) (by kernel_rfl) (fun _ _ _ h => h) (Or.inl ⟨by rfl, ?hyq19⟩) (by assumption) ?restq19
      case hyq19 => ((intro w hSw); (try dsimp only at hSw); go_simp; try with_reducible rfl)
      try simp only [List.getElem_toArray, List.getElem_cons_succ, List.getElem_cons_zero, Act.put, List.setIfInBounds_toArray, List.set_cons_zero, List.set_cons_succ]
      refine wpAnyH_ready (rs := [10]) (by kernel_rfl) (by simp) ?_
      refine AllReadyH.cons rfl (fun K hK => ?_) AllReadyH.nil
      go_simp
      (go_at_call 20; with_reducible refine (sameMix_t y _ _ _ _ _ ?_ ?_ ?_ ?_).mono ?_; (refine S1.out.go ?_; (repeat (first | exact Below.refl _ _ | refine below_drew1 ?_ | refine Below.alloc ?_ (by simp <;> omega) _))); (refine S2.out.go ?_; (repeat (first | exact Below.refl _ _ | refine below_drew1 ?_ | refine Below.alloc ?_ (by simp <;> omega) _))); (refine S3.out.go ?_; (repeat (first | exact Below.refl _ _ | refine below_drew1 ?_ | refine Below.alloc ?_ (by simp <;> omega) _))); (refine S4.out.go ?_; (repeat (first | exact Below.refl _ _ | refine below_drew1 ?_ | refine Below.alloc ?_ (by simp <;> omega) _))); rintro e w' ⟨rfl, hb5⟩)
      refine hK.out _ _ ?_ (fun hHeld => ?_)
      · (try dsimp only); first | assumption | exact HS.out _ (bt (And.left (by assumption)) hb5) | exact HS.out _ (below_drew1 (Below.refl _ _))
      clear hK K
      refine wpAnyH_take (i := 11) (v := ?vvq111) rfl (by kernel_rfl) (by kernel_rfl) (by kernel_rfl) (fun _ _ _ h => h) (Or.inl ⟨by rfl, ?hyq111⟩) (by assumption) ?restq111
      case hyq111 => ((intro w hSw); (try dsimp only at hSw); go_simp; try with_reducible rfl)
      try simp only [List.getElem_toArray, List.getElem_cons_succ, List.getElem_cons_zero, Act.put, List.setIfInBounds_toArray, List.set_cons_zero, List.set_cons_succ]
      refine wpAnyH_done (by kernel_rfl) ?_ _
      go_wp2
      go_roundw
      case rel => exact ⟨k + 1, by omega, by go_num, bt Hb.out (bt (below_drew1 (Below.refl _ _)) hb5)⟩
      case measure => simp [intOf]; omega
    · obtain ⟨wA, rfl⟩ : ∃ wA : World, wA = wr := ⟨_, rfl⟩
      have Hc := hid (bt Hc.out Hb.out)
      have HV := hid (fun (wx : World) (hb : Below wA.heap.size wA wx) => HV.out wx (bt Hb.out hb))
      have HU := hid (fun (wx : World) (hb : Below wA.heap.size wA wx) => HU.out wx (bt Hb.out hb))
      have Hn := hid (Hn.out.go Hb.out); have Jn := hid (Jn.out.go Hb.out)
      clear r1 r2 Hm Jm Hb
      go_wp2
      clear k0 k1 k2 k3 k4 k5 l0 l1 l2 l3 l4 l5
      go_loopw [6] (fun i wr => ∃ k : Nat, k ≤ x.net.length ∧ i = .int .i64 k ∧ Below wA.heap.size wA wr) (fun i _ => x.net.length - (intOf i).toNat)
      case atStart => exact ⟨0, by omega, rfl, Below.refl _ _⟩
      case round =>
        obtain ⟨k8, hk8, rfl, hb⟩ := hrel
        have r1 := Hn.out.go hb
        have r2 := Jn.out.go hb
        obtain ⟨k0, k1, k2, k3, k4, k5⟩ := HV.out _ hb
        obtain ⟨l0, l1, l2, l3, l4, l5⟩ := HU.out _ hb
        have zs0 := Nat.lt_of_lt_of_le zr0 hb.size
        have zs1 := Nat.lt_of_lt_of_le zr1 hb.size
        have Hb := hid hb
        clear hb
        by_cases hlt8 : k8 < x.net.length
        · obtain ⟨y, hx⟩ := get_ex hlt8
          obtain ⟨b, o, vh, vb, rfl, _, hbl, s1, s2, p1, p2, p3, p4, p5, p6⟩ := r1.tr hx
          obtain ⟨b', o', uh, ub, rfl, _, hbl', s3, s4, q1, q2, q3, q4, q5, q6⟩ := r2.tr hx
          obtain ⟨Ah, ch, rfl, _, _, _⟩ := s1.form
          obtain ⟨Ab, cb, rfl, _, _, _⟩ := s2.form
          obtain ⟨Bh, dh, rfl, _, _, _⟩ := s3.form
          obtain ⟨Bb, db, rfl, _, _, _⟩ := s4.form
          have S1 := hid s1; have S2 := hid s2; have S3 := hid s3; have S4 := hid s4
          have f1 : (y.mix != y.mix) = false := by simp
          have f2 : (y.ch != y.ch) = false := by simp
          have HS := hid (fun (wx : World) (hb : Below wr.heap.size wr wx) => And.intro hb (And.intro ((hb.cell (p := ⟨w.heap.size, 2, none⟩) zs0).trans k2) (And.intro ((hb.cell (p := ⟨w.heap.size + 1, 2, none⟩) zs1).trans l2)
            (And.intro ((hb.cell (p := ⟨b, o + k8 * 6, none⟩) hbl).trans p1) (And.intro ((hb.cell (p := ⟨b, o + k8 * 6 + 1, none⟩) hbl).trans p2) (And.intro ((hb.cell (p := ⟨b, o + k8 * 6 + 2, none⟩) hbl).trans p3) (And.intro ((hb.cell (p := ⟨b, o + k8 * 6 + 3, none⟩) hbl).trans p4) (And.intro ((hb.cell (p := ⟨b, o + k8 * 6 + 4, none⟩) hbl).trans p5) (And.intro ((hb.cell (p := ⟨b, o + k8 * 6 + 5, none⟩) hbl).trans p6)
            (And.intro ((hb.cell (p := ⟨b', o' + k8 * 6, none⟩) hbl').trans q1) (And.intro ((hb.cell (p := ⟨b', o' + k8 * 6 + 1, none⟩) hbl').trans q2) (And.intro ((hb.cell (p := ⟨b', o' + k8 * 6 + 2, none⟩) hbl').trans q3) (And.intro ((hb.cell (p := ⟨b', o' + k8 * 6 + 3, none⟩) hbl').trans q4) (And.intro ((hb.cell (p := ⟨b', o' + k8 * 6 + 4, none⟩) hbl').trans q5) ((hb.cell (p := ⟨b', o' + k8 * 6 + 5, none⟩) hbl').trans q6)))))))))))))))
          clear hx r1 r2 s1 s2 s3 s4
          go_wp2
          refine wp_region_held_drew (S := (fun w' => Below wr.heap.size wr w' ∧ w'.cell? ⟨w.heap.size, 2, none⟩ = some (.slice (some ⟨b, o, none⟩) x.net.length c3) ∧ w'.cell? ⟨w.heap.size + 1, 2, none⟩ = some (.slice (some ⟨b', o', none⟩) x.net.length d3) ∧  w'.cell? ⟨b, o + k8 * 6, none⟩ = some (.int .i64 y.mix) ∧ w'.cell? ⟨b, o + k8 * 6 + 1, none⟩ = some (.int .i64 y.pk.el) ∧ w'.cell? ⟨b, o + k8 * 6 + 2, none⟩ = some (.slice Ah y.pk.hd.length ch) ∧ w'.cell? ⟨b, o + k8 * 6 + 3, none⟩ = some (.int .i64 y.pk.tag) ∧ w'.cell? ⟨b, o + k8 * 6 + 4, none⟩ = some (.slice Ab y.pk.bd.length cb) ∧ w'.cell? ⟨b, o + k8 * 6 + 5, none⟩ = some (.bool y.ch) ∧  w'.cell? ⟨b', o' + k8 * 6, none⟩ = some (.int .i64 y.mix) ∧ w'.cell? ⟨b', o' + k8 * 6 + 1, none⟩ = some (.int .i64 y.pk.el) ∧ w'.cell? ⟨b', o' + k8 * 6 + 2, none⟩ = some (.slice Bh y.pk.hd.length dh) ∧ w'.cell? ⟨b', o' + k8 * 6 + 3, none⟩ = some (.int .i64 y.pk.tag) ∧ w'.cell? ⟨b', o' + k8 * 6 + 4, none⟩ = some (.slice Bb y.pk.bd.length db) ∧ w'.cell? ⟨b', o' + k8 * 6 + 5, none⟩ = some (.bool y.ch))) (by kernel_rfl) ?_ (fun hHeld => ?_)
          · (try dsimp only); first | assumption | exact HS.out _ (bt (And.left (by assumption)) hb5) | exact HS.out _ (below_drew1 (Below.refl _ _))
          refine wpAnyH_take (i := 0) (v := ?vvq20) rfl (by kernel_rfl) (by kernel_rfl) (by kernel_rfl) (fun _ _ _ h => h) (Or.inl ⟨by rfl, ?hyq20⟩) (by assumption) ?restq20
          case hyq20 => ((intro w hSw); (try dsimp only at hSw); go_simp; try with_reducible rfl)
          try simp only [List.getElem_toArray, List.getElem_cons_succ, List.getElem_cons_zero, Act.put, List.setIfInBounds_toArray, List.set_cons_zero, List.set_cons_succ]
          refine wpAnyH_take (i := 1) (v := ?vvq21) rfl (by kernel_rfl) (by kernel_rfl) (by kernel_rfl) (fun _ _ _ h => h) (Or.inl ⟨by rfl, ?hyq21⟩) (by assumption) ?restq21
          case hyq21 => ((intro w hSw); (try dsimp only at hSw); go_simp; try with_reducible rfl)
          try simp only [List.getElem_toArray, List.getElem_cons_succ, List.getElem_cons_zero, Act.put, List.setIfInBounds_toArray, List.set_cons_zero, List.set_cons_succ]
          refine wpAnyH_take (i := 2) (v := ?vvq22) rfl (by kernel_rfl) (by kernel_rfl) (by kernel_rfl) (fun _ _ _ h => h) (Or.inl ⟨by rfl, ?hyq22⟩) (by assumption) ?restq22
          case hyq22 => ((intro w hSw); (try dsimp only at hSw); go_simp; try with_reducible rfl)
          try simp only [List.getElem_toArray, List.getElem_cons_succ, List.getElem_cons_zero, Act.put, List.setIfInBounds_toArray, List.set_cons_zero, List.set_cons_succ]
          refine wpAnyH_take (i := 3) (v := ?vvq23) rfl (by kernel_rfl) (by kernel_rfl) (by kernel_rfl) (fun _ _ _ h => h) (Or.inl ⟨by rfl, ?hyq23⟩) (by assumption) ?restq23
          case hyq23 => ((intro w hSw); (try dsimp only at hSw); go_simp; try with_reducible rfl)
          try simp only [List.getElem_toArray, List.getElem_cons_succ, List.getElem_cons_zero, Act.put, List.setIfInBounds_toArray, List.set_cons_zero, List.set_cons_succ]
          refine wpAnyH_take (i := 4) (v := ?vvq24) rfl (by kernel_rfl) (by kernel_rfl) (by kernel_rfl) (fun _ _ _ h => h) (Or.inl ⟨by rfl, ?hyq24⟩) (by assumption) ?restq24
          case hyq24 => ((intro w hSw); (try dsimp only at hSw); go_simp; try with_reducible rfl)
          try simp only [List.getElem_toArray, List.getElem_cons_succ, List.getElem_cons_zero, Act.put, List.setIfInBounds_toArray, List.set_cons_zero, List.set_cons_succ]
          refine wpAnyH_take (i := 5) (v := ?vvq25) rfl (by kernel_rfl) (by kernel_rfl) (by kernel_rfl) (fun _ _ _ h => h) (Or.inl ⟨by rfl, ?hyq25⟩) (by assumption) ?restq25
          case hyq25 => ((intro w hSw); (try dsimp only at hSw); go_simp; try with_reducible rfl)
          try simp only [List.getElem_toArray, List.getElem_cons_succ, List.getElem_cons_zero, Act.put, List.setIfInBounds_toArray, List.set_cons_zero, List.set_cons_succ]
          refine wpAnyH_take (i := 6) (v := ?vvq26) rfl (by kernel_rfl) (by kernel_rfl) (by kernel_rfl) (fun _ _ _ h => h) (Or.inl ⟨by rfl, ?hyq26⟩) (by assumption) ?restq26
          case hyq26 => ((intro w hSw); (try dsimp only at hSw); go_simp; try with_reducible rfl)
          try simp only [List.getElem_toArray, List.getElem_cons_succ, List.getElem_cons_zero, Act.put, List.setIfInBounds_toArray, List.set_cons_zero, List.set_cons_succ]
          refine wpAnyH_take (i := 7) (v := ?vvq27) rfl (by kernel_rfl) (by kernel_rfl) (by kernel_rfl) (fun _ _ _ h => h) (Or.inl ⟨by rfl, ?hyq27⟩) (by assumption) ?restq27
          case hyq27 => ((intro w hSw); (try dsimp only at hSw); go_simp; try with_reducible rfl)
          try simp only [List.getElem_toArray, List.getElem_cons_succ, List.getElem_cons_zero, Act.put, List.setIfInBounds_toArray, List.set_cons_zero, List.set_cons_succ]
          refine wpAnyH_take (i := 8) (v := ?vvq28) rfl (by kernel_rfl) (by kernel_rfl) (by kernel_rfl) (fun _ _ _ h => h) (Or.inl ⟨by rfl, ?hyq28⟩) (by assumption) ?restq28
          case hyq28 => ((intro w hSw); (try dsimp only at hSw); go_simp; try with_reducible rfl)
          try simp only [List.getElem_toArray, List.getElem_cons_succ, List.getElem_cons_zero, Act.put, List.setIfInBounds_toArray, List.set_cons_zero, List.set_cons_succ]
          refine wpAnyH_take (i := 9) (v := ?vvq29) rfl (by kernel_rfl) (by kernel_rfl) (by kernel_rfl) (fun _ _ _ h => h) (Or.inl ⟨by rfl, ?hyq29⟩) (by assumption) ?restq29
          case hyq29 => ((intro w hSw); (try dsimp only at hSw); go_simp; try with_reducible rfl)
          try simp only [List.getElem_toArray, List.getElem_cons_succ, List.getElem_cons_zero, Act.put, List.setIfInBounds_toArray, List.set_cons_zero, List.set_cons_succ]
          refine wpAnyH_take (i := 10) (v := ?vvq210) rfl (by kernel_rfl) (by kernel_rfl) (by kernel_rfl) (fun _ _ _ h => h) (Or.inl ⟨by rfl, ?hyq210⟩) (by assumption) ?restq210
          case hyq210 => ((intro w hSw); (try dsimp only at hSw); go_simp; try with_reducible rfl)
          try simp only [List.getElem_toArray, List.getElem_cons_succ, List.getElem_cons_zero, Act.put, List.setIfInBounds_toArray, List.set_cons_zero, List.set_cons_succ]
          refine wpAnyH_take (i := 11) (v := ?vvq211) rfl (by kernel_rfl) (by kernel_rfl) (by kernel_rfl) (fun _ _ _ h => h) (Or.inl ⟨by rfl, ?hyq211⟩) (by assumption) ?restq211
          case hyq211 => ((intro w hSw); (try dsimp only at hSw); go_simp; try with_reducible rfl)
          try simp only [List.getElem_toArray, List.getElem_cons_succ, List.getElem_cons_zero, Act.put, List.setIfInBounds_toArray, List.set_cons_zero, List.set_cons_succ]
          refine wpAnyH_take (i := 12) (v := ?vvq212) rfl (by kernel_rfl) (by kernel_rfl) (by kernel_rfl) (fun _ _ _ h => h) (Or.inl ⟨by rfl, ?hyq212⟩) (by assumption) ?restq212
          case hyq212 => ((intro w hSw); (try dsimp only at hSw); go_simp; try with_reducible rfl)
          try simp only [List.getElem_toArray, List.getElem_cons_succ, List.getElem_cons_zero, Act.put, List.setIfInBounds_toArray, List.set_cons_zero, List.set_cons_succ]
          refine wpAnyH_take (i := 13) (v := ?vvq213) rfl (by kernel_rfl) (by kernel_rfl) (by kernel_rfl) (fun _ _ _ h => h) (Or.inl ⟨by rfl, ?hyq213⟩) (by assumption) ?restq213
          case hyq213 => ((intro w hSw); (try dsimp only at hSw); go_simp; try with_reducible rfl)
          try simp only [List.getElem_toArray, List.getElem_cons_succ, List.getElem_cons_zero, Act.put, List.setIfInBounds_toArray, List.set_cons_zero, List.set_cons_succ]
          refine wpAnyH_take (i := 14) (v := ?vvq214) rfl (by kernel_rfl) (by kernel_rfl) (by kernel_rfl) (fun _ _ _ h => h) (Or.inl ⟨by rfl, ?hyq214⟩) (by assumption) ?restq214
          case hyq214 => ((intro w hSw); (try dsimp only at hSw); go_simp; try with_reducible rfl)
          try simp only [List.getElem_toArray, List.getElem_cons_succ, List.getElem_cons_zero, Act.put, List.setIfInBounds_toArray, List.set_cons_zero, List.set_cons_succ]
          refine wpAnyH_take (i := 15) (v := ?vvq215) rfl (by kernel_rfl) (by kernel_rfl) (by kernel_rfl) (fun _ _ _ h => h) (Or.inl ⟨by rfl, ?hyq215⟩) (by assumption) ?restq215
          case hyq215 => ((intro w hSw); (try dsimp only at hSw); go_simp; try with_reducible rfl)
          try simp only [List.getElem_toArray, List.getElem_cons_succ, List.getElem_cons_zero, Act.put, List.setIfInBounds_toArray, List.set_cons_zero, List.set_cons_succ]
          refine wpAnyH_take (i := 16) (v := ?vvq216) rfl (by kernel_rfl) (by kernel_rfl) (by kernel_rfl) (fun _ _ _ h => h) (Or.inl ⟨by rfl, ?hyq216⟩) (by assumption) ?restq216
          case hyq216 => ((intro w hSw); (try dsimp only at hSw); go_simp; try with_reducible rfl)
          try simp only [List.getElem_toArray, List.getElem_cons_succ, List.getElem_cons_zero, Act.put, List.setIfInBounds_toArray, List.set_cons_zero, List.set_cons_succ]
          refine wpAnyH_take (i := 17) (v := ?vvq217) rfl (by kernel_rfl) (by kernel_rfl) (by kernel_rfl) (fun _ _ _ h => h) (Or.inl ⟨by rfl, ?hyq217⟩) (by assumption) ?restq217
          case hyq217 => ((intro w hSw); (try dsimp only at hSw); go_simp; try with_reducible rfl)
          try simp only [List.getElem_toArray, List.getElem_cons_succ, List.getElem_cons_zero, Act.put, List.setIfInBounds_toArray, List.set_cons_zero, List.set_cons_succ]
          refine wpAnyH_take (i := 18) (v := ?vvq218) rfl (by kernel_rfl) (by kernel_rfl) (by kernel_rfl) (fun _ _ _ h => h) (Or.inl ⟨by rfl, ?hyq218⟩) (by assumption) ?restq218
          case hyq218 => ((intro w hSw); (try dsimp only at hSw); go_simp; try with_reducible rfl)
          try simp only [List.getElem_toArray, List.getElem_cons_succ, List.getElem_cons_zero, Act.put, List.setIfInBounds_toArray, List.set_cons_zero, List.set_cons_succ]
          refine wpAnyH_take (i := 19) (v := ?vvq219) rfl (by kernel_rfl) (by kernel_rfl) (by kernel_rfl) (fun _ _ _ h => h) (Or.inl ⟨by rfl, ?hyq219⟩) (by assumption) ?restq219
          case hyq219 => ((intro w hSw); (try dsimp only at hSw); go_simp; try with_reducible rfl)
          try simp only [List.getElem_toArray, List.getElem_cons_succ, List.getElem_cons_zero, Act.put, List.setIfInBounds_toArray, List.set_cons_zero, List.set_cons_succ]
          refine wpAnyH_take (i := 20) (v := ?vvq220) rfl (by kernel_rfl) (by kernel_rfl) (by kernel_rfl) (fun _ _ _ h => h) (Or.inl ⟨by rfl, ?hyq220⟩) (by assumption) ?restq220
          case hyq220 => ((intro w hSw); (try dsimp only at hSw); go_simp; try with_reducible rfl)
          try simp only [List.getElem_toArray, List.getElem_cons_succ, List.getElem_cons_zero, Act.put, List.setIfInBounds_toArray, List.set_cons_zero, List.set_cons_succ]
          refine wpAnyH_take (i := 21) (v := ?vvq221) rfl (by kernel_rfl) (by kernel_rfl) (by kernel_rfl) (fun _ _ _ h => h) (Or.inl ⟨by rfl, ?hyq221⟩) (by assumption) ?restq221
          case hyq221 => ((intro w hSw); (try dsimp only at hSw); go_simp; try with_reducible rfl)
          try simp only [List.getElem_toArray, List.getElem_cons_succ, List.getElem_cons_zero, Act.put, List.setIfInBounds_toArray, List.set_cons_zero, List.set_cons_succ]
          refine wpAnyH_take (i := 22) (v := ?vvq222) rfl (by kernel_rfl) (by kernel_rfl) (by kernel_rfl) (fun _ _ _ h => h) (Or.inl ⟨by rfl, ?hyq222⟩) (by assumption) ?restq222
          case hyq222 => ((intro w hSw); (try dsimp only at hSw); go_simp; try with_reducible rfl)
          try simp only [List.getElem_toArray, List.getElem_cons_succ, List.getElem_cons_zero, Act.put, List.setIfInBounds_toArray, List.set_cons_zero, List.set_cons_succ]
          refine wpAnyH_take (i := 23) (v := ?vvq223) rfl (by kernel_rfl) (by kernel_rfl) (by kernel_rfl) (fun _ _ _ h => h) (Or.inl ⟨by rfl, ?hyq223⟩) (by assumption) ?restq223
          case hyq223 => ((intro w hSw); (try dsimp only at hSw); go_simp; try with_reducible rfl)
          try simp only [List.getElem_toArray, List.getElem_cons_succ, List.getElem_cons_zero, Act.put, List.setIfInBounds_toArray, List.set_cons_zero, List.set_cons_succ]
          refine wpAnyH_take (i := 24) (v := ?vvq224) rfl (by kernel_rfl) (by kernel_rfl) (by kernel_rfl) (fun _ _ _ h => h) (Or.inl ⟨by rfl, ?hyq224⟩) (by assumption) ?restq224
          case hyq224 => ((intro w hSw); (try dsimp only at hSw); go_simp; try with_reducible rfl)
          try simp only [List.getElem_toArray, List.getElem_cons_succ, List.getElem_cons_zero, Act.put, List.setIfInBounds_toArray, List.set_cons_zero, List.set_cons_succ]
          refine wpAnyH_take (i := 25) (v := ?vvq225) rfl (by kernel_rfl) (by kernel_rfl) (by kernel_rfl) (fun _ _ _ h => h) (Or.inl ⟨by rfl, ?hyq225⟩) (by assumption) ?restq225
          case hyq225 => ((intro w hSw); (try dsimp only at hSw); go_simp; try with_reducible rfl)
          try simp only [List.getElem_toArray, List.getElem_cons_succ, List.getElem_cons_zero, Act.put, List.setIfInBounds_toArray, List.set_cons_zero, List.set_cons_succ]
          refine wpAnyH_take (i := 26) (v := ?vvq226) rfl (by kernel_rfl) (by kernel_rfl) (by kernel_rfl) (fun _ _ _ h => h) (Or.inl ⟨by rfl, ?hyq226⟩) (by assumption) ?restq226
          case hyq226 => ((intro w hSw); (try dsimp only at hSw); go_simp; try with_reducible rfl)
          try simp only [List.getElem_toArray, List.getElem_cons_succ, List.getElem_cons_zero, Act.put, List.setIfInBounds_toArray, List.set_cons_zero, List.set_cons_succ]
          refine wpAnyH_take (i := 27) (v := ?vvq227) rfl (by kernel_rfl) (by kernel_rfl) (by kernel_rfl) (fun _ _ _ h => h) (Or.inl ⟨by rfl, ?hyq227⟩) (by assumption) ?restq227
          case hyq227 => ((intro w hSw); (try dsimp only at hSw); go_simp; try with_reducible rfl)
          try simp only [List.getElem_toArray, List.getElem_cons_succ, List.getElem_cons_zero, Act.put, List.setIfInBounds_toArray, List.set_cons_zero, List.set_cons_succ]
          refine wpAnyH_take (i := 28) (v := ?vvq228) rfl (by kernel_rfl) (by kernel_rfl) (by kernel_rfl) (fun _ _ _ h => h) (Or.inl ⟨by rfl, ?hyq228⟩) (by assumption) ?restq228
          case hyq228 => ((intro w hSw); (try dsimp only at hSw); go_simp; try with_reducible rfl)
          try simp only [List.getElem_toArray, List.getElem_cons_succ, List.getElem_cons_zero, Act.put, List.setIfInBounds_toArray, List.set_cons_zero, List.set_cons_succ]
          refine wpAnyH_take (i := 29) (v := ?vvq229) rfl (by kernel_rfl) (by kernel_rfl) (by kernel_rfl) (fun _ _ _ h => h) (Or.inl ⟨by rfl, ?hyq229⟩) (by assumption) ?restq229
          case hyq229 => ((intro w hSw); (try dsimp only at hSw); go_simp; try with_reducible rfl)
          try simp only [List.getElem_toArray, List.getElem_cons_succ, List.getElem_cons_zero, Act.put, List.setIfInBounds_toArray, List.set_cons_zero, List.set_cons_succ]
          refine wpAnyH_take (i := 30) (v := ?vvq230) rfl (by kernel_rfl) (by kernel_rfl) (by kernel_rfl) (fun _ _ _ h => h) (Or.inl ⟨by rfl, ?hyq230⟩) (by assumption) ?restq230
          case hyq230 => ((intro w hSw); (try dsimp only at hSw); go_simp; try with_reducible rfl)
          try simp only [List.getElem_toArray, List.getElem_cons_succ, List.getElem_cons_zero, Act.put, List.setIfInBounds_toArray, List.set_cons_zero, List.set_cons_succ]
          refine wpAnyH_take (i := 31) (v := ?vvq231) rfl (by kernel_rfl) (by kernel_rfl) (by kernel_rfl) (fun _ _ _ h => h) (Or.inl ⟨by rfl, ?hyq231⟩) (by assumption) ?restq231
          case hyq231 => ((intro w hSw); (try dsimp only at hSw); go_simp; try with_reducible rfl)
          try simp only [List.getElem_toArray, List.getElem_cons_succ, List.getElem_cons_zero, Act.put, List.setIfInBounds_toArray, List.set_cons_zero, List.set_cons_succ]
          refine wpAnyH_take (i := 32) (v := ?vvq232) rfl (by kernel_rfl) (by kernel_rfl) (by kernel_rfl) (fun _ _ _ h => h) (Or.inl ⟨by rfl, ?hyq232⟩) (by assumption) ?restq232
          case hyq232 => ((intro w hSw); (try dsimp only at hSw); go_simp; try with_reducible rfl)
          try simp only [List.getElem_toArray, List.getElem_cons_succ, List.getElem_cons_zero, Act.put, List.setIfInBounds_toArray, List.set_cons_zero, List.set_cons_succ]
          refine wpAnyH_take (i := 33) (v := ?vvq233) rfl (by kernel_rfl) (by kernel_rfl) (by kernel_rfl) (fun _ _ _ h => h) (Or.inl ⟨by rfl, ?hyq233⟩) (by assumption) ?restq233
          case hyq233 => ((intro w hSw); (try dsimp only at hSw); go_simp; try with_reducible rfl)
          try simp only [List.getElem_toArray, List.getElem_cons_succ, List.getElem_cons_zero, Act.put, List.setIfInBounds_toArray, List.set_cons_zero, List.set_cons_succ]
          refine wpAnyH_take (i := 34) (v := ?vvq234) rfl (by kernel_rfl) (by kernel_rfl) (by kernel_rfl) (fun _ _ _ h => h) (Or.inl ⟨by rfl, ?hyq234⟩) (by assumption) ?restq234
          case hyq234 => ((intro w hSw); (try dsimp only at hSw); go_simp; try with_reducible rfl)
          try simp only [List.getElem_toArray, List.getElem_cons_succ, List.getElem_cons_zero, Act.put, List.setIfInBounds_toArray, List.set_cons_zero, List.set_cons_succ]
          refine wpAnyH_take (i := 35) (v := ?vvq235) rfl (by kernel_rfl) (by kernel_rfl) (by kernel_rfl) (fun _ _ _ h => h) (Or.inl ⟨by rfl, ?hyq235⟩) (by assumption) ?restq235
          case hyq235 => ((intro w hSw); (try dsimp only at hSw); go_simp; try with_reducible rfl)
          try simp only [List.getElem_toArray, List.getElem_cons_succ, List.getElem_cons_zero, Act.put, List.setIfInBounds_toArray, List.set_cons_zero, List.set_cons_succ]
          refine wpAnyH_take (i := 36) (v := ?vvq236) rfl (by kernel_rfl) (by kernel_rfl) (by kernel_rfl) (fun _ _ _ h => h) (Or.inl ⟨by rfl, ?hyq236⟩) (by assumption) ?restq236
          case hyq236 => ((intro w hSw); (try dsimp only at hSw); go_simp; try with_reducible rfl)
          try simp only [List.getElem_toArray, List.getElem_cons_succ, List.getElem_cons_zero, Act.put, List.setIfInBounds_toArray, List.set_cons_zero, List.set_cons_succ]
          refine wpAnyH_take (i := 37) (v := ?vvq237) rfl (by kernel_rfl) (by kernel_rfl) (by kernel_rfl) (fun _ _ _ h => h) (Or.inl ⟨by rfl, ?hyq237⟩) (by assumption) ?restq237
          case hyq237 => ((intro w hSw); (try dsimp only at hSw); go_simp; try with_reducible rfl)
          try simp only [List.getElem_toArray, List.getElem_cons_succ, List.getElem_cons_zero, Act.put, List.setIfInBounds_toArray, List.set_cons_zero, List.set_cons_succ]
          refine wpAnyH_take (i := 38) (v := ?vvq238) rfl (by kernel_rfl) (by kernel_rfl) (by kernel_rfl) (fun _ _ _ h => h) (Or.inl ⟨by rfl, ?hyq238⟩) (by assumption) ?restq238
          case hyq238 => ((intro w hSw); (try dsimp only at hSw); go_simp; try with_reducible rfl)
          try simp only [List.getElem_toArray, List.getElem_cons_succ, List.getElem_cons_zero, Act.put, List.setIfInBounds_toArray, List.set_cons_zero, List.set_cons_succ]
          refine wpAnyH_take (i := 39) (v := ?vvq239) rfl (by kernel_rfl) (by kernel_rfl) (by kernel_rfl) (fun _ _ _ h => h) (Or.inl ⟨by rfl, ?hyq239⟩) (by assumption) ?restq239
          case hyq239 => ((intro w hSw); (try dsimp only at hSw); go_simp; try with_reducible rfl)
          try simp only [List.getElem_toArray, List.getElem_cons_succ, List.getElem_cons_zero, Act.put, List.setIfInBounds_toArray, List.set_cons_zero, List.set_cons_succ]
          refine wpAnyH_take (i := 40) (v := ?vvq240) rfl (by kernel_rfl) (by kernel_rfl) (by kernel_rfl) (fun _ _ _ h => h) (Or.inl ⟨by rfl, ?hyq240⟩) (by assumption) ?restq240
          case hyq240 => ((intro w hSw); (try dsimp only at hSw); go_simp; try with_reducible rfl)
          try simp only [List.getElem_toArray, List.getElem_cons_succ, List.getElem_cons_zero, Act.put, List.setIfInBounds_toArray, List.set_cons_zero, List.set_cons_succ]
          refine wpAnyH_ready (rs := [41]) (by kernel_rfl) (by simp) ?_
          refine AllReadyH.cons rfl (fun K hK => ?_) AllReadyH.nil
          go_simp
          (go_at_call 21; with_reducible refine (samePacket_t y.pk _ _ _ _ _ ?_ ?_ ?_ ?_).mono ?_; (refine S1.out.go ?_; (repeat (first | exact Below.refl _ _ | refine below_drew1 ?_ | refine Below.alloc ?_ (by simp <;> omega) _))); (refine S2.out.go ?_; (repeat (first | exact Below.refl _ _ | refine below_drew1 ?_ | refine Below.alloc ?_ (by simp <;> omega) _))); (refine S3.out.go ?_; (repeat (first | exact Below.refl _ _ | refine below_drew1 ?_ | refine Below.alloc ?_ (by simp <;> omega) _))); (refine S4.out.go ?_; (repeat (first | exact Below.refl _ _ | refine below_drew1 ?_ | refine Below.alloc ?_ (by simp <;> omega) _))); rintro e w' ⟨rfl, hb5⟩)
          refine hK.out _ _ ?_ (fun hHeld => ?_)
          · (try dsimp only); first | assumption | exact HS.out _ (bt (And.left (by assumption)) hb5) | exact HS.out _ (below_drew1 (Below.refl _ _))
          clear hK K
          refine wpAnyH_take (i := 42) (v := ?vvq242) rfl (by kernel_rfl) (by kernel_rfl) (by kernel_rfl) (fun _ _ _ h => h) (Or.inl ⟨by rfl, ?hyq242⟩) (by assumption) ?restq242
          case hyq242 => ((intro w hSw); (try dsimp only at hSw); go_simp; try with_reducible rfl)
          try simp only [List.getElem_toArray, List.getElem_cons_succ, List.getElem_cons_zero, Act.put, List.setIfInBounds_toArray, List.set_cons_zero, List.set_cons_succ]
          refine wpAnyH_take (i := 43) (v := ?vvq243) rfl (by kernel_rfl) (by kernel_rfl) (by kernel_rfl) (fun _ _ _ h => h) (Or.inl ⟨by rfl, ?hyq243⟩) (by assumption) ?restq243
          case hyq243 => ((intro w hSw); (try dsimp only at hSw); go_simp; try with_reducible rfl)
          try simp only [List.getElem_toArray, List.getElem_cons_succ, List.getElem_cons_zero, Act.put, List.setIfInBounds_toArray, List.set_cons_zero, List.set_cons_succ]
          refine wpAnyH_done (by kernel_rfl) ?_ _
          go_wp2
          go_roundw
          case rel => exact ⟨k8 + 1, by omega, by go_num, bt Hb.out (bt (below_drew1 (Below.refl _ _)) hb5)⟩
          case measure => simp [intOf]; omega
        · go_wp2
          go_ret
          exact ⟨rfl, bt Hc.out Hb.out⟩
theorem poolSum_take (l : List Mx) (k : Nat) : poolSum (l.take k) ≤ poolSum l := by
  induction l generalizing k with
  | nil => simp
  | cons m l ih =>
    cases k with
    | zero => simp [poolSum]
    | succ k =>
      have := ih k
      simp only [poolSum, List.take_succ_cons, List.map_cons, List.sum_cons] at *
      omega
theorem waiting_c (x : Wd) (v : Value) (w : World) (h : WdB w.heap.size w v x) (hp : poolSum x.mixes ≤ 4611686018427387904) : Calls Try.prog 10 #[v] w fun e w' => e = .returned (.int .i64 (poolSum x.mixes)) ∧ Below w.heap.size w w' := by
  obtain ⟨vm, vs, vn, vg, rfl, hm, hs, hn, hg⟩ := h
  obtain ⟨A1, c1, rfl, _, _, m3⟩ := hm.form
  go_enter Try.func10, Try.ntmps10
  go_wp2_with fail
  have hr := hm.go (lit_below w (Obj.cells #[Value.slice A1 x.mixes.length c1, vs, vn, vg, Value.int IntKind.i64 x.made, Value.int IntKind.i64 x.lost] 27))
  go_loop [3, 4] (fun nv i => ∃ k : Nat, k ≤ x.mixes.length ∧ i = .int .i64 k ∧ nv = .int .i64 (poolSum (x.mixes.take k))) (fun _ i => x.mixes.length - (intOf i).toNat)
  case atStart => exact ⟨0, by omega, rfl, rfl⟩
  case round =>
    obtain ⟨k, hk, rfl, rfl⟩ := hrel
    have hq := poolSum_take x.mixes k
    have hq2 := poolSum_take x.mixes (k + 1)
    by_cases hlt : k < x.mixes.length
    · obtain ⟨y, hx⟩ := get_ex hlt
      obtain ⟨b, o, us, up, rfl, _, _, s1, s2, q0, q1, q2⟩ := hr.mx hx
      obtain ⟨Ab, cb, rfl, _, _, _⟩ := s2.form
      have ht : poolSum (x.mixes.take (k + 1)) = poolSum (x.mixes.take k) + y.pool.length := by rw [take_ex hx, poolSum_snoc]
      have Ht := hid ht
      rw [ht] at hq2
      clear hx hr s1 s2 ht hm
      generalize poolSum (x.mixes.take k) = q at *
      go_wp2
      go_round
      case rel => exact ⟨k + 1, by omega, by go_num, by rw [Ht.out]; go_num⟩
      case measure => simp [intOf]; omega
    · have Hq := hid (show x.mixes.take k = x.mixes from take_all hk hlt)
      go_wp2
      go_ret
      exact ⟨ret_int (by rw [Hq.out]), lit_below _ _⟩
end Go.Proofs.Ytbkckjobhopicaa
