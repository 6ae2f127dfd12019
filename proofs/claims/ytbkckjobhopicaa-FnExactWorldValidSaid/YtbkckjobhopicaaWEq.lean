/- Comparing packets, mixes, letters and runs: what is alike is found alike. -/
import Derived.Test.YtbkckjobhopicaaWVal
namespace Go.Proofs.Ytbkckjobhopicaa
open Go Go.RowKit
set_option maxHeartbeats 400000
theorem eqIntS_t (v1 v2 : Value) (xs : List Int) (w : World) (h1 : SlB tInt w.heap.size w v1 xs) (h2 : SlB tInt w.heap.size w v2 xs) :
    Calls Try.prog 75 #[v1, v2] w (ok true w.heap.size w) := by
  have := eqIntS_c v1 v2 xs xs w h1 h2
  rwa [decide_eq_true rfl] at this
theorem box2 {w w' : World} {cs ds : Array Value} {e1 e2 : TypeId} (hb : Below ((w.alloc (.cells cs e1)).alloc (.cells ds e2)).heap.size ((w.alloc (.cells cs e1)).alloc (.cells ds e2)) w') :
    (∀ (i : Nat) v, cs[i]? = some v → w'.cell? ⟨w.heap.size, i, none⟩ = some v) ∧ (∀ (i : Nat) v, ds[i]? = some v → w'.cell? ⟨w.heap.size + 1, i, none⟩ = some v) := by
  constructor
  · intro i v h
    have h1 := rowcell w cs e1 i v h
    have h2 := ((lit_below (w.alloc (.cells cs e1)) (.cells ds e2)).cell (p := ⟨w.heap.size, i, none⟩) (by simp)).trans h1
    exact (hb.cell (p := ⟨w.heap.size, i, none⟩) (by simp <;> omega)).trans h2
  · intro i v h
    have h1 := rowcell (w.alloc (.cells cs e1)) ds e2 i v h
    rw [show (w.alloc (.cells cs e1)).heap.size = w.heap.size + 1 from by simp] at h1
    exact (hb.cell (p := ⟨w.heap.size + 1, i, none⟩) (by simp)).trans h1
theorem eqPacket_t (p : Pk) (vh vb uh ub : Value) (w : World) (h1 : SlB tInt w.heap.size w vh p.hd) (h2 : SlB tInt w.heap.size w vb p.bd) (h3 : SlB tInt w.heap.size w uh p.hd) (h4 : SlB tInt w.heap.size w ub p.bd) :
    Calls Try.prog 77 #[.agg #[.int .i64 p.el, vh, .int .i64 p.tag, vb], .agg #[.int .i64 p.el, uh, .int .i64 p.tag, ub]] w (ok true w.heap.size w) := by
  have H1 := hid (fun (wx : World) (hb : Below w.heap.size w wx) => h1.go hb)
  have H2 := hid (fun (wx : World) (hb : Below w.heap.size w wx) => h2.go hb)
  have H3 := hid (fun (wx : World) (hb : Below w.heap.size w wx) => h3.go hb)
  have H4 := hid (fun (wx : World) (hb : Below w.heap.size w wx) => h4.go hb)
  clear h1 h2 h3 h4
  have g1 : (p.el != p.el) = false := by simp
  have g2 : (p.tag != p.tag) = false := by simp
  go_enter Try.func77, Try.ntmps77
  go_wp2_with (first | (go_at_call 75; with_reducible refine (eqIntS_t vh uh p.hd _ ?_ ?_).mono ?_; (refine H1.out _ ?_; (repeat (first | exact Below.refl _ _ | refine below_drew1 ?_ | refine Below.alloc ?_ (by simp <;> omega) _))); (refine H3.out _ ?_; (repeat (first | exact Below.refl _ _ | refine below_drew1 ?_ | refine Below.alloc ?_ (by simp <;> omega) _))); rintro e w1 ⟨rfl, hb1⟩; have hc1 : Below w.heap.size w w1 := bt (by (repeat (first | exact Below.refl _ _ | refine below_drew1 ?_ | refine Below.alloc ?_ (by simp <;> omega) _))) hb1; have kb := box2 hb1; have k2 := kb.1 2 _ rfl; have k3 := kb.1 3 _ rfl; have l2 := kb.2 2 _ rfl; have l3 := kb.2 3 _ rfl; clear kb) | (go_at_call 75; with_reducible refine (eqIntS_t vb ub p.bd _ ?_ ?_).mono ?_; exact H2.out _ hc1; exact H4.out _ hc1; rintro e w2 ⟨rfl, hb2⟩))
  go_ret
  exact ⟨rfl, bt hc1 hb2⟩
theorem eqPeeled_t (x : Pl) (vh vb uh ub : Value) (w : World) (h1 : SlB tInt w.heap.size w vh x.pk.hd) (h2 : SlB tInt w.heap.size w vb x.pk.bd) (h3 : SlB tInt w.heap.size w uh x.pk.hd) (h4 : SlB tInt w.heap.size w ub x.pk.bd) :
    Calls Try.prog 85 #[.agg #[.int .i64 x.kind, .int .i64 x.next, .int .i64 x.pk.el, vh, .int .i64 x.pk.tag, vb], .agg #[.int .i64 x.kind, .int .i64 x.next, .int .i64 x.pk.el, uh, .int .i64 x.pk.tag, ub]] w (ok true w.heap.size w) := by
  have H1 := hid (fun (wx : World) (hb : Below w.heap.size w wx) => h1.go hb)
  have H2 := hid (fun (wx : World) (hb : Below w.heap.size w wx) => h2.go hb)
  have H3 := hid (fun (wx : World) (hb : Below w.heap.size w wx) => h3.go hb)
  have H4 := hid (fun (wx : World) (hb : Below w.heap.size w wx) => h4.go hb)
  clear h1 h2 h3 h4
  have g1 : (x.kind != x.kind) = false := by simp
  have g2 : (x.next != x.next) = false := by simp
  go_enter Try.func85, Try.ntmps85
  go_wp2_with (go_at_call 77; with_reducible refine (eqPacket_t x.pk vh vb uh ub _ ?_ ?_ ?_ ?_).mono ?_; (refine H1.out _ ?_; (repeat (first | exact Below.refl _ _ | refine below_drew1 ?_ | refine Below.alloc ?_ (by simp <;> omega) _))); (refine H2.out _ ?_; (repeat (first | exact Below.refl _ _ | refine below_drew1 ?_ | refine Below.alloc ?_ (by simp <;> omega) _))); (refine H3.out _ ?_; (repeat (first | exact Below.refl _ _ | refine below_drew1 ?_ | refine Below.alloc ?_ (by simp <;> omega) _))); (refine H4.out _ ?_; (repeat (first | exact Below.refl _ _ | refine below_drew1 ?_ | refine Below.alloc ?_ (by simp <;> omega) _))); rintro e w1 ⟨rfl, hb1⟩; have hc1 : Below w.heap.size w w1 := bt (by (repeat (first | exact Below.refl _ _ | refine below_drew1 ?_ | refine Below.alloc ?_ (by simp <;> omega) _))) hb1)
  go_ret
  exact ⟨rfl, hc1⟩
theorem eqTransit_t (x : Tr) (vh vb uh ub : Value) (w : World) (h1 : SlB tInt w.heap.size w vh x.pk.hd) (h2 : SlB tInt w.heap.size w vb x.pk.bd) (h3 : SlB tInt w.heap.size w uh x.pk.hd) (h4 : SlB tInt w.heap.size w ub x.pk.bd) :
    Calls Try.prog 58 #[.agg #[.int .i64 x.mix, .int .i64 x.pk.el, vh, .int .i64 x.pk.tag, vb, .bool x.ch], .agg #[.int .i64 x.mix, .int .i64 x.pk.el, uh, .int .i64 x.pk.tag, ub, .bool x.ch]] w (ok true w.heap.size w) := by
  have H1 := hid (fun (wx : World) (hb : Below w.heap.size w wx) => h1.go hb)
  have H2 := hid (fun (wx : World) (hb : Below w.heap.size w wx) => h2.go hb)
  have H3 := hid (fun (wx : World) (hb : Below w.heap.size w wx) => h3.go hb)
  have H4 := hid (fun (wx : World) (hb : Below w.heap.size w wx) => h4.go hb)
  clear h1 h2 h3 h4
  have g1 : (x.mix != x.mix) = false := by simp
  have g2 : (x.ch != x.ch) = false := by simp
  go_enter Try.func58, Try.ntmps58
  go_wp2_with (go_at_call 77; with_reducible refine (eqPacket_t x.pk vh vb uh ub _ ?_ ?_ ?_ ?_).mono ?_; (refine H1.out _ ?_; (repeat (first | exact Below.refl _ _ | refine below_drew1 ?_ | refine Below.alloc ?_ (by simp <;> omega) _))); (refine H2.out _ ?_; (repeat (first | exact Below.refl _ _ | refine below_drew1 ?_ | refine Below.alloc ?_ (by simp <;> omega) _))); (refine H3.out _ ?_; (repeat (first | exact Below.refl _ _ | refine below_drew1 ?_ | refine Below.alloc ?_ (by simp <;> omega) _))); (refine H4.out _ ?_; (repeat (first | exact Below.refl _ _ | refine below_drew1 ?_ | refine Below.alloc ?_ (by simp <;> omega) _))); rintro e w1 ⟨rfl, hb1⟩; have hc1 : Below w.heap.size w w1 := bt (by (repeat (first | exact Below.refl _ _ | refine below_drew1 ?_ | refine Below.alloc ?_ (by simp <;> omega) _))) hb1; have kb := box2 hb1; have k5 := kb.1 5 _ rfl; have l5 := kb.2 5 _ rfl; clear kb)
  go_ret
  exact ⟨rfl, hc1⟩
theorem eqLetter_t (l : Lt) (w : World) : Calls Try.prog 57 #[.agg #[.int .i64 l.fr, .int .i64 l.to, .int .i64 l.num], .agg #[.int .i64 l.fr, .int .i64 l.to, .int .i64 l.num]] w (ok true w.heap.size w) := by
  have g1 : (l.fr != l.fr) = false := by simp
  have g2 : (l.to != l.to) = false := by simp
  have g3 : (l.num != l.num) = false := by simp
  go_enter Try.func57, Try.ntmps57
  go_wp2
  go_ret
  exact ⟨rfl, by (repeat (first | exact Below.refl _ _ | refine below_drew1 ?_ | refine Below.alloc ?_ (by simp <;> omega) _))⟩
set_option maxRecDepth 100000 in
theorem eqLetterS_t (v1 v2 : Value) (xs : List Lt) (w : World) (h1 : SlB tLt w.heap.size w v1 xs) (h2 : SlB tLt w.heap.size w v2 xs) :
    Calls Try.prog 30 #[v1, v2] w (ok true w.heap.size w) := by
  obtain ⟨A1, c1, rfl, a1, a2, a3⟩ := h1.form
  obtain ⟨A2, c2, rfl, b1, b2, b3⟩ := h2.form
  clear a2 b2
  go_enter Try.func30, Try.ntmps30
  go_wp2
  go_loopw [5] (fun i wr => ∃ k : Nat, k ≤ xs.length ∧ i = .int .i64 k ∧ Below w.heap.size w wr) (fun i _ => xs.length - (intOf i).toNat)
  case atStart => exact ⟨0, by omega, rfl, Below.refl _ _⟩
  case round =>
    obtain ⟨k, hk, rfl, hb⟩ := hrel
    have r1 := h1.go hb
    have r2 := h2.go hb
    have Hb := hid hb
    clear hb
    by_cases hlt : k < xs.length
    · obtain ⟨x, hx⟩ := get_ex hlt
      obtain ⟨b, o, rfl, _, _, p1, p2, p3⟩ := r1.lt3 hx
      obtain ⟨b', o', rfl, _, _, q1, q2, q3⟩ := r2.lt3 hx
      clear hx r1 r2 h1 h2
      go_wp2
      go_still_tail 8, (by kernel_rfl)
      change wpList _ _ _ _ _ wr.drew
      have hd : Below wr.heap.size wr wr.drew := below_drewN (Below.refl _ _) 1
      generalize wr.drew = wt at *
      have Hd := hid (bt Hb.out hd)
      clear hd
      go_wp2_with (go_at_call 57; refine (eqLetter_t x _).mono ?_; rintro e w5 ⟨rfl, hb5⟩)
      go_roundw
      case rel => exact ⟨k + 1, by omega, by go_num, bt Hd.out hb5⟩
      case measure => simp [intOf]; omega
    · go_wp2
      go_ret
      exact ⟨rfl, Hb.out⟩
set_option maxRecDepth 100000 in
theorem eqPeeledS_t (v1 v2 : Value) (xs : List Pl) (w : World) (h1 : SlB tPl w.heap.size w v1 xs) (h2 : SlB tPl w.heap.size w v2 xs) :
    Calls Try.prog 76 #[v1, v2] w (ok true w.heap.size w) := by
  obtain ⟨A1, c1, rfl, a1, a2, a3⟩ := h1.form
  obtain ⟨A2, c2, rfl, b1, b2, b3⟩ := h2.form
  clear a2 b2
  go_enter Try.func76, Try.ntmps76
  go_wp2
  go_loopw [5] (fun i wr => ∃ k : Nat, k ≤ xs.length ∧ i = .int .i64 k ∧ Below w.heap.size w wr) (fun i _ => xs.length - (intOf i).toNat)
  case atStart => exact ⟨0, by omega, rfl, Below.refl _ _⟩
  case round =>
    obtain ⟨k, hk, rfl, hb⟩ := hrel
    have r1 := h1.go hb
    have r2 := h2.go hb
    have Hb := hid hb
    clear hb
    by_cases hlt : k < xs.length
    · obtain ⟨x, hx⟩ := get_ex hlt
      obtain ⟨b, o, vh, vb, rfl, _, _, s1, s2, p1, p2, p3, p4, p5, p6⟩ := r1.pl hx
      obtain ⟨b', o', uh, ub, rfl, _, _, s3, s4, q1, q2, q3, q4, q5, q6⟩ := r2.pl hx
      obtain ⟨Ah, ch, rfl, _, _, _⟩ := s1.form
      obtain ⟨Ab, cb, rfl, _, _, _⟩ := s2.form
      obtain ⟨Bh, dh, rfl, _, _, _⟩ := s3.form
      obtain ⟨Bb, db, rfl, _, _, _⟩ := s4.form
      have S1 := hid s1; have S2 := hid s2; have S3 := hid s3; have S4 := hid s4
      clear s1 s2 s3 s4
      clear hx r1 r2 h1 h2
      go_wp2
      go_still_tail 8, (by kernel_rfl)
      change wpList _ _ _ _ _ wr.drew
      have hd : Below wr.heap.size wr wr.drew := below_drewN (Below.refl _ _) 1
      generalize wr.drew = wt at *
      have Hd := hid (bt Hb.out hd)
      have S1 := hid (S1.out.go hd); have S2 := hid (S2.out.go hd); have S3 := hid (S3.out.go hd); have S4 := hid (S4.out.go hd)
      clear hd
      go_wp2_with (go_at_call 85; with_reducible refine (eqPeeled_t x _ _ _ _ _ ?_ ?_ ?_ ?_).mono ?_; exact S1.out; exact S2.out; exact S3.out; exact S4.out; rintro e w5 ⟨rfl, hb5⟩)
      go_roundw
      case rel => exact ⟨k + 1, by omega, by go_num, bt Hd.out hb5⟩
      case measure => simp [intOf]; omega
    · go_wp2
      go_ret
      exact ⟨rfl, Hb.out⟩
set_option maxRecDepth 100000 in
theorem eqTransitS_t (v1 v2 : Value) (xs : List Tr) (w : World) (h1 : SlB tTr w.heap.size w v1 xs) (h2 : SlB tTr w.heap.size w v2 xs) :
    Calls Try.prog 31 #[v1, v2] w (ok true w.heap.size w) := by
  obtain ⟨A1, c1, rfl, a1, a2, a3⟩ := h1.form
  obtain ⟨A2, c2, rfl, b1, b2, b3⟩ := h2.form
  clear a2 b2
  go_enter Try.func31, Try.ntmps31
  go_wp2
  go_loopw [5] (fun i wr => ∃ k : Nat, k ≤ xs.length ∧ i = .int .i64 k ∧ Below w.heap.size w wr) (fun i _ => xs.length - (intOf i).toNat)
  case atStart => exact ⟨0, by omega, rfl, Below.refl _ _⟩
  case round =>
    obtain ⟨k, hk, rfl, hb⟩ := hrel
    have r1 := h1.go hb
    have r2 := h2.go hb
    have Hb := hid hb
    clear hb
    by_cases hlt : k < xs.length
    · obtain ⟨x, hx⟩ := get_ex hlt
      obtain ⟨b, o, vh, vb, rfl, _, _, s1, s2, p1, p2, p3, p4, p5, p6⟩ := r1.tr hx
      obtain ⟨b', o', uh, ub, rfl, _, _, s3, s4, q1, q2, q3, q4, q5, q6⟩ := r2.tr hx
      obtain ⟨Ah, ch, rfl, _, _, _⟩ := s1.form
      obtain ⟨Ab, cb, rfl, _, _, _⟩ := s2.form
      obtain ⟨Bh, dh, rfl, _, _, _⟩ := s3.form
      obtain ⟨Bb, db, rfl, _, _, _⟩ := s4.form
      have S1 := hid s1; have S2 := hid s2; have S3 := hid s3; have S4 := hid s4
      clear s1 s2 s3 s4
      clear hx r1 r2 h1 h2
      go_wp2
      go_still_tail 8, (by kernel_rfl)
      change wpList _ _ _ _ _ wr.drew
      have hd : Below wr.heap.size wr wr.drew := below_drewN (Below.refl _ _) 1
      generalize wr.drew = wt at *
      have Hd := hid (bt Hb.out hd)
      have S1 := hid (S1.out.go hd); have S2 := hid (S2.out.go hd); have S3 := hid (S3.out.go hd); have S4 := hid (S4.out.go hd)
      clear hd
      go_wp2_with (go_at_call 58; with_reducible refine (eqTransit_t x _ _ _ _ _ ?_ ?_ ?_ ?_).mono ?_; exact S1.out; exact S2.out; exact S3.out; exact S4.out; rintro e w5 ⟨rfl, hb5⟩)
      go_roundw
      case rel => exact ⟨k + 1, by omega, by go_num, bt Hd.out hb5⟩
      case measure => simp [intOf]; omega
    · go_wp2
      go_ret
      exact ⟨rfl, Hb.out⟩
theorem eqMix_t (x : Mx) (vs vp us up : Value) (w : World) (h1 : SlB tInt w.heap.size w vs x.seen) (h2 : SlB tPl w.heap.size w vp x.pool) (h3 : SlB tInt w.heap.size w us x.seen) (h4 : SlB tPl w.heap.size w up x.pool) :
    Calls Try.prog 56 #[.agg #[.int .i64 x.sec, vs, vp], .agg #[.int .i64 x.sec, us, up]] w (ok true w.heap.size w) := by
  have H1 := hid (fun (wx : World) (hb : Below w.heap.size w wx) => h1.go hb)
  have H2 := hid (fun (wx : World) (hb : Below w.heap.size w wx) => h2.go hb)
  have H3 := hid (fun (wx : World) (hb : Below w.heap.size w wx) => h3.go hb)
  have H4 := hid (fun (wx : World) (hb : Below w.heap.size w wx) => h4.go hb)
  clear h1 h2 h3 h4
  have g1 : (x.sec != x.sec) = false := by simp
  go_enter Try.func56, Try.ntmps56
  go_wp2_with (first | (go_at_call 75; with_reducible refine (eqIntS_t vs us x.seen _ ?_ ?_).mono ?_; (refine H1.out _ ?_; (repeat (first | exact Below.refl _ _ | refine below_drew1 ?_ | refine Below.alloc ?_ (by simp <;> omega) _))); (refine H3.out _ ?_; (repeat (first | exact Below.refl _ _ | refine below_drew1 ?_ | refine Below.alloc ?_ (by simp <;> omega) _))); rintro e w1 ⟨rfl, hb1⟩; have hc1 : Below w.heap.size w w1 := bt (by (repeat (first | exact Below.refl _ _ | refine below_drew1 ?_ | refine Below.alloc ?_ (by simp <;> omega) _))) hb1; have kb := box2 hb1; have k2 := kb.1 2 _ rfl; have l2 := kb.2 2 _ rfl; clear kb) | (go_at_call 76; with_reducible refine (eqPeeledS_t vp up x.pool _ ?_ ?_).mono ?_; exact H2.out _ hc1; exact H4.out _ hc1; rintro e w2 ⟨rfl, hb2⟩))
  go_ret
  exact ⟨rfl, bt hc1 hb2⟩
set_option maxRecDepth 100000 in
theorem eqMixS_t (v1 v2 : Value) (xs : List Mx) (w : World) (h1 : SlB tMx w.heap.size w v1 xs) (h2 : SlB tMx w.heap.size w v2 xs) :
    Calls Try.prog 29 #[v1, v2] w (ok true w.heap.size w) := by
  obtain ⟨A1, c1, rfl, a1, a2, a3⟩ := h1.form
  obtain ⟨A2, c2, rfl, b1, b2, b3⟩ := h2.form
  clear a2 b2
  go_enter Try.func29, Try.ntmps29
  go_wp2
  go_loopw [5] (fun i wr => ∃ k : Nat, k ≤ xs.length ∧ i = .int .i64 k ∧ Below w.heap.size w wr) (fun i _ => xs.length - (intOf i).toNat)
  case atStart => exact ⟨0, by omega, rfl, Below.refl _ _⟩
  case round =>
    obtain ⟨k, hk, rfl, hb⟩ := hrel
    have r1 := h1.go hb
    have r2 := h2.go hb
    have Hb := hid hb
    clear hb
    by_cases hlt : k < xs.length
    · obtain ⟨x, hx⟩ := get_ex hlt
      obtain ⟨b, o, vs, vp, rfl, _, _, s1, s2, p1, p2, p3⟩ := r1.mx hx
      obtain ⟨b', o', us, up, rfl, _, _, s3, s4, q1, q2, q3⟩ := r2.mx hx
      obtain ⟨Ah, ch, rfl, _, _, _⟩ := s1.form
      obtain ⟨Ab, cb, rfl, _, _, _⟩ := s2.form
      obtain ⟨Bh, dh, rfl, _, _, _⟩ := s3.form
      obtain ⟨Bb, db, rfl, _, _, _⟩ := s4.form
      have S1 := hid s1; have S2 := hid s2; have S3 := hid s3; have S4 := hid s4
      clear s1 s2 s3 s4
      clear hx r1 r2 h1 h2
      go_wp2
      go_still_tail 8, (by kernel_rfl)
      change wpList _ _ _ _ _ wr.drew
      have hd : Below wr.heap.size wr wr.drew := below_drewN (Below.refl _ _) 1
      generalize wr.drew = wt at *
      have Hd := hid (bt Hb.out hd)
      have S1 := hid (S1.out.go hd); have S2 := hid (S2.out.go hd); have S3 := hid (S3.out.go hd); have S4 := hid (S4.out.go hd)
      clear hd
      go_wp2_with (go_at_call 56; with_reducible refine (eqMix_t x _ _ _ _ _ ?_ ?_ ?_ ?_).mono ?_; exact S1.out; exact S2.out; exact S3.out; exact S4.out; rintro e w5 ⟨rfl, hb5⟩)
      go_roundw
      case rel => exact ⟨k + 1, by omega, by go_num, bt Hd.out hb5⟩
      case measure => simp [intOf]; omega
    · go_wp2
      go_ret
      exact ⟨rfl, Hb.out⟩
theorem eqWorld_t (x : Wd) (v u : Value) (w : World) (h : WdB w.heap.size w v x) (h' : WdB w.heap.size w u x) : Calls Try.prog 11 #[v, u] w (ok true w.heap.size w) := by
  obtain ⟨vm, vs, vn, vg, rfl, hm, hs, hn, hg⟩ := h
  obtain ⟨um, us, un, ug, rfl, jm, js, jn, jg⟩ := h'
  have g1 : (x.made != x.made) = false := by simp
  have g2 : (x.lost != x.lost) = false := by simp
  go_enter Try.func11, Try.ntmps11
  go_wp2_with fail
  refine (eqMixS_t vm um x.mixes _ (hm.go (bt (lit_below _ _) (lit_below _ _))) (jm.go (bt (lit_below _ _) (lit_below _ _)))).mono ?_
  rintro e w1 ⟨rfl, hb1⟩
  have hc : Below w.heap.size w w1 := bt (bt (lit_below _ _) (lit_below _ _)) hb1
  have kb := box2 hb1
  have k1 := kb.1 1 _ rfl; have k2 := kb.1 2 _ rfl; have k3 := kb.1 3 _ rfl; have k4 := kb.1 4 _ rfl; have k5 := kb.1 5 _ rfl
  have l1 := kb.2 1 _ rfl; have l2 := kb.2 2 _ rfl; have l3 := kb.2 3 _ rfl; have l4 := kb.2 4 _ rfl; have l5 := kb.2 5 _ rfl
  have z0 : w.heap.size < w1.heap.size := by have := hb1.size; simp at this; omega
  have z1 : w.heap.size + 1 < w1.heap.size := by have := hb1.size; simp at this; omega
  have HK := hid (fun (wx : World) (hb : Below w1.heap.size w1 wx) => And.intro ((hb.cell (p := ⟨w.heap.size, 2, none⟩) z0).trans k2) (And.intro ((hb.cell (p := ⟨w.heap.size, 3, none⟩) z0).trans k3) (And.intro ((hb.cell (p := ⟨w.heap.size, 4, none⟩) z0).trans k4) (And.intro ((hb.cell (p := ⟨w.heap.size, 5, none⟩) z0).trans k5) (And.intro ((hb.cell (p := ⟨w.heap.size + 1, 2, none⟩) z1).trans l2) (And.intro ((hb.cell (p := ⟨w.heap.size + 1, 3, none⟩) z1).trans l3) (And.intro ((hb.cell (p := ⟨w.heap.size + 1, 4, none⟩) z1).trans l4) ((hb.cell (p := ⟨w.heap.size + 1, 5, none⟩) z1).trans l5))))))))
  have Hs := hid (hs.go hc); have Hn := hid (hn.go hc); have Hg := hid (hg.go hc)
  have Js := hid (js.go hc); have Jn := hid (jn.go hc); have Jg := hid (jg.go hc)
  have Hc := hid hc
  clear hm hs hn hg jm js jn jg hb1 kb k2 k3 k4 k5 l2 l3 l4 l5 hc
  go_wp2_with fail
  refine (eqLetterS_t vs us x.sent _ Hs.out Js.out).mono ?_
  rintro e w2 ⟨rfl, hb2⟩
  clear k1 l1
  obtain ⟨k2, _, _, _, l2, _, _, _⟩ := HK.out _ hb2
  go_wp2_with fail
  refine (eqTransitS_t vn un x.net _ (Hn.out.go hb2) (Jn.out.go hb2)).mono ?_
  rintro e w3 ⟨rfl, hb3⟩
  clear k2 l2
  obtain ⟨_, k3, _, _, _, l3, _, _⟩ := HK.out _ (bt hb2 hb3)
  go_wp2_with fail
  refine (eqLetterS_t vg ug x.got _ (Hg.out.go (bt hb2 hb3)) (Jg.out.go (bt hb2 hb3))).mono ?_
  rintro e w4 ⟨rfl, hb4⟩
  clear k3 l3
  obtain ⟨_, _, k4, k5, _, _, l4, l5⟩ := HK.out _ (bt hb2 (bt hb3 hb4))
  go_wp2
  go_ret
  exact ⟨rfl, bt Hc.out (bt hb2 (bt hb3 hb4))⟩
end Go.Proofs.Ytbkckjobhopicaa
