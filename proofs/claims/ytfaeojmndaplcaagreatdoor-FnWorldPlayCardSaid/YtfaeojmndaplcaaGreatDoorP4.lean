/- Texts that the last file leans on (part 4). -/
import Derived.Deep.RegionHeld3
import Derived.Test.YtfaeojmndaplcaaGreatDoorP0
import Derived.Test.YtfaeojmndaplcaaGreatDoorP1
import Derived.Test.YtfaeojmndaplcaaGreatDoorP3
set_option linter.unusedVariables false
set_option linter.unusedSimpArgs false
set_option maxHeartbeats 4000000
set_option maxRecDepth 100000
namespace Go.Proofs.YtfaeojmndaplcaaGreatDoor
open Go Go.RowKit
theorem f8 (v1 v2 : Value) (xs : List Int) (w : World) (h1 : SlB af w.heap.size w v1 xs) (h2 : SlB af w.heap.size w v2 xs) :
  Calls Tryz.prog 72 #[v1, v2] w (ok true w.heap.size w) := by
 have := ol v1 v2 xs xs w h1 h2
 rwa [decide_eq_true rfl] at this
theorem gL (p : Pk) (vh vb uh ub : Value) (w : World) (h1 : SlB af w.heap.size w vh p.hd) (h2 : SlB af w.heap.size w vb p.bd) (h3 : SlB af w.heap.size w uh p.hd) (h4 : SlB af w.heap.size w ub p.bd) :
  Calls Tryz.prog 44 #[.agg #[.int .i64 p.el, vh, .int .i64 p.tag, vb], .agg #[.int .i64 p.el, uh, .int .i64 p.tag, ub]] w (ok true w.heap.size w) := by
 have H1 := hid (fun (wx : World) (hb : Below w.heap.size w wx) => h1.go hb)
 have H2 := hid (fun (wx : World) (hb : Below w.heap.size w wx) => h2.go hb)
 have H3 := hid (fun (wx : World) (hb : Below w.heap.size w wx) => h3.go hb)
 have H4 := hid (fun (wx : World) (hb : Below w.heap.size w wx) => h4.go hb)
 clear h1 h2 h3 h4
 have g1 : (p.el == p.el) = true := by simp
 have g2 : (p.tag == p.tag) = true := by simp
 go_enter Tryz.func44, Tryz.ntmps44
 go_wp2_with (first | (go_at_call 72; with_reducible refine (f8 vh uh p.hd _ ?_ ?_).mono ?_; (refine H1.out _ ?_; (repeat (first | exact ah | refine ae ?_ | refine Below.alloc ?_ (by simp <;> omega) _))); (refine H3.out _ ?_; (repeat (first | exact ah | refine ae ?_ | refine Below.alloc ?_ (by simp <;> omega) _))); rintro e w1 ⟨rfl, hb1⟩; have hc1 : Below w.heap.size w w1 := bt (by (repeat (first | exact ah | refine ae ?_ | refine Below.alloc ?_ (by simp <;> omega) _))) hb1; have kb := sC hb1; have k2 := kb.1 2 _ rfl; have k3 := kb.1 3 _ rfl; have l2 := kb.2 2 _ rfl; have l3 := kb.2 3 _ rfl; clear kb) | (go_at_call 72; with_reducible refine (f8 vb ub p.bd _ ?_ ?_).mono ?_; exact H2.out _ hc1; exact H4.out _ hc1; rintro e w2 ⟨rfl, hb2⟩))
 go_ret
 exact ⟨rfl, bt hc1 hb2⟩
theorem lL (x : Pl) (vh vb uh ub : Value) (w : World) (h1 : SlB af w.heap.size w vh x.pk.hd) (h2 : SlB af w.heap.size w vb x.pk.bd) (h3 : SlB af w.heap.size w uh x.pk.hd) (h4 : SlB af w.heap.size w ub x.pk.bd) :
  Calls Tryz.prog 119 #[.agg #[.int .i64 x.kind, .int .i64 x.next, .int .i64 x.pk.el, vh, .int .i64 x.pk.tag, vb], .agg #[.int .i64 x.kind, .int .i64 x.next, .int .i64 x.pk.el, uh, .int .i64 x.pk.tag, ub]] w (ok true w.heap.size w) := by
 have H1 := hid (fun (wx : World) (hb : Below w.heap.size w wx) => h1.go hb)
 have H2 := hid (fun (wx : World) (hb : Below w.heap.size w wx) => h2.go hb)
 have H3 := hid (fun (wx : World) (hb : Below w.heap.size w wx) => h3.go hb)
 have H4 := hid (fun (wx : World) (hb : Below w.heap.size w wx) => h4.go hb)
 clear h1 h2 h3 h4
 have g1 : (x.kind == x.kind) = true := by simp
 have g2 : (x.next == x.next) = true := by simp
 go_enter Tryz.func119, Tryz.ntmps119
 go_wp2_with (go_at_call 44; with_reducible refine (gL x.pk vh vb uh ub _ ?_ ?_ ?_ ?_).mono ?_; (refine H1.out _ ?_; (repeat (first | exact ah | refine ae ?_ | refine Below.alloc ?_ (by simp <;> omega) _))); (refine H2.out _ ?_; (repeat (first | exact ah | refine ae ?_ | refine Below.alloc ?_ (by simp <;> omega) _))); (refine H3.out _ ?_; (repeat (first | exact ah | refine ae ?_ | refine Below.alloc ?_ (by simp <;> omega) _))); (refine H4.out _ ?_; (repeat (first | exact ah | refine ae ?_ | refine Below.alloc ?_ (by simp <;> omega) _))); rintro e w1 ⟨rfl, hb1⟩; have hc1 : Below w.heap.size w w1 := bt (by (repeat (first | exact ah | refine ae ?_ | refine Below.alloc ?_ (by simp <;> omega) _))) hb1)
 go_ret
 exact ⟨rfl, hc1⟩
theorem fQ (v1 v2 : Value) (xs : List Lt) (w : World) (h1 : SlB tLt w.heap.size w v1 xs) (h2 : SlB tLt w.heap.size w v2 xs) :
  Calls Tryz.prog 42 #[v1, v2] w (ok true w.heap.size w) := by
 obtain ⟨A1, c1, rfl, a1, a2, a3⟩ := h1.form
 obtain ⟨A2, c2, rfl, b1, b2, b3⟩ := h2.form
 clear a2 b2
 go_enter Tryz.func42, Tryz.ntmps42
 go_wp2
 go_loopw [5] (fun i wr => ∃ k : Nat, k ≤ xs.length ∧ i = .int .i64 k ∧ Below w.heap.size w wr) (fun i _ => xs.length - (intOf i).toNat)
 case atStart => exact ⟨0, by omega, rfl, ah⟩
 case round =>
  obtain ⟨k, hk, rfl, hb⟩ := hrel
  have r1 := h1.go hb
  have r2 := h2.go hb
  have Hb := hid hb
  clear hb
  by_cases hlt : k < xs.length
  ·obtain ⟨x, hx⟩ := ak hlt
   obtain ⟨b, o, rfl, _, _, p1, p2, p3⟩ := r1.lt3 hx
   obtain ⟨b', o', rfl, _, _, q1, q2, q3⟩ := r2.lt3 hx
   clear hx r1 r2 h1 h2
   go_wp2
   go_quiet (fail)
   go_wp2
   go_roundw
   case rel => exact ⟨k + 1, by omega, by go_num, below_drewN Hb.out _⟩
   case measure => simp [intOf]; omega
  ·go_wp2
   go_ret
   exact ⟨rfl, Hb.out⟩
theorem om (v1 v2 : Value) (xs : List Pl) (w : World) (h1 : SlB tPl w.heap.size w v1 xs) (h2 : SlB tPl w.heap.size w v2 xs) :
  Calls Tryz.prog 73 #[v1, v2] w (ok true w.heap.size w) := by
 obtain ⟨A1, c1, rfl, a1, a2, a3⟩ := h1.form
 obtain ⟨A2, c2, rfl, b1, b2, b3⟩ := h2.form
 clear a2 b2
 go_enter Tryz.func73, Tryz.ntmps73
 go_wp2
 go_loopw [5] (fun i wr => ∃ k : Nat, k ≤ xs.length ∧ i = .int .i64 k ∧ Below w.heap.size w wr) (fun i _ => xs.length - (intOf i).toNat)
 case atStart => exact ⟨0, by omega, rfl, ah⟩
 case round =>
  obtain ⟨k, hk, rfl, hb⟩ := hrel
  have r1 := h1.go hb
  have r2 := h2.go hb
  have Hb := hid hb
  clear hb
  by_cases hlt : k < xs.length
  ·obtain ⟨x, hx⟩ := ak hlt
   obtain ⟨b, o, vh, vb, rfl, _, _, s1, s2, p1, p2, p3, p4, p5, p6⟩ := r1.pl hx
   obtain ⟨b', o', uh, ub, rfl, _, _, s3, s4, q1, q2, q3, q4, q5, q6⟩ := r2.pl hx
   obtain ⟨Ah, ch, rfl, _, _, _⟩ := s1.form
   obtain ⟨Ab, cb, rfl, _, _, _⟩ := s2.form
   obtain ⟨Bh, dh, rfl, _, _, _⟩ := s3.form
   obtain ⟨Bb, db, rfl, _, _, _⟩ := s4.form
   have S1 := hid s1; have S2 := hid s2; have S3 := hid s3; have S4 := hid s4
   clear s1 s2 s3 s4
   clear hx r1 r2 h1 h2
   go_wp2
   go_still_tail 8, (by kernel_rfl)
   change wpList _ _ _ _ _ wr.drew
   have hd : Below wr.heap.size wr wr.drew := below_drewN ah 1
   generalize wr.drew = wt at *
   have Hd := hid (bt Hb.out hd)
   have S1 := hid (S1.out.go hd); have S2 := hid (S2.out.go hd); have S3 := hid (S3.out.go hd); have S4 := hid (S4.out.go hd)
   clear hd
   go_wp2_with (go_at_call 119; with_reducible refine (lL x _ _ _ _ _ ?_ ?_ ?_ ?_).mono ?_; exact S1.out; exact S2.out; exact S3.out; exact S4.out; rintro e w5 ⟨rfl, hb5⟩)
   go_roundw
   case rel => exact ⟨k + 1, by omega, by go_num, bt Hd.out hb5⟩
   case measure => simp [intOf]; omega
  ·go_wp2
   go_ret
   exact ⟨rfl, Hb.out⟩
theorem pW (x : Mx) (vs vp us up : Value) (w : World) (h1 : SlB af w.heap.size w vs x.seen) (h2 : SlB tPl w.heap.size w vp x.pool) (h3 : SlB af w.heap.size w us x.seen) (h4 : SlB tPl w.heap.size w up x.pool) :
  Calls Tryz.prog 43 #[.agg #[.int .i64 x.sec, vs, vp], .agg #[.int .i64 x.sec, us, up]] w (ok true w.heap.size w) := by
 have H1 := hid (fun (wx : World) (hb : Below w.heap.size w wx) => h1.go hb)
 have H2 := hid (fun (wx : World) (hb : Below w.heap.size w wx) => h2.go hb)
 have H3 := hid (fun (wx : World) (hb : Below w.heap.size w wx) => h3.go hb)
 have H4 := hid (fun (wx : World) (hb : Below w.heap.size w wx) => h4.go hb)
 clear h1 h2 h3 h4
 have g1 : (x.sec == x.sec) = true := by simp
 go_enter Tryz.func43, Tryz.ntmps43
 go_wp2_with (first | (go_at_call 72; with_reducible refine (f8 vs us x.seen _ ?_ ?_).mono ?_; (refine H1.out _ ?_; (repeat (first | exact ah | refine ae ?_ | refine Below.alloc ?_ (by simp <;> omega) _))); (refine H3.out _ ?_; (repeat (first | exact ah | refine ae ?_ | refine Below.alloc ?_ (by simp <;> omega) _))); rintro e w1 ⟨rfl, hb1⟩; have hc1 : Below w.heap.size w w1 := bt (by (repeat (first | exact ah | refine ae ?_ | refine Below.alloc ?_ (by simp <;> omega) _))) hb1; have kb := sC hb1; have k2 := kb.1 2 _ rfl; have l2 := kb.2 2 _ rfl; clear kb) | (go_at_call 73; with_reducible refine (om vp up x.pool _ ?_ ?_).mono ?_; exact H2.out _ hc1; exact H4.out _ hc1; rintro e w2 ⟨rfl, hb2⟩))
 go_ret
 exact ⟨rfl, bt hc1 hb2⟩
theorem sc {w1 : World} {n : Nat} {a b c d e f : Value} (h : ∀ (i : Nat) v, (#[a, b, c, d, e, f] : Array Value)[i]? = some v → w1.cell? ⟨n, i, none⟩ = some v) :
  w1.cell? ⟨n, 0, none⟩ = some a ∧ w1.cell? ⟨n, 1, none⟩ = some b ∧ w1.cell? ⟨n, 2, none⟩ = some c ∧ w1.cell? ⟨n, 3, none⟩ = some d ∧ w1.cell? ⟨n, 4, none⟩ = some e ∧ w1.cell? ⟨n, 5, none⟩ = some f :=
 ⟨h 0 _ rfl, h 1 _ rfl, h 2 _ rfl, h 3 _ rfl, h 4 _ rfl, h 5 _ rfl⟩
theorem d9 (x : Wd) (v u : Value) (w : World) (h : WdB w.heap.size w v x) (h' : WdB w.heap.size w u x) : Calls Tryz.prog 23 #[v, u] w (ok true w.heap.size w) := by
 obtain ⟨vm, vs, vn, vg, rfl, hm, hs, hn, hg⟩ := h
 obtain ⟨um, us, un, ug, rfl, jm, js, jn, jg⟩ := h'
 obtain ⟨A1, c1, rfl, _, _, m3⟩ := hm.form
 obtain ⟨A3, c3, rfl, _, _, n3⟩ := hn.form
 obtain ⟨B1, d1, rfl, _, _, _⟩ := jm.form
 obtain ⟨B3, d3, rfl, _, _, _⟩ := jn.form
 have g1 : (x.made != x.made) = false := by simp
 have g2 : (x.lost != x.lost) = false := by simp
 have g3 : ((x.mixes.length : Int) != (x.mixes.length : Int)) = false := by simp
 have g4 : ((x.net.length : Int) != (x.net.length : Int)) = false := by simp
 go_enter Tryz.func23, Tryz.ntmps23
 go_wp2_with fail
 refine (fQ vs us x.sent _ (hs.go (bt (ab _ _) (ab _ _))) (js.go (bt (ab _ _) (ab _ _)))).mono ?_
 rintro e w1 ⟨rfl, hb1⟩
 have hc : Below w.heap.size w w1 := bt (bt (ab _ _) (ab _ _)) hb1
 have kb := sC hb1
 have kv := sc kb.1
 have ku := sc kb.2
 have z0 : w.heap.size < w1.heap.size := by have := hb1.size; simp at this; omega
 have z1 : w.heap.size + 1 < w1.heap.size := by have := hb1.size; simp at this; omega
 have HV := hid (ij z0 kv.1 kv.2.1 kv.2.2.1 kv.2.2.2.1 kv.2.2.2.2.1 kv.2.2.2.2.2)
 have HU := hid (ij z1 ku.1 ku.2.1 ku.2.2.1 ku.2.2.2.1 ku.2.2.2.2.1 ku.2.2.2.2.2)
 have Hm := hid (hm.go hc); have Hn := hid (hn.go hc); have Hg := hid (hg.go hc)
 have Jm := hid (jm.go hc); have Jn := hid (jn.go hc); have Jg := hid (jg.go hc)
 have Hc := hid hc
 clear hm hs hn hg jm js jn jg hb1 kb kv ku hc
 obtain ⟨k0, k1, k2, k3, k4, k5⟩ := HV.out _ ah
 obtain ⟨l0, l1, l2, l3, l4, l5⟩ := HU.out _ ah
 go_wp2_with fail
 refine (fQ vg ug x.got _ Hg.out Jg.out).mono ?_
 rintro e w2 ⟨rfl, hb2⟩
 have Hc := hid (bt Hc.out hb2)
 have HV := hid (fun (wx : World) (hb : Below w2.heap.size w2 wx) => HV.out wx (bt hb2 hb))
 have HU := hid (fun (wx : World) (hb : Below w2.heap.size w2 wx) => HU.out wx (bt hb2 hb))
 have Hm := hid (Hm.out.go hb2); have Hn := hid (Hn.out.go hb2)
 have Jm := hid (Jm.out.go hb2); have Jn := hid (Jn.out.go hb2)
 have z0 := Nat.lt_of_lt_of_le z0 hb2.size
 have z1 := Nat.lt_of_lt_of_le z1 hb2.size
 clear k0 k1 k2 k3 k4 k5 l0 l1 l2 l3 l4 l5 hb2 Hg Jg
 obtain ⟨k0, k1, k2, k3, k4, k5⟩ := HV.out _ ah
 obtain ⟨l0, l1, l2, l3, l4, l5⟩ := HU.out _ ah
 go_wp2
 clear k0 k1 k2 k3 k4 k5 l0 l1 l2 l3 l4 l5
 go_loopw [5] (fun i wr => ∃ k : Nat, k ≤ x.mixes.length ∧ i = .int .i64 k ∧ Below w2.heap.size w2 wr) (fun i _ => x.mixes.length - (intOf i).toNat)
 case atStart => exact ⟨0, by omega, rfl, ah⟩
 case round =>
  obtain ⟨k, hk, rfl, hb⟩ := hrel
  have r1 := Hm.out.go hb
  have r2 := Jm.out.go hb
  obtain ⟨k0, k1, k2, k3, k4, k5⟩ := HV.out _ hb
  obtain ⟨l0, l1, l2, l3, l4, l5⟩ := HU.out _ hb
  have zr0 := Nat.lt_of_lt_of_le z0 hb.size
  have zr1 := Nat.lt_of_lt_of_le z1 hb.size
  have Hb := hid hb
  clear hb
  by_cases hlt : k < x.mixes.length
  ·obtain ⟨y, hx⟩ := ak hlt
   obtain ⟨b, o, vs, vp, rfl, _, hbl, s1, s2, p1, p2, p3⟩ := r1.mx hx
   obtain ⟨b', o', us, up, rfl, _, hbl', s3, s4, q1, q2, q3⟩ := r2.mx hx
   obtain ⟨Ah, ch, rfl, _, _, _⟩ := s1.form
   obtain ⟨Ab, cb, rfl, _, _, _⟩ := s2.form
   obtain ⟨Bh, dh, rfl, _, _, _⟩ := s3.form
   obtain ⟨Bb, db, rfl, _, _, _⟩ := s4.form
   have S1 := hid s1; have S2 := hid s2; have S3 := hid s3; have S4 := hid s4
   have HS := hid (fun (wx : World) (hb : Below wr.heap.size wr wx) => And.intro hb (And.intro ((hb.cell (p := ⟨w.heap.size, 0, none⟩) zr0).trans k0) (And.intro ((hb.cell (p := ⟨w.heap.size + 1, 0, none⟩) zr1).trans l0) (And.intro ((hb.cell (p := ⟨b, o + k * 3, none⟩) hbl).trans p1) (And.intro ((hb.cell (p := ⟨b, o + k * 3 + 1, none⟩) hbl).trans p2) (And.intro ((hb.cell (p := ⟨b, o + k * 3 + 2, none⟩) hbl).trans p3) (And.intro ((hb.cell (p := ⟨b', o' + k * 3, none⟩) hbl').trans q1) (And.intro ((hb.cell (p := ⟨b', o' + k * 3 + 1, none⟩) hbl').trans q2) ((hb.cell (p := ⟨b', o' + k * 3 + 2, none⟩) hbl').trans q3)))))))))
   clear hx r1 r2 s1 s2 s3 s4
   go_wp2
   refine rh (S := (fun w' => Below wr.heap.size wr w' ∧ w'.cell? ⟨w.heap.size, 0, none⟩ = some (.slice (some ⟨b, o, none⟩) x.mixes.length c1) ∧ w'.cell? ⟨w.heap.size + 1, 0, none⟩ = some (.slice (some ⟨b', o', none⟩) x.mixes.length d1) ∧  w'.cell? ⟨b, o + k * 3, none⟩ = some (.int .i64 y.sec) ∧ w'.cell? ⟨b, o + k * 3 + 1, none⟩ = some (.slice Ah y.seen.length ch) ∧ w'.cell? ⟨b, o + k * 3 + 2, none⟩ = some (.slice Ab y.pool.length cb) ∧  w'.cell? ⟨b', o' + k * 3, none⟩ = some (.int .i64 y.sec) ∧ w'.cell? ⟨b', o' + k * 3 + 1, none⟩ = some (.slice Bh y.seen.length dh) ∧ w'.cell? ⟨b', o' + k * 3 + 2, none⟩ = some (.slice Bb y.pool.length db))) 12 (by kernel_rfl) rfl (fun | none, _, _, _, _ => id | some _, _, _, _, _ => id) ?_ (fun hH => ?_)
   ·(try dsimp only); first | assumption | exact HS.out _ (bt (And.left (by assumption)) hb5) | exact HS.out _ (ae ah)
   simp only [pw]
   refine ts 0 rfl (by kernel_rfl) rfl (fun _ f => by (try dsimp only at f); go_simp; try with_reducible rfl) ?_
   refine ts 1 rfl (by kernel_rfl) rfl (fun _ f => by (try dsimp only at f); go_simp; try with_reducible rfl) ?_
   refine ts 2 rfl (by kernel_rfl) rfl (fun _ f => by (try dsimp only at f); go_simp; try with_reducible rfl) ?_
   try simp only [pw]
   refine ts 3 rfl (by kernel_rfl) rfl (fun _ f => by (try dsimp only at f); go_simp; try with_reducible rfl) ?_
   refine ts 4 rfl (by kernel_rfl) rfl (fun _ f => by (try dsimp only at f); go_simp; try with_reducible rfl) ?_
   refine ts 5 rfl (by kernel_rfl) rfl (fun _ f => by (try dsimp only at f); go_simp; try with_reducible rfl) ?_
   try simp only [pw]
   refine ts 6 rfl (by kernel_rfl) rfl (fun _ f => by (try dsimp only at f); go_simp; try with_reducible rfl) ?_
   refine ts 7 rfl (by kernel_rfl) rfl (fun _ f => by (try dsimp only at f); go_simp; try with_reducible rfl) ?_
   refine ts 8 rfl (by kernel_rfl) rfl (fun _ f => by (try dsimp only at f); go_simp; try with_reducible rfl) ?_
   try simp only [pw]
   refine ts 9 rfl (by kernel_rfl) rfl (fun _ f => by (try dsimp only at f); go_simp; try with_reducible rfl) ?_
   try simp only [pw]
   refine rq 10 (by kernel_rfl) rfl fun K hK => ?_
   go_simp
   (go_at_call 43; with_reducible refine (pW y _ _ _ _ _ ?_ ?_ ?_ ?_).mono ?_; (refine S1.out.go ?_; (repeat (first | exact ah | refine ae ?_ | refine Below.alloc ?_ (by simp <;> omega) _))); (refine S2.out.go ?_; (repeat (first | exact ah | refine ae ?_ | refine Below.alloc ?_ (by simp <;> omega) _))); (refine S3.out.go ?_; (repeat (first | exact ah | refine ae ?_ | refine Below.alloc ?_ (by simp <;> omega) _))); (refine S4.out.go ?_; (repeat (first | exact ah | refine ae ?_ | refine Below.alloc ?_ (by simp <;> omega) _))); rintro e w' ⟨rfl, hb5⟩)
   refine hK.out _ _ ?_ (fun hH => ?_)
   ·(try dsimp only); first | assumption | exact HS.out _ (bt (And.left (by assumption)) hb5) | exact HS.out _ (ae ah)
   clear hK K
   refine ts 11 rfl (by kernel_rfl) rfl (fun _ f => by (try dsimp only at f); go_simp; try with_reducible rfl) ?_
   try simp only [pw]
   refine dm (by kernel_rfl) ?_
   go_wp2
   go_roundw
   case rel => exact ⟨k + 1, by omega, by go_num, bt Hb.out (bt (ae ah) hb5)⟩
   case measure => simp [intOf]; omega
  ·obtain ⟨wA, rfl⟩ : ∃ wA : World, wA = wr := ⟨_, rfl⟩
   have Hc := hid (bt Hc.out Hb.out)
   have HV := hid (fun (wx : World) (hb : Below wA.heap.size wA wx) => HV.out wx (bt Hb.out hb))
   have HU := hid (fun (wx : World) (hb : Below wA.heap.size wA wx) => HU.out wx (bt Hb.out hb))
   have Hn := hid (Hn.out.go Hb.out); have Jn := hid (Jn.out.go Hb.out)
   clear r1 r2 Hm Jm Hb
   go_wp2
   clear k0 k1 k2 k3 k4 k5 l0 l1 l2 l3 l4 l5
   go_loopw [6] (fun i wr => ∃ k : Nat, k ≤ x.net.length ∧ i = .int .i64 k ∧ Below wA.heap.size wA wr) (fun i _ => x.net.length - (intOf i).toNat)
   case atStart => exact ⟨0, by omega, rfl, ah⟩
   case round =>
    obtain ⟨k8, hk8, rfl, hb⟩ := hrel
    have r1 := Hn.out.go hb
    have r2 := Jn.out.go hb
    obtain ⟨k0, k1, k2, k3, k4, k5⟩ := HV.out _ hb
    obtain ⟨l0, l1, l2, l3, l4, l5⟩ := HU.out _ hb
    have zs0 := Nat.lt_of_lt_of_le zr0 hb.size
    have zs1 := Nat.lt_of_lt_of_le zr1 hb.size
    have Hb := hid hb
    clear hb
    by_cases hlt8 : k8 < x.net.length
    ·obtain ⟨y, hx⟩ := ak hlt8
     obtain ⟨b, o, vh, vb, rfl, _, hbl, s1, s2, p1, p2, p3, p4, p5, p6⟩ := r1.tr hx
     obtain ⟨b', o', uh, ub, rfl, _, hbl', s3, s4, q1, q2, q3, q4, q5, q6⟩ := r2.tr hx
     obtain ⟨Ah, ch, rfl, _, _, _⟩ := s1.form
     obtain ⟨Ab, cb, rfl, _, _, _⟩ := s2.form
     obtain ⟨Bh, dh, rfl, _, _, _⟩ := s3.form
     obtain ⟨Bb, db, rfl, _, _, _⟩ := s4.form
     have S1 := hid s1; have S2 := hid s2; have S3 := hid s3; have S4 := hid s4
     have f1 : (y.mix != y.mix) = false := by simp
     have f2 : (y.ch != y.ch) = false := by simp
     have HS := hid (fun (wx : World) (hb : Below wr.heap.size wr wx) => And.intro hb (And.intro ((hb.cell (p := ⟨w.heap.size, 2, none⟩) zs0).trans k2) (And.intro ((hb.cell (p := ⟨w.heap.size + 1, 2, none⟩) zs1).trans l2)
      (And.intro ((hb.cell (p := ⟨b, o + k8 * 6, none⟩) hbl).trans p1) (And.intro ((hb.cell (p := ⟨b, o + k8 * 6 + 1, none⟩) hbl).trans p2) (And.intro ((hb.cell (p := ⟨b, o + k8 * 6 + 2, none⟩) hbl).trans p3) (And.intro ((hb.cell (p := ⟨b, o + k8 * 6 + 3, none⟩) hbl).trans p4) (And.intro ((hb.cell (p := ⟨b, o + k8 * 6 + 4, none⟩) hbl).trans p5) (And.intro ((hb.cell (p := ⟨b, o + k8 * 6 + 5, none⟩) hbl).trans p6)
      (And.intro ((hb.cell (p := ⟨b', o' + k8 * 6, none⟩) hbl').trans q1) (And.intro ((hb.cell (p := ⟨b', o' + k8 * 6 + 1, none⟩) hbl').trans q2) (And.intro ((hb.cell (p := ⟨b', o' + k8 * 6 + 2, none⟩) hbl').trans q3) (And.intro ((hb.cell (p := ⟨b', o' + k8 * 6 + 3, none⟩) hbl').trans q4) (And.intro ((hb.cell (p := ⟨b', o' + k8 * 6 + 4, none⟩) hbl').trans q5) ((hb.cell (p := ⟨b', o' + k8 * 6 + 5, none⟩) hbl').trans q6)))))))))))))))
     clear hx r1 r2 s1 s2 s3 s4
     go_wp2
     refine rh (S := (fun w' => Below wr.heap.size wr w' ∧ w'.cell? ⟨w.heap.size, 2, none⟩ = some (.slice (some ⟨b, o, none⟩) x.net.length c3) ∧ w'.cell? ⟨w.heap.size + 1, 2, none⟩ = some (.slice (some ⟨b', o', none⟩) x.net.length d3) ∧  w'.cell? ⟨b, o + k8 * 6, none⟩ = some (.int .i64 y.mix) ∧ w'.cell? ⟨b, o + k8 * 6 + 1, none⟩ = some (.int .i64 y.pk.el) ∧ w'.cell? ⟨b, o + k8 * 6 + 2, none⟩ = some (.slice Ah y.pk.hd.length ch) ∧ w'.cell? ⟨b, o + k8 * 6 + 3, none⟩ = some (.int .i64 y.pk.tag) ∧ w'.cell? ⟨b, o + k8 * 6 + 4, none⟩ = some (.slice Ab y.pk.bd.length cb) ∧ w'.cell? ⟨b, o + k8 * 6 + 5, none⟩ = some (.bool y.ch) ∧  w'.cell? ⟨b', o' + k8 * 6, none⟩ = some (.int .i64 y.mix) ∧ w'.cell? ⟨b', o' + k8 * 6 + 1, none⟩ = some (.int .i64 y.pk.el) ∧ w'.cell? ⟨b', o' + k8 * 6 + 2, none⟩ = some (.slice Bh y.pk.hd.length dh) ∧ w'.cell? ⟨b', o' + k8 * 6 + 3, none⟩ = some (.int .i64 y.pk.tag) ∧ w'.cell? ⟨b', o' + k8 * 6 + 4, none⟩ = some (.slice Bb y.pk.bd.length db) ∧ w'.cell? ⟨b', o' + k8 * 6 + 5, none⟩ = some (.bool y.ch))) 44 (by kernel_rfl) rfl (fun | none, _, _, _, _ => id | some _, _, _, _, _ => id) ?_ (fun hH => ?_)
     ·(try dsimp only); first | assumption | exact HS.out _ (bt (And.left (by assumption)) hb5) | exact HS.out _ (ae ah)
     simp only [pw]
     refine ts 0 rfl (by kernel_rfl) rfl (fun _ f => by (try dsimp only at f); go_simp; try with_reducible rfl) ?_
     refine ts 1 rfl (by kernel_rfl) rfl (fun _ f => by (try dsimp only at f); go_simp; try with_reducible rfl) ?_
     refine ts 2 rfl (by kernel_rfl) rfl (fun _ f => by (try dsimp only at f); go_simp; try with_reducible rfl) ?_
     try simp only [pw]
     refine ts 3 rfl (by kernel_rfl) rfl (fun _ f => by (try dsimp only at f); go_simp; try with_reducible rfl) ?_
     refine ts 4 rfl (by kernel_rfl) rfl (fun _ f => by (try dsimp only at f); go_simp; try with_reducible rfl) ?_
     refine ts 5 rfl (by kernel_rfl) rfl (fun _ f => by (try dsimp only at f); go_simp; try with_reducible rfl) ?_
     try simp only [pw]
     refine ts 6 rfl (by kernel_rfl) rfl (fun _ f => by (try dsimp only at f); go_simp; try with_reducible rfl) ?_
     refine ts 7 rfl (by kernel_rfl) rfl (fun _ f => by (try dsimp only at f); go_simp; try with_reducible rfl) ?_
     refine ts 8 rfl (by kernel_rfl) rfl (fun _ f => by (try dsimp only at f); go_simp; try with_reducible rfl) ?_
     try simp only [pw]
     refine ts 9 rfl (by kernel_rfl) rfl (fun _ f => by (try dsimp only at f); go_simp; try with_reducible rfl) ?_
     refine ts 10 rfl (by kernel_rfl) rfl (fun _ f => by (try dsimp only at f); go_simp; try with_reducible rfl) ?_
     refine ts 11 rfl (by kernel_rfl) rfl (fun _ f => by (try dsimp only at f); go_simp; try with_reducible rfl) ?_
     try simp only [pw]
     refine ts 12 rfl (by kernel_rfl) rfl (fun _ f => by (try dsimp only at f); go_simp; try with_reducible rfl) ?_
     refine ts 13 rfl (by kernel_rfl) rfl (fun _ f => by (try dsimp only at f); go_simp; try with_reducible rfl) ?_
     refine ts 14 rfl (by kernel_rfl) rfl (fun _ f => by (try dsimp only at f); go_simp; try with_reducible rfl) ?_
     try simp only [pw]
     refine ts 15 rfl (by kernel_rfl) rfl (fun _ f => by (try dsimp only at f); go_simp; try with_reducible rfl) ?_
     refine ts 16 rfl (by kernel_rfl) rfl (fun _ f => by (try dsimp only at f); go_simp; try with_reducible rfl) ?_
     refine ts 17 rfl (by kernel_rfl) rfl (fun _ f => by (try dsimp only at f); go_simp; try with_reducible rfl) ?_
     try simp only [pw]
     refine ts 18 rfl (by kernel_rfl) rfl (fun _ f => by (try dsimp only at f); go_simp; try with_reducible rfl) ?_
     refine ts 19 rfl (by kernel_rfl) rfl (fun _ f => by (try dsimp only at f); go_simp; try with_reducible rfl) ?_
     refine ts 20 rfl (by kernel_rfl) rfl (fun _ f => by (try dsimp only at f); go_simp; try with_reducible rfl) ?_
     try simp only [pw]
     refine ts 21 rfl (by kernel_rfl) rfl (fun _ f => by (try dsimp only at f); go_simp; try with_reducible rfl) ?_
     refine ts 22 rfl (by kernel_rfl) rfl (fun _ f => by (try dsimp only at f); go_simp; try with_reducible rfl) ?_
     refine ts 23 rfl (by kernel_rfl) rfl (fun _ f => by (try dsimp only at f); go_simp; try with_reducible rfl) ?_
     try simp only [pw]
     refine ts 24 rfl (by kernel_rfl) rfl (fun _ f => by (try dsimp only at f); go_simp; try with_reducible rfl) ?_
     refine ts 25 rfl (by kernel_rfl) rfl (fun _ f => by (try dsimp only at f); go_simp; try with_reducible rfl) ?_
     refine ts 26 rfl (by kernel_rfl) rfl (fun _ f => by (try dsimp only at f); go_simp; try with_reducible rfl) ?_
     try simp only [pw]
     refine ts 27 rfl (by kernel_rfl) rfl (fun _ f => by (try dsimp only at f); go_simp; try with_reducible rfl) ?_
     refine ts 28 rfl (by kernel_rfl) rfl (fun _ f => by (try dsimp only at f); go_simp; try with_reducible rfl) ?_
     refine ts 29 rfl (by kernel_rfl) rfl (fun _ f => by (try dsimp only at f); go_simp; try with_reducible rfl) ?_
     try simp only [pw]
     refine ts 30 rfl (by kernel_rfl) rfl (fun _ f => by (try dsimp only at f); go_simp; try with_reducible rfl) ?_
     refine ts 31 rfl (by kernel_rfl) rfl (fun _ f => by (try dsimp only at f); go_simp; try with_reducible rfl) ?_
     refine ts 32 rfl (by kernel_rfl) rfl (fun _ f => by (try dsimp only at f); go_simp; try with_reducible rfl) ?_
     try simp only [pw]
     refine ts 33 rfl (by kernel_rfl) rfl (fun _ f => by (try dsimp only at f); go_simp; try with_reducible rfl) ?_
     refine ts 34 rfl (by kernel_rfl) rfl (fun _ f => by (try dsimp only at f); go_simp; try with_reducible rfl) ?_
     refine ts 35 rfl (by kernel_rfl) rfl (fun _ f => by (try dsimp only at f); go_simp; try with_reducible rfl) ?_
     try simp only [pw]
     refine ts 36 rfl (by kernel_rfl) rfl (fun _ f => by (try dsimp only at f); go_simp; try with_reducible rfl) ?_
     refine ts 37 rfl (by kernel_rfl) rfl (fun _ f => by (try dsimp only at f); go_simp; try with_reducible rfl) ?_
     refine ts 38 rfl (by kernel_rfl) rfl (fun _ f => by (try dsimp only at f); go_simp; try with_reducible rfl) ?_
     try simp only [pw]
     refine ts 39 rfl (by kernel_rfl) rfl (fun _ f => by (try dsimp only at f); go_simp; try with_reducible rfl) ?_
     refine ts 40 rfl (by kernel_rfl) rfl (fun _ f => by (try dsimp only at f); go_simp; try with_reducible rfl) ?_
     try simp only [pw]
     refine rq 41 (by kernel_rfl) rfl fun K hK => ?_
     go_simp
     (go_at_call 44; with_reducible refine (gL y.pk _ _ _ _ _ ?_ ?_ ?_ ?_).mono ?_; (refine S1.out.go ?_; (repeat (first | exact ah | refine ae ?_ | refine Below.alloc ?_ (by simp <;> omega) _))); (refine S2.out.go ?_; (repeat (first | exact ah | refine ae ?_ | refine Below.alloc ?_ (by simp <;> omega) _))); (refine S3.out.go ?_; (repeat (first | exact ah | refine ae ?_ | refine Below.alloc ?_ (by simp <;> omega) _))); (refine S4.out.go ?_; (repeat (first | exact ah | refine ae ?_ | refine Below.alloc ?_ (by simp <;> omega) _))); rintro e w' ⟨rfl, hb5⟩)
     refine hK.out _ _ ?_ (fun hH => ?_)
     ·(try dsimp only); first | assumption | exact HS.out _ (bt (And.left (by assumption)) hb5) | exact HS.out _ (ae ah)
     clear hK K
     refine ts 42 rfl (by kernel_rfl) rfl (fun _ f => by (try dsimp only at f); go_simp; try with_reducible rfl) ?_
     try simp only [pw]
     refine ts 43 rfl (by kernel_rfl) rfl (fun _ f => by (try dsimp only at f); go_simp; try with_reducible rfl) ?_
     try simp only [pw]
     refine dm (by kernel_rfl) ?_
     go_wp2
     go_roundw
     case rel => exact ⟨k8 + 1, by omega, by go_num, bt Hb.out (bt (ae ah) hb5)⟩
     case measure => simp [intOf]; omega
    ·go_wp2
     go_ret
     exact ⟨rfl, bt Hc.out Hb.out⟩
end Go.Proofs.YtfaeojmndaplcaaGreatDoor
