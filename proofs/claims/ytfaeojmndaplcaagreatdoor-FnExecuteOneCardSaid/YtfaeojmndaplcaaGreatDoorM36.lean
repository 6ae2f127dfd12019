/- Texts that the last file leans on (part 36). -/
import Derived.Test.YtfaeojmndaplcaaGreatDoorM31
import Derived.Test.YtfaeojmndaplcaaGreatDoorM32
import Derived.Test.YtfaeojmndaplcaaGreatDoorM7
import Derived.Test.YtfaeojmndaplcaaGreatDoorM8
set_option linter.unusedVariables false
set_option linter.unusedSimpArgs false
set_option maxHeartbeats 4000000
set_option maxRecDepth 100000
namespace Go.Proofs.YtfaeojmndaplcaaGreatDoor
open Go Go.RowKit
def xX (B g p n k : Nat) (w : World) (e : Ending) (w' : World) : Prop :=
 ∃ t q, e = .returned (.string t) ∧ t.size ≤ n ∧ q ≤ p + k ∧ Rdr B w' g q ∧ Tch [g] w w'
theorem iZ (B g p n : Nat) (ps : List ByteArray) (e : Nat) (w : World) (hr : Rdr B w g p) (hp : p ≤ 1000000) (hl : ps.length ≤ 100) (h0 : ps ≠ []) (hn : ps.all (fun x => decide (x.size ≤ n)) = true) :
  Calls Tryz.prog 50 #[.pointer (some ⟨g, 0, none⟩), .slice (some ⟨w.heap.size, 0, none⟩) ps.length ps.length] (w.alloc (.cells (ps.map Value.string).toArray e)) (xX B g p n 1 w) := by
 have hs := lG w ps e h0 (by unfold maxLen; omega)
 have hgw := hr.lt
 have hr1 := hr.below (ab w (.cells (ps.map Value.string).toArray e)) hgw.2 (by omega)
 have h0l : 0 < ps.length := List.length_pos_iff.2 h0
 have HT := hid (Tch.of (S := [g]) (ab w (.cells (ps.map Value.string).toArray e)))
 have hsz : (w.alloc (.cells (ps.map Value.string).toArray e)).heap.size = w.heap.size + 1 := by simp
 have Hn := hid hn
 generalize w.alloc (.cells (ps.map Value.string).toArray e) = w1 at *
 go_enter Tryz.func50, Tryz.ntmps50
 go_wp2_with fail
 refine (kt B _ g p _ hr1 (by omega)).mono ?_
 rintro e w2 ⟨m, rfl, m0, m1, _, hr2, hg⟩
 have m1 := m1 (by omega)
 obtain ⟨k, rfl⟩ := Int.eq_ofNat_of_zero_le m0
 obtain ⟨x, hx⟩ := ai (xs := ps) (k := k) (by omega)
 have hxn := of_decide_eq_true (List.all_eq_true.1 Hn.out x (List.mem_of_getElem? hx))
 have kc : w2.cell? ⟨w.heap.size, k, none⟩ = some (.string x) := by
  obtain ⟨b', o', e', _, _, hc⟩ := hs.str hx
  cases e'
  rw [World.cell?_of_block (w := w1) (hg.block _ (by dsimp only; omega) (by intro e; injection e with e; dsimp only at e; omega)), hc.symm]
  simp
 have HT2 := hid (HT.out.trans (Tch.grown hg (fun k hk _ => by injection hk with hk; subst hk; exact List.mem_cons_self)))
 have Hr2 := hid hr2
 clear hs hx hr1 hr2 hg HT hr
 go_wp2_with fail
 go_ret
 exact ⟨x, p + 1, rfl, hxn, by omega, Hr2.out, HT2.out⟩
theorem zo (l : Array UInt8) : (⟨l⟩ : ByteArray).size = l.size := rfl
theorem lu (B g p : Nat) (w : World) (hr : Rdr B w g p) (hp : p ≤ 100000) : Calls Tryz.prog 28 #[.pointer (some ⟨g, 0, none⟩)] w (xX B g p 40 6 w) := by
 go_enter Tryz.func28, Tryz.ntmps28
 go_wp2_with fail
 refine (iZ B g p 1 [⟨#[48]⟩, ⟨#[49]⟩, ⟨#[50]⟩, ⟨#[55]⟩, ⟨#[56]⟩] 9 _ hr (by omega) (by simp) (by simp) (by decide +kernel)).mono ?_
 rintro e aw ⟨a, aq, rfl, az, ap, ar, aT⟩
 go_wp2_with fail
 refine (kt B _ g aq _ ar (by omega)).mono ?_
 rintro e w2 ⟨m, rfl, m0, m1, _, hr2, hg⟩
 have m1 := m1 (by omega)
 have HT := hid (aT.trans (Tch.grown hg (fun k hk _ => by injection hk with hk; subst hk; exact List.mem_cons_self)))
 have Hr := hid hr2
 obtain ⟨qa, hqa⟩ : ∃ q, q = aq := ⟨_, rfl⟩
 subst hqa
 clear hr hr2 hg ar aT
 obtain ⟨k, rfl⟩ := Int.eq_ofNat_of_zero_le m0
 by_cases h3 : k < 3
 ·have f1 : ¬ 9223372036854775807 < 5 + a.size := by omega
  have f2 : ¬ 9223372036854775807 < 5 + a.size + 1 := by omega
  have hk : k = 0 ∨ k = 1 ∨ k = 2 := by omega
  clear h3 m0 m1
  rcases hk with rfl | rfl | rfl
  all_goals
   go_wp2_with fail
   refine (iZ B g (qa + 1) 2 [⟨#[49]⟩, ⟨#[51]⟩, ⟨#[48, 55]⟩] 9 _ Hr.out (by omega) (by simp) (by simp) (by decide +kernel)).mono ?_
   rintro e bw ⟨b, bq, rfl, bz, bp, br, bT⟩
   have f3 : ¬ 9223372036854775807 < 5 + a.size + 1 + b.size := by omega
   have f4 : ¬ 9223372036854775807 < 5 + a.size + 1 + b.size + 1 := by omega
   go_wp2_with fail
   refine (iZ B g bq 1 [⟨#[48]⟩, ⟨#[51]⟩, ⟨#[54]⟩, ⟨#[56]⟩, ⟨#[57]⟩] 9 _ br (by omega) (by simp) (by simp) (by decide +kernel)).mono ?_
   rintro e cw ⟨c, cq, rfl, cz, cp, cr, cT⟩
   have f5 : ¬ 9223372036854775807 < 5 + a.size + 1 + b.size + 1 + c.size := by omega
   go_wp2_with fail
   go_ret
   exact ⟨_, cq, rfl, by simp [zo]; omega, by omega, cr, (HT.out.trans bT).trans cT⟩
 by_cases h6 : k < 6
 ·have hk : k = 3 ∨ k = 4 ∨ k = 5 := by omega
  clear h3 h6 m0 m1
  rcases hk with rfl | rfl | rfl
  all_goals
   go_wp2_with fail
   refine (iZ B g (qa + 1) 1 [⟨#[48]⟩, ⟨#[48]⟩, ⟨#[49]⟩] 9 _ Hr.out (by omega) (by simp) (by simp) (by decide +kernel)).mono ?_
   rintro e bw ⟨b, bq, rfl, bz, bp, br, bT⟩
   have f1 : ¬ 9223372036854775807 < 8 + b.size := by omega
   go_wp2_with fail
   go_ret
   exact ⟨_, bq, rfl, by simp [zo]; omega, by omega, br, HT.out.trans bT⟩
 have hk : k = 6 ∨ k = 7 ∨ k = 8 ∨ k = 9 ∨ k = 10 ∨ k = 11 := by omega
 clear h3 h6 m0 m1
 rcases hk with rfl | rfl | rfl | rfl | rfl | rfl
 ·go_wp2_with fail
  refine (iZ B g (qa + 1) 10 [⟨#[108, 111, 115, 101, 32, 48]⟩, ⟨#[116, 119, 105, 99, 101, 32, 48]⟩, ⟨#[99, 104, 97, 110, 103, 101, 32, 48, 32, 51]⟩, ⟨#[99, 104, 97, 110, 103, 101, 32, 48, 32, 57]⟩] 9 _ Hr.out (by omega) (by simp) (by simp) (by decide +kernel)).mono ?_
  rintro e bw ⟨b, bq, rfl, bz, bp, br, bT⟩
  go_wp2_with fail
  go_ret
  exact ⟨_, bq, rfl, by omega, by omega, br, HT.out.trans bT⟩
 ·go_wp2_with fail
  refine (iZ B g (qa + 1) 1 [⟨#[48]⟩, ⟨#[49]⟩, ⟨#[50]⟩, ⟨#[51]⟩] 9 _ Hr.out (by omega) (by simp) (by simp) (by decide +kernel)).mono ?_
  rintro e bw ⟨b, bq, rfl, bz, bp, br, bT⟩
  have f1 : ¬ 9223372036854775807 < 6 + b.size := by omega
  go_wp2_with fail
  go_ret
  exact ⟨_, bq, rfl, by simp [zo]; omega, by omega, br, HT.out.trans bT⟩
 ·go_wp2_with fail
  refine (iZ B g (qa + 1) 1 [⟨#[48]⟩, ⟨#[49]⟩, ⟨#[50]⟩, ⟨#[51]⟩] 9 _ Hr.out (by omega) (by simp) (by simp) (by decide +kernel)).mono ?_
  rintro e bw ⟨b, bq, rfl, bz, bp, br, bT⟩
  have f1 : ¬ 9223372036854775807 < 6 + b.size := by omega
  go_wp2_with fail
  go_ret
  exact ⟨_, bq, rfl, by simp [zo]; omega, by omega, br, HT.out.trans bT⟩
 ·go_wp2_with fail
  go_ret
  exact ⟨_, qa + 1, rfl, by decide, by omega, Hr.out, HT.out⟩
 ·go_wp2_with fail
  go_ret
  exact ⟨_, qa + 1, rfl, by decide, by omega, Hr.out, HT.out⟩
 ·go_wp2_with fail
  refine (iZ B g (qa + 1) 9 [⟨#[]⟩, ⟨#[119, 104, 97, 116]⟩, ⟨#[115, 101, 110, 100, 32, 49]⟩, ⟨#[102, 108, 117, 115, 104]⟩, ⟨#[100, 101, 108, 105, 118, 101, 114, 32, 120]⟩] 9 _ Hr.out (by omega) (by simp) (by simp) (by decide +kernel)).mono ?_
  rintro e bw ⟨b, bq, rfl, bz, bp, br, bT⟩
  go_wp2_with fail
  go_ret
  exact ⟨_, bq, rfl, by omega, by omega, br, HT.out.trans bT⟩
theorem uF {o s q C : Nat} (h : o + s * (2 * q) ≤ C) (hq : 0 < q) : o + s ≤ C ∧ s + s ≤ C ∧ (q % 2 = 1 → o + s + (s + s) * (2 * (q / 2)) ≤ C) ∧ (q % 2 = 0 → o + (s + s) * (2 * (q / 2)) ≤ C) := by
 have h1 : s * 2 ≤ s * (2 * q) := Nat.mul_le_mul_left s (by omega)
 have h2 : (s + s) * (2 * (q / 2)) = s * (2 * (2 * (q / 2))) := by rw [← Nat.two_mul, Nat.mul_comm 2 s, Nat.mul_assoc]
 refine ⟨by omega, by omega, fun hp => ?_, fun hp => ?_⟩
 ·rw [h2, show 2 * q = 2 * (2 * (q / 2)) + 2 by omega, Nat.mul_add] at *
  omega
 ·rw [h2, show 2 * (2 * (q / 2)) = 2 * q by omega]
  exact h
theorem vZ (s : ByteArray) (n : Nat) (w : World) (hs : s.size ≤ 5) (hn : n ≤ 128) : Calls Tryz.prog 29 #[.string s, .int .i64 n] w fun e w' => ∃ t, e = .returned (.string t) ∧ t.size ≤ 1280 ∧ w' = w := by
 have h0 : 0 + s.size * (2 * n) ≤ 1280 := by
  have := Nat.mul_le_mul hs (show 2 * n ≤ 256 by omega)
  omega
 go_enter Tryz.func29, Tryz.ntmps29
 go_wp2_with fail
 go_loop [0, 1, 5] (fun sv nv ov => ∃ (q : Nat) (s' o : ByteArray), q ≤ 128 ∧ sv = .string s' ∧ nv = .int .i64 q ∧ ov = .string o ∧ o.size + s'.size * (2 * q) ≤ 1280) (fun _ nv _ => (intOf nv).toNat)
 case atStart => exact ⟨n, s, ⟨#[]⟩, hn, rfl, rfl, rfl, h0⟩
 case round =>
  obtain ⟨q, s', o, hq, rfl, rfl, rfl, hi⟩ := hrel
  by_cases hlt : 0 < q
  ·obtain ⟨h1, h2, h3, h4⟩ := uF hi hlt
   have H3 := hid h3; have H4 := hid h4
   have f1 : ¬ 9223372036854775807 < o.size + s'.size := by omega
   have f2 : ¬ 9223372036854775807 < s'.size + s'.size := by omega
   have g0 : (0 : Int) < (q : Int) := by omega
   have g1 : (q : Int).tdiv 2 = (q : Int) / 2 := Int.tdiv_eq_ediv_of_nonneg (by omega)
   have g2 : IntKind.i64.wrap ((q : Int) / 2) = (q : Int) / 2 := bD (by omega) (by omega)
   clear hi h3 h4
   by_cases hp : q % 2 = 1
   ·have e1 : (q : Int).tmod 2 = 1 := by rw [Int.tmod_eq_emod_of_nonneg (by omega)]; omega
    have e2 : (q : Int) % 2 = 1 := by omega
    have HR := hid (H3.out hp)
    clear hp
    go_wp2
    go_round
    case rel => exact ⟨q / 2, _, _, by omega, rfl, by simp, rfl, by simpa using HR.out⟩
    case measure => simp [intOf]; omega
   ·have e1 : (q : Int).tmod 2 = 0 := by rw [Int.tmod_eq_emod_of_nonneg (by omega)]; omega
    have e2 : (q : Int) % 2 = 0 := by omega
    have HR := hid (H4.out (by omega))
    clear hp
    go_wp2
    go_round
    case rel => exact ⟨q / 2, _, _, by omega, rfl, by simp, rfl, by simpa using HR.out⟩
    case measure => simp [intOf]; omega
  ·obtain rfl : q = 0 := by omega
   go_wp2
   go_ret
   exact ⟨o, rfl, by omega, rfl⟩
theorem bG (v : Value) (xs : List Int) (w : World) (h : SlB du w.heap.size w v xs) (hx : ∀ x ∈ xs, 0 ≤ x ∧ x ≤ 255) : Calls Tryz.prog 15 #[v] w fun e w' => ∃ t, e = .returned (.string t) ∧ t.size ≤ 10000 ∧ Below w.heap.size w w' := by
 go_enter Tryz.func15, Tryz.ntmps15
 go_wp2_with fail
 refine (yB v xs _ h hx).mono ?_
 rintro e w1 ⟨rfl, hr, hb1⟩
 clear h hx
 go_wp2_with fail
 refine (kt _ _ _ 0 32 hr (by omega)).mono ?_
 rintro e w2 ⟨m, rfl, m0, m1, _, hr2, hg⟩
 have m1 := m1 (by omega)
 have Hb2 := hid (hb1.trans (Below.of_grown hg hb1.size (fun k hk => by injection hk with hk; omega)))
 have Hr2 := hid hr2
 clear hr hb1 hr2 hg
 go_wp2_with fail
 go_loopw [4, 6] (fun ov iv wr => ∃ (k : Nat) (so : ByteArray) (q : Nat), (k ≤ 32 ∧ (0 < k → (k : Int) ≤ m)) ∧ iv = .int .i64 k ∧ ov = .string so ∧ so.size ≤ 50 * k ∧ q ≤ 1 + 6 * k ∧ Rdr w.heap.size wr w.heap.size q ∧ Below w.heap.size w wr) (fun _ iv _ => m.toNat - (intOf iv).toNat)
 case atStart => exact ⟨0, _, 1, ⟨by omega, by omega⟩, rfl, rfl, by decide, by omega, Hr2.out, Hb2.out⟩
 case round =>
  obtain ⟨k, so, q, ⟨hk, hk2⟩, rfl, rfl, hso, hq, hr, hb⟩ := hrel
  have Hr := hid hr; have Hb := hid hb
  clear hr hb Hr2 Hb2 hk2
  by_cases hlt : (k : Int) < m
  ·go_wp2_with fail
   refine (lu _ _ q _ Hr.out (by omega)).mono ?_
   rintro e w3 ⟨t, q3, rfl, ht, hq3, hr3, hT⟩
   have Hr3 := hid hr3; have Hb3 := hid (Hb.out.trans (hT.below Hb.out.size (by simp)))
   have f1 : ¬ 9223372036854775807 < so.size + t.size := by omega
   have f2 : ¬ 9223372036854775807 < so.size + t.size + 1 := by omega
   clear hr3 hT
   go_wp2_with fail
   go_roundw
   case rel => exact ⟨k + 1, _, q3, ⟨by omega, fun _ => by omega⟩, by go_num, rfl, by simp [zo]; omega, by omega, Hr3.out, Hb3.out⟩
   case measure => simp [intOf]; omega
  ·go_wp2_with fail
   refine (kt _ _ _ q 24 Hr.out (by omega)).mono ?_
   rintro e w3 ⟨m3, rfl, _, _, _, hr3, hg3⟩
   have Hb3 := hid (Hb.out.trans (Below.of_grown hg3 Hb.out.size (fun k hk => by injection hk with hk; omega)))
   have Hr3 := hid hr3
   clear hr3 hg3
   by_cases h3 : m3 = 0
   ·subst h3
    go_wp2_with fail
    refine (kt _ _ _ (q + 1) 6 Hr3.out (by omega)).mono ?_
    rintro e w4 ⟨m4, rfl, m40, m41, _, hr4, hg4⟩
    have m41 := m41 (by omega)
    have Hb4 := hid (Hb3.out.trans (Below.of_grown hg4 Hb3.out.size (fun k hk => by injection hk with hk; omega)))
    have Hr4 := hid hr4
    clear hr4 hg4
    obtain ⟨k4, rfl⟩ := Int.eq_ofNat_of_zero_le m40
    have e1 : IntKind.i64.wrap (116 + (k4 : Int)) = ((116 + k4 : Nat) : Int) := by rw [bD (by omega) (by omega)]; omega
    go_wp2_with fail
    refine (vZ ⟨#[99, 97, 108, 109, 10]⟩ (116 + k4) _ (by decide) (by omega)).mono ?_
    rintro e w5 ⟨t5, rfl, ht5, hw5⟩
    obtain ⟨w6, rfl⟩ : ∃ w6, w6 = w5 := ⟨_, rfl⟩
    have Hb6 := hid (show Below w.heap.size w w6 by rw [hw5]; exact Hb4.out)
    have Hr6 := hid (show Rdr w.heap.size w6 w.heap.size (q + 1 + 1) by rw [hw5]; exact Hr4.out)
    clear hw5
    have f1 : ¬ 9223372036854775807 < so.size + t5.size := by omega
    go_wp2_with fail
    refine (kt _ _ _ (q + 1 + 1) 8 Hr6.out (by omega)).mono ?_
    rintro e w7 ⟨m7, rfl, _, _, _, hr7, hg7⟩
    have Hb7 := hid (Hb6.out.trans (Below.of_grown hg7 Hb6.out.size (fun k hk => by injection hk with hk; omega)))
    have Hr7 := hid hr7
    clear hr7 hg7
    by_cases h7 : m7 = 0
    ·subst h7
     go_wp2_with fail
     refine (lu _ _ _ _ Hr7.out (by omega)).mono ?_
     rintro e w8 ⟨t, q8, rfl, ht, _, _, hT⟩
     have Hb8 := hid (Hb7.out.trans (hT.below Hb7.out.size (by simp)))
     have f2 : ¬ 9223372036854775807 < so.size + t5.size + t.size := by omega
     clear hT
     go_wp2_with fail
     go_ret
     exact ⟨_, rfl, by simp; omega, Hb8.out⟩
    ·have h7 : (m7 == 0) = false := by simpa using h7
     go_wp2_with fail
     go_ret
     exact ⟨_, rfl, by simp; omega, Hb7.out⟩
   ·have h3 : (m3 == 0) = false := by simpa using h3
    go_wp2_with fail
    refine (kt _ _ _ (q + 1) 8 Hr3.out (by omega)).mono ?_
    rintro e w7 ⟨m7, rfl, _, _, _, hr7, hg7⟩
    have Hb7 := hid (Hb3.out.trans (Below.of_grown hg7 Hb3.out.size (fun k hk => by injection hk with hk; omega)))
    have Hr7 := hid hr7
    clear hr7 hg7
    by_cases h7 : m7 = 0
    ·subst h7
     go_wp2_with fail
     refine (lu _ _ _ _ Hr7.out (by omega)).mono ?_
     rintro e w8 ⟨t, q8, rfl, ht, _, _, hT⟩
     have Hb8 := hid (Hb7.out.trans (hT.below Hb7.out.size (by simp)))
     have f2 : ¬ 9223372036854775807 < so.size + t.size := by omega
     clear hT
     go_wp2_with fail
     go_ret
     exact ⟨_, rfl, by simp; omega, Hb8.out⟩
    ·have h7 : (m7 == 0) = false := by simpa using h7
     go_wp2_with fail
     go_ret
     exact ⟨_, rfl, by omega, Hb7.out⟩
theorem dO (s : ByteArray) (w : World) (hs : s.size ≤ 1000000) : Calls Tryz.prog 19 #[.string s] w fun e w' => ∃ t, e = .returned (.string t) ∧ (∃ r, bL s = bL t ++ r ∧ dg (bL t) ∧ (10 : UInt8) ∉ r) ∧ w = w' := by
 go_enter Tryz.func19, Tryz.ntmps19
 go_wp2_with fail
 go_loop [3] (fun iv => ∃ (k : Nat), iv = .int .i64 k ∧ k ≤ s.size ∧ (10 : UInt8) ∉ (bL s).drop k) (fun iv => (intOf iv).toNat)
 case atStart => exact ⟨s.size, rfl, Nat.le_refl _, by rw [List.drop_of_length_le (by rw [aB]; exact Nat.le_refl _)]; simp⟩
 case round =>
  obtain ⟨k, rfl, hk, hn⟩ := hrel
  have Hn := hid hn
  clear hn
  cases k with
  | zero =>
   go_wp2
   go_ret
   exact ⟨⟨#[]⟩, rfl, ⟨bL s, rfl, .inl rfl, by simpa using Hn.out⟩, rfl⟩
  | succ k =>
   have hlt : k < s.size := by omega
   have f1 : IntKind.i64.wrap ((k : Int) + 1 - 1) = (k : Int) := by rw [bD (by omega) (by omega)]; omega
   have f2 : IntKind.i64.wrap (k : Int) = (k : Int) := bD (by omega) (by omega)
   have hd := p7 (iI hlt)
   by_cases hc : s[k]'hlt = 10
   ·have hq : (((s[k]'hlt).toNat : Int) == 10) = true := by rw [hc]; rfl
    have HR := hid (show bL s = bL (s.extract 0 (k + 1)) ++ (bL s).drop (k + 1) ∧ dg (bL (s.extract 0 (k + 1))) by
     rw [oY, List.drop_zero, Nat.sub_zero]
     refine ⟨(List.take_append_drop _ _).symm, .inr ⟨(bL s).take k, ?_⟩⟩
     rw [List.take_add_one, iI hlt, hc]; rfl)
    clear hc hd
    go_wp2
    go_ret
    exact ⟨_, rfl, ⟨_, HR.out.1, HR.out.2, Hn.out⟩, rfl⟩
   ·have hq : (((s[k]'hlt).toNat : Int) == 10) = false := by
     simp
     intro e
     exact hc (UInt8.toNat_inj.1 (by have h10 : (10 : UInt8).toNat = 10 := rfl; omega))
    have HR := hid (show (10 : UInt8) ∉ (bL s).drop k by
     rw [hd, List.mem_cons, not_or]
     exact ⟨fun e => hc e.symm, Hn.out⟩)
    clear hc hd
    go_wp2
    go_round
    case rel => exact ⟨k, by go_num, by omega, HR.out⟩
    case measure => simp [intOf]
theorem fu (s : ByteArray) (pre body : List UInt8) (w : World) (hs : s.size ≤ 1000000) (h : bL s = pre ++ (body ++ [10])) (hp : dg pre) (hb : (10 : UInt8) ∉ body) : Calls Tryz.prog 18 #[.string s] w fun e w' => ∃ t, e = .returned (.string t) ∧ bL t = body ++ [10] ∧ w = w' := by
 have hsz : s.size = pre.length + body.length + 1 := by rw [← aB, h]; simp; omega
 have H := hid h; have Hp := hid hp; have Hb := hid hb
 obtain ⟨n, hn⟩ : ∃ n, pre.length = n := ⟨_, rfl⟩
 have Hn := hid hn
 have hns : n + 1 ≤ s.size := by omega
 have hsn := hid (show s.size = n + body.length + 1 by omega)
 have f0 : IntKind.i64.wrap ((s.size : Int) - 2) = (s.size : Int) - 2 := bD (by omega) (by omega)
 clear h hp hb hn hsz
 go_enter Tryz.func18, Tryz.ntmps18
 go_wp2_with fail
 go_loop [3] (fun iv => ∃ (j : Nat), iv = .int .i64 ((j : Int) - 1) ∧ n ≤ j ∧ j + 1 ≤ s.size) (fun iv => (intOf iv + 1).toNat)
 case atStart => exact ⟨s.size - 1, by congr 1; omega, by omega, by omega⟩
 case round =>
  obtain ⟨j, rfl, hj, hj2⟩ := hrel
  cases j with
  | zero =>
   have f1 : decide (0 ≤ ((0 : Nat) : Int) - 1) = false := by decide
   go_wp2
   go_ret
   refine ⟨s, rfl, ?_, rfl⟩
   rw [H.out, List.length_eq_zero_iff.1 (Hn.out.trans (by omega))]; rfl
  | succ k =>
   have ek : (((k + 1 : Nat) : Int) - 1) = (k : Int) := by omega
   rw [ek]
   have hlt : k < s.size := by omega
   have f1 : IntKind.i64.wrap ((k : Int) - 1) = (k : Int) - 1 := bD (by omega) (by omega)
   have f2 : IntKind.i64.wrap ((k : Int) + 1) = (k : Int) + 1 := bD (by omega) (by omega)
   have hg := iI hlt
   rw [H.out] at hg
   by_cases hc : n ≤ k
   ·have hne : s[k]'hlt ≠ 10 := by
     intro e
     rw [e, List.getElem?_append_right (by rw [Hn.out]; exact hc), Hn.out, List.getElem?_append_left (by have := hsn.out; omega)] at hg
     exact Hb.out (List.mem_of_getElem? hg)
    have hq : (((s[k]'hlt).toNat : Int) == 10) = false := by
     simp
     intro e
     exact hne (UInt8.toNat_inj.1 (by have h10 : (10 : UInt8).toNat = 10 := rfl; omega))
    clear hne hg ek
    go_wp2
    go_round
    case rel => exact ⟨k, by go_num, by omega, by omega⟩
    case measure => simp [intOf]
   ·have hkn : n = k + 1 := by omega
    have he : s[k]'hlt = 10 := by
     rw [List.getElem?_append_left (by rw [Hn.out]; omega)] at hg
     rcases Hp.out with e | ⟨q, e⟩
     ·rw [e] at hg; cases hg
     ·have hl : q.length = k := by have := Hn.out; rw [e, List.length_append] at this; simp at this; omega
      rw [e, List.getElem?_append_right (by omega), hl, Nat.sub_self] at hg
      exact (Option.some.inj hg).symm
    have hq : (((s[k]'hlt).toNat : Int) == 10) = true := by rw [he]; rfl
    have HR := hid (show bL (s.extract (k + 1) s.size) = body ++ [10] by
     rw [oY, H.out, ← hkn, ← Hn.out, List.drop_left]
     exact List.take_of_length_le (by rw [Hn.out, hsn.out]; simp; omega))
    clear hc hkn he hg ek
    go_wp2
    go_ret
    exact ⟨_, rfl, HR.out, rfl⟩
theorem kL (s : List UInt8) : (ce s).length ≤ 200000 := by
 by_cases h : 600 < s.length
 ·unfold ce; rw [if_pos h]; decide
 ·have h1 := lh s 601
  rw [lg (by have := iK 10 s; omega)] at h1
  have h2 := oU (gd s)
  unfold ce
  rw [if_neg h, List.length_append]
  omega
theorem tT {p r p' r' : List UInt8} (h : p ++ r = p' ++ r') (hp : dg p) (hr : (10 : UInt8) ∉ r) (hp' : dg p') (hr' : (10 : UInt8) ∉ r') : p = p' := by
 have e1 := kK (r := r) hp
 have e2 := kK (r := r') hp'
 rw [iL hr] at e1
 rw [iL hr'] at e2
 have e3 := (List.append_inj' (e1.symm.trans ((congrArg (aP 10) h).trans e2)) rfl).2
 injection e3 with e3
 subst e3
 exact List.append_cancel_right h
end Go.Proofs.YtfaeojmndaplcaaGreatDoor
