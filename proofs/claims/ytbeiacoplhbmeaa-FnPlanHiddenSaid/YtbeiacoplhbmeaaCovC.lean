/- Comparing plans; drawing the arguments of a plan. -/
import Derived.Test.YtbeiacoplhbmeaaCovB
import Derived.Test.YtbeiacoplhbmeaaDraw
namespace Go.Proofs.Ytbeiacoplhbmeaa
open Go Go.RowKit
set_option maxHeartbeats 400000

theorem samePlan_t (v1 v2 : Value) (xs : List (Int × Int)) (w : World) (h1 : SlB tTwo w.heap.size w v1 xs) (h2 : SlB tTwo w.heap.size w v2 xs) :
    Calls Try.prog 44 #[v1, v2] w (ok true w.heap.size w) := by
  obtain ⟨A1, c1, rfl, a1, a2, a3⟩ := h1.form
  obtain ⟨A2, c2, rfl, b1, b2, b3⟩ := h2.form
  clear a2 b2
  go_enter Try.func44, Try.ntmps44
  go_wp2
  go_loopw [5] (fun i wr => ∃ k : Nat, k ≤ xs.length ∧ i = .int .i64 k ∧ Below w.heap.size w wr) (fun i _ => xs.length - (intOf i).toNat)
  case atStart => exact ⟨0, by omega, rfl, Below.refl _ _⟩
  case round =>
    obtain ⟨k, hk, rfl, hb⟩ := hrel
    have r1 := (h1.below hb (Nat.le_refl _)).mono hb.size
    have r2 := (h2.below hb (Nat.le_refl _)).mono hb.size
    have Hb := hid hb
    clear hb
    by_cases hlt : k < xs.length
    · obtain ⟨x, hx⟩ := get_ex hlt
      obtain ⟨b, o, rfl, _, _, p1, p2⟩ := r1.two hx
      obtain ⟨b', o', rfl, _, _, q1, q2⟩ := r2.two hx
      clear hx r1 r2 h1 h2
      go_wp2
      go_quiet (fail)
      go_wp2
      go_roundw
      case rel => exact ⟨k + 1, by omega, by go_num, below_drewN Hb.out _⟩
      case measure => simp [intOf]; omega
    · go_wp2
      go_ret
      exact ⟨rfl, Hb.out⟩

theorem grown_own {a b c : World} {r row : Option Nat} (h : a.grownBy b r) (k : b.grownBy c row) (hr : ∀ x, row = some x → a.heap.size ≤ x) : a.grownBy c r :=
  ⟨k.os.trans h.os, k.tape.trans h.tape, k.output.trans h.output, Nat.le_trans h.size k.size, fun i hi hne => (k.block i (Nat.lt_of_lt_of_le hi h.size) (fun e => by have := hr i e.symm; omega)).trans (h.block i hi hne)⟩
/-- while a drawing function goes on: the reader at place p, and nothing that was there has turned but the reader's own block -/
def St (w0 : World) (B g : Nat) (wr : World) (p : Nat) : Prop := Rdr B wr g p ∧ w0.grownBy wr (some g) ∧ B ≤ g ∧ g < w0.heap.size
theorem St.start {w0 : World} {B g p : Nat} (h : Rdr B w0 g p) : St w0 B g w0 p := ⟨h, World.grownBy.refl _ _, h.lt.1, h.lt.2⟩
theorem St.more {w0 wr w' : World} {B g p : Nat} {row : Option Nat} (h : St w0 B g wr p) (k : wr.grownBy w' row) (hr : ∀ x, row = some x → w0.heap.size ≤ x) : St w0 B g w' p := by
  obtain ⟨h1, h2, h3, h4⟩ := h
  exact ⟨h1.below (n := w0.heap.size) (Below.of_grown k h2.size hr) h4 (by omega), grown_own h2 k hr, h3, h4⟩
theorem St.alloc {w0 wr : World} {B g p : Nat} (h : St w0 B g wr p) (o : Obj) : St w0 B g (wr.alloc o) p :=
  h.more (row := none) ⟨rfl, rfl, rfl, by simp, fun k hk _ => Below.heap_alloc _ _ _ hk⟩ (fun x hx => by cases hx)
def Pk (w0 : World) (B g : Nat) (wr : World) (p : Nat) (n : Int) (e : Ending) (w' : World) : Prop :=
  ∃ m : Int, e = .returned (.int .i64 m) ∧ 0 ≤ m ∧ (1 ≤ n → m < n) ∧ St w0 B g w' (p + 1) ∧ wr.heap.size ≤ w'.heap.size ∧ (∀ (v : Value) (xs : List Int), Own tInt 3 w0.heap.size wr v xs [] → Own tInt 3 w0.heap.size w' v xs []) ∧ wr.grownBy w' (some g)
theorem pick_s (w0 wr : World) (B g p : Nat) (n : Int) (h : St w0 B g wr p) (hp : p ≤ 1000000) : Calls Try.prog 50 #[.pointer (some ⟨g, 0, none⟩), .int .i64 n] wr (Pk w0 B g wr p n) := by
  obtain ⟨h1, h2, h3, h4⟩ := h
  refine (pick_c B wr g p n h1 (by omega)).mono ?_
  rintro e w' ⟨m, rfl, m0, m1, _, hr, hg⟩
  refine ⟨m, rfl, m0, m1, ⟨hr, grown_trans h2 hg, h3, h4⟩, hg.size, fun v xs ho => ho.kept hg (fun b hb => ⟨fun hv => ?_, fun h => by cases h⟩), hg⟩
  have := (ho.top b hv).1
  injection hb with hb; omega

def Drawn (w : World) (B g p : Nat) (e : Ending) (w' : World) : Prop :=
  ∃ v xs p', e = .returned v ∧ xs.length ≤ 9 ∧ Own tInt 3 w.heap.size w' v xs [] ∧ St w B g w' p' ∧ p' ≤ p + 20
theorem rowcell (w : World) (cs : Array Value) (e i : Nat) (v : Value) (h : cs[i]? = some v) : (w.alloc (.cells cs e)).cell? ⟨w.heap.size, i, none⟩ = some v := by
  rw [cell_of_row _ _ i cs e (0, 0) (heap_alloc_new w _)]; exact h
theorem infoInt2 : (Try.prog.info? 3).map (fun i => (i.zero, i.size, i.bytes)) = some (some (.int .i64 0), 1, 8) := infoInt
theorem int_own {w : World} {B : Nat} (h : B ≤ w.heap.size) : Own tInt 3 B (w.alloc (.cells #[] 3)) (.slice (some ⟨w.heap.size, 0, none⟩) 0 0) [] [] :=
  ⟨[], World.ownsRow_made w #[] 0 h (by simp [maxLen]) rfl, ⟨rfl, rfl⟩, fun _ _ h => by cases h⟩
theorem ready_c (w : World) (B g p : Nat) (h : Rdr B w g p) (hp : p ≤ 100000) : Calls Try.prog 54 #[.pointer (some ⟨g, 0, none⟩)] w (Drawn w B g p) := by
  obtain ⟨i0, hi, hz0, hz1, hz2⟩ := info_parts infoInt
  have s0 := (St.start h).alloc (.cells #[] 3)
  have o0 : Own tInt 3 w.heap.size _ _ [] [] := int_own (w := w) (Nat.le_refl w.heap.size)
  go_enter Try.func54, Try.ntmps54
  go_wp2_with fail
  refine (pick_s w _ B g p 8 s0 (by omega)).mono ?_
  rintro e w1 ⟨n, rfl, n0, n1, s1, z1, k1, _⟩
  have o1 := k1 _ _ o0
  have n1 := n1 (by omega)
  go_wp2_with fail
  refine (pick_s w _ B g (p + 1) 16 s1 (by omega)).mono ?_
  rintro e w2 ⟨m, rfl, m0, _, s2, z2, k2, _⟩
  have o2 := k2 _ _ o1
  clear s0 o0 s1 o1 k1 k2 z1 z2 h
  by_cases hm : m = 0
  · have hmB : (m == 0) = true := by simp [hm]
    clear hm
    go_wp2_with fail
    refine (pick_s w _ B g (p + 2) 2 s2 (by omega)).mono ?_
    rintro e w3 ⟨m2, rfl, q0, q1, s3, z3, k3, _⟩
    have q1 := q1 (by omega)
    have o3 := k3 _ _ o2
    clear s2 o2 k3 z3 hmB
    go_wp2_with fail
    go_loopw [3, 4, 6] (fun pv tv i wr => ∃ (k : Nat) (tt : Int) (xs : List Int), i = .int .i64 k ∧ (k : Int) ≤ 8 + m2 ∧ tv = .int .i64 tt ∧ 0 ≤ tt ∧ tt ≤ 6 * k ∧ xs.length = k ∧ Own tInt 3 w.heap.size wr pv xs [] ∧ St w B g wr (p + 3 + k)) (fun _ _ i _ => (8 + m2 - intOf i).toNat)
    case atStart => exact ⟨0, 0, [], rfl, by omega, rfl, by omega, by omega, rfl, o3, s3⟩
    case round =>
      obtain ⟨k, tt, xs, rfl, hk, rfl, t0, t6, hxl, ho, hs⟩ := hrel
      have Hxl := hid hxl; have Ho := hid ho; have Hs := hid hs
      have hsz := hs.2.1.size
      clear hxl ho hs s3 o3
      by_cases hlt : (k : Int) < 8 + m2
      · go_wp2_with fail
        refine (pick_s w _ B g (p + 3 + k) 6 Hs.out (by omega)).mono ?_
        rintro e w5 ⟨d, rfl, d0, d1, s5, z5, k5, _⟩
        have d1 := d1 (by omega)
        have Ho5 := hid (k5 _ _ Ho.out)
        have S5 := hid s5
        clear k5 Ho Hs s5
        go_wp2_with (at_builtin; refine wpList_appF rfl (.tmp 25) (.tmp 27) 22 rfl tInt tInt_flat (B := w.heap.size) (v := u3) Try.underlying22 hi hz0 hz1 hz2 rfl (by decide) (by decide) rfl (Ho5.out.below ?_ (Nat.le_refl _)) _ 1 1 rfl (Sl.box' (T := tInt) (x := tt + d) _ ?_ ⟨rfl, rfl⟩) ?_ ?_ ?_; (exact (Below.refl _ _).alloc (Nat.le_refl _) _); rfl; (rw [Hxl.out]; simp; omega); (simp; omega); intro v2 w6 ho6 hg6 hv6)
        go_roundw
        case rel => exact ⟨k + 1, tt + d, xs ++ [tt + d], by go_num, by omega, rfl, by omega, by omega, by simp [Hxl.out], ho6, (S5.out.alloc _).more hg6 (fun x hx => (Ho5.out.top x hx).1)⟩
        case measure => simp [intOf]; omega
      · have hkn : (k : Int) = 8 + m2 := by omega
        have Hkn := hid hkn
        clear hkn
        have hk9 : k ≤ 9 := by omega
        obtain ⟨A, c, rfl, _, _, _⟩ := Ho.out.form
        by_cases h0 : 0 < 8 + m2
        · go_wp2_with fail
          refine (pick_s w _ B g (p + 3 + k) 20 Hs.out (by omega)).mono ?_
          rintro e w5 ⟨d, rfl, d0, _, s5, z5, k5, _⟩
          have o5 := k5 _ _ Ho.out
          clear k5 Ho Hs
          by_cases hd : d = 0
          · have hdB : (d == 0) = true := by simp [hd]
            clear hd
            go_wp2_with fail
            refine (pick_s w _ B g _ (8 + m2) s5 (by omega)).mono ?_
            rintro e w6 ⟨j, rfl, j0, j1, s6, z6, k6, _⟩
            have o6 := k6 _ _ o5
            have j1 := j1 (by omega)
            clear s5 o5 k6
            go_wp2_with fail
            refine (pick_s w _ B g _ 3 (s6.alloc _) (by omega)).mono ?_
            rintro e w7 ⟨q, rfl, c0, c1, s7, z7, k7, g7⟩
            have o7 := k7 _ _ (o6.below ((Below.refl _ _).alloc (Nat.le_refl _) _) (Nat.le_refl _))
            have c1 := c1 (by omega)
            have hgl : g < w6.heap.size := Nat.lt_of_lt_of_le s6.2.2.2 s6.2.1.size
            have hc : ∀ i : Nat, i < 3 → ∃ y, w7.cell? ⟨w6.heap.size, i, none⟩ = some (.int .i64 y) := by
              intro i hi
              have hb := g7.block w6.heap.size (by simp) (fun e => by injection e with e; omega)
              rw [World.cell?_of_block (w := w6.alloc _) hb]
              rcases i with _ | _ | _ | i
              · exact ⟨_, rowcell _ _ _ 0 _ rfl⟩
              · exact ⟨_, rowcell _ _ _ 1 _ rfl⟩
              · exact ⟨_, rowcell _ _ _ 2 _ rfl⟩
              · omega
            obtain ⟨qn, rfl⟩ := Int.eq_ofNat_of_zero_le c0
            obtain ⟨jn, rfl⟩ := Int.eq_ofNat_of_zero_le j0
            obtain ⟨y, hy⟩ := hc qn (by omega)
            have hkn := Hkn.out
            obtain ⟨z, hz⟩ := get_ex (xs := xs) (k := jn) (by rw [Hxl.out]; omega)
            have hjc : jn < xs.length := by rw [Hxl.out]; omega
            obtain ⟨gg, rfl, hB, hgs, hco, hfz⟩ := o7.int hz
            have hfzj := hfz jn
            have O7 := hid o7; have S7 := hid s7
            clear hz hc hfz o7 s7 g7 k7 o6 s6 hkn
            go_wp2
            go_ret
            exact ⟨_, xs.set jn y, _, rfl, by rw [List.length_set, Hxl.out]; omega, O7.out.int_set _, S7.out.more (grown_set (World.grownBy.refl _ _) jn _) (fun x hx => by injection hx with hx; omega), by omega⟩
          · have hdB : (d == 0) = false := by simp [hd]
            clear hd
            have S5 := hid s5; have O5 := hid o5
            clear s5 o5
            go_wp2
            go_ret
            exact ⟨_, xs, _, rfl, by rw [Hxl.out]; omega, O5.out, S5.out, by omega⟩
        · go_wp2
          go_ret
          exact ⟨_, xs, _, rfl, by rw [Hxl.out]; omega, Ho.out, Hs.out, by omega⟩
  · have hmB : (m == 0) = false := by simp [hm]
    clear hm
    go_wp2_with fail
    go_loopw [3, 4, 6] (fun pv tv i wr => ∃ (k : Nat) (tt : Int) (xs : List Int), i = .int .i64 k ∧ (k : Int) ≤ n ∧ tv = .int .i64 tt ∧ 0 ≤ tt ∧ tt ≤ 6 * k ∧ xs.length = k ∧ Own tInt 3 w.heap.size wr pv xs [] ∧ St w B g wr (p + 2 + k)) (fun _ _ i _ => (n - intOf i).toNat)
    case atStart => exact ⟨0, 0, [], rfl, by omega, rfl, by omega, by omega, rfl, o2, s2⟩
    case round =>
      obtain ⟨k, tt, xs, rfl, hk, rfl, t0, t6, hxl, ho, hs⟩ := hrel
      have Hxl := hid hxl; have Ho := hid ho; have Hs := hid hs
      have hsz := hs.2.1.size
      clear hxl ho hs s2 o2
      by_cases hlt : (k : Int) < n
      · go_wp2_with fail
        refine (pick_s w _ B g (p + 2 + k) 6 Hs.out (by omega)).mono ?_
        rintro e w5 ⟨d, rfl, d0, d1, s5, z5, k5, _⟩
        have d1 := d1 (by omega)
        have Ho5 := hid (k5 _ _ Ho.out)
        have S5 := hid s5
        clear k5 Ho Hs s5
        go_wp2_with (at_builtin; refine wpList_appF rfl (.tmp 25) (.tmp 27) 22 rfl tInt tInt_flat (B := w.heap.size) (v := u3) Try.underlying22 hi hz0 hz1 hz2 rfl (by decide) (by decide) rfl (Ho5.out.below ?_ (Nat.le_refl _)) _ 1 1 rfl (Sl.box' (T := tInt) (x := tt + d) _ ?_ ⟨rfl, rfl⟩) ?_ ?_ ?_; (exact (Below.refl _ _).alloc (Nat.le_refl _) _); rfl; (rw [Hxl.out]; simp; omega); (simp; omega); intro v2 w6 ho6 hg6 hv6)
        go_roundw
        case rel => exact ⟨k + 1, tt + d, xs ++ [tt + d], by go_num, by omega, rfl, by omega, by omega, by simp [Hxl.out], ho6, (S5.out.alloc _).more hg6 (fun x hx => (Ho5.out.top x hx).1)⟩
        case measure => simp [intOf]; omega
      · have hkn : (k : Int) = n := by omega
        have Hkn := hid hkn
        clear hkn
        have hk9 : k ≤ 9 := by omega
        obtain ⟨A, c, rfl, _, _, _⟩ := Ho.out.form
        by_cases h0 : 0 < n
        · go_wp2_with fail
          refine (pick_s w _ B g (p + 2 + k) 20 Hs.out (by omega)).mono ?_
          rintro e w5 ⟨d, rfl, d0, _, s5, z5, k5, _⟩
          have o5 := k5 _ _ Ho.out
          clear k5 Ho Hs
          by_cases hd : d = 0
          · have hdB : (d == 0) = true := by simp [hd]
            clear hd
            go_wp2_with fail
            refine (pick_s w _ B g _ (n) s5 (by omega)).mono ?_
            rintro e w6 ⟨j, rfl, j0, j1, s6, z6, k6, _⟩
            have o6 := k6 _ _ o5
            have j1 := j1 (by omega)
            clear s5 o5 k6
            go_wp2_with fail
            refine (pick_s w _ B g _ 3 (s6.alloc _) (by omega)).mono ?_
            rintro e w7 ⟨q, rfl, c0, c1, s7, z7, k7, g7⟩
            have o7 := k7 _ _ (o6.below ((Below.refl _ _).alloc (Nat.le_refl _) _) (Nat.le_refl _))
            have c1 := c1 (by omega)
            have hgl : g < w6.heap.size := Nat.lt_of_lt_of_le s6.2.2.2 s6.2.1.size
            have hc : ∀ i : Nat, i < 3 → ∃ y, w7.cell? ⟨w6.heap.size, i, none⟩ = some (.int .i64 y) := by
              intro i hi
              have hb := g7.block w6.heap.size (by simp) (fun e => by injection e with e; omega)
              rw [World.cell?_of_block (w := w6.alloc _) hb]
              rcases i with _ | _ | _ | i
              · exact ⟨_, rowcell _ _ _ 0 _ rfl⟩
              · exact ⟨_, rowcell _ _ _ 1 _ rfl⟩
              · exact ⟨_, rowcell _ _ _ 2 _ rfl⟩
              · omega
            obtain ⟨qn, rfl⟩ := Int.eq_ofNat_of_zero_le c0
            obtain ⟨jn, rfl⟩ := Int.eq_ofNat_of_zero_le j0
            obtain ⟨y, hy⟩ := hc qn (by omega)
            have hkn := Hkn.out
            obtain ⟨z, hz⟩ := get_ex (xs := xs) (k := jn) (by rw [Hxl.out]; omega)
            have hjc : jn < xs.length := by rw [Hxl.out]; omega
            obtain ⟨gg, rfl, hB, hgs, hco, hfz⟩ := o7.int hz
            have hfzj := hfz jn
            have O7 := hid o7; have S7 := hid s7
            clear hz hc hfz o7 s7 g7 k7 o6 s6 hkn
            go_wp2
            go_ret
            exact ⟨_, xs.set jn y, _, rfl, by rw [List.length_set, Hxl.out]; omega, O7.out.int_set _, S7.out.more (grown_set (World.grownBy.refl _ _) jn _) (fun x hx => by injection hx with hx; omega), by omega⟩
          · have hdB : (d == 0) = false := by simp [hd]
            clear hd
            have S5 := hid s5; have O5 := hid o5
            clear s5 o5
            go_wp2
            go_ret
            exact ⟨_, xs, _, rfl, by rw [Hxl.out]; omega, O5.out, S5.out, by omega⟩
        · go_wp2
          go_ret
          exact ⟨_, xs, _, rfl, by rw [Hxl.out]; omega, Ho.out, Hs.out, by omega⟩

def DrawnPlan (w : World) (e : Ending) (w' : World) : Prop :=
  ∃ v xs p u, e = .returned (.tuple #[v, .int .i64 p, .int .i64 u]) ∧ xs.length ≤ 9 ∧ Own tInt 3 w.heap.size w' v xs [] ∧ Below w.heap.size w w'
theorem DrawCoverPlan_c (v0 : Value) (cs : List Int) (w : World) (h : SlB tByte w.heap.size w v0 cs) (hx : ∀ x ∈ cs, 0 ≤ x ∧ x ≤ 255) : Calls Try.prog 41 #[v0] w (DrawnPlan w) := by
  go_enter Try.func41, Try.ntmps41
  go_wp2_with fail
  refine (open_c v0 cs _ h hx).mono ?_
  rintro e w1 ⟨rfl, hr, hb⟩
  go_wp2_with fail
  refine (ready_c _ _ _ 0 hr (by omega)).mono ?_
  rintro e w2 ⟨v, xs, p', rfl, hxl, o2, s2, hp⟩
  go_wp2_with fail
  refine (pick_s w1 _ w.heap.size w.heap.size p' 9 s2 (by omega)).mono ?_
  rintro e w3 ⟨n, rfl, n0, n1, s3, z3, k3, _⟩
  have o3 := k3 _ _ o2
  have n1 := n1 (by omega)
  go_wp2_with fail
  refine (pick_s w1 _ w.heap.size w.heap.size (p' + 1) 20 s3 (by omega)).mono ?_
  rintro e w4 ⟨m, rfl, m0, _, s4, z4, k4, _⟩
  have o4 := k4 _ _ o3
  clear s2 o2 s3 o3 k3 k4 z3 z4 h hr
  by_cases hm : m = 0
  · have hmB : (m == 0) = true := by simp [hm]
    clear hm
    go_wp2_with fail
    refine (pick_s w1 _ w.heap.size w.heap.size (p' + 2) 2 s4 (by omega)).mono ?_
    rintro e w5 ⟨m2, rfl, q0, q1, s5, z5, k5, _⟩
    have q1 := q1 (by omega)
    have o5 := k5 _ _ o4
    clear s4 o4 k5 z5 hmB
    go_wp2_with fail
    refine (pick_s w1 _ w.heap.size w.heap.size (p' + 3) 31 s5 (by omega)).mono ?_
    rintro e w7 ⟨a, rfl, a0, a1, s7, z7, k7, _⟩
    have o7 := k7 _ _ o5
    have a1 := a1 (by omega)
    clear k7
    go_wp2_with fail
    refine (pick_s w1 _ w.heap.size w.heap.size _ 20 s7 (by omega)).mono ?_
    rintro e w8 ⟨b, rfl, b0, b1, s8, z8, k8, _⟩
    have o8 := k8 _ _ o7
    have b1 := b1 (by omega)
    clear k8
    go_wp2_with fail
    refine (pick_s w1 _ w.heap.size w.heap.size _ 3 s8 (by omega)).mono ?_
    rintro e w9 ⟨d, rfl, d0, d1, s9, z9, k9, _⟩
    have o9 := k9 _ _ o8
    have d1 := d1 (by omega)
    clear k9
    have O9 := hid (o9.base hb.size); have S9 := hid s9; have Hb := hid hb
    clear s7 s8 o7 o8 s9 o9 s5 o5 hb
    go_wp2
    go_ret3
    exact ⟨v, xs, _, _, rfl, hxl, O9.out, Hb.out.trans (Below.of_grown S9.out.2.1 Hb.out.size (fun k hk => by injection hk with hk; omega))⟩
  · have hmB : (m == 0) = false := by simp [hm]
    clear hm
    go_wp2_with fail
    refine (pick_s w1 _ w.heap.size w.heap.size (p' + 2) 31 s4 (by omega)).mono ?_
    rintro e w7 ⟨a, rfl, a0, a1, s7, z7, k7, _⟩
    have o7 := k7 _ _ o4
    have a1 := a1 (by omega)
    clear k7
    go_wp2_with fail
    refine (pick_s w1 _ w.heap.size w.heap.size _ 20 s7 (by omega)).mono ?_
    rintro e w8 ⟨b, rfl, b0, b1, s8, z8, k8, _⟩
    have o8 := k8 _ _ o7
    have b1 := b1 (by omega)
    clear k8
    go_wp2_with fail
    refine (pick_s w1 _ w.heap.size w.heap.size _ 3 s8 (by omega)).mono ?_
    rintro e w9 ⟨d, rfl, d0, d1, s9, z9, k9, _⟩
    have o9 := k9 _ _ o8
    have d1 := d1 (by omega)
    clear k9
    have O9 := hid (o9.base hb.size); have S9 := hid s9; have Hb := hid hb
    clear s7 s8 o7 o8 s9 o9 s4 o4 hb
    go_wp2
    go_ret3
    exact ⟨v, xs, _, _, rfl, hxl, O9.out, Hb.out.trans (Below.of_grown S9.out.2.1 Hb.out.size (fun k hk => by injection hk with hk; omega))⟩
theorem DrawCoverVisible_c (v0 : Value) (cs : List Int) (w : World) (h : SlB tByte w.heap.size w v0 cs) (hx : ∀ x ∈ cs, 0 ≤ x ∧ x ≤ 255) :
    Calls Try.prog 40 #[v0] w fun e w' => ∃ r p u, NewPlan w.heap.size (Cov.full r p u) w e w' := by
  go_enter Try.func40, Try.ntmps40
  go_wp2_with fail
  refine (DrawCoverPlan_c v0 cs _ h hx).mono ?_
  rintro e w1 ⟨v, xs, p, u, rfl, hxl, o1, hb⟩
  go_wp2_with fail
  refine (CoverPlan_spec v xs p u w1 o1.slB).mono ?_
  rintro e w2 ⟨v2, rfl, n2, hb2⟩
  have N2 := hid (n2.base hb.size)
  have B2 := hid (hb.trans (hb2.mono hb.size))
  clear n2 hb hb2 o1
  go_wp2
  go_ret
  exact ⟨xs, p, u, v2, rfl, N2.out, B2.out⟩
end Go.Proofs.Ytbeiacoplhbmeaa
