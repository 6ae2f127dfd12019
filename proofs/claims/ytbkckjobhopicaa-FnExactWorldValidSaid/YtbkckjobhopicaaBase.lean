/- Walks over the small functions that everything uses: ranges, copies of lists, comparing them, filling and holding them. -/
import Derived.Test.YtbkckjobhopicaaProg
import Derived.Test.YtbkckjobhopicaaMem
import Derived.WalkKit
import Derived.WalkSpells
import Derived.WalkLawsBesides
import Derived.BigQuiet
import Derived.Deep.QuietTactic
import Derived.Deep.RegionWith
import Derived.KernelRfl
namespace Go.Proofs.Ytbkckjobhopicaa
open Go Go.RowKit
set_option maxHeartbeats 400000

def win (n lo hi : Int) : Bool := decide (lo ≤ n) && decide (n ≤ hi)

theorem within_c (n lo hi : Int) (w : World) : Calls Try.prog 25 #[.int .i64 n, .int .i64 lo, .int .i64 hi] w fun e w' => e = .returned (.bool (win n lo hi)) ∧ w = w' := by
  go_enter Try.func25, Try.ntmps25
  go_wp2
  all_goals go_ret
  all_goals exact ⟨by simp [win]; try omega, rfl⟩
theorem l6In_c (n lo hi : Int) (w : World) : Calls Try.prog 41 #[.int .i64 n, .int .i64 lo, .int .i64 hi] w fun e w' => e = .returned (.bool (win n lo hi)) ∧ w = w' := by
  go_enter Try.func41, Try.ntmps41
  go_wp2
  all_goals go_ret
  all_goals exact ⟨by simp [win]; try omega, rfl⟩

theorem infoInt : (Try.prog.info? 3).map (fun i => (i.zero, i.size, i.bytes)) = some (some (.int .i64 0), 1, 8) := by kernel_rfl

theorem ret_bool {a b : Bool} (h : a = b) : Ending.returned (.bool a) = .returned (.bool b) := by rw [h]
theorem ret_int {a b : Int} (h : a = b) : Ending.returned (.int .i64 a) = .returned (.int .i64 b) := by rw [h]
abbrev ok (r : Bool) (B : Nat) (w : World) (e : Ending) (w' : World) : Prop := e = .returned (.bool r) ∧ Below B w w'

theorem take_all {α : Type} {xs : List α} {k : Nat} (h1 : k ≤ xs.length) (h : ¬ k < xs.length) : xs.take k = xs := List.take_of_length_le (by omega)
theorem eq_of_take {xs ys : List Int} {k : Nat} (h : xs.take k = ys.take k) (hl : xs.length = ys.length) (h1 : k ≤ xs.length) (h2 : ¬ k < xs.length) : xs = ys := by
  rw [← take_all h1 h2, h, take_all (by omega) (by omega)]
theorem ne_of_get {α : Type} {xs ys : List α} {k : Nat} {x y : α} (hx : xs[k]? = some x) (hy : ys[k]? = some y) (h : x ≠ y) : xs ≠ ys := by
  rintro rfl; rw [hx] at hy; injection hy with hy; exact h hy

theorem eqIntS_c (v1 v2 : Value) (xs ys : List Int) (w : World) (h1 : SlB tInt w.heap.size w v1 xs) (h2 : SlB tInt w.heap.size w v2 ys) :
    Calls Try.prog 75 #[v1, v2] w (ok (decide (xs = ys)) w.heap.size w) := by
  obtain ⟨A1, c1, rfl, a1, a2, a3⟩ := h1.form
  obtain ⟨A2, c2, rfl, b1, b2, b3⟩ := h2.form
  clear a2 b2
  by_cases hl : xs.length = ys.length
  · have Hl := hid hl
    have hne : ((xs.length : Int) != (ys.length : Int)) = false := by simp [hl]
    clear hl
    go_enter Try.func75, Try.ntmps75
    go_wp2
    go_loopw [5] (fun i wr => ∃ k : Nat, k ≤ xs.length ∧ i = .int .i64 k ∧ xs.take k = ys.take k ∧ ∃ m, wr = w.drewN m) (fun i _ => xs.length - (intOf i).toNat)
    case atStart => exact ⟨0, by omega, rfl, rfl, 0, rfl⟩
    case round =>
      obtain ⟨k, hk, rfl, hall, m, rfl⟩ := hrel
      have Hall := hid hall
      clear hall
      by_cases hlt : k < xs.length
      · have hlt2 : k < ys.length := by have := Hl.out; omega
        obtain ⟨x, hx⟩ := get_ex hlt
        obtain ⟨y, hy⟩ := get_ex hlt2
        obtain ⟨b, o, rfl, _, _, hcx⟩ := h1.int hx
        obtain ⟨b', o', rfl, _, _, hcy⟩ := h2.int hy
        have Hx := hid hx; have Hy := hid hy
        clear hx hy
        go_wp2
        go_quiet (fail)
        go_wp2
        · have hxy : (x != y) = true := by assumption
          go_ret
          exact ⟨ret_bool (decide_eq_false (ne_of_get Hx.out Hy.out (by simpa using hxy))).symm, by repeat (first | exact Below.refl _ _ | refine below_drewN ?_ _)⟩
        · have hxy : (x != y) = false := by assumption
          go_roundw
          case rel => exact ⟨k + 1, by omega, by go_num, by rw [take_ex Hx.out, take_ex Hy.out, Hall.out, show x = y from by simpa using hxy], _, rfl⟩
          case measure => simp [intOf]; omega
      · go_wp2
        go_ret
        exact ⟨ret_bool (decide_eq_true (eq_of_take Hall.out Hl.out hk hlt)).symm, by repeat (first | exact Below.refl _ _ | refine below_drewN ?_ _)⟩
  · have hne : ((xs.length : Int) != (ys.length : Int)) = true := by simp; omega
    have Hl := hid hl
    clear hl
    go_enter Try.func75, Try.ntmps75
    go_wp2
    go_ret
    exact ⟨ret_bool (decide_eq_false (fun h => Hl.out (by rw [h]))).symm, Below.refl _ _⟩
theorem sameInts_c (v1 v2 : Value) (xs ys : List Int) (w : World) (h1 : SlB tInt w.heap.size w v1 xs) (h2 : SlB tInt w.heap.size w v2 ys) :
    Calls Try.prog 49 #[v1, v2] w (ok (decide (xs = ys)) w.heap.size w) := by
  obtain ⟨A1, c1, rfl, a1, a2, a3⟩ := h1.form
  obtain ⟨A2, c2, rfl, b1, b2, b3⟩ := h2.form
  clear a2 b2
  by_cases hl : xs.length = ys.length
  · have Hl := hid hl
    have hne : ((xs.length : Int) != (ys.length : Int)) = false := by simp [hl]
    clear hl
    go_enter Try.func49, Try.ntmps49
    go_wp2
    go_loopw [5] (fun i wr => ∃ k : Nat, k ≤ xs.length ∧ i = .int .i64 k ∧ xs.take k = ys.take k ∧ ∃ m, wr = w.drewN m) (fun i _ => xs.length - (intOf i).toNat)
    case atStart => exact ⟨0, by omega, rfl, rfl, 0, rfl⟩
    case round =>
      obtain ⟨k, hk, rfl, hall, m, rfl⟩ := hrel
      have Hall := hid hall
      clear hall
      by_cases hlt : k < xs.length
      · have hlt2 : k < ys.length := by have := Hl.out; omega
        obtain ⟨x, hx⟩ := get_ex hlt
        obtain ⟨y, hy⟩ := get_ex hlt2
        obtain ⟨b, o, rfl, _, _, hcx⟩ := h1.int hx
        obtain ⟨b', o', rfl, _, _, hcy⟩ := h2.int hy
        have Hx := hid hx; have Hy := hid hy
        clear hx hy
        go_wp2
        go_quiet (fail)
        go_wp2
        · have hxy : (x != y) = true := by assumption
          go_ret
          exact ⟨ret_bool (decide_eq_false (ne_of_get Hx.out Hy.out (by simpa using hxy))).symm, by repeat (first | exact Below.refl _ _ | refine below_drewN ?_ _)⟩
        · have hxy : (x != y) = false := by assumption
          go_roundw
          case rel => exact ⟨k + 1, by omega, by go_num, by rw [take_ex Hx.out, take_ex Hy.out, Hall.out, show x = y from by simpa using hxy], _, rfl⟩
          case measure => simp [intOf]; omega
      · go_wp2
        go_ret
        exact ⟨ret_bool (decide_eq_true (eq_of_take Hall.out Hl.out hk hlt)).symm, by repeat (first | exact Below.refl _ _ | refine below_drewN ?_ _)⟩
  · have hne : ((xs.length : Int) != (ys.length : Int)) = true := by simp; omega
    have Hl := hid hl
    clear hl
    go_enter Try.func49, Try.ntmps49
    go_wp2
    go_ret
    exact ⟨ret_bool (decide_eq_false (fun h => Hl.out (by rw [h]))).symm, Below.refl _ _⟩

/-- the numbers that are written -/
def mkd (k : Int) (n : Nat) : List Int := (List.range n).map (fun i : Nat => k + (i : Int))
theorem mkd_succ (k : Int) (n : Nat) : mkd k (n + 1) = mkd k n ++ [k + n] := by simp [mkd, List.range_succ]
theorem mkd_len (k : Int) (n : Nat) : (mkd k n).length = n := by simp [mkd]
theorem mkd_get (k : Int) (n i : Nat) (h : i < n) : (mkd k n)[i]? = some (k + i) := by simp [mkd, h]
theorem mkd_set (k : Int) (xs : List Int) (j : Nat) (h : j < xs.length) : (mkd k j ++ xs.drop j).set j (k + j) = mkd k (j + 1) ++ xs.drop (j + 1) := by
  rw [mkd_succ, List.set_append_right _ _ (by simp [mkd_len]), mkd_len, Nat.sub_self, List.drop_eq_getElem_cons h, List.set_cons_zero, List.append_assoc]; rfl
theorem mkd_at (k : Int) (xs : List Int) (j : Nat) {x : Int} (h : xs[j]? = some x) : (mkd k j ++ xs.drop j)[j]? = some x := by
  rw [List.getElem?_append_right (by simp [mkd_len]), mkd_len]; simpa using h

theorem markIntS_c (e B : Nat) (v : Value) (xs : List Int) (k : Int) (w : World) (h : Own tInt e B w v xs []) (hk0 : 0 ≤ k) (hk1 : k + xs.length ≤ 4611686018427387904) :
    Calls Try.prog 59 #[v, .int .i64 k] w fun e' w' => e' = .returned (.int .i64 (k + xs.length)) ∧ Own tInt e B w' v (mkd k xs.length) [] ∧ w.grownBy w' v.ownBlock := by
  obtain ⟨A, c, rfl, a1, a2, a3⟩ := h.form
  clear a2
  go_enter Try.func59, Try.ntmps59
  go_wp2
  go_loopw [1, 5] (fun kv i wr => ∃ j : Nat, j ≤ xs.length ∧ i = .int .i64 j ∧ kv = .int .i64 (k + j) ∧ Own tInt e B wr (.slice A xs.length c) (mkd k j ++ xs.drop j) [] ∧ w.grownBy wr (Value.slice A xs.length c).ownBlock) (fun _ i _ => xs.length - (intOf i).toNat)
  case atStart => exact ⟨0, by omega, rfl, by simp, by simpa [mkd] using h, World.grownBy.refl _ _⟩
  case round =>
    obtain ⟨j, hj, rfl, rfl, ho, hg⟩ := hrel
    by_cases hlt : j < xs.length
    · obtain ⟨x, hx⟩ := get_ex hlt
      obtain ⟨g, rfl, hB, hgs, hcx, hfz⟩ := ho.int (mkd_at k xs j hx)
      have hfzj := hfz j
      have Hx := hid hx
      have Ho := hid ho; have Hg := hid hg
      clear hx hfz ho hg h
      go_wp2
      go_roundw
      case rel => exact ⟨j + 1, by omega, by go_num, by go_num, by rw [← mkd_set k xs j hlt]; exact Ho.out.int_set _, grown_set Hg.out _ _⟩
      case measure => simp [intOf]; omega
    · have Ho := hid ho; have Hg := hid hg
      clear ho hg
      have hjl : j = xs.length := by omega
      subst hjl
      go_wp2
      go_ret
      exact ⟨rfl, by simpa using Ho.out, Hg.out⟩

theorem heldIntS_c (v : Value) (n : Nat) (k : Int) (w : World) (h : SlB tInt w.heap.size w v (mkd k n)) (hk0 : 0 ≤ k) (hk1 : k + n ≤ 4611686018427387904) :
    Calls Try.prog 61 #[v, .int .i64 k] w fun e' w' => e' = .returned (.int .i64 (k + n)) ∧ w = w' := by
  obtain ⟨A, c, rfl, a1, a2, a3⟩ := h.form
  have hn := mkd_len k n
  rw [hn] at h a1 a3 ⊢
  clear a2 hn
  go_enter Try.func61, Try.ntmps61
  go_wp2
  go_loop [1, 5] (fun kv i => ∃ j : Nat, j ≤ n ∧ i = .int .i64 j ∧ kv = .int .i64 (k + j)) (fun _ i => n - (intOf i).toNat)
  case atStart => exact ⟨0, by omega, rfl, by simp⟩
  case round =>
    obtain ⟨j, hj, rfl, rfl⟩ := hrel
    by_cases hlt : j < n
    · obtain ⟨b, o, rfl, _, _, hcx⟩ := h.int (mkd_get k n j hlt)
      have hne : ((k + (j : Int)) != k + j) = false := by simp
      go_wp2
      go_round
      case rel => exact ⟨j + 1, by omega, by go_num, by go_num⟩
      case measure => simp [intOf]; omega
    · have hjl : j = n := by omega
      subst hjl
      go_wp2
      go_ret
      exact ⟨rfl, rfl⟩

theorem toIntS_c (v : Value) (xs : List Int) (w : World) (h : SlB tInt w.heap.size w v xs) (hb : xs.length ≤ 1073741824) :
    Calls Try.prog 81 #[v] w fun e w' => ∃ v', e = .returned v' ∧ NewS tInt 3 w.heap.size w' v' xs ∧ Below w.heap.size w w' := by
  obtain ⟨i0, hi, hz0, hz1, hz2⟩ := info_parts infoInt
  obtain ⟨A, c, rfl, h1, h2, h3⟩ := h.form
  clear h2
  go_enter Try.func81, Try.ntmps81
  go_wp2_with
    (at_make; refine wpList_mkN rfl _ _ 43 rfl tInt 0 (B := w.heap.size) Try.underlying43 hi hz0 hz1 xs.length rfl rfl rfl rfl (by rw [hz2]; omega) (by unfold maxLen; omega) (Nat.le_refl _) (zeros_int _) ?_; intro w1 ho1 hg1)
  go_loopw [4] (fun i wr => ∃ j : Nat, j ≤ xs.length ∧ i = .int .i64 j ∧ Own tInt 3 w.heap.size wr (.slice (some ⟨w.heap.size, 0, none⟩) xs.length xs.length) (xs.take j ++ List.replicate (xs.length - j) 0) [] ∧ Below w.heap.size w wr) (fun i _ => xs.length - (intOf i).toNat)
  case atStart => exact ⟨0, by omega, rfl, by simpa using ho1, (Below.refl _ _).grown hg1 (Nat.le_refl _) (by simp)⟩
  case round =>
    obtain ⟨j, hj, rfl, ho, hbw⟩ := hrel
    by_cases hlt : j < xs.length
    · obtain ⟨x, hx⟩ := get_ex hlt
      obtain ⟨b, o, rfl, hbB, _, hcx⟩ := h.int hx
      have hcx' := (hbw.cell (p := ⟨b, o + j, none⟩) hbB).trans hcx
      obtain ⟨g, hg, hB, hgs, hco, hfz⟩ := ho.int (fill_at xs 0 j hlt)
      injection hg with hg; injection hg with hg; subst hg
      have hfzj := hfz j
      have Hx := hid hx
      have Ho := hid ho; have Hb := hid hbw
      clear hx hfz ho hbw h hcx ho1 hg1
      go_wp2
      go_roundw
      case rel => exact ⟨j + 1, by omega, by go_num, by rw [← fill_set xs 0 x j Hx.out]; exact Ho.out.int_set _, Hb.out.setCell (Nat.le_refl _) _⟩
      case measure => simp [intOf]; omega
    · have Ho := hid ho; have Hb := hid hbw
      clear ho hbw
      have hjl : j = xs.length := by omega
      subst hjl
      go_wp2
      go_ret
      exact ⟨_, rfl, ⟨[], by simpa using Ho.out, List.nodup_nil, fun _ h => by cases h⟩, Hb.out⟩
end Go.Proofs.Ytbkckjobhopicaa
