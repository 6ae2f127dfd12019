/- Texts that the last file leans on (part 10). -/
import Derived.Deep.Cut
import Derived.Laws.CopyOwn
import Derived.Lib.AppendZerosOnto
import Derived.Test.YtfaeojmndaplcaaGreatDoorP2
import Derived.Test.YtfaeojmndaplcaaGreatDoorP8
import Derived.Test.YtfaeojmndaplcaaGreatDoorP9
set_option linter.unusedVariables false
set_option linter.unusedSimpArgs false
set_option maxHeartbeats 4000000
set_option maxRecDepth 100000
namespace Go.Proofs.YtfaeojmndaplcaaGreatDoor
open Go Go.RowKit
theorem od (a b : Int) (w : World) (ha : win a 1 996 = true) (hb : win b 1 996 = true) : Calls Tryz.prog 177 #[.int .i64 a, .int .i64 b] w fun e w' => e = .returned (.int .i64 (aq a b)) ∧ w = w' := by
 obtain ⟨h0, h1⟩ := rZ ha hb
 go_enter Tryz.func177, Tryz.ntmps177
 go_wp2_with (go_at_call 90; refine (aF _ _).mono ?_; (first | rw [ha] | rw [hb]); rintro e w' ⟨rfl, rfl⟩)
 go_ret
 exact ⟨by first | rfl | (simp [aq]; done), rfl⟩
theorem cS (a b : Int) (w : World) (ha : win a 1 996 = true) (hb : win b 1 996 = true) : Calls Tryz.prog 224 #[.int .i64 a, .int .i64 b] w fun e w' => e = .returned (.int .i64 (aq a b)) ∧ w = w' := by
 go_enter Tryz.func224, Tryz.ntmps224
 go_wp2_with (go_at_call 177; refine (od _ _ _ ha hb).mono ?_; rintro e w' ⟨rfl, rfl⟩)
 go_ret
 exact ⟨rfl, rfl⟩
theorem oB (a b : Int) (w : World) (ha : win a 1 996 = true) (hb : win b 1 996 = true) : Calls Tryz.prog 225 #[.int .i64 a, .int .i64 b] w fun e w' => e = .returned (.int .i64 (aq a b)) ∧ w = w' := by
 go_enter Tryz.func225, Tryz.ntmps225
 go_wp2_with (go_at_call 177; refine (od _ _ _ ha hb).mono ?_; rintro e w' ⟨rfl, rfl⟩)
 go_ret
 exact ⟨rfl, rfl⟩
theorem kC (a : Int) (w : World) (ha : win a 1 996 = true) : Calls Tryz.prog 134 #[.int .i64 a] w fun e w' => e = .returned (.int .i64 (aq a 5)) ∧ w = w' := by
 go_enter Tryz.func134, Tryz.ntmps134
 go_wp2_with (go_at_call 177; refine (od _ _ _ ha (by decide)).mono ?_; rintro e w' ⟨rfl, rfl⟩)
 go_ret
 exact ⟨rfl, rfl⟩
theorem lX (s : Int) (w : World) (hs : win s 1 996 = true) : Calls Tryz.prog 226 #[.int .i64 s] w fun e w' => e = .returned (.int .i64 (dn s)) ∧ w = w' := by
 obtain ⟨h0, h1⟩ := aK.1 hs
 go_enter Tryz.func226, Tryz.ntmps226
 go_wp2_with (go_at_call 90; refine (aF _ _).mono ?_; rw [hs]; rintro e w' ⟨rfl, rfl⟩)
 go_ret
 exact ⟨by first | rfl | (simp [dn]; done), rfl⟩
theorem mR (key : Int) (i : Nat) (w : World) (hk : win key 1 996 = true) (hi : i ≤ 24) : Calls Tryz.prog 241 #[.int .i64 key, .int .i64 i] w fun e w' => e = .returned (.int .i64 (cM key i)) ∧ w = w' := by
 rw [aK] at hk
 obtain ⟨k0, k1⟩ := hk
 have a0 : 0 ≤ key * ((i : Int) + 2) := Int.mul_nonneg (by omega) (by omega)
 have a1 : key * ((i : Int) + 2) ≤ 996 * 26 := Int.mul_le_mul (by omega) (by omega) (by omega) (by omega)
 have b0 : 0 ≤ 11 * (i : Int) * (i : Int) := Int.mul_nonneg (by omega) (by omega)
 have b1 : 11 * (i : Int) * (i : Int) ≤ 264 * 24 := Int.mul_le_mul (by omega) (by omega) (by omega) (by omega)
 go_enter Tryz.func241, Tryz.ntmps241
 go_wp2
 go_ret
 exact ⟨by first | rfl | (simp [cM]; done), rfl⟩
theorem qd (t : Int) (v : Value) (xs : List Int) (w : World) (h : SlB af w.heap.size w v xs) (hn : aH xs = true) (ht : 0 ≤ t ∧ t ≤ 990) :
  Calls Tryz.prog 229 #[.int .i64 t, v] w fun e w' => e = .returned (.int .i64 (xs.foldl fE t)) ∧ w = w' := by
 obtain ⟨A, c, rfl, a1, a2, a3⟩ := h.form
 clear a2
 go_enter Tryz.func229, Tryz.ntmps229
 go_wp2
 go_loop [0, 9] (fun tv i => ∃ k : Nat, k ≤ xs.length ∧ i = .int .i64 k ∧ tv = .int .i64 ((xs.take k).foldl fE t)) (fun _ i => xs.length - (intOf i).toNat)
 case atStart => exact ⟨0, by omega, rfl, rfl⟩
 case round =>
  obtain ⟨k, hk, rfl, rfl⟩ := hrel
  by_cases hlt : k < xs.length
  ·obtain ⟨x, hx⟩ := ak hlt
   obtain ⟨b, o, rfl, _, _, hcx⟩ := h.int hx
   obtain ⟨x0, x1⟩ := bL hn hx
   obtain ⟨t0, t1⟩ := nz (xs.take k) t ht
   have Ht := hid (show (xs.take (k + 1)).foldl fE t = fE ((xs.take k).foldl fE t) x from by rw [aP hx, List.foldl_append]; rfl)
   clear hx h
   generalize (xs.take k).foldl fE t = t' at *
   go_wp2
   go_round
   case rel => exact ⟨k + 1, by omega, by go_num, by rw [Ht.out]; rfl⟩
   case measure => simp [intOf]; omega
  ·have Ha := hid (aR hk hlt)
   go_wp2
   go_ret
   exact ⟨oX (by rw [Ha.out]), rfl⟩
theorem fL {xs : List Int} (hn : aH xs = true) (hl : xs.length ≤ 24) : bD xs = true := by unfold bD; rw [hn, decide_eq_true hl]; rfl
theorem iH (key : Int) (v : Value) (xs : List Int) (w : World) (h : SlB af w.heap.size w v xs) (hn : aH xs = true) (hl : xs.length ≤ 24) (hkey : win key 1 996 = true) :
  Calls Tryz.prog 183 #[.int .i64 key, v] w fun e w' => e = .returned (.int .i64 (cJ key xs)) ∧ w = w' := by
 have hs := fL hn hl
 obtain ⟨A, c, rfl, a1, a2, a3⟩ := h.form
 clear a2
 obtain ⟨k0, k1⟩ := aK.1 hkey
 go_enter Tryz.func183, Tryz.ntmps183
 go_wp2_with (first | (go_at_call 90; refine (aF _ _).mono ?_; rw [hkey]; rintro e w' ⟨rfl, rfl⟩) | (go_at_call 168; refine (fh _ xs _ h).mono ?_; rw [hs]; rintro e w' ⟨rfl, rfl⟩) | (go_at_call 229; refine (qd _ _ xs _ h hn (by omega)).mono ?_; rintro e w' ⟨rfl, rfl⟩))
 go_ret
 exact ⟨by first | rfl | (simp [cJ]; done), rfl⟩
theorem eZ (key tag : Int) (v : Value) (xs : List Int) (w : World) (h : SlB af w.heap.size w v xs) (hn : aH xs = true) (hl : xs.length ≤ 24) (hkey : win key 1 996 = true) (ht : 0 ≤ tag) :
  Calls Tryz.prog 244 #[.int .i64 key, v, .int .i64 tag] w fun e w' => e = .returned (.bool (decide (cJ key xs = tag))) ∧ w = w' := by
 go_enter Tryz.func244, Tryz.ntmps244
 go_wp2_with (go_at_call 183; refine (iH _ _ xs _ h hn hl hkey).mono ?_; rintro e w' ⟨rfl, rfl⟩)
 go_ret
 refine ⟨aj ?_, rfl⟩
 by_cases h : cJ key xs = tag
 ·simp [h, ht]
 ·have h' : ¬ tag = cJ key xs := fun e => h e.symm
  simp [h, h']
theorem jf (v : Value) (xs : List Int) (key : Int) (w : World) (h : SlB af w.heap.size w v xs) (hn : aH xs = true) (hl : xs.length ≤ 24) (hkey : win key 1 996 = true) :
  Calls Tryz.prog 227 #[v, .int .i64 key, .int .i64 1] w fun e w' => ∃ v', e = .returned v' ∧ bp af 3 w.heap.size w' v' (onL xs key) ∧ Below w.heap.size w w' := by
 obtain ⟨i0, hi, hz0, hz1, hz2⟩ := info_parts aY
 have hs := fL hn hl
 obtain ⟨A, c, rfl, a1, a2, a3⟩ := h.form
 clear a2
 go_enter Tryz.func227, Tryz.ntmps227
 go_wp2_with (first | (go_at_call 90; refine (aF _ _).mono ?_; rw [hkey]; rintro e w' ⟨rfl, rfl⟩) | (go_at_call 168; refine (fh _ xs _ h).mono ?_; rw [hs]; rintro e w' ⟨rfl, rfl⟩))
 go_loopw [7, 21] (fun ov i wr => ∃ k : Nat, k ≤ xs.length ∧ i = .int .i64 k ∧ Own af 3 w.heap.size wr ov ((onL xs key).take k) [] ∧ Below w.heap.size w wr) (fun _ i _ => xs.length - (intOf i).toNat)
 case atStart => exact ⟨0, by omega, rfl, bR (w := w) (Nat.le_refl _), ah.alloc (Nat.le_refl _) _⟩
 case round =>
  obtain ⟨k, hk, rfl, ho, hb⟩ := hrel
  by_cases hlt : k < xs.length
  ·obtain ⟨x, hx⟩ := ak hlt
   obtain ⟨b, o, rfl, hbz, _, hcx0⟩ := h.int hx
   have hcx := (hb.cell (p := ⟨b, o + k, none⟩) hbz).trans hcx0
   obtain ⟨x0, x1⟩ := bL hn hx
   obtain ⟨s0, s1⟩ := gn key k
   have Ht := hid (aP (lI (key := key) hx))
   have Hb := hid hb; have Ho := hid ho
   have hsz := hb.size
   have hk24 : k ≤ 24 := by omega
   have hlk : ((onL xs key).take k).length = k := by rw [List.length_take, show (onL xs key).length = xs.length from by simp [onL]]; omega
   have Hlk := hid hlk
   have w0 := aX (n := 1 * cM key k) (by omega)
   have w1 := aX (n := x + 1 * cM key k) (by omega)
   have w2 := aX (n := x + 1 * cM key k + 991) (by omega)
   clear hx h hb ho hcx0 hlk
   go_wp2_with (first
    | (go_at_call 241; refine (mR key k _ hkey hk24).mono ?_; rintro e w' ⟨rfl, rfl⟩)
    | (at_builtin; go_loud (refine aw rfl (.tmp 26) (.tmp 36) 67 rfl af ai (B := w.heap.size) Tryz.underlying67 hi hz0 hz1 hz2 rfl (by decide) (by decide) (v := u7) rfl (Ho.out.below (ab _ _) (Nat.le_refl _)) _ 1 1 rfl (Sl.box' (T := af) (x := (x + cM key k) % 991) wr.heap.size rfl ⟨rfl, rfl⟩) ?_ ?_ ?_; (rw [Hlk.out]; simp; omega); (simp; omega); intro v2 w2 ho2 hg2 hv2; skip; have hb2 : Below w.heap.size w w2 := ((Hb.out.alloc hsz _)).grown hg2 (by simp; omega) (fun q hq => (Ho.out.top q hq).1))))
   go_roundw
   case rel => exact ⟨k + 1, by omega, by go_num, by rw [Ht.out]; exact ho2, hb2⟩
   case measure => simp [intOf]; omega
  ·have Ha := hid (aR (xs := onL xs key) (k := k) (by simp [onL]; omega) (by simp [onL]; omega))
   have Ho := hid ho; have Hb := hid hb
   clear ho hb
   go_wp2
   go_ret
   exact ⟨_, rfl, ⟨[], by rw [← Ha.out]; exact Ho.out, List.nodup_nil, fun _ h => by cases h⟩, Hb.out⟩
theorem ms (v : Value) (xs : List Int) (key : Int) (w : World) (h : SlB af w.heap.size w v xs) (hn : aH xs = true) (hl : xs.length ≤ 24) (hkey : win key 1 996 = true) :
  Calls Tryz.prog 227 #[v, .int .i64 key, .int .i64 (-1)] w fun e w' => ∃ v', e = .returned v' ∧ bp af 3 w.heap.size w' v' (bY xs key) ∧ Below w.heap.size w w' := by
 obtain ⟨i0, hi, hz0, hz1, hz2⟩ := info_parts aY
 have hs := fL hn hl
 obtain ⟨A, c, rfl, a1, a2, a3⟩ := h.form
 clear a2
 go_enter Tryz.func227, Tryz.ntmps227
 go_wp2_with (first | (go_at_call 90; refine (aF _ _).mono ?_; rw [hkey]; rintro e w' ⟨rfl, rfl⟩) | (go_at_call 168; refine (fh _ xs _ h).mono ?_; rw [hs]; rintro e w' ⟨rfl, rfl⟩))
 go_loopw [7, 21] (fun ov i wr => ∃ k : Nat, k ≤ xs.length ∧ i = .int .i64 k ∧ Own af 3 w.heap.size wr ov ((bY xs key).take k) [] ∧ Below w.heap.size w wr) (fun _ i _ => xs.length - (intOf i).toNat)
 case atStart => exact ⟨0, by omega, rfl, bR (w := w) (Nat.le_refl _), ah.alloc (Nat.le_refl _) _⟩
 case round =>
  obtain ⟨k, hk, rfl, ho, hb⟩ := hrel
  by_cases hlt : k < xs.length
  ·obtain ⟨x, hx⟩ := ak hlt
   obtain ⟨b, o, rfl, hbz, _, hcx0⟩ := h.int hx
   have hcx := (hb.cell (p := ⟨b, o + k, none⟩) hbz).trans hcx0
   obtain ⟨x0, x1⟩ := bL hn hx
   obtain ⟨s0, s1⟩ := gn key k
   have Ht := hid (aP (mB (key := key) hx))
   have Hb := hid hb; have Ho := hid ho
   have hsz := hb.size
   have hk24 : k ≤ 24 := by omega
   have hlk : ((bY xs key).take k).length = k := by rw [List.length_take, show (bY xs key).length = xs.length from by simp [bY]]; omega
   have Hlk := hid hlk
   have w0 := aX (n := -1 * cM key k) (by omega)
   have w1 := aX (n := x + -1 * cM key k) (by omega)
   have w2 := aX (n := x + -1 * cM key k + 991) (by omega)
   clear hx h hb ho hcx0 hlk
   go_wp2_with (first
    | (go_at_call 241; refine (mR key k _ hkey hk24).mono ?_; rintro e w' ⟨rfl, rfl⟩)
    | (at_builtin; go_loud (refine aw rfl (.tmp 26) (.tmp 36) 67 rfl af ai (B := w.heap.size) Tryz.underlying67 hi hz0 hz1 hz2 rfl (by decide) (by decide) (v := u7) rfl (Ho.out.below (ab _ _) (Nat.le_refl _)) _ 1 1 rfl (Sl.box' (T := af) (x := (x + -cM key k) % 991) wr.heap.size rfl ⟨rfl, rfl⟩) ?_ ?_ ?_; (rw [Hlk.out]; simp; omega); (simp; omega); intro v2 w2 ho2 hg2 hv2; rw [show (x + -cM key k) % 991 = (x + 991 - cM key k) % 991 from by omega] at ho2; have hb2 : Below w.heap.size w w2 := ((Hb.out.alloc hsz _)).grown hg2 (by simp; omega) (fun q hq => (Ho.out.top q hq).1))))
   go_roundw
   case rel => exact ⟨k + 1, by omega, by go_num, by rw [Ht.out]; exact ho2, hb2⟩
   case measure => simp [intOf]; omega
  ·have Ha := hid (aR (xs := bY xs key) (k := k) (by simp [bY]; omega) (by simp [bY]; omega))
   have Ho := hid ho; have Hb := hid hb
   clear ho hb
   go_wp2
   go_ret
   exact ⟨_, rfl, ⟨[], by rw [← Ha.out]; exact Ho.out, List.nodup_nil, fun _ h => by cases h⟩, Hb.out⟩
theorem je (v : Value) (xs : List Int) (key : Int) (w : World) (h : SlB af w.heap.size w v xs) (hn : aH xs = true) (hl : xs.length ≤ 24) (hkey : win key 1 996 = true) :
  Calls Tryz.prog 181 #[v, .int .i64 key] w fun e w' => ∃ v', e = .returned v' ∧ bp af 3 w.heap.size w' v' (onL xs key) ∧ Below w.heap.size w w' := by
 go_enter Tryz.func181, Tryz.ntmps181
 go_wp2_with fail
 refine (jf v xs key _ h hn hl hkey).mono ?_
 rintro e w' ⟨v', rfl, n1, hb1⟩
 have N1 := hid n1; have B1 := hid hb1
 clear n1 hb1
 go_wp2
 go_ret
 exact ⟨_, rfl, N1.out, B1.out⟩
theorem eF (v : Value) (xs : List Int) (key : Int) (w : World) (h : SlB af w.heap.size w v xs) (hn : aH xs = true) (hl : xs.length ≤ 24) (hkey : win key 1 996 = true) :
  Calls Tryz.prog 243 #[v, .int .i64 key] w fun e w' => ∃ v', e = .returned v' ∧ bp af 3 w.heap.size w' v' (bY xs key) ∧ Below w.heap.size w w' := by
 go_enter Tryz.func243, Tryz.ntmps243
 go_wp2_with fail
 refine (ms v xs key _ h hn hl hkey).mono ?_
 rintro e w' ⟨v', rfl, n1, hb1⟩
 have N1 := hid n1; have B1 := hid hb1
 clear n1 hb1
 go_wp2
 go_ret
 exact ⟨_, rfl, N1.out, B1.out⟩
theorem nC (v1 v2 : Value) (xs ys : List Int) (w : World) (h1 : SlB af w.heap.size w v1 xs) (h2 : SlB af w.heap.size w v2 ys) :
  Calls Tryz.prog 236 #[v1, v2] w (ok (decide (xs = ys)) w.heap.size w) := by
 obtain ⟨A1, c1, rfl, a1, a2, a3⟩ := h1.form
 obtain ⟨A2, c2, rfl, b1, b2, b3⟩ := h2.form
 clear a2 b2
 by_cases hl : xs.length = ys.length
 ·have Hl := hid hl
  have hne : ((xs.length : Int) != (ys.length : Int)) = false := by simp [hl]
  clear hl
  go_enter Tryz.func236, Tryz.ntmps236
  go_wp2
  go_loopw [13] (fun i wr => ∃ k : Nat, k ≤ xs.length ∧ i = .int .i64 k ∧ xs.take k = ys.take k ∧ ∃ m, wr = w.drewN m) (fun i _ => xs.length - (intOf i).toNat)
  case atStart => exact ⟨0, by omega, rfl, rfl, 0, rfl⟩
  case round =>
   obtain ⟨k, hk, rfl, hall, m, rfl⟩ := hrel
   have Hall := hid hall
   clear hall
   by_cases hlt : k < xs.length
   ·have hlt2 : k < ys.length := by have := Hl.out; omega
    obtain ⟨x, hx⟩ := ak hlt
    obtain ⟨y, hy⟩ := ak hlt2
    obtain ⟨b, o, rfl, _, _, hcx⟩ := h1.int hx
    obtain ⟨b', o', rfl, _, _, hcy⟩ := h2.int hy
    have Hx := hid hx; have Hy := hid hy
    clear hx hy
    go_wp2
    go_quiet (fail)
    go_wp2
    ·have hxy : (x != y) = true := by assumption
     go_ret
     exact ⟨aj (decide_eq_false (kN Hx.out Hy.out (by simpa using hxy))).symm, by repeat (first | exact ah | refine below_drewN ?_ _)⟩
    ·have hxy : (x != y) = false := by assumption
     go_roundw
     case rel => exact ⟨k + 1, by omega, by go_num, by rw [aP Hx.out, aP Hy.out, Hall.out, show x = y from by simpa using hxy], _, rfl⟩
     case measure => simp [intOf]; omega
   ·go_wp2
    go_ret
    exact ⟨aj (decide_eq_true (iN Hall.out Hl.out hk hlt)).symm, by repeat (first | exact ah | refine below_drewN ?_ _)⟩
 ·have hne : ((xs.length : Int) != (ys.length : Int)) = true := by simp; omega
  have Hl := hid hl
  clear hl
  go_enter Tryz.func236, Tryz.ntmps236
  go_wp2
  go_ret
  exact ⟨aj (decide_eq_false (fun h => Hl.out (by rw [h]))).symm, ah⟩
theorem mX (v : Value) (xs : List Int) (w : World) (h : SlB af w.heap.size w v xs) (ha : ∀ x ∈ xs, win x 0 7 = true) :
  Calls Tryz.prog 180 #[v] w fun e w' => e = .returned (.bool true) ∧ w = w' := by
 obtain ⟨A, c, rfl, a1, a2, a3⟩ := h.form
 clear a2
 go_enter Tryz.func180, Tryz.ntmps180
 go_wp2
 go_loop [7] (fun i => ∃ k : Nat, k ≤ xs.length ∧ i = .int .i64 k) (fun i => xs.length - (intOf i).toNat)
 case atStart => exact ⟨0, by omega, rfl⟩
 case round =>
  obtain ⟨k, hk, rfl⟩ := hrel
  by_cases hlt : k < xs.length
  ·obtain ⟨x, hx⟩ := ak hlt
   obtain ⟨b, o, rfl, _, _, hcx⟩ := h.int hx
   have hxa := ha x (List.mem_of_getElem? hx)
   clear hx h ha
   go_wp2_with (go_at_call 126; refine (bz _ _).mono ?_; rw [hxa]; rintro e w' ⟨rfl, rfl⟩)
   go_round
   case rel => exact ⟨k + 1, by omega, by go_num⟩
   case measure => simp [intOf]; omega
  ·go_wp2
   go_ret
   exact ⟨rfl, rfl⟩
theorem qz (v : Value) (xs : List Int) (w : World) (h : SlB af w.heap.size w v xs) (ha : ∀ x ∈ xs, win x 1 996 = true) (h1 : 1 ≤ xs.length) (h3 : xs.length ≤ 3) :
  Calls Tryz.prog 223 #[v] w fun e w' => e = .returned (.bool true) ∧ w = w' := by
 obtain ⟨A, c, rfl, a1, a2, a3⟩ := h.form
 clear a2
 have hw : win xs.length 1 3 = true := aK.2 (by omega)
 go_enter Tryz.func223, Tryz.ntmps223
 go_wp2
 go_loop [7] (fun i => ∃ k : Nat, k ≤ xs.length ∧ i = .int .i64 k) (fun i => xs.length - (intOf i).toNat)
 case atStart => exact ⟨0, by omega, rfl⟩
 case round =>
  obtain ⟨k, hk, rfl⟩ := hrel
  by_cases hlt : k < xs.length
  ·obtain ⟨x, hx⟩ := ak hlt
   obtain ⟨b, o, rfl, _, _, hcx⟩ := h.int hx
   have hxa := ha x (List.mem_of_getElem? hx)
   clear hx h ha
   go_wp2_with (go_at_call 90; refine (aF _ _).mono ?_; rw [hxa]; rintro e w' ⟨rfl, rfl⟩)
   go_round
   case rel => exact ⟨k + 1, by omega, by go_num⟩
   case measure => simp [intOf]; omega
  ·go_wp2_with (go_at_call 78; refine (a9 _ _ _ _).mono ?_; rw [hw]; rintro e w' ⟨rfl, rfl⟩)
   go_ret
   exact ⟨rfl, rfl⟩
theorem oa (s : Int) (v : Value) (ps : List Int) (w : World) (h : SlB af w.heap.size w v ps) (h1 : 1 ≤ ps.length) (hl : ps.length ≤ 3) (hs : win s 1 996 = true) (hp : ∀ p ∈ ps, win p 1 996 = true) :
  Calls Tryz.prog 178 #[.int .i64 s, v] w fun e w' => ∃ v', e = .returned (.tuple #[v', .bool true]) ∧ bp af 3 w.heap.size w' v' (bO s ps) ∧ Below w.heap.size w w' := by
 obtain ⟨i0, hi, hz0, hz1, hz2⟩ := info_parts aY
 obtain ⟨A, c, rfl, a1, a2, a3⟩ := h.form
 clear a2
 go_enter Tryz.func178, Tryz.ntmps178
 go_wp2_with (first | (go_at_call 90; refine (aF _ _).mono ?_; rw [hs]; rintro e w' ⟨rfl, rfl⟩) | (go_at_call 223; refine (qz _ ps _ h hp h1 hl).mono ?_; rintro e w' ⟨rfl, rfl⟩))
 go_loopw [0, 6, 21] (fun xv ov i wr => ∃ (k : Nat) (x : Int) (acc : List Int), k ≤ ps.length ∧ i = .int .i64 k ∧ xv = .int .i64 x ∧ win x 1 996 = true ∧ acc.length = k ∧ acc ++ bO x (ps.drop k) = bO s ps ∧ Own af 3 w.heap.size wr ov acc [] ∧ Below w.heap.size w wr) (fun _ _ i _ => ps.length - (intOf i).toNat)
 case atStart => exact ⟨0, s, [], by omega, rfl, rfl, hs, rfl, rfl, bR (w := w) (Nat.le_refl _), ah.alloc (Nat.le_refl _) _⟩
 case round =>
  obtain ⟨k, x, acc, hk, rfl, rfl, hx, hal, hacc, ho, hb⟩ := hrel
  have Hacc := hid hacc; have Ho := hid ho; have Hb := hid hb; have Hal := hid hal
  have hsz := hb.size
  by_cases hlt : k < ps.length
  ·obtain ⟨p, hpk⟩ := ak hlt
   obtain ⟨b, o, rfl, hbz, _, hcx⟩ := h.int hpk
   have hcx' := (hb.cell (p := ⟨b, o + k, none⟩) hbz).trans hcx
   have hpp := hp p (List.mem_of_getElem? hpk)
   have hd := cC hpk
   have Hd := hid hd
   clear hpk hd h hp hcx ho hb hacc hal
   go_wp2_with (first
    | (go_at_call 226; with_reducible refine (lX _ _ (bu hx hpp)).mono ?_; rintro e w' ⟨rfl, rfl⟩)
    | (go_at_call 224; with_reducible refine (cS x p _ hx hpp).mono ?_; rintro e w' ⟨rfl, rfl⟩)
    | (go_at_call 225; with_reducible refine (oB x _ _ hx (fd _)).mono ?_; rintro e w' ⟨rfl, rfl⟩)
    | (at_builtin; refine aw rfl (.tmp 28) (.tmp 30) 67 rfl af ai (B := w.heap.size) (v := u6) Tryz.underlying67 hi hz0 hz1 hz2 rfl (by decide) (by decide) rfl (Ho.out.below ?_ (Nat.le_refl _)) _ 1 1 rfl (Sl.box' (T := af) (x := aq x p) _ ?_ ⟨rfl, rfl⟩) ?_ ?_ ?_; (exact ah.alloc (Nat.le_refl _) _); rfl; (rw [Hal.out]; simp; omega); (simp; omega); intro v2 w2 ho2 hg2 hv2; have hb2 := (Hb.out.alloc hsz _).grown hg2 (by simp; omega) (fun q hq => (Ho.out.top q hq).1)))
   go_roundw
   case rel => exact ⟨k + 1, _, acc ++ [aq x p], by omega, by go_num, rfl, bu hx (fd _), by simp [Hal.out], by rw [← Hacc.out, Hd.out, iV]; simp, ho2, hb2⟩
   case measure => simp [intOf]; omega
  ·have hkl : k = ps.length := by omega
   subst hkl
   clear ho hb
   go_wp2
   go_ret2
   exact ⟨_, rfl, ⟨[], by have := Hacc.out; simp [bO] at this; rw [← this]; exact Ho.out, List.nodup_nil, fun _ h => by cases h⟩, Hb.out⟩
theorem jx {B e g : Nat} {w : World} {xs : List Int} (h : w.heap[g]? = some (.cells (xs.map (fun x => Value.int .i64 x)).toArray e (0, 0))) (hB : B ≤ g) (hm : xs.length ≤ maxLen) : Own af e B w (.slice (some ⟨g, 0, none⟩) xs.length xs.length) xs [] :=
 ⟨xs.map (fun x => Value.int .i64 x), ⟨by simp [af, Ty.flat], .inr ⟨g, xs.length, _, rfl, hB, h, Nat.le_refl _, hm, by simp [af, Ty.flat], by simp [af, Ty.flat, List.take_of_length_le]⟩⟩, cP.2 ⟨(bg _ _).symm, rfl⟩, fun _ _ h => by cases h⟩
theorem qT {B e g n : Nat} {w : World} {xs : List Int} {G : List Nat} (h : Own af e B w (.slice (some ⟨g, 0, none⟩) n n) xs G) : w.heap[g]? = some (.cells (xs.map (fun x => Value.int .i64 x)).toArray e (0, 0)) := by
 obtain ⟨A0, c0, e0, _⟩ := h.form
 injection e0 with e1 e2 e3; subst e2 e3
 obtain ⟨cs, ⟨h1, h2⟩, h3, _⟩ := h
 obtain ⟨rfl, _⟩ := cP.1 h3
 rw [bg] at h2
 rcases h2 with ⟨h2, _⟩ | ⟨g', cap, cur, e1, _, h4, _, _, h7, h8⟩
 ·cases h2
 ·injection e1 with e1 e2 e3
  injection e1 with e1; injection e1 with e1; subst e1 e3
  have : cur.toList.length = xs.length * 1 := by simpa [af, Ty.flat] using h7
  rw [show af.k = 1 from rfl, List.take_of_length_le (by omega)] at h8
  rw [h4, ← h8]
theorem mQ (l : List Int) (hl : l.length ≤ 4) : splice ([(l.length : Int), 0, 0, 0, 0, 0].map (fun x => Value.int .i64 x)) 1 (l.map (fun x => Value.int .i64 x)) = (dG l ++ [0]).map (fun x => Value.int .i64 x) := by
 unfold splice dG
 match l, hl with
 | [], _ => rfl
 | [_], _ => rfl
 | [_, _], _ => rfl
 | [_, _, _], _ => rfl
 | [_, _, _, _], _ => rfl
theorem SlB.src {B : Nat} {w : World} {A : Option Addr} {n c : Nat} {xs : List Int} (h : SlB af B w (.slice A n c) xs) (hl : 0 < (xs.map (fun x => Value.int .i64 x)).length) : ∃ ad, A = some ad ∧ ∀ j v, (xs.map (fun x => Value.int .i64 x))[j]? = some v → w.cell? (ad.add j) = some v := by
 obtain ⟨x0, hx0⟩ := ak (xs := xs) (k := 0) (by simpa using hl)
 obtain ⟨b, o, rfl, _, _, hc0⟩ := h.int hx0
 refine ⟨_, rfl, fun j v hj => ?_⟩
 rw [List.getElem?_map] at hj
 cases hx : xs[j]? with
 | none => rw [hx] at hj; cases hj
 | some x =>
  rw [hx] at hj
  cases hj
  obtain ⟨b', o', e, _, _, hc⟩ := h.int hx
  injection e with e; injection e with e1 e2; subst e1 e2
  rcases Nat.eq_zero_or_pos j with h0 | h0
  ·subst h0; simpa [Addr.add] using hc
  ·simpa [Addr.add, Nat.ne_of_gt h0] using hc
theorem iR (v : Value) (l : List Int) (w : World) (h : SlB af w.heap.size w v l) (hl : l.length ≤ 4) (hn : aH l = true) :
  Calls Tryz.prog 179 #[v] w fun e w' => ∃ v', e = .returned (.tuple #[v', .bool true]) ∧ bp af 3 w.heap.size w' v' (bI l) ∧ Below w.heap.size w w' := by
 obtain ⟨i0, hi, hz0, hz1, hz2⟩ := info_parts aY
 have hs := fL hn (by omega)
 obtain ⟨A, c, rfl, a1, a2, a3⟩ := h.form
 have H := hid (fun (wx : World) (hb : Below w.heap.size w wx) => h.go hb)
 have hd : decide (4 < (l.length : Int)) = false := by simp; omega
 have Hn := hid hn
 clear a2 hn h
 go_enter Tryz.func179, Tryz.ntmps179
 go_upto_region 4 with (first
  | (go_at_call 168; refine (fh _ l _ (H.out _ ah)).mono ?_; rw [hs]; rintro e w' ⟨rfl, rfl⟩)
  | (at_make; refine gu rfl _ _ 67 rfl af (0 : Int) (B := w.heap.size) Tryz.underlying67 hi hz0 hz1 6 rfl rfl rfl rfl (by rw [hz2]; decide) (by decide) (Nat.le_refl _) (iq 6) ?_; intro w1 ho1 hg1))
 have hb1 := Below.of_grown hg1 (Nat.le_refl _) (fun k hk => by cases hk)
 have e1 := qT ho1
 have hn1 := (ho1.top _ rfl).2
 obtain ⟨p0, pf⟩ : w1.cell? ⟨w.heap.size, 0, none⟩ = some (.int .i64 0) ∧ w1.frozen? ⟨w.heap.size, 0, none⟩ = false := ⟨by rw [cell_of_row w1 _ 0 _ _ _ e1]; rfl, frozen_of_row w1 _ 0 _ _ e1⟩
 have E1 := hid e1; have Hb1 := hid hb1
 clear ho1 hg1 e1 hb1
 go_upto_region 5 with fail
 have e2 : (w1.setCell ⟨w.heap.size, 0, none⟩ (.int .i64 l.length)).heap[w.heap.size]? = some (.cells ([(l.length : Int), 0, 0, 0, 0, 0].map (fun x => Value.int .i64 x)).toArray 3 (0, 0)) := aB 0 _ E1.out
 have hb2 := Hb1.out.setCell (p := ⟨w.heap.size, 0, none⟩) (Nat.le_refl _) (.int .i64 l.length)
 have s2 : (w1.setCell ⟨w.heap.size, 0, none⟩ (.int .i64 l.length)).heap.size = w1.heap.size := ao _ _ _
 generalize w1.setCell ⟨w.heap.size, 0, none⟩ (.int .i64 l.length) = w2 at *
 have Hb2 := hid hb2; have E2 := hid e2
 clear p0 pf E1 Hb1 hb2 e2
 go_upto_region 6 with (go_loud (refine wpList_copy_splice (o := ⟨some 21, _, _, _, _, _⟩) rfl (.tmp 19) (.tmp 20) 67 67 rfl 3 Tryz.underlying67 (by rw [hi]; exact congrArg some hz1) (some ⟨w.heap.size, 1, none⟩) A 5 5 l.length c rfl rfl w.heap.size 1 _ 3 E2.out (l.map (fun x => Value.int .i64 x)) (by simp [Nat.min_def]; omega) (fun h0 => ⟨rfl, SlB.src (H.out _ Hb2.out) h0⟩) (by simp; omega) (fun u hu => by obtain ⟨y, _, rfl⟩ := List.mem_map.1 hu; rfl) w.heap.size w Hb2.out (Nat.le_refl _) ?_; intro w3 E3 hb3))
 have e3 := E3.out
 rw [mQ l hl] at e3
 have hpl := gK hl
 have hl6 : (dG l ++ [0]).length = 6 := by simp [hpl]
 have ht5 : (dG l ++ [0]).take 5 = dG l := List.take_left' hpl
 have hs6 : (dG l ++ [0]).set 5 (cJ 1 (dG l)) = bI l := by rw [List.set_append_right _ _ (by omega), hpl]; rfl
 have Hs6 := hid hs6
 have ho3 : Own af 3 w.heap.size w3 (.slice (some ⟨w.heap.size, 0, none⟩) 6 6) (dG l ++ [0]) [] := by
  have := jx (B := w.heap.size) e3 (Nat.le_refl _) (by simp [hpl, maxLen])
  rw [hl6] at this; exact this
 have hs5 : SlB af w3.heap.size w3 (.slice (some ⟨w.heap.size, 0, none⟩) 5 6) (dG l) := by
  have := ho3.slB.take 5 (by omega)
  rw [ht5] at this; exact this
 have z3 := (ho3.top _ rfl).2
 have hc5 : w3.cell? ⟨w.heap.size, 5, none⟩ = some (.int .i64 0) := by
  obtain ⟨g, eg, _, _, hc, _⟩ := ho3.int (i := 5) (x := 0) (by rw [List.getElem?_append_right (by omega), hpl]; rfl)
  injection eg with eg; injection eg with eg; subst eg; exact hc
 have hf5 := frozen_of_row w3 _ 5 _ _ e3
 have Ho3 := hid ho3; have Hb3 := hid hb3
 clear e3 E3 ho3 hb3 E2 Hb2 hl6 ht5 hs6
 go_wp2_with (go_at_call 183; refine (iH 1 _ (dG l) _ hs5 (ic hl Hn.out) (by omega) (by decide)).mono ?_; rintro e w' ⟨rfl, rfl⟩)
 go_ret2
 refine ⟨_, rfl, ⟨[], ?_, List.nodup_nil, fun _ h => by cases h⟩, Hb3.out.setCell (by simp) _⟩
 have := Ho3.out.int_set (i := 5) (cJ 1 (dG l))
 rw [Hs6.out] at this; exact this
theorem qF {b : List Int} (h : b.length = 6) (h0 : 0 ≤ fm b) (h4 : fm b ≤ 4) : ((dB b).length : Int) = fm b := by
 unfold dB; simp; omega
theorem qG {b : List Int} : ∀ x ∈ dB b, x ∈ b := fun _ hx => List.mem_of_mem_drop (List.mem_of_mem_take hx)
theorem eN (v : Value) (b : List Int) (w : World) (h : SlB af w.heap.size w v b) (hl : b.length = 6) (hn : aH b = true) :
  Calls Tryz.prog 193 #[v] w (Opn w (df b)) := by
 have hls : dQ b 6 = true := gF.2 ⟨hl, hn⟩
 obtain ⟨x0, hx0⟩ := ak (xs := b) (k := 0) (by omega)
 have hlen : fm b = x0 := by unfold fm; rw [List.getD_eq_getElem?_getD, hx0]; rfl
 obtain ⟨x00, x01⟩ := bL hn hx0
 obtain ⟨n, rfl⟩ := Int.eq_ofNat_of_zero_le x00
 obtain ⟨A, c, rfl, a1, a2, a3⟩ := h.form
 obtain ⟨bb, o, rfl, hbz, _, hc0⟩ := h.int hx0
 rw [Nat.add_zero] at hc0
 obtain ⟨y, hy⟩ : ∃ y, y = df b := ⟨_, rfl⟩
 rw [← hy]
 have Hy := hid hy
 rw [hl] at h a1 a3 ⊢
 have H := hid (fun (wx : World) (hb : Below w.heap.size w wx) => h.go hb)
 have Hn := hid hn; have Hl := hid hl; have Hlen := hid hlen; have Hx0 := hid hx0
 clear hy hx0
 by_cases h4 : n ≤ 4
 ·have i1 : decide ((4 : Int) < (n : Int)) = false := decide_eq_false (by omega)
  have w1 : IntKind.i64.wrap (1 + (n : Int)) = 1 + (n : Int) := aX (by omega)
  have w2 : (0 : Int) ≤ 1 + (n : Int) := by omega
  have hlet : SlB af w.heap.size w (.slice (some ⟨bb, o + 1, none⟩) n (c - 1)) (dB b) := by
   have h1 := SlB.drop h 1 (by omega)
   have h2 := h1.take n (by omega)
   rw [show o + 1 * af.k = o + 1 from rfl] at h2
   unfold dB
   rw [hlen, Int.toNat_natCast]; exact h2
  have hc1 : ¬ c = 1 := by omega
  have hle : (1 : Int) + (n : Int) ≤ (c : Int) := by omega
  have Hlet := hid hlet
  have Hw3 := hid (show (1 + (n : Int)).toNat = 1 + n by omega)
  have hnl : (dB b).length = n := by have := qF hl (by omega) (by omega); omega
  have hnl4 : (dB b).length ≤ 4 := by omega
  have Hln := hid (eG hn qG)
  have Hnl := hid hnl
  clear h hlet hnl hl hn hlen
  go_enter Tryz.func193, Tryz.ntmps193
  have hw3 := Hw3.out
  clear Hw3
  go_wp2_with (first
   | (go_at_call 127; refine (gD _ b 6 _ (by rw [Hl.out] at *; exact H.out _ ah) (by omega)).mono ?_; rw [hls]; rintro e w' ⟨rfl, rfl⟩)
   | (go_at_call 129; refine (dw _ (dB b) _ (Hlet.out) (by omega)).mono ?_; rintro e w2 ⟨v2, rfl, n2, hb2⟩))
  have N2 := hid n2
  have hc2 := hid hb2
  clear n2 hb2
  refine (iR v2 (dB b) w2 N2.out.slB hnl4 Hln.out).mono ?_
  rintro e w3 ⟨v3, rfl, n3, hb3⟩
  have Hc3 := hid (bt hc2.out hb3)
  have N23 := hid (N2.out.below hb3 (Nat.le_refl _))
  have N3 := hid n3
  clear n3 hb3 hc2 N2
  go_wp2_with fail
  refine (nC v3 (.slice (some ⟨bb, o, none⟩) 6 c) (bI (dB b)) b w3 N3.out.slB (by have := H.out _ Hc3.out; exact this)).mono ?_
  by_cases hp : bI (dB b) = b
  ·rw [decide_eq_true hp]
   rintro e w4 ⟨rfl, hb4⟩
   obtain rfl := Hy.out.trans (mC ⟨hls, by rw [Hlen.out]; omega, hp⟩)
   have Hb4 := hid hb4
   clear hb4 hp Hy
   go_wp2_with fail
   go_ret2
   exact mF (N23.out.below Hb4.out (Nat.le_refl _)) (bt Hc3.out Hb4.out)
  ·rw [decide_eq_false hp]
   rintro e w4 ⟨rfl, hb4⟩
   obtain rfl := Hy.out.trans (gH (fun h => hp h.2.2))
   have Hb4 := hid hb4
   clear hb4 hp Hy
   go_wp2_with fail
   go_ret2
   exact fs (bp.nil _ _) (bt Hc3.out Hb4.out)
 ·have i1 : decide ((4 : Int) < (n : Int)) = true := decide_eq_true (by omega)
  obtain rfl := Hy.out.trans (gH (fun h => by have h1 := h.2.1; rw [Hlen.out] at h1; omega))
  clear h hl hn hlen h4 Hy
  go_enter Tryz.func193, Tryz.ntmps193
  go_wp2_with (go_at_call 127; refine (gD _ b 6 _ (by rw [Hl.out] at *; exact H.out _ ah) (by omega)).mono ?_; rw [hls]; rintro e w' ⟨rfl, rfl⟩)
  go_ret2
  exact fs (bp.nil _ _) ah
section
variable {P : Program}
theorem jB (w : World) {t tn ty e : TypeId} {i : TypeInfo} {z : Value} {kq kn : IntKind} (ht : P.underlying t = some (.slice e)) (htn : P.underlying tn = some (.int kn)) (hi : P.info? e = some i) (hz : i.zero = some z) (hzs : z.cells.size = i.size)
  (g sLen sCap : Nat) (cur : Array Value) (hg : w.heap[g]? = some (.cells cur e (0, 0))) (k : Nat) (h0 : 0 < k) (hs : 0 < i.size) (h63 : (k : Int) ≤ 9223372036854775807) (h48 : k * i.bytes ≤ 281474976710656)
  (hroom : sLen + k ≤ sCap) (hfit : sLen * i.size + k * i.size ≤ cur.size) (h1 : ∀ u ∈ (Builtin.zeroCells z.cells k).toList, u.oneCell' = true) :
  (Builtin.append_ #[t, tn] ty #[.slice (some ⟨g, 0, none⟩) sLen sCap, .int kq k]).run P w =
   .ok (.slice (some ⟨g, 0, none⟩) (sLen + k) sCap) (w.setRow g (cur.toList.take (sLen * i.size) ++ (Builtin.zeroCells z.cells k).toList ++ cur.toList.drop (sLen * i.size + (Builtin.zeroCells z.cells k).toList.length)).toArray) := by
 have hw : IntKind.i64.wrap (k : Int) = k := by rw [IntKind.wrap_i64]; omega
 have h48i : ¬ (281474976710656 < (k : Int) * (i.bytes : Int)) := by rw [← Int.natCast_mul]; omega
 have hneg : ¬ ((k : Int) < 0) := by omega
 have hns : ¬ (k * i.size = 0) := Nat.mul_ne_zero (by omega) (by omega)
 have hl : (Builtin.zeroCells z.cells k).toList.length = k * i.size := by rw [Array.length_toList, size_zeroCells, hzs]
 have hst := run_storeCells_at P g (sLen * i.size) e (Builtin.zeroCells z.cells k).toList 0 cur w hg (by rw [hl]; simpa using hfit) h1
 simp only [Nat.add_zero] at hst
 simp [Builtin.append_, run_underlying ht, run_underlying htn, sizeOf, typeInfo, zeroValue, hi, hz, asInt, asIntOf, hw, hneg, hns, h48i, hroom, Addr.add_lit, hst]
theorem kt (k : Nat) : (Builtin.zeroCells #[Value.int .i64 0] k).toList = (List.replicate k (0 : Int)).map (fun x => Value.int .i64 x) := by
 simp [Builtin.zeroCells]
 refine List.ext_getElem (by simp) (fun j h1 h2 => ?_)
 simp [Nat.mod_one]
theorem kg {w : World} {t tn ty e : TypeId} {i : TypeInfo} {kq kn : IntKind} {B : Nat} (ht : P.underlying t = some (.slice e)) (htn : P.underlying tn = some (.int kn)) (hi : P.info? e = some i) (hz : i.zero = some (.int .i64 0)) (hsize : i.size = 1) (hby : i.bytes = 8)
  {v : Value} {xs : List Int} (hown : Own af e B w v xs []) (k : Nat) (h0 : 0 < k) (hk : xs.length + k ≤ 1073741824) (hB : B ≤ w.heap.size) :
  ∃ v' w', (Builtin.append_ #[t, tn] ty #[v, .int kq k]).run P w = .ok v' w' ∧ Own af e B w' v' (xs ++ List.replicate k 0) [] ∧ w.grownBy w' v.ownBlock ∧ (v'.ownBlock = v.ownBlock ∨ v'.ownBlock = some w.heap.size) := by
 obtain ⟨cs, h1, h2, h3⟩ := hown
 obtain ⟨rfl, _⟩ := cP.1 h2
 rw [bg] at h1 h2
 have hlen : (xs.map (fun x => Value.int .i64 x) ++ (List.replicate k (0 : Int)).map (fun x => Value.int .i64 x)).length = (xs.length + k) * 1 := by simp
 have fin : ∀ (v' : Value) (w' : World), w'.ownsRow B e 1 v' (xs.length + k) (xs.map (fun x => Value.int .i64 x) ++ (List.replicate k (0 : Int)).map (fun x => Value.int .i64 x)) → Own af e B w' v' (xs ++ List.replicate k 0) [] := by
  intro v' w' hr
  refine ⟨_, by rw [List.length_append, List.length_replicate]; exact hr, cP.2 ⟨by rw [bg, List.map_append], rfl⟩, fun _ _ h => by cases h⟩
 have zc := kt
 have grown : ∀ old : Nat, old < xs.length + k → ∀ row : Option Nat,
   (w.drew.alloc (.cells ((xs.map (fun x => Value.int .i64 x)).toArray ++ Builtin.zeroCells (Value.int .i64 0).cells k ++ Builtin.zeroCells (Value.int .i64 0).cells (grownCap w (xs.length + k) old e - (xs.length + k))) e)).ownsRow B e 1
    (.slice (some ⟨w.heap.size, 0, none⟩) (xs.length + k) (grownCap w (xs.length + k) old e)) (xs.length + k) (xs.map (fun x => Value.int .i64 x) ++ (List.replicate k (0 : Int)).map (fun x => Value.int .i64 x)) ∧
   w.grownBy (w.drew.alloc (.cells ((xs.map (fun x => Value.int .i64 x)).toArray ++ Builtin.zeroCells (Value.int .i64 0).cells k ++ Builtin.zeroCells (Value.int .i64 0).cells (grownCap w (xs.length + k) old e - (xs.length + k))) e)) row := by
  intro old ho row
  have hge := grownCap_ge w (xs.length + k) old e
  have hcm : grownCap w (xs.length + k) old e ≤ maxLen := grownCap_le_maxLen w (xs.length + k) old e (by unfold maxLen; omega)
  refine ⟨⟨hlen, .inr ⟨w.heap.size, _, _, rfl, hB, heap_alloc_new w.drew _, hge, hcm, ?_, ?_⟩⟩, ⟨rfl, rfl, rfl, by simp, fun k hk _ => heap_alloc_old w.drew _ hk⟩⟩
  ·simp only [Array.size_append, List.size_toArray, size_zeroCells, List.length_map, Value.cells, List.size_toArray, List.length_singleton]
   simp
   omega
  ·simp only [Array.toList_append, List.append_assoc]
   rw [← List.append_assoc, show (Builtin.zeroCells (Value.int .i64 0).cells k).toList = _ from zc k, ← hlen]
   exact List.take_left
 have hbk : k * i.bytes ≤ 281474976710656 := by rw [hby]; omega
 rcases h1.2 with ⟨rfl, hn⟩ | ⟨g, cap, cur, rfl, hbg, hg, hnc, hcm, hcs, htake⟩
 ·obtain rfl : xs = [] := List.eq_nil_of_length_eq_zero hn
  have hr := Lib.run_append_nil_zeros (P := P) w t tn ty e i _ kq kn ht htn hi hz k h0 (by omega) (by omega) hbk
  have hgr := grown 0 (by simpa using h0) (Value.ownBlock (.slice none 0 0))
  simp only [List.map_nil, List.length_nil, Nat.zero_add, List.nil_append, Array.empty_append] at hgr
  exact ⟨_, _, hr, fin _ _ (by simpa using hgr.1), hgr.2, .inr rfl⟩
 ·by_cases hroom : xs.length + k ≤ cap
  ·have hcs' : cur.size = cap * 1 := hcs
   have hr := jB (P := P) w (ty := ty) (kq := kq) ht htn hi hz (by rw [hsize]; rfl) g xs.length cap cur hg k h0 (by omega) (by omega) hbk hroom (by rw [hsize]; omega) (by
    intro u hu
    rw [show (Builtin.zeroCells (Value.int .i64 0).cells k).toList = _ from zc k] at hu
    obtain ⟨y, _, rfl⟩ := List.mem_map.1 hu; rfl)
   rw [show (Builtin.zeroCells (Value.int .i64 0).cells k).toList = _ from zc k, hsize] at hr
   have htake' : cur.toList.take (xs.length * 1) = xs.map (fun x => Value.int .i64 x) := htake
   rw [htake'] at hr
   refine ⟨_, _, hr, fin _ _ ⟨hlen, .inr ⟨g, cap, _, rfl, hbg, setRow_heap w g cur _ e _ hg, hroom, hcm, ?_, ?_⟩⟩, ⟨rfl, rfl, rfl, by simp, fun k _ hk => setRow_other w g k _ (fun e => hk (by simp [Value.ownBlock, e]))⟩, .inl rfl⟩
   ·simp only [List.size_toArray, List.length_append, List.length_map, List.length_replicate, List.length_drop, Array.length_toList]
    omega
   ·rw [← hlen]
    exact List.take_left
  ·have holds : ∀ j u, (xs.map (fun x => Value.int .i64 x))[j]? = some u → w.drew.cell? ((⟨g, 0, none⟩ : Addr).add j) = some u := h1.cells (g := g) rfl
   have hr := Lib.run_append_grow_zeros (P := P) w t tn ty e i _ kq kn ht htn hi hz (some ⟨g, 0, none⟩) xs.length cap (xs.map (fun x => Value.int .i64 x)) (run_firstCells_some (P := P) w.drew i.size xs.length ⟨g, 0, none⟩ xs.length cap _ (by simp [hsize]) holds) k h0 (by omega) (by omega) (by omega) hbk (by rw [hby]; exact growslice_fits (by omega) (by omega))
   have hgr := grown cap (by omega) (Value.ownBlock (.slice (some ⟨g, 0, none⟩) xs.length cap))
   exact ⟨_, _, hr, fin _ _ hgr.1, hgr.2, .inr rfl⟩
theorem dj {ops : Array Oper} {rest : List Oper} {o : Oper} {a : Act} {Q : Exit → Act → World → Prop} {w : World} (hgd : o.guard = none) (s x : Operand) (t tn : TypeId)
  (ho : o.op = .call { callee := .builtin .append, args := #[s, x], argTypes := #[t, tn] }) {e : TypeId} {i : TypeInfo} {kq kn : IntKind} {B : Nat} (ht : P.underlying t = some (.slice e)) (htn : P.underlying tn = some (.int kn)) (hi : P.info? e = some i) (hz : i.zero = some (.int .i64 0)) (hsize : i.size = 1) (hby : i.bytes = 8)
  {v : Value} {xs : List Int} (hs : a.eval s = v) (hown : Own af e B w v xs []) (k : Nat) (hx : a.eval x = .int kq k) (h0 : 0 < k) (hk : xs.length + k ≤ 1073741824) (hB : B ≤ w.heap.size)
  (h : ∀ v' w', Own af e B w' v' (xs ++ List.replicate k 0) [] → w.grownBy w' v.ownBlock → (v'.ownBlock = v.ownBlock ∨ v'.ownBlock = some w.heap.size) → wpList P ops Q rest (a.put o.dst v') w') : wpList P ops Q (o :: rest) a w := by
 obtain ⟨v', w', hr, h2, h3, h4⟩ := kg (P := P) (ty := o.type) (kq := kq) ht htn hi hz hsize hby hown k h0 hk hB
 exact Lib.wpList_append_run w hgd s x t tn ho v _ hs hx v' w' hr (h v' w' h2 h3 h4)
end
theorem oz (key : Int) (n : Nat) (w : World) (hk : win key 1 996 = true) (hn : n ≤ 24) :
  Calls Tryz.prog 242 #[.int .i64 key, .int .i64 n] w fun e w' => ∃ v', e = .returned v' ∧ bp af 3 w.heap.size w' v' (onL (List.replicate n 0) key) ∧ Below w.heap.size w w' := by
 obtain ⟨i0, hi, hz0, hz1, hz2⟩ := info_parts aY
 have hw : win (n : Int) 0 24 = true := aK.2 (by omega)
 go_enter Tryz.func242, Tryz.ntmps242
 go_wp2_with (first
  | (go_at_call 90; refine (aF _ _).mono ?_; rw [hk]; rintro e w' ⟨rfl, rfl⟩)
  | (go_at_call 78; refine (a9 _ _ _ _).mono ?_; rw [hw]; rintro e w' ⟨rfl, rfl⟩)
  | (at_make; refine gu rfl _ _ 67 rfl af (0 : Int) (B := w.heap.size) Tryz.underlying67 hi hz0 hz1 n rfl rfl rfl rfl (by rw [hz2]; omega) (by unfold maxLen; omega) (Nat.le_refl _) (iq n) ?_; intro w1 ho1 hg1))
 have hb1 := Below.of_grown hg1 (Nat.le_refl _) (fun k hk => by cases hk)
 refine (jf _ (List.replicate n 0) key _ (by have := ho1.slB; simpa using this) (bm.2 (fun x hx => by rw [List.eq_of_mem_replicate hx]; omega)) (by simp; omega) hk).mono ?_
 rintro e w2 ⟨v2, rfl, n2, hb2⟩
 have N2 := hid (n2.base hb1.size); have Hb := hid (bt hb1 hb2)
 clear n2 hb1 hb2 ho1 hg1
 go_wp2_with fail
 go_ret
 exact ⟨_, rfl, N2.out, Hb.out⟩
theorem py {out : List Int} {key : Int} {j : Nat} {n : Int} (h : (out ++ [0, 0, 0])[j]? = some n) : ((aO out key).take j ++ (out ++ [0, 0, 0]).drop j).set j ((n + 991 - cM key (12 - (out.length + 3) + j)) % 991) = (aO out key).take (j + 1) ++ (out ++ [0, 0, 0]).drop (j + 1) := by
 have hj := (List.getElem?_eq_some_iff.1 h).1
 have hl : ((aO out key).take j).length = j := by rw [List.length_take, dd]; simp at hj; omega
 rw [List.set_append_right _ _ (by omega), hl, Nat.sub_self, List.drop_eq_getElem_cons hj, List.set_cons_zero, aP (lZ (key := key) h), List.append_assoc]; rfl
theorem qs {out : List Int} {key : Int} {j : Nat} {n : Int} (h : (out ++ [0, 0, 0])[j]? = some n) : ((aO out key).take j ++ (out ++ [0, 0, 0]).drop j)[j]? = some n := by
 have hj := (List.getElem?_eq_some_iff.1 h).1
 have hl : ((aO out key).take j).length = j := by rw [List.length_take, dd]; simp at hj; omega
 rw [List.getElem?_append_right (by omega), hl, Nat.sub_self, List.getElem?_drop]; exact h
theorem ny (v : Value) (keys : List Int) (w : World) (h : SlB af w.heap.size w v keys) (h1 : 1 ≤ keys.length) (hl : keys.length ≤ 3) (hk : ∀ k ∈ keys, win k 1 996 = true) :
  Calls Tryz.prog 228 #[v] w fun e w' => ∃ v', e = .returned v' ∧ bp af 3 w.heap.size w' v' (bw keys) ∧ Below w.heap.size w w' := by
 obtain ⟨i0, hi, hz0, hz1, hz2⟩ := info_parts aY
 obtain ⟨A, c, rfl, a1, a2, a3⟩ := h.form
 clear a2
 obtain ⟨y0, hy0⟩ := ak (xs := keys) (k := 0) (by omega)
 obtain ⟨bk, ok, rfl, hbk, _, _⟩ := h.int hy0
 clear hy0
 have H := hid h; have Hk := hid hk
 have iw : IntKind.i64.wrap ((keys.length : Int) - 1) = (keys.length : Int) - 1 := aX (by omega)
 have ip : (0 : Int) ≤ (keys.length : Int) - 1 := by omega
 obtain ⟨n, hn⟩ : ∃ n, keys.length = n + 1 := ⟨keys.length - 1, by omega⟩
 rw [hn] at iw ip a1 a3 h1 hl ⊢
 have iw' : (((n + 1 : Nat) : Int) - 1) = (n : Int) := by omega
 have hcn : n ≤ c := by omega
 have Hn := hid hn
 clear h hk hn
 go_enter Tryz.func228, Tryz.ntmps228
 go_wp2_with fail
 go_loopw [3, 15] (fun ov i wr => ∃ (k : Nat) (out : List Int), k ≤ n ∧ i = .int .i64 k ∧ out = (keys.take k).foldl aO [] ∧ Own af 3 w.heap.size wr ov out [] ∧ Below w.heap.size w wr) (fun _ i _ => n - (intOf i).toNat)
 case atStart => exact ⟨0, [], by omega, rfl, rfl, bR (w := w) (Nat.le_refl _), ah.alloc (Nat.le_refl _) _⟩
 case round =>
  obtain ⟨k, out, hk1, rfl, hout, ho, hb⟩ := hrel
  have hsz := hb.size
  by_cases hlt : k < n
  ·obtain ⟨key, hkey⟩ := ak (xs := keys) (k := k) (by have := Hn.out; omega)
   have hacc : out.length = 3 * k := by rw [hout, ef]; simp; have := Hn.out; omega
   have Hacc := hid (show (keys.take (k + 1)).foldl aO [] = aO out key from by rw [aP hkey, List.foldl_append, hout]; rfl)
   have hnum : aH out = true := by rw [hout]; exact bV _ _ rfl
   have hkw := Hk.out key (List.mem_of_getElem? hkey)
   obtain ⟨b', o', e', _, _, hcx⟩ := (H.out.below hb (Nat.le_refl _)).int hkey
   injection e' with e'; injection e' with ee1 ee2; subst ee1 ee2
   obtain ⟨A1, c1, rfl, _, _, _⟩ := ho.form
   have Ho := hid ho; have Hb := hid hb; have Hnu := hid hnum
   have hal6 : out.length ≤ 3 := by rw [hacc]; omega
   clear ho hb hnum hkey hout hacc
   have q1 : IntKind.i64.wrap (12 - ((out.length : Int) + 3)) = 12 - ((out.length : Int) + 3) := aX (by omega)
   have q2 : (0 : Int) ≤ 12 - ((out.length : Int) + 3) := by omega
   have q3 : (12 - ((out.length : Int) + 3)).toNat = 12 - (out.length + 3) := by omega
   have q4 : (12 : Int) - ((out.length : Int) + 3) ≤ 12 := by omega
   have q5 : 12 - (12 - (out.length + 3)) = out.length + 3 := by omega
   go_wp2_with (first
    | (at_builtin; go_loud (refine dj (o := ⟨some 20, _, _, _, _, _⟩) rfl (.tmp 19) (.const (.int .i64 3)) 67 3 rfl (B := w.heap.size) Tryz.underlying67 Tryz.underlying3 hi hz0 hz1 hz2 (v := .slice A1 out.length c1) rfl Ho.out 3 rfl (by omega) (by omega) hsz ?_; intro v2 w2 ho2 hg2 hv2; obtain ⟨A2, c2, rfl, n2, _⟩ := ho2.formN (n := out.length + 3) (by simp); obtain ⟨g2, rfl⟩ := Own.addr ho2 (by simp); have hb2 := Hb.out.grown hg2 hsz (fun q hq => (Ho.out.top q hq).1); have s2 := hb2.size))
    | (go_at_call 242; refine (oz key 12 _ hkw (by omega)).mono ?_; rintro e w3 ⟨v3, rfl, n3, hb3⟩; obtain ⟨G3, o3, _, _⟩ := n3; obtain rfl := am ai o3; obtain ⟨A3, c3, rfl, n3, _⟩ := o3.formN (n := 12) (by simp [dA]); obtain ⟨g3, rfl⟩ := Own.addr o3 (by simp [dA]); have q6 : ¬ c3 = 12 - (out.length + 3) := (by omega)))
   have hg2w := (ho2.top g2 rfl).2
   have ho3 := ho2.go hb3
   have hb3' := hid (hb2.trans (hb3.mono s2))
   have hgl : ∀ j, (onL (List.replicate 12 0) key)[j]? = if j < 12 then some (cM key j) else none := fun j => by
    by_cases hj : j < 12
    ·rw [if_pos hj, lI (n := 0) (by rw [List.getElem?_replicate, if_pos hj])]
     have := gn key j
     rw [Int.zero_add, Int.emod_eq_of_lt (by omega) (by omega)]
    ·rw [if_neg hj, List.getElem?_eq_none (by simp [dA]; omega)]
   have Hgl := hid hgl
   have hl3 : (out ++ [0, 0, 0]).length = out.length + 3 := by simp
   have hfl : (aO out key).length = out.length + 3 := dd _ _
   have hN3 := hid (bi Hnu.out (show aH [0, 0, 0] = true from rfl))
   have Ho3 := hid ho3; have O3 := hid o3; have Hl3 := hid hl3; have Hfl := hid hfl
   obtain ⟨wo, rfl⟩ : ∃ wo : World, wo = wr := ⟨_, rfl⟩
   clear ho2 hg2 hv2 hb2 ho3 o3 hb3 hgl hl3 hfl Ho
   go_wp2_with fail
   go_loopw [32] (fun i wx => ∃ j : Nat, j ≤ out.length + 3 ∧ i = .int .i64 j ∧ Own af 3 w.heap.size wx (.slice (some ⟨g2, 0, none⟩) (out.length + 3) c2) ((aO out key).take j ++ (out ++ [0, 0, 0]).drop j) [] ∧ Own af 3 w2.heap.size wx (.slice (some ⟨g3, 0, none⟩) 12 c3) (onL (List.replicate 12 0) key) [] ∧ Below w.heap.size w wx) (fun i _ => out.length + 3 - (intOf i).toNat)
   case atStart => exact ⟨0, by omega, rfl, Ho3.out, O3.out, hb3'.out⟩
   case round =>
    obtain ⟨j, hj, rfl, ho, hs, hb⟩ := hrel
    by_cases hlt2 : j < out.length + 3
    ·obtain ⟨x, hx⟩ := ak (xs := out ++ [0, 0, 0]) (k := j) (by rw [Hl3.out]; exact hlt2)
     obtain ⟨x0, x1⟩ := bL hN3.out hx
     obtain ⟨gg, eg, _, hgw, hc2, hf2⟩ := ho.int (qs (key := key) hx)
     injection eg with eg; injection eg with eg; subst eg
     have hf2 := hf2 j
     obtain ⟨gg, eg, hgb, hgw3, hc3, _⟩ := hs.int (i := 9 - out.length + j) (x := cM key (9 - out.length + j)) (by rw [Hgl.out, if_pos (by omega)])
     injection eg with eg; injection eg with eg; subst eg
     obtain ⟨s0, s1⟩ := gn key (9 - out.length + j)
     have hst := (py (key := key) hx).symm
     rw [show 12 - (out.length + 3) + j = 9 - out.length + j from by omega] at hst
     generalize cM key (9 - out.length + j) = sv at *
     rw [show (x + 991 - sv) % 991 = (x - sv) % 991 from by omega] at hst
     have Hst := hid hst
     have q8 : j < 12 - (9 - out.length) := by omega
     clear hst
     have t0 := aX (n := x - sv) (by omega)
     have t2 := aX (n := x - sv + 991) (by omega)
     have t3 := pd (n := x - sv + 991) (m := 991) (by omega)
     have hne : g3 ≠ g2 := fun e => by have h2 := (O3.out.top g3 rfl).1; omega
     have HS := hid (fun (wx : World) (hT : Tch [] wr wx) => And.intro (hT.cell hc2 (by simp)) (And.intro (hT.cell hc3 (by simp)) (And.intro ((World.frozen?_of_block (w := wr) (a := ⟨g2, j, none⟩) (hT.block g2 hgw (by simp))).trans hf2) (show g2 < wx.heap.size by have := hT.size; omega))))
     have Ho := hid ho; have Hs := hid hs; have Hb := hid hb
     clear ho hs hb hx hc2 hc3 hf2
     go_wp2_with fail
     refine rgN [] 15 (by kernel_rfl) rfl (fun | none, _, _, _, _ => id | some _, _, _, _, _ => id) fun wd hH hbwd swd => ?_
     simp only [pw]
     refine ag [0, 1, 2, 3, 4, 5, 6, 7, 8, 9, 10, 11, 12, 13] ?_
     iterate 14 (refine ra HS.out rfl (by kernel_rfl) rfl (fun _ f => by go_simp; try with_reducible rfl) ?_; try simp only [pw])
     refine rz 14 (by kernel_rfl) rfl fun K hK => ?_
     have fC := HS.out _ hH
     go_simp
     clear fC
     refine hK.out _ _ ?_
     clear hK K
     have hF := hH.nil
     have ho' := (Ho.out.go hF).int_set (i := j) ((x - sv) % 991)
     have hs' := (Hs.out.go hF).keep (w' := wd.setCell ⟨g2, j, none⟩ (.int .i64 ((x - sv) % 991))) (fun b hb => Below.heap_setCell _ _ _ _ (fun e => by simp [Value.ownBlock] at hb; dsimp only at e; omega)) (fun _ h => by cases h)
     have hb' := (Hb.out.trans (hF.mono Hb.out.size)).setCell (p := ⟨g2, j, none⟩) (Ho3.out.top g2 rfl).1 (.int .i64 ((x - sv) % 991))
     rw [← Hst.out] at ho'
     have HX := hid (show _ ∧ _ ∧ _ from ⟨ho', hs', hb'⟩)
     clear ho' hs' hb' hF hH
     go_wp2_with fail
     go_roundw
     case rel => exact ⟨j + 1, by omega, by go_num, HX.out⟩
     case measure => simp [intOf]; omega
    ·have hje : j = out.length + 3 := by omega
     subst hje
     rw [List.take_of_length_le (by rw [Hfl.out]; exact Nat.le_refl _), List.drop_eq_nil_of_le (by rw [Hl3.out]; exact Nat.le_refl _), List.append_nil] at ho
     have Ho := hid ho; have Hb := hid hb
     clear ho hs hb
     go_wp2_with fail
     go_roundw
     case rel => exact ⟨k + 1, aO out key, by omega, by go_num, Hacc.out.symm, Ho.out, Hb.out⟩
     case measure => simp [intOf]; omega
  ·obtain rfl : k = n := by omega
   have hfin : out = bw keys := by
    rw [hout]; unfold bw
    rw [List.dropLast_eq_take, Hn.out]; rfl
   subst hfin
   have Ho := hid ho; have Hb := hid hb
   clear ho hb hout
   go_wp2_with fail
   go_ret
   exact ⟨_, rfl, ⟨[], Ho.out, List.nodup_nil, fun _ h => by cases h⟩, Hb.out⟩
theorem qw {f : List Int} {rcv : Int} {keys names : List Int} {m : Nat} {k : Int} (hk : keys[m]? = some k) (hl : names.length = keys.length) : (hdT f rcv (keys.drop m) (names.drop m)).2 = cJ k (hdT f rcv (keys.drop m) (names.drop m)).1 := by
 have hm := (List.getElem?_eq_some_iff.1 hk).1
 by_cases h : m + 1 = keys.length
 ·rw [kW hk h]
 ·rw [kX hk hl (by omega)]
theorem qC {rcv : Int} {q n : Nat} (h : q = 3 * n) (h2 : n ≤ 2) : ((List.replicate (9 - q) (0 : Int)).set 0 1).set 1 rcv = cX rcv q := by
 subst h
 obtain rfl | rfl | rfl : n = 0 ∨ n = 1 ∨ n = 2 := by omega
 all_goals rfl
theorem nA (v vn : Value) (keys names : List Int) (rcv : Int) (w : World) (h : SlB af w.heap.size w v keys) (hns : SlB af w.heap.size w vn names) (h1 : 1 ≤ keys.length) (hl : keys.length ≤ 3) (hnl : names.length = keys.length)
  (hk : ∀ k ∈ keys, win k 1 996 = true) (hnm : ∀ n ∈ names, win n 0 7 = true) (hr : win rcv 0 7 = true) :
  Calls Tryz.prog 182 #[v, vn, .int .i64 rcv] w fun e w' => ∃ v', e = .returned v' ∧ bp af 3 w.heap.size w' v' (hdT (bw keys) rcv keys names).1 ∧ Below w.heap.size w w' := by
 obtain ⟨i0, hi, hz0, hz1, hz2⟩ := info_parts aY
 obtain ⟨A, c, rfl, a1, a2, a3⟩ := h.form
 obtain ⟨An, cn, rfl, b1, b2, b3⟩ := hns.form
 obtain ⟨f, hF⟩ : ∃ f, bw keys = f := ⟨_, rfl⟩
 have hfl := fG keys
 have hfn : aH (bw keys) = true := bV _ _ rfl
 rw [hF] at hfl hfn ⊢
 have r0 := aK.1 hr
 have H := hid h; have Hk := hid hk; have HN := hid hns; have Hnm := hid hnm; have Hnl := hid hnl
 have Hf := hid hfl; have Hfn := hid hfn; have HF := hid hF
 have hlf : f.length ≤ 6 := by omega
 have Hls := hid (qC (rcv := rcv) (q := f.length) (n := keys.length - 1) (by omega) (by omega))
 obtain ⟨q, hq⟩ : ∃ q, q = 9 - f.length := ⟨_, rfl⟩
 rw [← hq] at Hls
 have w9 : IntKind.i64.wrap (9 - (f.length : Int)) = (q : Int) := by rw [aX (by omega)]; omega
 have hq3 : 3 ≤ q := by omega
 have hq9 : f.length + q = 9 := by omega
 have Hq := hid hq9
 have hqm : q ≤ 9 := by omega
 obtain ⟨n, hn⟩ : ∃ n, keys.length = n + 1 := ⟨keys.length - 1, by omega⟩
 obtain ⟨kl, hkl⟩ := ak (xs := keys) (k := n) (by omega)
 have Hlast := hid (kW (f := f) (rcv := rcv) (ns := names.drop n) hkl hn.symm)
 have Hkl := hid hkl
 obtain ⟨bk, ok, rfl, hbk, _, hck⟩ := H.out.int hkl
 have hkw := Hk.out kl (List.mem_of_getElem? hkl)
 have Hn := hid hn
 have Hh := hid h
 have hl3 := hid (And.intro h1 hl)
 have wk : IntKind.i64.wrap ((n : Int) + 1 - 1) = (n : Int) := by rw [show (n : Int) + 1 - 1 = n from by omega]; exact aX (by omega)
 have hn3 : n ≤ 2 := by omega
 clear a2 b2 hk hnm hns h hfl hfn hnl hq hq9 hkl hn hF
 rw [Hn.out] at hl h1 a1 a3 ⊢
 go_enter Tryz.func182, Tryz.ntmps182
 go_upto_region 2 with (go_at_call 228; refine (ny _ keys _ (by have h0 := Hh.out; rw [Hn.out] at h0; exact h0) hl3.out.1 hl3.out.2 Hk.out).mono ?_; rw [HF.out]; rintro e w1 ⟨vf, rfl, nf, hb1⟩; obtain ⟨G, of, _, _⟩ := nf; obtain rfl := am ai of; obtain ⟨Af, cf, rfl, _, _⟩ := of.formN rfl)
 have Of := hid of; have Hb1 := hid hb1
 have hsz1 := hb1.size
 clear of hb1
 go_upto_region 3 with (at_make; refine gu rfl _ _ 67 rfl af (0 : Int) (B := w1.heap.size) Tryz.underlying67 hi hz0 hz1 q rfl rfl rfl rfl (by rw [hz2]; omega) (by unfold maxLen; omega) (Nat.le_refl _) (iq q) ?_; intro w2 ho2 hg2)
 have hb2 := Below.of_grown hg2 (Nat.le_refl _) (fun k hk => by cases hk)
 obtain ⟨g0, e0, _, hg0, p0, f0⟩ := ho2.int (i := 0) (x := 0) (by rw [List.getElem?_replicate, if_pos (by omega)])
 obtain ⟨g1, e1, _, _, p1, f1⟩ := ho2.int (i := 1) (x := 0) (by rw [List.getElem?_replicate, if_pos (by omega)])
 injection e0 with e0; injection e0 with e0; subst e0
 injection e1 with e1; injection e1 with e1; subst e1
 have f0 := f0 0; have f1 := f1 1
 have Ho2 := hid ho2; have Hb2 := hid hb2
 have d0 : 0 < q := by omega
 have d1 : 1 < q := by omega
 clear ho2 hg2 hb2
 go_upto_region 4 with fail
 have ho3 := (Ho2.out.int_set (i := 0) 1).int_set (i := 1) rcv
 rw [Hls.out] at ho3
 have hb3 := (Hb2.out.setCell (p := ⟨w1.heap.size, 0, none⟩) (Nat.le_refl _) (.int .i64 1)).setCell (p := ⟨w1.heap.size, 1, none⟩) (Nat.le_refl _) (.int .i64 rcv)
 clear p0 p1 f0 f1 d0 d1 Ho2 Hb2
 generalize (w2.setCell ⟨w1.heap.size, 0, none⟩ (.int .i64 1)).setCell ⟨w1.heap.size, 1, none⟩ (.int .i64 rcv) = w3 at *
 have hll : (cX rcv f.length).length = q := by have := Hq.out; simp [cX]; omega
 have hnl : aH (cX rcv f.length) = true := bm.2 fun x hx => by
  simp [cX] at hx
  rcases hx with rfl | rfl | rfl | ⟨_, rfl⟩ <;> omega
 have hB3 := Hb1.out.trans (hb3.mono hsz1)
 have hc3 := (hB3.cell (p := ⟨bk, ok + n, none⟩) hbk).trans hck
 have hs3 := hb3.size
 have HC := hid (fun (wx : World) (hb : Below w.heap.size w wx) => And.intro (H.out.below hb (Nat.le_refl _)) (HN.out.below hb (Nat.le_refl _)))
 have Hll := hid hll; have Hnl' := hid hnl; have HB3 := hid hB3; have Ho3 := hid ho3; have Hb3 := hid hb3
 clear hll hnl hB3 ho3 hb3 hck
 go_wp2_with (first
  | (go_at_call 181; refine (je _ (cX rcv f.length) kl _ Ho3.out.slB Hnl'.out (by rw [Hll.out]; omega) hkw).mono ?_; rintro e w4 ⟨v4, rfl, n4, hb4⟩; obtain ⟨G4, o4, _, _⟩ := n4; obtain rfl := am ai o4; obtain ⟨A4, c4, rfl, _, _⟩ := o4.formN (n := q) (by rw [dA]; exact Hll.out); have s4 := hb4.size)
  | (at_builtin; go_loud (refine aw rfl (.tmp 31) (.tmp 32) 67 rfl af ai (B := w3.heap.size) (v := .slice A4 q c4) Tryz.underlying67 hi hz0 hz1 hz2 rfl (by decide) (by decide) rfl o4 Af f.length cf rfl (fA (Of.out.below (Hb3.out.trans (hb4.mono hs3)) (Nat.le_refl _))) ?_ ?_ ?_; (rw [dA, Hll.out]; have := Hq.out; omega); omega; intro v5 w5 ho5 hg5 hv5; obtain ⟨A5, c5, rfl, _, _⟩ := ho5.formN (n := 9) (by rw [List.length_append, dA, Hll.out]; have := Hq.out; omega); have hb5 : Below w1.heap.size w1 w5 := (Hb3.out.trans (hb4.mono hs3)).trans (Below.of_grown hg5 (by omega) (fun q hq => by have := (o4.top q hq).1; omega)))))
 rw [show onL (cX rcv f.length) kl ++ f = (hdT f rcv (keys.drop n) (names.drop n)).1 from by rw [Hlast.out]] at ho5
 have Ho5 := hid (ho5.base (B' := w1.heap.size) hs3); have Hb5 := hid hb5
 clear ho5 hb5 hg5 hv5 o4 hb4 hc3 Ho3
 go_wp2_with fail
 go_loopw [10, 11] (fun ov iv wr => ∃ m : Nat, m ≤ n ∧ iv = .int .i64 ((m : Int) - 1) ∧ Own af 3 w1.heap.size wr ov (hdT f rcv (keys.drop m) (names.drop m)).1 [] ∧ Below w1.heap.size w1 wr) (fun _ iv _ => (intOf iv + 1).toNat)
 case atStart => exact ⟨n, Nat.le_refl _, rfl, Ho5.out, Hb5.out⟩
 case round =>
  obtain ⟨m, hm, rfl, ho, hb⟩ := hrel
  have hszm := hb.size
  rcases m with _ | m
  ·have Ho := hid ho; have Hb := hid hb
   clear ho hb
   go_wp2
   go_ret
   exact ⟨_, rfl, ⟨[], Ho.out.base hsz1, List.nodup_nil, fun _ h => by cases h⟩, Hb1.out.trans (Hb.out.mono hsz1)⟩
  ·have em : (((m + 1 : Nat) : Int) - 1) = (m : Int) := by omega
   rw [em]
   obtain ⟨km, hkm⟩ := ak (xs := keys) (k := m) (by rw [Hn.out]; omega)
   obtain ⟨k2, hk2⟩ := ak (xs := keys) (k := m + 1) (by rw [Hn.out]; omega)
   obtain ⟨nm, hnm⟩ := ak (xs := names) (k := m + 1) (by rw [Hnl.out, Hn.out]; omega)
   have hkmw := Hk.out km (List.mem_of_getElem? hkm)
   have hk2w := Hk.out k2 (List.mem_of_getElem? hk2)
   have Hst := hid (kX (f := f) (rcv := rcv) (names := names) hkm Hnl.out (by rw [Hn.out]; omega))
   have Htg := hid (qw (f := f) (rcv := rcv) (names := names) hk2 Hnl.out).symm
   have hgn : names.getD (m + 1) 0 = nm := by simp [List.getD_eq_getElem?_getD, hnm]
   have hok := gX f hlf Hfn.out rcv (keys.drop (m + 1)) (names.drop (m + 1)) (fun e => by have := congrArg List.length e; simp [Hn.out] at this; omega) (by simp [Hn.out, Hnl.out])
   have nw := aK.1 (Hnm.out nm (List.mem_of_getElem? hnm))
   rw [hgn] at Hst
   generalize hR : hdT f rcv (keys.drop (m + 1)) (names.drop (m + 1)) = R at *
   obtain ⟨hd, tg⟩ := R
   obtain ⟨o1, o2, o3⟩ := hok
   dsimp only at o1 o2 o3 ho Hst Htg ⊢
   obtain ⟨t0, t1⟩ := aK.1 o3
   obtain ⟨Am, cm, rfl, hcm9, hcm⟩ := ho.formN o1
   obtain ⟨gm, rfl⟩ := ho.addr (by omega)
   have hBw := Hb1.out.trans (hb.mono hsz1)
   obtain ⟨hkr, hnr⟩ := HC.out _ hBw
   obtain ⟨b', o', e', hbl, _, hcm'⟩ := hkr.int hkm
   injection e' with e'; injection e' with e1 e2; subst e1 e2
   obtain ⟨b', o', e', _, _, hck2⟩ := hkr.int hk2
   injection e' with e'; injection e' with e1 e2; subst e1 e2
   obtain ⟨bn, on, rfl, hbn, _, hcn⟩ := hnr.int hnm
   have HS := hid (fun (wx : World) (hT : Tch [] wr wx) => And.intro (hT.cell hcn (by simp)) (hT.cell hck2 (by simp)))
   have HKm := hid (fun (wx : World) (hb : Below wr.heap.size wr wx) => (hb.cell (p := ⟨bk, ok + m, none⟩) (by dsimp only; omega)).trans hcm')
   have HH := hid (fun (wx : World) (hT : Tch [] wr wx) => (ho.go hT.nil).slB)
   have HT6 := hid (fun (wx : World) (hT : Tch [] wr wx) => ((ho.go hT.nil).slB.take 6 (by omega)))
   have Hl6 := hid (show (hd.take 6).length = 6 by simp [o1])
   have HoN := hid o2
   have hlh : hd.length ≤ 24 := by omega
   have HP := hid (bi (jF (a := 0) (b := nm) (c := tg) (by omega) (by omega) ⟨t0, t1⟩) (eG (k := hd.take 6) o2 (fun x hx => List.mem_of_mem_take hx)))
   have e1 := hid (show onL ([0, nm, tg] ++ hd.take 6) km = (hdT f rcv (keys.drop m) (names.drop m)).1 from by rw [Hst.out])
   have Hb := hid hb
   have Ho1 := hid o1
   have hcm6 : 6 ≤ cm := by omega
   have hcm6' : (6 : Int) ≤ (cm : Int) := by omega
   have nlt : ¬ (cm : Int) = 6 := by omega
   have w0 : IntKind.i64.wrap ((m : Int) + 1) = (m : Int) + 1 := aX (by omega)
   have w0a : 0 ≤ (m : Int) + 1 := by omega
   have w0b : ((m : Int) + 1).toNat = m + 1 := by omega
   have w0c : (m : Int) + 1 < (n : Int) + 1 := by omega
   have w0d : m + 1 < n + 1 := by omega
   have w0e : m + 1 < names.length := by rw [Hnl.out, Hn.out]; omega
   have w0f : (m : Int) + 1 < (names.length : Int) := by omega
   clear ho hb hkm hk2 hnm hgn hcm' hck2 hcn o1 o2 o3 hR em hkr hnr hBw Hst
   go_wp2_with fail
   refine rgN [] 17 (by kernel_rfl) rfl (fun | none, _, _, _, _ => id | some _, _, _, _, _ => id) fun wd hH hbwd swd => ?_
   simp only [pw]
   refine ag [0, 1, 2, 3, 4, 5, 6, 7, 8, 9, 10, 13, 14] ?_
   iterate 13 (refine ra HS.out rfl (by kernel_rfl) rfl (fun _ f => by go_simp; try with_reducible rfl) ?_; try simp only [pw])
   refine rq 11 (by kernel_rfl) rfl fun K hK => ?_
   go_simp
   (go_at_call 183; refine (iH k2 _ hd _ (HH.out _ hH) HoN.out hlh hk2w).mono ?_; rw [Htg.out]; rintro e w' ⟨rfl, rfl⟩; have hbC := Below.refl (World.heap wd).size wd)
   refine hK.out _ _ (hH.trans (Tch.of hbC)) (fun hH => ?_)
   clear hK K
   refine rq 12 (by kernel_rfl) rfl fun K hK => ?_
   go_simp
   (generalize hgw : World.alloc _ _ = wa; obtain ⟨ea, hbC, sa⟩ := al hgw; clear hgw)
   refine hK.out _ _ (hH.trans (Tch.of hbC)) (fun hH => ?_)
   clear hK K
   refine rq 15 (by kernel_rfl) rfl fun K hK => ?_
   (have lpa := hH.size; refine bf rfl (.tmp 52) (.tmp 54) 67 rfl af ai (B := wr.heap.size) Tryz.underlying67 hi hz0 hz1 hz2 rfl (by decide) (by decide) (v := .slice (some ⟨_, 0, none⟩) 3 3) (xs := [0, nm, tg]) rfl (jx (xs := [0, nm, tg]) ea (by omega) (by simp [maxLen])) (some ⟨gm, 0, none⟩) 6 cm rfl (slE (HT6.out _ hH)) (by rw [Hl6.out]; simp) (by omega) ?_; intro v2 w2 ho2 hg2 hv2; have hbP := hH.grow hg2 (fun k hk hlt => by simp [Value.ownBlock] at hk; omega))
   refine hK.out _ _ (hbP) (fun hH => ?_)
   clear hK K
   refine tr 16 HS.out rfl (by kernel_rfl) rfl (fun _ f => by go_simp; try with_reducible rfl) ?_
   try simp only [pw]
   refine dm (by kernel_rfl) ?_
   obtain ⟨A6, c6, rfl, _, _⟩ := ho2.formN (n := 9) (by simp [Hl6.out])
   have hF := hH.nil
   have hkm2 := HKm.out _ hF
   have Ho2 := hid ho2; have HF2 := hid (Hb.out.trans (hF.mono hszm))
   have sF := hF.size
   clear ho2 hg2 hv2 hF hH hbP hbC ea sa w0 w0a w0b w0c w0d w0e w0f Htg
   go_wp2_with (go_at_call 181; refine (je _ ([0, nm, tg] ++ hd.take 6) km _ Ho2.out.slB HP.out (by simp [Hl6.out]) hkmw).mono ?_; rw [e1.out]; rintro e w3' ⟨v3, rfl, n3, hb3⟩)
   obtain ⟨G3, o3, _, _⟩ := n3
   obtain rfl := am ai o3
   have O3 := hid (o3.base (B' := w1.heap.size) (by have := HF2.out.size; omega)); have HB := hid (HF2.out.trans (hb3.mono (by have := HF2.out.size; omega)))
   clear o3 hb3
   go_roundw
   case rel => exact ⟨m, by omega, by go_num, O3.out, HB.out⟩
   case measure => (simp [intOf] <;> omega)
end Go.Proofs.YtfaeojmndaplcaaGreatDoor
