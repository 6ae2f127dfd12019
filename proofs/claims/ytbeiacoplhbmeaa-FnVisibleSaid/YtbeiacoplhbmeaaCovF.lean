/- Walks: visible times, and delays; in both texts. -/
import Derived.Test.YtbeiacoplhbmeaaCovE
import Derived.Test.YtbeiacoplhbmeaaCovC
import Derived.Outline
namespace Go.Proofs.Ytbeiacoplhbmeaa
open Go Go.RowKit
set_option maxHeartbeats 400000

theorem map_take_ex {α β : Type} {xs : List α} {k : Nat} {x : α} (f : α → β) (h : xs[k]? = some x) : (xs.take (k + 1)).map f = (xs.take k).map f ++ [f x] := by rw [take_ex h]; simp
theorem CoverVisible_spec (v : Value) (xs : List (Int × Int)) (w : World) (h : SlB tTwo w.heap.size w v xs) (hn : xs.length ≤ 1073741824) :
    Calls Try.prog 37 #[v] w fun e w' => ∃ v', e = .returned v' ∧ NewS tInt 3 w.heap.size w' v' (xs.map Prod.fst) ∧ Below w.heap.size w w' := by
  obtain ⟨i0, hi, hz0, hz1, hz2⟩ := info_parts infoInt
  obtain ⟨A, c, rfl, a1, a2, a3⟩ := h.form
  clear a2
  go_enter Try.func37, Try.ntmps37
  go_wp2
  go_loopw [3, 4] (fun ov i wr => ∃ k : Nat, k ≤ xs.length ∧ i = .int .i64 k ∧ Own tInt 3 w.heap.size wr ov ((xs.take k).map Prod.fst) [] ∧ Below w.heap.size w wr) (fun _ i _ => xs.length - (intOf i).toNat)
  case atStart => exact ⟨0, by omega, rfl, int_own (w := w) (Nat.le_refl _), (Below.refl _ _).alloc (Nat.le_refl _) _⟩
  case round =>
    obtain ⟨k, hk, rfl, ho, hb⟩ := hrel
    have hr := (h.below hb (Nat.le_refl _)).mono hb.size
    have Hb := hid hb; have Ho := hid ho
    clear hb ho
    by_cases hlt : k < xs.length
    · obtain ⟨x, hx⟩ := get_ex hlt
      obtain ⟨b, o, rfl, _, _, p1, p2⟩ := hr.two hx
      have Ht := hid (map_take_ex Prod.fst hx)
      have hsz := Hb.out.size
      clear hx hr h p2
      go_wp2_with (at_builtin; go_loud (refine wpList_appF rfl (.tmp 12) (.tmp 18) 22 rfl tInt tInt_flat (B := w.heap.size) (v := u3) Try.underlying22 hi hz0 hz1 hz2 rfl (by decide) (by decide) rfl (Ho.out.below ?_ (Nat.le_refl _)) _ 1 1 rfl (Sl.box' (T := tInt) (x := x.1) _ ?_ ⟨rfl, rfl⟩) ?_ ?_ ?_); go_loud (exact (Below.refl _ _).alloc (Nat.le_refl _) _; (rfl); (simp; omega); (simp; omega); intro v2 w2 ho2 hg2 hv2))
      go_roundw
      case rel => exact ⟨k + 1, by omega, by go_num, by rw [Ht.out]; exact ho2, ((Hb.out.alloc hsz _).grown hg2 (by simp; omega) (fun q hq => (Ho.out.top q hq).1))⟩
      case measure => simp [intOf]; omega
    · have Ha := hid (take_all hk hlt)
      go_wp2
      go_ret
      exact ⟨_, rfl, ⟨[], by rw [← Ha.out]; exact Ho.out, List.nodup_nil, fun _ h => by cases h⟩, Hb.out⟩
theorem me_cover (t : Int) (wx : World) : (method 187 59 (.agg #[.int .i64 t]) "loop.example/mixrelay/impl.at").run Try.prog wx = .ok (72, .agg #[.int .i64 t]) wx := by kernel_rfl
theorem me_letter (t l : Int) (wx : World) : (method 187 66 (.agg #[.int .i64 t, .int .i64 l]) "loop.example/mixrelay/impl.at").run Try.prog wx = .ok (73, .agg #[.int .i64 t, .int .i64 l]) wx := by kernel_rfl
theorem at_cover (t : Int) (w : World) : Calls Try.prog 72 #[.agg #[.int .i64 t]] w fun e w' => e = .returned (.int .i64 t) ∧ Below w.heap.size w w' := by
  go_enter Try.func72, Try.ntmps72
  go_wp2
  go_ret
  exact ⟨rfl, (Below.refl _ _).alloc (Nat.le_refl _) _⟩
theorem at_letter (t l : Int) (w : World) : Calls Try.prog 73 #[.agg #[.int .i64 t, .int .i64 l]] w fun e w' => e = .returned (.int .i64 t) ∧ Below w.heap.size w w' := by
  go_enter Try.func73, Try.ntmps73
  go_wp2
  go_ret
  exact ⟨rfl, (Below.refl _ _).alloc (Nat.le_refl _) _⟩
theorem CoverVisible_impl (v : Value) (xs : List (Int × Int)) (w : World) (h : SlB tTwo w.heap.size w v xs) (hn : xs.length ≤ 1073741824) :
    Calls Try.prog 38 #[v] w fun e w' => ∃ v', e = .returned v' ∧ NewS tInt 3 w.heap.size w' v' (xs.map Prod.fst) ∧ Below w.heap.size w w' := by
  obtain ⟨i0, hi, hz0, hz1, hz2⟩ := info_parts infoInt
  obtain ⟨A, c, rfl, a1, a2, a3⟩ := h.form
  clear a2
  go_enter Try.func38, Try.ntmps38
  go_wp2
  go_loopw [3, 9] (fun ov i wr => ∃ k : Nat, k ≤ xs.length ∧ i = .int .i64 k ∧ Own tInt 3 w.heap.size wr ov ((xs.take k).map Prod.fst) [] ∧ Below w.heap.size w wr) (fun _ i _ => xs.length - (intOf i).toNat)
  case atStart => exact ⟨0, by omega, rfl, int_own (w := w) (Nat.le_refl _), (Below.refl _ _).alloc (Nat.le_refl _) _⟩
  case round =>
    obtain ⟨k, hk, rfl, ho, hb⟩ := hrel
    have hr := (h.below hb (Nat.le_refl _)).mono hb.size
    have Hb := hid hb; have Ho := hid ho
    clear hb ho
    by_cases hlt : k < xs.length
    · obtain ⟨x, hx⟩ := get_ex hlt
      obtain ⟨b, o, rfl, _, _, p1, p2⟩ := hr.two hx
      have Ht := hid (map_take_ex Prod.fst hx)
      have hsz := Hb.out.size
      by_cases hl : x.2 = -1
      · have Hl := hid hl
        clear hx hr h hl
        have hm := me_cover x.1
        go_wp2_with (first | (go_at_call 52; refine (content_cover _ _ Hl.out _).mono ?_; rintro e w5 ⟨rfl, hb5⟩; have z5 := hb5.size; simp at z5) | (go_at_call 72; refine (at_cover _ _).mono ?_; rintro e w6 ⟨rfl, hb6⟩; have z6 := hb6.size) | (at_builtin; go_loud (refine wpList_appF rfl (.tmp 13) (.tmp 17) 22 rfl tInt tInt_flat (B := w.heap.size) (v := u3) Try.underlying22 hi hz0 hz1 hz2 rfl (by decide) (by decide) rfl (Ho.out.below ?_ (Nat.le_refl _)) _ 1 1 rfl (Sl.box' (T := tInt) (x := x.1) _ ?_ ⟨rfl, rfl⟩) ?_ ?_ ?_); go_loud (exact ((((Below.refl _ _).alloc (Nat.le_refl _) _).trans (hb5.mono (by simp))).trans (hb6.mono (by omega))).alloc (by omega) _; (rfl); (simp; omega); (simp; omega); intro v2 w2 ho2 hg2 hv2)))
        go_roundw
        case rel => exact ⟨k + 1, by omega, by go_num, by rw [Ht.out]; exact ho2, (Hb.out.trans ((((((Below.refl _ _).alloc (Nat.le_refl _) _).trans (hb5.mono (by simp))).trans (hb6.mono (by omega))).alloc (by omega) _).mono hsz)).grown hg2 (by simp; omega) (fun q hq => (Ho.out.top q hq).1)⟩
        case measure => simp [intOf]; omega
      · have Hl := hid hl
        clear hx hr h hl
        have hm := me_letter x.1 x.2
        go_wp2_with (first | (go_at_call 52; refine (content_letter _ _ Hl.out _).mono ?_; rintro e w5 ⟨rfl, hb5⟩; have z5 := hb5.size; simp at z5) | (go_at_call 73; refine (at_letter _ _ _).mono ?_; rintro e w6 ⟨rfl, hb6⟩; have z6 := hb6.size) | (at_builtin; go_loud (refine wpList_appF rfl (.tmp 13) (.tmp 17) 22 rfl tInt tInt_flat (B := w.heap.size) (v := u3) Try.underlying22 hi hz0 hz1 hz2 rfl (by decide) (by decide) rfl (Ho.out.below ?_ (Nat.le_refl _)) _ 1 1 rfl (Sl.box' (T := tInt) (x := x.1) _ ?_ ⟨rfl, rfl⟩) ?_ ?_ ?_); go_loud (exact ((((Below.refl _ _).alloc (Nat.le_refl _) _).trans (hb5.mono (by simp))).trans (hb6.mono (by omega))).alloc (by omega) _; (rfl); (simp; omega); (simp; omega); intro v2 w2 ho2 hg2 hv2)))
        go_roundw
        case rel => exact ⟨k + 1, by omega, by go_num, by rw [Ht.out]; exact ho2, (Hb.out.trans ((((((Below.refl _ _).alloc (Nat.le_refl _) _).trans (hb5.mono (by simp))).trans (hb6.mono (by omega))).alloc (by omega) _).mono hsz)).grown hg2 (by simp; omega) (fun q hq => (Ho.out.top q hq).1)⟩
        case measure => simp [intOf]; omega
    · have Ha := hid (take_all hk hlt)
      go_wp2
      go_ret
      exact ⟨_, rfl, ⟨[], by rw [← Ha.out]; exact Ho.out, List.nodup_nil, fun _ h => by cases h⟩, Hb.out⟩
end Go.Proofs.Ytbeiacoplhbmeaa
