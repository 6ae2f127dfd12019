/- Walks over the interface of packets: sizes, copies, comparing, filling and holding them. -/
import Derived.Test.YtbeiacoplhbmeaaCovB
import Derived.Outline
import Derived.StillTailTactics
namespace Go.Proofs.Ytbeiacoplhbmeaa
open Go Go.RowKit
set_option maxHeartbeats 400000

def szOf (n : Nat) (l : Int) : Int := if l - n < 0 then -1 else l - n
theorem szSendingS_c (v : Value) (xs : List (Int × Int)) (l : Int) (w : World) (h : SlB tTwo w.heap.size w v xs) (hl0 : 0 ≤ l) (hl1 : l ≤ 1152921504606846976) :
    Calls Try.prog 29 #[v, .int .i64 l] w fun e w' => e = .returned (.int .i64 (szOf xs.length l)) ∧ w = w' := by
  obtain ⟨A, c, rfl, a1, a2, a3⟩ := h.form
  clear a2
  by_cases hlt : l - (xs.length : Int) < 0
  · have Hs := hid (show szOf xs.length l = -1 from if_pos hlt)
    go_enter Try.func29, Try.ntmps29
    go_wp2
    go_ret
    exact ⟨ret_int Hs.out.symm, rfl⟩
  · have Hs := hid (show szOf xs.length l = l - xs.length from if_neg hlt)
    go_enter Try.func29, Try.ntmps29
    go_wp2
    go_ret
    exact ⟨ret_int Hs.out.symm, rfl⟩
theorem toSending_c (t l : Int) (w : World) : Calls Try.prog 51 #[.agg #[.int .i64 t, .int .i64 l]] w fun e w' => e = .returned (.agg #[.int .i64 t, .int .i64 l]) ∧ Below w.heap.size w w' := by
  go_enter Try.func51, Try.ntmps51
  go_wp2
  refine bodyPost_ret (v := .agg #[.int .i64 t, .int .i64 l]) (by simp [results, go_sem]) rfl ⟨rfl, ?_⟩
  exact (((Below.refl _ _).alloc (Nat.le_refl _) _).alloc (by simp) _).alloc (by simp; omega) _
theorem eqSending_t (t l : Int) (w : World) : Calls Try.prog 53 #[.agg #[.int .i64 t, .int .i64 l], .agg #[.int .i64 t, .int .i64 l]] w (ok true w.heap.size w) := by
  go_enter Try.func53, Try.ntmps53
  go_wp2
  go_ret
  exact ⟨rfl, ((Below.refl _ _).alloc (Nat.le_refl _) _).alloc (by simp) _⟩
theorem zeros_two (n : Nat) (w : World) : tTwo.els w (madeCells (Value.agg #[.int .i64 0, .int .i64 0]).cells (n * tTwo.k)).toList (List.replicate n ((0 : Int), (0 : Int))) [] := by
  refine els_flat.2 ⟨?_, rfl⟩
  have e : ∀ m : Nat, (List.replicate m ((0 : Int), (0 : Int))).flatMap (fun s => [Value.int .i64 s.1, Value.int .i64 s.2]) = List.replicate (m * 2) (.int .i64 0) := by
    intro m
    induction m with
    | zero => rfl
    | succ m ih => rw [List.replicate_succ, List.flatMap_cons, ih, Nat.succ_mul]; rfl
  rw [e]
  apply List.ext_getElem?
  intro j
  show (madeCells #[.int .i64 0, .int .i64 0] (n * 2)).toList[j]? = _
  by_cases hj : j < n * 2
  · have : j % 2 = 0 ∨ j % 2 = 1 := by omega
    rcases this with h | h <;> simp [madeCells, hj, h]
  · simp [madeCells, hj]
theorem toSendingS_c (v : Value) (xs : List (Int × Int)) (w : World) (h : SlB tTwo w.heap.size w v xs) (hb : xs.length ≤ 1073741824) :
    Calls Try.prog 31 #[v] w (NewPlan w.heap.size xs w) := by
  obtain ⟨i0, hi, hz0, hz1, hz2⟩ := info_parts infoSending
  obtain ⟨A, c, rfl, h1, h2, h3⟩ := h.form
  clear h2
  go_enter Try.func31, Try.ntmps31
  go_wp2_with
    (at_make; refine wpList_mkN rfl _ _ 34 rfl tTwo (0, 0) (B := w.heap.size) Try.underlying34 hi hz0 hz1 xs.length rfl rfl rfl rfl (by rw [hz2]; omega) (by unfold maxLen; omega) (Nat.le_refl _) (zeros_two _) ?_; intro w1 ho1 hg1)
  go_loopw [4] (fun i wr => ∃ j : Nat, j ≤ xs.length ∧ i = .int .i64 j ∧ Own tTwo 45 w.heap.size wr (.slice (some ⟨w.heap.size, 0, none⟩) xs.length xs.length) (xs.take j ++ List.replicate (xs.length - j) (0, 0)) [] ∧ Below w.heap.size w wr) (fun i _ => xs.length - (intOf i).toNat)
  case atStart => exact ⟨0, by omega, rfl, by simpa using ho1, (Below.refl _ _).grown hg1 (Nat.le_refl _) (by simp)⟩
  case round =>
    obtain ⟨j, hj, rfl, ho, hbw⟩ := hrel
    by_cases hlt : j < xs.length
    · obtain ⟨x, hx⟩ := get_ex hlt
      obtain ⟨b, o, rfl, _, _, p1, p2⟩ := ((h.below hbw (Nat.le_refl _)).mono hbw.size).two hx
      have Hx := hid hx
      have Ho := hid ho; have Hb := hid hbw
      clear hx ho hbw h ho1 hg1
      go_wp2_with (go_at_call 51; refine (toSending_c _ _ _).mono ?_; rintro e w5 ⟨rfl, hb5⟩; have ho5 := Ho.out.below hb5 (Nat.le_refl _); obtain ⟨g, hg, hB, hgs, q1, q2, hfz⟩ := ho5.two (fill_at xs (0, 0) j hlt); injection hg with hg; injection hg with hg; subst hg; have hf1 := hfz (j * 2); have hf2 := hfz (j * 2 + 1); have Ho5 := hid ho5; clear ho5 hfz)
      go_roundw
      case rel => exact ⟨j + 1, by omega, by go_num, by rw [← fill_set xs (0, 0) x j Hx.out]; exact Ho5.out.two_set (by rw [fill_len _ _ _ (by omega)]; exact hlt) _, ((Hb.out.trans (hb5.mono Hb.out.size)).setCell (Nat.le_refl _) _).setCell (Nat.le_refl _) _⟩
      case measure => simp [intOf]; omega
    · have Ho := hid ho; have Hb := hid hbw
      clear ho hbw
      have hjl : j = xs.length := by omega
      subst hjl
      go_wp2
      go_ret
      exact ⟨_, rfl, ⟨[], by simpa using Ho.out, List.nodup_nil, fun _ h => by cases h⟩, Hb.out⟩
theorem eqSendingS_t (v1 v2 : Value) (xs : List (Int × Int)) (w : World) (h1 : SlB tTwo w.heap.size w v1 xs) (h2 : SlB tTwo w.heap.size w v2 xs) :
    Calls Try.prog 33 #[v1, v2] w (ok true w.heap.size w) := by
  obtain ⟨A1, c1, rfl, a1, a2, a3⟩ := h1.form
  obtain ⟨A2, c2, rfl, b1, b2, b3⟩ := h2.form
  clear a2 b2
  go_enter Try.func33, Try.ntmps33
  go_wp2
  go_loopw [5] (fun i wr => ∃ k : Nat, k ≤ xs.length ∧ i = .int .i64 k ∧ Below w.heap.size w wr) (fun i _ => xs.length - (intOf i).toNat)
  case atStart => exact ⟨0, by omega, rfl, Below.refl _ _⟩
  case round =>
    obtain ⟨k, hk, rfl, hb⟩ := hrel
    have r1 := (h1.below hb (Nat.le_refl _)).mono hb.size
    have r2 := (h2.below hb (Nat.le_refl _)).mono hb.size
    have Hb := hid hb
    clear hb
    by_cases hlt : k < xs.length
    · obtain ⟨x, hx⟩ := get_ex hlt
      obtain ⟨b, o, rfl, _, _, p1, p2⟩ := r1.two hx
      obtain ⟨b', o', rfl, _, _, q1, q2⟩ := r2.two hx
      clear hx r1 r2 h1 h2
      go_wp2
      go_still_tail 8, (by kernel_rfl)
      change wpList _ _ _ _ _ wr.drew
      have hd : Below wr.heap.size wr wr.drew := below_drewN (Below.refl _ _) 1
      generalize wr.drew = w2 at *
      have Hd := hid (Hb.out.trans (hd.mono Hb.out.size))
      clear hd
      go_wp2_with (go_at_call 53; refine (eqSending_t _ _ _).mono ?_; rintro e w5 ⟨rfl, hb5⟩)
      go_roundw
      case rel => exact ⟨k + 1, by omega, by go_num, Hd.out.trans (hb5.mono Hd.out.size)⟩
      case measure => simp [intOf]; omega
    · go_wp2
      go_ret
      exact ⟨rfl, Hb.out⟩
/-- the numbers that are written, two a packet -/
def mkp (k : Int) (n : Nat) : List (Int × Int) := (List.range n).map (fun i : Nat => (k + 2 * (i : Int), k + 2 * (i : Int) + 1))
theorem mkp_succ (k : Int) (n : Nat) : mkp k (n + 1) = mkp k n ++ [(k + 2 * (n : Int), k + 2 * (n : Int) + 1)] := by simp [mkp, List.range_succ]
theorem mkp_len (k : Int) (n : Nat) : (mkp k n).length = n := by simp [mkp]
theorem mkp_get (k : Int) (n i : Nat) (h : i < n) : (mkp k n)[i]? = some (k + 2 * (i : Int), k + 2 * (i : Int) + 1) := by simp [mkp, h]
theorem mkp_set (k : Int) (xs : List (Int × Int)) (j : Nat) (h : j < xs.length) : (mkp k j ++ xs.drop j).set j (k + 2 * (j : Int), k + 2 * (j : Int) + 1) = mkp k (j + 1) ++ xs.drop (j + 1) := by
  rw [mkp_succ, List.set_append_right _ _ (by simp [mkp_len]), mkp_len, Nat.sub_self, List.drop_eq_getElem_cons h, List.set_cons_zero, List.append_assoc]; rfl
theorem mkp_at (k : Int) (xs : List (Int × Int)) (j : Nat) {x : Int × Int} (h : xs[j]? = some x) : (mkp k j ++ xs.drop j)[j]? = some x := by
  rw [List.getElem?_append_right (by simp [mkp_len]), mkp_len]; simpa using h
theorem markSendingS_c (e B : Nat) (v : Value) (xs : List (Int × Int)) (k : Int) (w : World) (h : Own tTwo e B w v xs []) (hk0 : 0 ≤ k) (hk1 : k + 2 * xs.length ≤ 4611686018427387904) :
    Calls Try.prog 39 #[v, .int .i64 k] w fun e' w' => e' = .returned (.int .i64 (k + 2 * xs.length)) ∧ Own tTwo e B w' v (mkp k xs.length) [] ∧ w.grownBy w' v.ownBlock := by
  obtain ⟨A, c, rfl, a1, a2, a3⟩ := h.form
  clear a2
  go_enter Try.func39, Try.ntmps39
  go_wp2
  go_loopw [1, 5] (fun kv i wr => ∃ j : Nat, j ≤ xs.length ∧ i = .int .i64 j ∧ kv = .int .i64 (k + 2 * j) ∧ Own tTwo e B wr (.slice A xs.length c) (mkp k j ++ xs.drop j) [] ∧ w.grownBy wr (Value.slice A xs.length c).ownBlock) (fun _ i _ => xs.length - (intOf i).toNat)
  case atStart => exact ⟨0, by omega, rfl, by simp, by simpa [mkp] using h, World.grownBy.refl _ _⟩
  case round =>
    obtain ⟨j, hj, rfl, rfl, ho, hg⟩ := hrel
    by_cases hlt : j < xs.length
    · obtain ⟨x, hx⟩ := get_ex hlt
      obtain ⟨g, rfl, hB, hgs, hcx, hcy, hfz⟩ := ho.two (mkp_at k xs j hx)
      have hf1 := hfz (j * 2); have hf2 := hfz (j * 2 + 1)
      have Ho := hid ho; have Hg := hid hg
      clear hx hfz ho hg h
      go_wp2
      go_roundw
      case rel => exact ⟨j + 1, by omega, by go_num, by go_num, by rw [← mkp_set k xs j hlt]; exact Ho.out.two_set (by simp [mkp_len]; omega) _, grown_set (grown_set Hg.out _ _) _ _⟩
      case measure => simp [intOf]; omega
    · have Ho := hid ho; have Hg := hid hg
      clear ho hg
      have hjl : j = xs.length := by omega
      subst hjl
      go_wp2
      go_ret
      exact ⟨rfl, by simpa using Ho.out, Hg.out⟩
theorem heldSendingS_c (v : Value) (n : Nat) (k : Int) (w : World) (h : SlB tTwo w.heap.size w v (mkp k n)) (hk0 : 0 ≤ k) (hk1 : k + 2 * n ≤ 4611686018427387904) :
    Calls Try.prog 45 #[v, .int .i64 k] w fun e' w' => e' = .returned (.int .i64 (k + 2 * n)) ∧ w = w' := by
  obtain ⟨A, c, rfl, a1, a2, a3⟩ := h.form
  have hn := mkp_len k n
  rw [hn] at h a1 a3 ⊢
  clear a2 hn
  go_enter Try.func45, Try.ntmps45
  go_wp2
  go_loop [1, 5] (fun kv i => ∃ j : Nat, j ≤ n ∧ i = .int .i64 j ∧ kv = .int .i64 (k + 2 * j)) (fun _ i => n - (intOf i).toNat)
  case atStart => exact ⟨0, by omega, rfl, by simp⟩
  case round =>
    obtain ⟨j, hj, rfl, rfl⟩ := hrel
    by_cases hlt : j < n
    · obtain ⟨b, o, rfl, _, _, hcx, hcy⟩ := h.two (mkp_get k n j hlt)
      have hne : ((k + 2 * (j : Int)) != k + 2 * j) = false := by simp
      go_wp2
      go_round
      case rel => exact ⟨j + 1, by omega, by go_num, by go_num⟩
      case measure => simp [intOf]; omega
    · have hjl : j = n := by omega
      subst hjl
      go_wp2
      go_ret
      exact ⟨rfl, rfl⟩
end Go.Proofs.Ytbeiacoplhbmeaa
