/- Filling and holding a new run; runs compared by the laws' own words. -/
import Derived.Test.YtbkckjobhopicaaWNew
import Derived.Test.YtbkckjobhopicaaWEq
namespace Go.Proofs.Ytbkckjobhopicaa
open Go Go.RowKit
set_option maxHeartbeats 400000
theorem markLetterS_0 (A : Option Addr) (c : Nat) (k : Int) (w : World) : Calls Try.prog 33 #[.slice A 0 c, .int .i64 k] w fun e w' => e = .returned (.int .i64 k) ∧ w = w' := by
  go_enter Try.func33, Try.ntmps33
  go_wp2_with fail
  refine wp_loop_rounds 1 ?_
  rw [rounds_succ]
  go_wp2
  go_ret
  exact ⟨rfl, rfl⟩
theorem markTransitS_0 (A : Option Addr) (c : Nat) (k : Int) (w : World) : Calls Try.prog 34 #[.slice A 0 c, .int .i64 k] w fun e w' => e = .returned (.int .i64 k) ∧ w = w' := by
  go_enter Try.func34, Try.ntmps34
  go_wp2_with fail
  refine wp_loop_rounds 1 ?_
  rw [rounds_succ]
  go_wp2
  go_ret
  exact ⟨rfl, rfl⟩
theorem markPeeledS_0 (A : Option Addr) (c : Nat) (k : Int) (w : World) : Calls Try.prog 60 #[.slice A 0 c, .int .i64 k] w fun e w' => e = .returned (.int .i64 k) ∧ w = w' := by
  go_enter Try.func60, Try.ntmps60
  go_wp2_with fail
  refine wp_loop_rounds 1 ?_
  rw [rounds_succ]
  go_wp2
  go_ret
  exact ⟨rfl, rfl⟩
theorem markIntS_0 (A : Option Addr) (c : Nat) (k : Int) (w : World) : Calls Try.prog 59 #[.slice A 0 c, .int .i64 k] w fun e w' => e = .returned (.int .i64 k) ∧ w = w' := by
  go_enter Try.func59, Try.ntmps59
  go_wp2_with fail
  refine wp_loop_rounds 1 ?_
  rw [rounds_succ]
  go_wp2
  go_ret
  exact ⟨rfl, rfl⟩
theorem heldLetterS_0 (A : Option Addr) (c : Nat) (k : Int) (w : World) : Calls Try.prog 36 #[.slice A 0 c, .int .i64 k] w fun e w' => e = .returned (.int .i64 k) ∧ w = w' := by
  go_enter Try.func36, Try.ntmps36
  go_wp2_with fail
  refine wp_loop_rounds 1 ?_
  rw [rounds_succ]
  go_wp2
  go_ret
  exact ⟨rfl, rfl⟩
theorem heldTransitS_0 (A : Option Addr) (c : Nat) (k : Int) (w : World) : Calls Try.prog 37 #[.slice A 0 c, .int .i64 k] w fun e w' => e = .returned (.int .i64 k) ∧ w = w' := by
  go_enter Try.func37, Try.ntmps37
  go_wp2_with fail
  refine wp_loop_rounds 1 ?_
  rw [rounds_succ]
  go_wp2
  go_ret
  exact ⟨rfl, rfl⟩
theorem heldPeeledS_0 (A : Option Addr) (c : Nat) (k : Int) (w : World) : Calls Try.prog 62 #[.slice A 0 c, .int .i64 k] w fun e w' => e = .returned (.int .i64 k) ∧ w = w' := by
  go_enter Try.func62, Try.ntmps62
  go_wp2_with fail
  refine wp_loop_rounds 1 ?_
  rw [rounds_succ]
  go_wp2
  go_ret
  exact ⟨rfl, rfl⟩
theorem heldIntS_0 (A : Option Addr) (c : Nat) (k : Int) (w : World) : Calls Try.prog 61 #[.slice A 0 c, .int .i64 k] w fun e w' => e = .returned (.int .i64 k) ∧ w = w' := by
  go_enter Try.func61, Try.ntmps61
  go_wp2_with fail
  refine wp_loop_rounds 1 ?_
  rw [rounds_succ]
  go_wp2
  go_ret
  exact ⟨rfl, rfl⟩
def mkx (k : Int) (n : Nat) : List Mx := (List.range n).map (fun i : Nat => ⟨k + (i : Int), [], []⟩)
theorem mkx_succ (k : Int) (n : Nat) : mkx k (n + 1) = mkx k n ++ [⟨k + n, [], []⟩] := by simp [mkx, List.range_succ]
theorem mkx_len (k : Int) (n : Nat) : (mkx k n).length = n := by simp [mkx]
theorem mkx_get (k : Int) (n i : Nat) (h : i < n) : (mkx k n)[i]? = some ⟨k + i, [], []⟩ := by simp [mkx, h]
theorem mkx_set (k : Int) (xs : List Mx) (j : Nat) (h : j < xs.length) : (mkx k j ++ xs.drop j).set j ⟨k + j, [], []⟩ = mkx k (j + 1) ++ xs.drop (j + 1) := by
  rw [mkx_succ, List.set_append_right _ _ (by simp [mkx_len]), mkx_len, Nat.sub_self, List.drop_eq_getElem_cons h, List.set_cons_zero, List.append_assoc]; rfl
theorem mkx_at (k : Int) (xs : List Mx) (j : Nat) {x : Mx} (h : xs[j]? = some x) : (mkx k j ++ xs.drop j)[j]? = some x := by
  rw [List.getElem?_append_right (by simp [mkx_len]), mkx_len]; simpa using h
theorem flat_sec_set (xs : List Mx) (i : Nat) (hi : i < xs.length) (y : Mx) :
    (xs.flatMap (fun x => [Value.int .i64 x.sec, .slice none 0 0, .slice none 0 0])).set (i * 3) (.int .i64 y.sec) = (xs.set i y).flatMap (fun x => [Value.int .i64 x.sec, .slice none 0 0, .slice none 0 0]) := by
  induction xs generalizing i with
  | nil => simp at hi
  | cons z zs ih =>
    cases i with
    | zero => simp
    | succ i =>
      have := ih i (by simpa using hi)
      simp only [List.flatMap_cons, List.set_cons_succ, List.cons_append, List.nil_append, Nat.succ_mul]
      rw [this]
theorem Own.sec_set {w : World} {e B g n c i : Nat} {xs : List Mx} {G : List Nat} (h : Own nMx e B w (.slice (some ⟨g, 0, none⟩) n c) xs G) (hi : i < xs.length) (y : Mx) :
    Own nMx e B (w.setCell ⟨g, i * 3, none⟩ (.int .i64 y.sec)) (.slice (some ⟨g, 0, none⟩) n c) (xs.set i y) G := by
  have hn := h.len
  subst hn
  obtain ⟨cs, h1, h2, h3⟩ := h
  obtain ⟨rfl, rfl⟩ := els_flat.1 h2
  refine ⟨(xs.set i y).flatMap (fun x => [.int .i64 x.sec, .slice none 0 0, .slice none 0 0]), ?_, els_flat.2 ⟨rfl, rfl⟩, fun _ _ h => by cases h⟩
  rw [List.length_set, ← flat_sec_set xs i hi y]
  exact ownsRow_set h1 _ _
theorem Own.nmx {w : World} {e B : Nat} {A : Option Addr} {n c : Nat} {xs : List Mx} {G : List Nat} (h : Own nMx e B w (.slice A n c) xs G) {i : Nat} {x : Mx} (hx : xs[i]? = some x) :
    ∃ g, A = some ⟨g, 0, none⟩ ∧ B ≤ g ∧ g < w.heap.size ∧ w.cell? ⟨g, i * 3, none⟩ = some (.int .i64 x.sec) ∧ w.cell? ⟨g, i * 3 + 1, none⟩ = some (.slice none 0 0) ∧ w.cell? ⟨g, i * 3 + 2, none⟩ = some (.slice none 0 0) ∧ ∀ j, w.frozen? ⟨g, j, none⟩ = false := by
  obtain ⟨g, cs, G', h1, h2, h3, _, ⟨rfl, _⟩, _, h4, h5⟩ := h.at_ hx
  exact ⟨g, h1, h2, h3, h4 0 _ rfl, h4 1 _ rfl, h4 2 _ rfl, h5⟩
theorem markMixS_n (e B : Nat) (v : Value) (xs : List Mx) (k : Int) (w : World) (h : Own nMx e B w v xs []) (hk0 : 0 ≤ k) (hk1 : k + xs.length ≤ 4611686018427387904) :
    Calls Try.prog 32 #[v, .int .i64 k] w fun e' w' => e' = .returned (.int .i64 (k + xs.length)) ∧ Own nMx e B w' v (mkx k xs.length) [] ∧ w.grownBy w' v.ownBlock := by
  obtain ⟨A, c, rfl, a1, a2, a3⟩ := h.form
  clear a2
  go_enter Try.func32, Try.ntmps32
  go_wp2
  go_loopw [1, 5] (fun kv i wr => ∃ j : Nat, j ≤ xs.length ∧ i = .int .i64 j ∧ kv = .int .i64 (k + j) ∧ Own nMx e B wr (.slice A xs.length c) (mkx k j ++ xs.drop j) [] ∧ w.grownBy wr (Value.slice A xs.length c).ownBlock) (fun _ i _ => xs.length - (intOf i).toNat)
  case atStart => exact ⟨0, by omega, rfl, by simp, by simpa [mkx] using h, World.grownBy.refl _ _⟩
  case round =>
    obtain ⟨j, hj, rfl, rfl, ho, hg⟩ := hrel
    by_cases hlt : j < xs.length
    · obtain ⟨x, hx⟩ := get_ex hlt
      obtain ⟨g, rfl, hB, hgs, hcx, hc1, hc2, hfz⟩ := ho.nmx (mkx_at k xs j hx)
      have hfzj := hfz (j * 3)
      have Ho := hid ho; have Hg := hid hg
      clear hx hfz ho hg h
      go_wp2_with (first | (go_at_call 59; refine (markIntS_0 _ _ _ _).mono ?_; rintro e w' ⟨rfl, rfl⟩) | (go_at_call 60; refine (markPeeledS_0 _ _ _ _).mono ?_; rintro e w' ⟨rfl, rfl⟩))
      go_roundw
      case rel => exact ⟨j + 1, by omega, by go_num, by go_num, by rw [← mkx_set k xs j hlt]; exact Ho.out.sec_set (by simp [mkx_len]; omega) ⟨k + j, [], []⟩, grown_set Hg.out _ _⟩
      case measure => simp [intOf]; omega
    · have Ho := hid ho; have Hg := hid hg
      clear ho hg
      have hjl : j = xs.length := by omega
      subst hjl
      go_wp2
      go_ret
      exact ⟨rfl, by simpa using Ho.out, Hg.out⟩
theorem heldMixS_n (v : Value) (n : Nat) (k : Int) (w : World) (e B : Nat) (h : Own nMx e B w v (mkx k n) []) (hk0 : 0 ≤ k) (hk1 : k + n ≤ 4611686018427387904) :
    Calls Try.prog 35 #[v, .int .i64 k] w fun e' w' => e' = .returned (.int .i64 (k + n)) ∧ w = w' := by
  obtain ⟨A, c, rfl, a1, a2, a3⟩ := h.form
  have hn := mkx_len k n
  rw [hn] at h a1 a3 ⊢
  clear a2 hn
  go_enter Try.func35, Try.ntmps35
  go_wp2
  go_loop [1, 5] (fun kv i => ∃ j : Nat, j ≤ n ∧ i = .int .i64 j ∧ kv = .int .i64 (k + j)) (fun _ i => n - (intOf i).toNat)
  case atStart => exact ⟨0, by omega, rfl, by simp⟩
  case round =>
    obtain ⟨j, hj, rfl, rfl⟩ := hrel
    by_cases hlt : j < n
    · obtain ⟨g, rfl, _, _, hcx, hc1, hc2, _⟩ := h.nmx (mkx_get k n j hlt)
      have hne : ((k + (j : Int)) != k + j) = false := by simp
      go_wp2_with (first | (go_at_call 61; refine (heldIntS_0 _ _ _ _).mono ?_; rintro e w' ⟨rfl, rfl⟩) | (go_at_call 62; refine (heldPeeledS_0 _ _ _ _).mono ?_; rintro e w' ⟨rfl, rfl⟩))
      go_round
      case rel => exact ⟨j + 1, by omega, by go_num, by go_num⟩
      case measure => simp [intOf]; omega
    · have hjl : j = n := by omega
      subst hjl
      go_wp2
      go_ret
      exact ⟨rfl, rfl⟩
theorem markWorld_n (e B : Nat) (v : Value) (xs : List Mx) (k : Int) (w : World) (h : Own nMx e B w v xs []) (hk0 : 0 ≤ k) (hk1 : k + xs.length ≤ 4611686018427387904) :
    Calls Try.prog 12 #[.agg #[v, .slice none 0 0, .slice none 0 0, .slice none 0 0, .int .i64 0, .int .i64 0], .int .i64 k] w fun e' w' => e' = .returned (.int .i64 (k + xs.length)) ∧ Own nMx e B w' v (mkx k xs.length) [] ∧ w.grownBy w' v.ownBlock := by
  go_enter Try.func12, Try.ntmps12
  go_wp2_with fail
  refine (markMixS_n e B v xs k _ (h.go (lit_below _ _)) hk0 hk1).mono ?_
  rintro e w1 ⟨rfl, o1, g1⟩
  have hb := (g1.block w.heap.size (by simp) (fun e => by have := (h.top _ e.symm).2; omega)).trans (heap_alloc_new w _)
  obtain ⟨k0, k1, k2, k3, k4, k5, _⟩ := fr_cells hb
  have hg : w.grownBy w1 v.ownBlock := grown_trans (grown_below (lit_below _ _)) g1
  go_wp2_with (first | (go_at_call 33; refine (markLetterS_0 _ _ _ _).mono ?_; rintro e w' ⟨rfl, rfl⟩) | (go_at_call 34; refine (markTransitS_0 _ _ _ _).mono ?_; rintro e w' ⟨rfl, rfl⟩))
  go_ret
  exact ⟨rfl, o1, hg⟩
theorem heldWorld_n (e B : Nat) (v : Value) (n : Nat) (k : Int) (w : World) (h : Own nMx e B w v (mkx k n) []) (hk0 : 0 ≤ k) (hk1 : k + n ≤ 4611686018427387904) :
    Calls Try.prog 13 #[.agg #[v, .slice none 0 0, .slice none 0 0, .slice none 0 0, .int .i64 0, .int .i64 0], .int .i64 k] w fun e' w' => e' = .returned (.int .i64 (k + n)) ∧ Below w.heap.size w w' := by
  go_enter Try.func13, Try.ntmps13
  go_wp2_with (first | (go_at_call 35; refine (heldMixS_n v n k _ e B (h.below ?_ (Nat.le_refl _)) hk0 hk1).mono ?_; (exact lit_below _ _); rintro e w' ⟨rfl, rfl⟩) | (go_at_call 36; refine (heldLetterS_0 _ _ _ _).mono ?_; rintro e w' ⟨rfl, rfl⟩) | (go_at_call 37; refine (heldTransitS_0 _ _ _ _).mono ?_; rintro e w' ⟨rfl, rfl⟩))
  go_ret
  exact ⟨rfl, lit_below _ _⟩
theorem newWd {B : Nat} {w : World} {v : Value} (h : SlB nMx B w v (mixesNew 3)) : WdB B w (.agg #[v, .slice none 0 0, .slice none 0 0, .slice none 0 0, .int .i64 0, .int .i64 0]) wdNew :=
  ⟨_, _, _, _, rfl, plain_slB h (mixesNew_plain 3), ⟨[], Sl.nil _ _ (by simp [maxLen]), fun _ h => by cases h⟩, ⟨[], Sl.nil _ _ (by simp [maxLen]), fun _ h => by cases h⟩, ⟨[], Sl.nil _ _ (by simp [maxLen]), fun _ h => by cases h⟩⟩
theorem WdB.go {w w' : World} {v : Value} {x : Wd} (h : WdB w.heap.size w v x) (hb : Below w.heap.size w w') : WdB w'.heap.size w' v x := by
  obtain ⟨vm, vs, vn, vg, rfl, h1, h2, h3, h4⟩ := h
  exact ⟨_, _, _, _, rfl, h1.go hb, h2.go hb, h3.go hb, h4.go hb⟩
theorem heap_go {w w' : World} {n : Nat} {o : Obj} (hb : Below w.heap.size w w') (h : w.heap[n]? = some o) : w'.heap[n]? = some o :=
  (hb.block n (Array.getElem?_eq_some_iff.1 h).1).trans h
theorem heap_grown {w w' : World} {n : Nat} {o : Obj} {r : Option Nat} (hg : w.grownBy w' r) (h : w.heap[n]? = some o) (hr : r ≠ some n) : w'.heap[n]? = some o :=
  (hg.block n (Array.getElem?_eq_some_iff.1 h).1 (fun e => hr e.symm)).trans h
end Go.Proofs.Ytbkckjobhopicaa
