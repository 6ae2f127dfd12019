/- The paths of a run: both texts give the same list of mixes. -/
import Derived.Test.YtbeiacoplhbmeaaBase
namespace Go.Proofs.Ytbeiacoplhbmeaa
open Go Go.RowKit
set_option maxHeartbeats 400000

theorem SlB.lit {W : World} {b c : Nat} {xs : List Int} (hc : xs.length ≤ c) (hm : c ≤ maxLen) (h : ∀ i x, xs[i]? = some x → W.cell? ⟨b, i, none⟩ = some (.int .i64 x)) : SlB tInt W.heap.size W (.slice (some ⟨b, 0, none⟩) xs.length c) xs := by
  by_cases hx : xs = []
  · subst hx
    exact ⟨[], Sl.nil _ _ hm, fun b hb => by cases hb⟩
  · have h0 : 0 < xs.length := List.length_pos_iff.2 hx
    have hb : b < W.heap.size := World.block_lt_of_cell? W ⟨b, 0, none⟩ (h 0 xs[0] (List.getElem?_eq_getElem h0))
    refine ⟨[b], ⟨_, c, xs.flatMap (fun n => [.int .i64 n]), rfl, hc, hm, .inr ⟨b, 0, [], rfl, rfl, hx, hb, els_flat.2 ⟨rfl, rfl⟩, fun j u hj => ?_⟩⟩, fun b' hb' => by simp at hb'; omega⟩
    rw [flatMap_single, List.getElem?_map] at hj
    cases hxj : xs[j]? with
    | none => rw [hxj] at hj; cases hj
    | some x => rw [hxj] at hj; cases hj; rw [Nat.zero_add]; exact h j x hxj

def paths : List (List Int) := [[0], [1], [2], [0, 1], [1, 2], [2, 0], [0, 1, 2], [2, 1, 0], [1, 0, 2]]
def pathOf (k : Int) : List Int := if 0 ≤ k ∧ k ≤ 8 then paths.getD k.toNat [] else []

theorem paths_len (i : Nat) : (paths.getD i []).length ≤ 3 := by
  rcases i with _ | _ | _ | _ | _ | _ | _ | _ | _ | i <;> simp [paths]
/-- the nine lists as they lie in memory -/
def Laid (W : World) (b : Nat) : Prop := ∀ i, i < 9 → ∃ v, W.cell? ⟨b, i, none⟩ = some v ∧ SlB tInt W.heap.size W v (paths.getD i [])

theorem chain_below (w : World) : Below w.heap.size w ((((((((((w.alloc (.cells #[.int .i64 0] 3)).alloc (.cells #[.int .i64 1] 3)).alloc (.cells #[.int .i64 2] 3)).alloc (.cells #[.int .i64 0, .int .i64 1] 3)).alloc (.cells #[.int .i64 1, .int .i64 2] 3)).alloc (.cells #[.int .i64 2, .int .i64 0] 3)).alloc (.cells #[.int .i64 0, .int .i64 1, .int .i64 2] 3)).alloc (.cells #[.int .i64 2, .int .i64 1, .int .i64 0] 3)).alloc (.cells #[.int .i64 1, .int .i64 0, .int .i64 2] 3)).alloc (.cells #[.slice (some ⟨w.heap.size, 0, none⟩) 1 1, .slice (some ⟨w.heap.size + 1, 0, none⟩) 1 1, .slice (some ⟨w.heap.size + 1 + 1, 0, none⟩) 1 1, .slice (some ⟨w.heap.size + 1 + 1 + 1, 0, none⟩) 2 2, .slice (some ⟨w.heap.size + 1 + 1 + 1 + 1, 0, none⟩) 2 2, .slice (some ⟨w.heap.size + 1 + 1 + 1 + 1 + 1, 0, none⟩) 2 2, .slice (some ⟨w.heap.size + 1 + 1 + 1 + 1 + 1 + 1, 0, none⟩) 3 3, .slice (some ⟨w.heap.size + 1 + 1 + 1 + 1 + 1 + 1 + 1, 0, none⟩) 3 3, .slice (some ⟨w.heap.size + 1 + 1 + 1 + 1 + 1 + 1 + 1 + 1, 0, none⟩) 3 3] 22)) := by
  repeat (first | exact Below.refl _ _ | refine Below.alloc ?_ (by simp <;> omega) _)
theorem chain_laid (w : World) : Laid ((((((((((w.alloc (.cells #[.int .i64 0] 3)).alloc (.cells #[.int .i64 1] 3)).alloc (.cells #[.int .i64 2] 3)).alloc (.cells #[.int .i64 0, .int .i64 1] 3)).alloc (.cells #[.int .i64 1, .int .i64 2] 3)).alloc (.cells #[.int .i64 2, .int .i64 0] 3)).alloc (.cells #[.int .i64 0, .int .i64 1, .int .i64 2] 3)).alloc (.cells #[.int .i64 2, .int .i64 1, .int .i64 0] 3)).alloc (.cells #[.int .i64 1, .int .i64 0, .int .i64 2] 3)).alloc (.cells #[.slice (some ⟨w.heap.size, 0, none⟩) 1 1, .slice (some ⟨w.heap.size + 1, 0, none⟩) 1 1, .slice (some ⟨w.heap.size + 1 + 1, 0, none⟩) 1 1, .slice (some ⟨w.heap.size + 1 + 1 + 1, 0, none⟩) 2 2, .slice (some ⟨w.heap.size + 1 + 1 + 1 + 1, 0, none⟩) 2 2, .slice (some ⟨w.heap.size + 1 + 1 + 1 + 1 + 1, 0, none⟩) 2 2, .slice (some ⟨w.heap.size + 1 + 1 + 1 + 1 + 1 + 1, 0, none⟩) 3 3, .slice (some ⟨w.heap.size + 1 + 1 + 1 + 1 + 1 + 1 + 1, 0, none⟩) 3 3, .slice (some ⟨w.heap.size + 1 + 1 + 1 + 1 + 1 + 1 + 1 + 1, 0, none⟩) 3 3] 22)) (w.heap.size + 9) := by
  intro i hi
  obtain rfl | rfl | rfl | rfl | rfl | rfl | rfl | rfl | rfl : i = 0 ∨ i = 1 ∨ i = 2 ∨ i = 3 ∨ i = 4 ∨ i = 5 ∨ i = 6 ∨ i = 7 ∨ i = 8 := by omega
  · exact ⟨.slice (some ⟨w.heap.size, 0, none⟩) 1 1, (by simp (disch := (first | omega | (simp; done) | (simp; omega))) [World.cell?_alloc_at, World.cell?_alloc_past]), SlB.lit (xs := [0]) (by decide) (by decide) (fun j x hj => by rcases j with _ | _ | _ | j <;> simp at hj <;> subst hj <;> simp (disch := (first | omega | (simp; done) | (simp; omega))) [World.cell?_alloc_at, World.cell?_alloc_past])⟩
  · exact ⟨.slice (some ⟨w.heap.size + 1, 0, none⟩) 1 1, (by simp (disch := (first | omega | (simp; done) | (simp; omega))) [World.cell?_alloc_at, World.cell?_alloc_past]), SlB.lit (xs := [1]) (by decide) (by decide) (fun j x hj => by rcases j with _ | _ | _ | j <;> simp at hj <;> subst hj <;> simp (disch := (first | omega | (simp; done) | (simp; omega))) [World.cell?_alloc_at, World.cell?_alloc_past])⟩
  · exact ⟨.slice (some ⟨w.heap.size + 1 + 1, 0, none⟩) 1 1, (by simp (disch := (first | omega | (simp; done) | (simp; omega))) [World.cell?_alloc_at, World.cell?_alloc_past]), SlB.lit (xs := [2]) (by decide) (by decide) (fun j x hj => by rcases j with _ | _ | _ | j <;> simp at hj <;> subst hj <;> simp (disch := (first | omega | (simp; done) | (simp; omega))) [World.cell?_alloc_at, World.cell?_alloc_past])⟩
  · exact ⟨.slice (some ⟨w.heap.size + 1 + 1 + 1, 0, none⟩) 2 2, (by simp (disch := (first | omega | (simp; done) | (simp; omega))) [World.cell?_alloc_at, World.cell?_alloc_past]), SlB.lit (xs := [0, 1]) (by decide) (by decide) (fun j x hj => by rcases j with _ | _ | _ | j <;> simp at hj <;> subst hj <;> simp (disch := (first | omega | (simp; done) | (simp; omega))) [World.cell?_alloc_at, World.cell?_alloc_past])⟩
  · exact ⟨.slice (some ⟨w.heap.size + 1 + 1 + 1 + 1, 0, none⟩) 2 2, (by simp (disch := (first | omega | (simp; done) | (simp; omega))) [World.cell?_alloc_at, World.cell?_alloc_past]), SlB.lit (xs := [1, 2]) (by decide) (by decide) (fun j x hj => by rcases j with _ | _ | _ | j <;> simp at hj <;> subst hj <;> simp (disch := (first | omega | (simp; done) | (simp; omega))) [World.cell?_alloc_at, World.cell?_alloc_past])⟩
  · exact ⟨.slice (some ⟨w.heap.size + 1 + 1 + 1 + 1 + 1, 0, none⟩) 2 2, (by simp (disch := (first | omega | (simp; done) | (simp; omega))) [World.cell?_alloc_at, World.cell?_alloc_past]), SlB.lit (xs := [2, 0]) (by decide) (by decide) (fun j x hj => by rcases j with _ | _ | _ | j <;> simp at hj <;> subst hj <;> simp (disch := (first | omega | (simp; done) | (simp; omega))) [World.cell?_alloc_at, World.cell?_alloc_past])⟩
  · exact ⟨.slice (some ⟨w.heap.size + 1 + 1 + 1 + 1 + 1 + 1, 0, none⟩) 3 3, (by simp (disch := (first | omega | (simp; done) | (simp; omega))) [World.cell?_alloc_at, World.cell?_alloc_past]), SlB.lit (xs := [0, 1, 2]) (by decide) (by decide) (fun j x hj => by rcases j with _ | _ | _ | j <;> simp at hj <;> subst hj <;> simp (disch := (first | omega | (simp; done) | (simp; omega))) [World.cell?_alloc_at, World.cell?_alloc_past])⟩
  · exact ⟨.slice (some ⟨w.heap.size + 1 + 1 + 1 + 1 + 1 + 1 + 1, 0, none⟩) 3 3, (by simp (disch := (first | omega | (simp; done) | (simp; omega))) [World.cell?_alloc_at, World.cell?_alloc_past]), SlB.lit (xs := [2, 1, 0]) (by decide) (by decide) (fun j x hj => by rcases j with _ | _ | _ | j <;> simp at hj <;> subst hj <;> simp (disch := (first | omega | (simp; done) | (simp; omega))) [World.cell?_alloc_at, World.cell?_alloc_past])⟩
  · exact ⟨.slice (some ⟨w.heap.size + 1 + 1 + 1 + 1 + 1 + 1 + 1 + 1, 0, none⟩) 3 3, (by simp (disch := (first | omega | (simp; done) | (simp; omega))) [World.cell?_alloc_at, World.cell?_alloc_past]), SlB.lit (xs := [1, 0, 2]) (by decide) (by decide) (fun j x hj => by rcases j with _ | _ | _ | j <;> simp at hj <;> subst hj <;> simp (disch := (first | omega | (simp; done) | (simp; omega))) [World.cell?_alloc_at, World.cell?_alloc_past])⟩
theorem path_impl (k : Int) (w : World) : Calls Try.prog 22 #[.int .i64 k] w fun e w' => ∃ v', e = .returned v' ∧ NewS tInt 3 w.heap.size w' v' (pathOf k) ∧ Below w.heap.size w w' := by
  go_enter Try.func22, Try.ntmps22
  go_wp2_with fail
  refine (within_c _ _ _ _).mono ?_
  rintro e W ⟨rfl, hw⟩
  have hb : Below w.heap.size w W := by rw [← hw]; exact chain_below w
  have hL : Laid W (w.heap.size + 9) := by rw [← hw]; exact chain_laid w
  clear hw
  by_cases hk : 0 ≤ k ∧ k ≤ 8
  · have hw : win k 0 8 = true := by simp [win]; omega
    obtain ⟨i, rfl⟩ := Int.eq_ofNat_of_zero_le hk.1
    have hi : i < 9 := by omega
    obtain ⟨v, hv, hs⟩ := hL i hi
    have h0 : (0 : Int) ≤ (i : Int) := by omega
    have h9 : (i : Int) < 9 := by omega
    have Hk := hid hk
    clear hL hk
    go_wp2_with (go_at_call 48; refine (clone_c v (paths.getD i []) _ hs (by have := paths_len i; omega)).mono ?_; rintro e w' ⟨v', rfl, hn, hb'⟩)
    go_ret
    exact ⟨v', rfl, by rw [show pathOf i = paths.getD i [] from by simp [pathOf, Hk.out]]; exact hn.base hb.size, hb.trans (hb'.mono hb.size)⟩
  · have hw : win k 0 8 = false := by simp [win]; omega
    go_wp2
    go_ret
    exact ⟨_, rfl, by rw [show pathOf k = [] from if_neg hk]; exact NewS.nil _ _, hb⟩

theorem path_spec (k : Int) (w : World) : Calls Try.prog 21 #[.int .i64 k] w fun e w' => ∃ v', e = .returned v' ∧ SlB tInt w'.heap.size w' v' (pathOf k) ∧ Below w.heap.size w w' := by
  go_enter Try.func21, Try.ntmps21
  go_wp2_with fail
  refine (l6In_c _ _ _ _).mono ?_
  rintro e W ⟨rfl, hw⟩
  have hb : Below w.heap.size w W := by rw [← hw]; exact chain_below w
  have hL : Laid W (w.heap.size + 9) := by rw [← hw]; exact chain_laid w
  clear hw
  by_cases hk : 0 ≤ k ∧ k ≤ 8
  · have hw : win k 0 8 = true := by simp [win]; omega
    obtain ⟨i, rfl⟩ := Int.eq_ofNat_of_zero_le hk.1
    have hi : i < 9 := by omega
    obtain ⟨v, hv, hs⟩ := hL i hi
    have h0 : (0 : Int) ≤ (i : Int) := by omega
    have h9 : (i : Int) < 9 := by omega
    have Hk := hid hk
    clear hL hk
    go_wp2
    go_ret
    exact ⟨v, rfl, by rw [show pathOf i = paths.getD i [] from by simp [pathOf, Hk.out]]; exact hs, hb⟩
  · have hw : win k 0 8 = false := by simp [win]; omega
    go_wp2
    go_ret
    exact ⟨_, rfl, by rw [show pathOf k = [] from if_neg hk]; exact ⟨[], Sl.nil _ _ (by decide), fun b hb => by cases hb⟩, hb.alloc hb.size _⟩

theorem pathOf_len (k : Int) : (pathOf k).length ≤ 3 := by
  unfold pathOf; split
  · exact paths_len _
  · simp
theorem eqIntS_t (v1 v2 : Value) (xs : List Int) (w : World) (h1 : SlB tInt w.heap.size w v1 xs) (h2 : SlB tInt w.heap.size w v2 xs) :
    Calls Try.prog 23 #[v1, v2] w (ok true w.heap.size w) := by
  have := eqIntS_c v1 v2 xs xs w h1 h2
  rwa [decide_eq_true rfl] at this
theorem FnExactWorldPath_c (k : Int) (w : World) (_ : (Lit.int .i64 k).wf = true) : Calls Try.prog 3 #[.int .i64 k] w (ok true w.heap.size w) := by
  have hl := pathOf_len k
  go_enter Try.func3, Try.ntmps3
  go_wp2_with fail
  refine (path_spec k _).mono ?_
  rintro e w1 ⟨v0, rfl, s0, b1⟩
  go_wp2_with fail
  refine (path_impl k _).mono ?_
  rintro e w2 ⟨v1, rfl, n1, b2⟩
  have s0 := s0.below b2 (Nat.le_refl _)
  obtain ⟨G, o1, _, _⟩ := n1
  obtain rfl := own_isFlat tInt_flat o1
  go_wp2_with fail
  refine (eqIntS_t v1 v0 (pathOf k) w2 o1.slB (s0.mono b2.size)).mono ?_
  rintro e w3 ⟨rfl, b3⟩
  have s0 := s0.below b3 b2.size
  have o1 := o1.below b3 (Nat.le_refl _)
  go_wp2_with fail
  refine (markIntS_c _ _ v1 (pathOf k) 1 w3 o1 (by omega) (by omega)).mono ?_
  rintro e w4 ⟨rfl, o1, g4⟩
  have t1 : ∀ b, v1.ownBlock = some b → w1.heap.size ≤ b := fun b hb => (o1.top b hb).1
  have b4 : Below w1.heap.size w3 w4 := Below.of_grown g4 (Nat.le_trans b2.size b3.size) t1
  have s0 := s0.below b4 (Nat.le_refl _)
  go_wp2_with fail
  refine (heldIntS_c v1 (pathOf k).length 1 w4 o1.slB (by omega) (by omega)).mono ?_
  rintro e w5 ⟨rfl, rfl⟩
  go_wp2_with fail
  refine (path_impl k w4).mono ?_
  rintro e w6 ⟨v2, rfl, n2, b6⟩
  have o1 := o1.below b6 (Nat.le_refl _)
  have s0 := s0.below b6 (Nat.le_trans b2.size (Nat.le_trans b3.size g4.size))
  go_wp2_with fail
  refine (eqIntS_t v2 v0 (pathOf k) w6 n2.slB (s0.mono (Nat.le_trans b2.size (Nat.le_trans b3.size (Nat.le_trans g4.size b6.size))))).mono ?_
  rintro e w7 ⟨rfl, b7⟩
  have o1 := o1.below b7 (Nat.le_refl _)
  go_wp2_with fail
  refine (heldIntS_c v1 (pathOf k).length 1 w7 o1.slB (by omega) (by omega)).mono ?_
  rintro e w8 ⟨rfl, rfl⟩
  go_wp2
  go_ret
  exact ⟨rfl, b1.trans ((b2.trans ((b3.mono b2.size).trans (b4.trans ((b6.mono (Nat.le_trans b2.size (Nat.le_trans b3.size g4.size))).trans (b7.mono (Nat.le_trans b2.size (Nat.le_trans b3.size (Nat.le_trans g4.size b6.size)))))))).mono b1.size)⟩
end Go.Proofs.Ytbeiacoplhbmeaa
