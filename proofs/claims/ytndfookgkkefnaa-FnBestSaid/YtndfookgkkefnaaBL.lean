/- Plain laws: the two counts are one, and small. -/
import Derived.Test.YtndfookgkkefnaaBS4
namespace Go.Proofs.Ytndfookgkkefnaa
set_option linter.unusedSimpArgs false
set_option linter.unusedVariables false
set_option linter.unusedSectionVars false
open Go
theorem sumI_congr {f g : Nat → Int} : ∀ {k : Nat}, (∀ r, r < k → f r = g r) → sumI f k = sumI g k
  | 0, _ => rfl
  | k + 1, h => by rw [sumI_succ, sumI_succ, sumI_congr fun r hr => h r (by omega), h k (by omega)]
theorem sumI_bd {f : Nat → Int} {M : Int} (hM : M ≤ 1000000000000) : ∀ {k : Nat}, k ≤ 5 → (∀ r, 0 ≤ f r ∧ f r ≤ M) → 0 ≤ sumI f k ∧ sumI f k ≤ (k : Int) * M
  | 0, _, _ => by simp [sumI]
  | k + 1, hk, h => by
    have h1 := sumI_bd hM (k := k) (by omega) h
    have h2 := h k
    have h3 : ((k + 1 : Nat) : Int) * M = (k : Int) * M + M := by rw [Int.natCast_add, Int.add_mul]; simp
    have h4 : (k : Int) * M ≤ 5 * M := Int.mul_le_mul_of_nonneg_right (by omega) (by omega)
    rw [sumI_succ, h3, IntKind.wrap_i64]
    omega
theorem cntS_bd (xs : List (List Bool)) (hn : xs.length ≤ 5) : ∀ (d : Nat) (us : List Nat), d ≤ 5 → 0 ≤ cntS xs d us ∧ cntS xs d us ≤ 5 ^ d
  | 0, us, _ => by simp [cntS]
  | d + 1, us, hd => by
    have ih := fun us => cntS_bd xs hn d us (by omega)
    have hp : (5 : Int) ^ d ≤ 3125 := by
      have : d = 0 ∨ d = 1 ∨ d = 2 ∨ d = 3 ∨ d = 4 := by omega
      rcases this with rfl | rfl | rfl | rfl | rfl <;> decide
    have hp0 : (0 : Int) ≤ 5 ^ d := Int.le_of_lt (Int.pow_pos (by decide))
    have h := sumI_bd (f := fun r => if ((xs.getD (xs.length - (d + 1)) []).getD r false && !us.contains r) = true then cntS xs d (us ++ [r]) else 0) (M := 5 ^ d) (by omega) hn (fun r => by
      split
      · exact ih _
      · exact ⟨Int.le_refl _, hp0⟩)
    rw [cntS, Int.pow_succ]
    have h4 : (xs.length : Int) * 5 ^ d ≤ 5 * 5 ^ d := Int.mul_le_mul_of_nonneg_right (by omega) hp0
    omega
theorem cntS_bd' {xs : List (List Bool)} (hn : xs.length ≤ 5) (us : List Nat) : 0 ≤ cntS xs xs.length us ∧ cntS xs xs.length us ≤ 3125 := by
  have h := cntS_bd xs hn xs.length us hn
  have hp : (5 : Int) ^ xs.length ≤ 3125 := by
    have : xs.length = 0 ∨ xs.length = 1 ∨ xs.length = 2 ∨ xs.length = 3 ∨ xs.length = 4 ∨ xs.length = 5 := by omega
    rcases this with h | h | h | h | h | h <;> rw [h] <;> decide
  omega
theorem bits_fin : ∀ (t : Fin 32) (r : Fin 5), ∃ u : Fin 32, tk (t.val : Int) r.val = (u.val : Int) ∧ ∀ q : Fin 5, free (u.val : Int) q.val = (free (t.val : Int) q.val && q.val != r.val) := by decide +kernel
theorem free0 : ∀ q : Fin 5, free 0 q.val = true := by decide +kernel
theorem asg_cnt (xs : List (List Bool)) (hn : xs.length ≤ 5) (hr : ∀ bs ∈ xs, bs.length = xs.length) : ∀ (d : Nat) (t : Fin 32) (us : List Nat), d ≤ xs.length → (∀ q : Fin 5, free (t.val : Int) q.val = !us.contains q.val) → asg xs d t.val = cntS xs d us
  | 0, _, _, _, _ => rfl
  | d + 1, t, us, hd, h => by
    have hi : xs.length - (d + 1) < xs.length := by omega
    have e : xs.getD (xs.length - (d + 1)) [] = xs[xs.length - (d + 1)] := by simp [List.getD, List.getElem?_eq_getElem hi]
    have hl : (xs.getD (xs.length - (d + 1)) []).length = xs.length := by rw [e]; exact hr _ (List.getElem_mem hi)
    rw [asg, cntS, hl]
    refine sumI_congr fun r hrk => ?_
    have hq := h ⟨r, by omega⟩
    dsimp only at hq
    rw [hq]
    split
    · obtain ⟨u, hu, hf⟩ := bits_fin t ⟨r, by omega⟩
      dsimp only at hu
      rw [hu]
      refine asg_cnt xs hn hr d u (us ++ [r]) (by omega) fun q => ?_
      rw [hf q, h q, List.contains_append, Bool.not_or]
      congr 1
      by_cases hqr : q.val = r
      · simp [hqr]
      · simp [hqr, Ne.symm hqr, fun h : r = q.val => hqr h.symm]
    · rfl
theorem asg_eq {xs : List (List Bool)} (hn : xs.length ≤ 5) (hr : ∀ bs ∈ xs, bs.length = xs.length) : asg xs xs.length 0 = cntS xs xs.length [] :=
  asg_cnt xs hn hr xs.length 0 [] (Nat.le_refl _) fun q => by simpa using free0 q
theorem onlyT_rows {xs : List (List Bool)} (s r : Nat) (hr : ∀ bs ∈ xs, bs.length = xs.length) : ∀ bs ∈ onlyT s r xs, bs.length = (onlyT s r xs).length := by
  intro bs hb
  rw [onlyT_length]
  simp only [onlyT, List.mem_mapIdx] at hb
  obtain ⟨i, hi, rfl⟩ := hb
  rw [onlyR_length]
  exact hr _ (List.getElem_mem hi)
/-- in how many a sender writes to a receiver -/
def cntW (xs : List (List Bool)) (s r : Nat) : Int := cntS (onlyT s r xs) xs.length []
theorem cntW_bd {xs : List (List Bool)} (hn : xs.length ≤ 5) (s r : Nat) : 0 ≤ cntW xs s r ∧ cntW xs s r ≤ 3125 := by
  have := cntS_bd' (xs := onlyT s r xs) (by rw [onlyT_length]; exact hn) []
  rwa [onlyT_length] at this
end Go.Proofs.Ytndfookgkkefnaa
