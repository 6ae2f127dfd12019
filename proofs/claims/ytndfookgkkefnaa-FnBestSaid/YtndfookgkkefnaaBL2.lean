/- Plain laws: the best guess, the certain senders. -/
import Derived.Test.YtndfookgkkefnaaBA2
namespace Go.Proofs.Ytndfookgkkefnaa
set_option linter.unusedSimpArgs false
set_option linter.unusedVariables false
set_option linter.unusedSectionVars false
open Go
theorem amax_max (f : Nat → Int) : ∀ (k r : Nat), r < k → f r ≤ f (amax f k)
  | 0, _, h => by omega
  | k + 1, r, h => by
    have ih := amax_max f k
    simp only [amax]
    split
    · rename_i hc
      by_cases e : r = k
      · rw [e]; exact Int.le_refl _
      · have := ih r (by omega); omega
    · rename_i hc
      by_cases e : r = k
      · rw [e]; omega
      · exact ih r (by omega)
theorem amax_first (f : Nat → Int) : ∀ (k r : Nat), r < k → f r = f (amax f k) → amax f k ≤ r
  | 0, _, h, _ => by omega
  | k + 1, r, h, he => by
    have hm := amax_max f k
    have ih := amax_first f k
    have hl := amax_lt f k
    simp only [amax] at he ⊢
    split at he
    · rename_i hc
      rw [if_pos hc]
      by_cases e : r = k
      · omega
      · have := hm r (by omega); omega
    · rename_i hc
      rw [if_neg hc]
      by_cases e : r = k
      · omega
      · exact ih r (by omega) he
/-! sums without a bound -/
def sumZ (f : Nat → Int) : Nat → Int
  | 0 => 0
  | k + 1 => sumZ f k + f k
theorem sumZ_congr {f g : Nat → Int} : ∀ {k : Nat}, (∀ r, r < k → f r = g r) → sumZ f k = sumZ g k
  | 0, _ => rfl
  | k + 1, h => by simp only [sumZ]; rw [sumZ_congr fun r hr => h r (by omega), h k (by omega)]
theorem sumZ_mono {f g : Nat → Int} : ∀ {k : Nat}, (∀ r, r < k → f r ≤ g r) → sumZ f k ≤ sumZ g k
  | 0, _ => Int.le_refl _
  | k + 1, h => by
    have h1 := sumZ_mono (k := k) fun r hr => h r (by omega)
    have h2 := h k (by omega)
    simp only [sumZ]
    omega
theorem sumZ_zero : ∀ k : Nat, sumZ (fun _ => 0) k = 0
  | 0 => rfl
  | k + 1 => by simp only [sumZ]; rw [sumZ_zero k]; rfl
theorem sumZ_add (f g : Nat → Int) : ∀ k : Nat, sumZ (fun r => f r + g r) k = sumZ f k + sumZ g k
  | 0 => rfl
  | k + 1 => by simp only [sumZ]; rw [sumZ_add f g k]; omega
theorem sumZ_comm (f : Nat → Nat → Int) (n : Nat) : ∀ k : Nat, sumZ (fun q => sumZ (fun r => f q r) n) k = sumZ (fun r => sumZ (fun q => f q r) k) n
  | 0 => by simp only [sumZ]; exact (sumZ_zero n).symm
  | k + 1 => by simp only [sumZ]; rw [sumZ_comm f n k, sumZ_add]
theorem sumZ_none {g : Nat → Int} {r : Nat} : ∀ {k : Nat}, k ≤ r → sumZ (fun q => if q = r then g q else 0) k = 0
  | 0, _ => rfl
  | k + 1, h => by simp only [sumZ]; rw [sumZ_none (k := k) (by omega), if_neg (by omega)]; rfl
theorem sumZ_one {g : Nat → Int} {r : Nat} : ∀ {k : Nat}, r < k → sumZ (fun q => if q = r then g q else 0) k = g r
  | 0, h => by omega
  | k + 1, h => by
    simp only [sumZ]
    by_cases e : r = k
    · subst e
      rw [sumZ_none (Nat.le_refl _), if_pos rfl, Int.zero_add]
    · rw [sumZ_one (k := k) (by omega), if_neg (by omega), Int.add_zero]
theorem sumZ_bd {f : Nat → Int} {M : Int} : ∀ (k : Nat), (∀ r, r < k → f r ≤ M) → sumZ f k ≤ (k : Int) * M
  | 0, _ => by simp [sumZ]
  | k + 1, h => by
    have h1 := sumZ_bd (M := M) k fun r hr => h r (by omega)
    have h2 := h k (by omega)
    have h3 : ((k + 1 : Nat) : Int) * M = (k : Int) * M + M := by rw [Int.natCast_add, Int.add_mul]; simp
    simp only [sumZ]
    omega
theorem sumI_eq {f : Nat → Int} {M : Int} (hM : M ≤ 1000000000000) : ∀ {k : Nat}, k ≤ 5 → (∀ r, 0 ≤ f r ∧ f r ≤ M) → sumI f k = sumZ f k
  | 0, _, _ => rfl
  | k + 1, hk, h => by
    have ih := sumI_eq hM (k := k) (by omega) h
    have h1 := sumI_bd hM (k := k) (by omega) h
    have h2 := h k
    have h4 : (k : Int) * M ≤ 5 * M := Int.mul_le_mul_of_nonneg_right (by omega) (by omega)
    rw [sumI_succ, IntKind.wrap_i64]
    simp only [sumZ]
    rw [← ih]
    omega
theorem cntS_sum {xs : List (List Bool)} (hn : xs.length ≤ 5) (d : Nat) (hd : d + 1 ≤ 5) (us : List Nat) :
    cntS xs (d + 1) us = sumZ (fun r => if ((xs.getD (xs.length - (d + 1)) []).getD r false && !us.contains r) = true then cntS xs d (us ++ [r]) else 0) xs.length := by
  have hp : (5 : Int) ^ d ≤ 3125 := by
    have : d = 0 ∨ d = 1 ∨ d = 2 ∨ d = 3 ∨ d = 4 := by omega
    rcases this with rfl | rfl | rfl | rfl | rfl <;> decide
  have hp0 : (0 : Int) ≤ 5 ^ d := Int.le_of_lt (Int.pow_pos (by decide))
  rw [cntS]
  refine sumI_eq (M := 5 ^ d) (by omega) hn fun r => ?_
  split
  · exact cntS_bd xs hn d _ (by omega)
  · exact ⟨Int.le_refl _, hp0⟩
theorem onlyT_getD (s r : Nat) (xs : List (List Bool)) (i : Nat) : (onlyT s r xs).getD i [] = onlyR s r i (xs.getD i []) := by
  simp only [onlyT, List.getD_eq_getElem?_getD, List.getElem?_mapIdx]
  cases xs[i]? <;> simp [onlyR]
theorem onlyR_getD (s r i : Nat) (bs : List Bool) (k : Nat) : (onlyR s r i bs).getD k false = onlyV s r i k (bs.getD k false) := by
  simp only [onlyR, List.getD_eq_getElem?_getD, List.getElem?_mapIdx]
  cases bs[k]? <;> simp [onlyV]
theorem cnt_behind {xs : List (List Bool)} (hn : xs.length ≤ 5) (s r : Nat) : ∀ (d : Nat) (us : List Nat), s + 1 + d ≤ xs.length → cntS (onlyT s r xs) d us = cntS xs d us
  | 0, _, _ => rfl
  | d + 1, us, h => by
    have hn' : (onlyT s r xs).length ≤ 5 := by rw [onlyT_length]; exact hn
    rw [cntS_sum hn' d (by omega), cntS_sum hn d (by omega), onlyT_length]
    refine sumZ_congr fun q _ => ?_
    rw [cnt_behind hn s r d _ (by omega), onlyT_getD, onlyR_getD]
    have : (xs.length - (d + 1) != s) = true := by simp; omega
    simp only [onlyV, this, Bool.true_or, Bool.and_true]
theorem cnt_upto {xs : List (List Bool)} (hn : xs.length ≤ 5) (s : Nat) (hs : s < xs.length) : ∀ (d : Nat) (us : List Nat), d ≤ xs.length → xs.length ≤ s + d → cntS xs d us ≤ sumZ (fun r => cntS (onlyT s r xs) d us) xs.length
  | 0, us, _, h => by omega
  | d + 1, us, hd, h => by
    have hn' : ∀ r, (onlyT s r xs).length ≤ 5 := fun r => by rw [onlyT_length]; exact hn
    have e1 : ∀ r, cntS (onlyT s r xs) (d + 1) us = sumZ (fun q => if (onlyV s r (xs.length - (d + 1)) q ((xs.getD (xs.length - (d + 1)) []).getD q false) && !us.contains q) = true then cntS (onlyT s r xs) d (us ++ [q]) else 0) xs.length := fun r => by
      rw [cntS_sum (hn' r) d (by omega), onlyT_length]
      refine sumZ_congr fun q _ => ?_
      rw [onlyT_getD, onlyR_getD]
    rw [cntS_sum hn d (by omega), sumZ_congr fun r _ => e1 r, ← sumZ_comm]
    refine sumZ_mono fun q hq => ?_
    by_cases hi : xs.length - (d + 1) = s
    · have e2 : ∀ r, cntS (onlyT s r xs) d (us ++ [q]) = cntS xs d (us ++ [q]) := fun r => cnt_behind hn s r d _ (by omega)
      rw [sumZ_congr (g := fun r => if r = q then (if ((xs.getD (xs.length - (d + 1)) []).getD q false && !us.contains q) = true then cntS xs d (us ++ [q]) else 0) else 0) fun r _ => ?_]
      · rw [sumZ_one hq]; exact Int.le_refl _
      · rw [e2 r, hi]
        by_cases e : r = q
        · subst e; simp [onlyV]
        · have : (q == r) = false := by simp; omega
          simp [onlyV, this, e]
    · have e3 : ∀ r, onlyV s r (xs.length - (d + 1)) q ((xs.getD (xs.length - (d + 1)) []).getD q false) = (xs.getD (xs.length - (d + 1)) []).getD q false := fun r => by
        have : (xs.length - (d + 1) != s) = true := by simpa using hi
        simp only [onlyV, this, Bool.true_or, Bool.and_true]
      simp only [e3]
      split
      · exact cnt_upto hn s hs d _ (by omega) (by omega)
      · rw [sumZ_zero]; exact Int.le_refl _
theorem cnt_half {xs : List (List Bool)} {s : Nat} (hv : validB xs = true) (hs : s < xs.length) : cntV xs ≤ (xs.length : Int) * cntW xs s (amax (cntW xs s) xs.length) := by
  obtain ⟨_, h5, _⟩ := validB_props hv
  have e : cntV xs = cntS xs xs.length [] := by rw [cntV, hv]; rfl
  rw [e]
  refine Int.le_trans (cnt_upto h5 s hs xs.length [] (Nat.le_refl _) (by omega)) (sumZ_bd _ fun r hr => ?_)
  exact amax_max (cntW xs s) xs.length r hr
/-! fractions in lowest terms -/
theorem frac_eq {n m A : Nat} : (n / Nat.gcd n A) * (A / Nat.gcd m A) * (Nat.gcd n A * Nat.gcd m A) = n * A := by
  have h1 := Nat.div_mul_cancel (Nat.gcd_dvd_left n A)
  have h2 := Nat.div_mul_cancel (Nat.gcd_dvd_right m A)
  have e : (n / Nat.gcd n A) * (A / Nat.gcd m A) * (Nat.gcd n A * Nat.gcd m A) = (n / Nat.gcd n A * Nat.gcd n A) * (A / Nat.gcd m A * Nat.gcd m A) := by ac_rfl
  rw [e, h1, h2]
theorem frac_le {n m A : Nat} (hA : 0 < A) : (n / Nat.gcd n A) * (A / Nat.gcd m A) ≤ (m / Nat.gcd m A) * (A / Nat.gcd n A) ↔ n ≤ m := by
  have h1 := frac_eq (n := n) (m := m) (A := A)
  have h2 := frac_eq (n := m) (m := n) (A := A)
  have hg : 0 < Nat.gcd n A * Nat.gcd m A := Nat.mul_pos (Nat.gcd_pos_of_pos_right _ hA) (Nat.gcd_pos_of_pos_right _ hA)
  rw [Nat.mul_comm (Nat.gcd m A)] at h2
  rw [← Nat.mul_le_mul_right_iff hg, h1, h2, Nat.mul_le_mul_right_iff hA]
theorem frac_one {n A : Nat} (hA : 0 < A) : (n / Nat.gcd n A = 1 ∧ A / Nat.gcd n A = 1) ↔ n = A := by
  have h1 := Nat.div_mul_cancel (Nat.gcd_dvd_left n A)
  have h2 := Nat.div_mul_cancel (Nat.gcd_dvd_right n A)
  constructor
  · rintro ⟨e1, e2⟩
    rw [e1] at h1
    rw [e2] at h2
    omega
  · rintro rfl
    rw [Nat.gcd_self]
    exact ⟨Nat.div_self hA, Nat.div_self hA⟩
theorem frac_half {n A N : Nat} (hA : 0 < A) (h : A ≤ N * n) : A / Nat.gcd n A ≤ (n / Nat.gcd n A) * N := by
  have h1 := Nat.div_mul_cancel (Nat.gcd_dvd_left n A)
  have h2 := Nat.div_mul_cancel (Nat.gcd_dvd_right n A)
  have hg : 0 < Nat.gcd n A := Nat.gcd_pos_of_pos_right _ hA
  rw [← Nat.mul_le_mul_right_iff hg, h2]
  have e : n / Nat.gcd n A * N * Nat.gcd n A = (n / Nat.gcd n A * Nat.gcd n A) * N := by ac_rfl
  rw [e, h1]
  exact (Nat.mul_comm N n) ▸ h
end Go.Proofs.Ytndfookgkkefnaa
