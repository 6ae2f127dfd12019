/- Plain laws: a guess's chance; certain senders and their chances. -/
import Derived.Test.YtndfookgkkefnaaBT2
import Derived.Test.YtndfookgkkefnaaBA3
namespace Go.Proofs.Ytndfookgkkefnaa
set_option linter.unusedSimpArgs false
set_option linter.unusedVariables false
set_option linter.unusedSectionVars false
open Go
theorem chance_eq {xs : List (List Bool)} {s r : Nat} (h : 0 < cntV xs) (hs : s < xs.length) (hr : r < xs.length) :
    chance xs s r = ((((cntW xs s r).toNat / Nat.gcd (cntW xs s r).toNat (cntV xs).toNat : Nat) : Int), (((cntV xs).toNat / Nat.gcd (cntW xs s r).toNat (cntV xs).toNat : Nat) : Int)) := by
  have h1 : ∀ q : Nat, q < xs.length → isP xs q = true := fun q hq => by
    rw [isP_cnt]
    simp only [Bool.and_eq_true, decide_eq_true_eq]
    exact ⟨h, by omega, by omega⟩
  rw [chance, h1 s hs, h1 r hr]
  simp only [Int.toNat_natCast, gN]
  rfl
theorem cntV_bd (xs : List (List Bool)) : cntV xs ≤ 3125 := by
  unfold cntV
  split
  · rename_i hv
    obtain ⟨_, h5, _⟩ := validB_props hv
    exact (cntS_bd' h5 []).2
  · omega
/-- the best guess -/
theorem best_law {xs : List (List Bool)} {s : Int} (h : 0 ≤ bestS xs s) : ∃ o a b : Nat, bestS xs s = o ∧ o < xs.length ∧ chance xs s o = ((a : Int), (b : Int)) ∧ 0 < b ∧ a ≤ 3125 ∧ b ≤ 3125 ∧ b ≤ a * xs.length ∧ xs.length ≤ 5 ∧
    ∀ r : Nat, r < xs.length → ∃ c d : Nat, chance xs s r = ((c : Int), (d : Int)) ∧ c ≤ 3125 ∧ d ≤ 3125 ∧ c * b ≤ a * d ∧ (c * b = a * d → o ≤ r) := by
  unfold bestS at h ⊢
  split at h
  · rename_i hc
    rw [if_pos hc]
    simp only [Bool.and_eq_true, decide_eq_true_eq] at hc
    obtain ⟨hA, h0, hle⟩ := hc
    obtain ⟨s, rfl⟩ : ∃ s' : Nat, s = s' := ⟨s.toNat, by omega⟩
    rw [Int.toNat_natCast]
    have hs : s < xs.length := by omega
    have hv := cntV_pos hA
    obtain ⟨_, h5, _⟩ := validB_props hv
    have hlt := amax_lt (cntW xs s) xs.length
    have ho : amax (cntW xs s) xs.length < xs.length := by omega
    have hbd := fun r => cntW_bd h5 s r
    have hVb := cntV_bd xs
    have hhalf := cnt_half hv hs
    have hmax := amax_max (cntW xs s) xs.length
    have hfirst := amax_first (cntW xs s) xs.length
    generalize amax (cntW xs s) xs.length = o at *
    have hA' : 0 < (cntV xs).toNat := by omega
    have hg : ∀ r, 0 < Nat.gcd (cntW xs s r).toNat (cntV xs).toNat := fun r => Nat.gcd_pos_of_pos_right _ hA'
    have hle' : ∀ r, (cntW xs s r).toNat / Nat.gcd (cntW xs s r).toNat (cntV xs).toNat ≤ 3125 := fun r => Nat.le_trans (Nat.div_le_self _ _) (by have := hbd r; omega)
    have hld : ∀ r, (cntV xs).toNat / Nat.gcd (cntW xs s r).toNat (cntV xs).toNat ≤ 3125 := fun r => Nat.le_trans (Nat.div_le_self _ _) (by omega)
    refine ⟨o, _, _, rfl, ho, chance_eq hA hs ho, Nat.div_pos (Nat.le_of_dvd hA' (Nat.gcd_dvd_right _ _)) (hg o), hle' o, hld o, frac_half hA' ?_, h5, fun r hr => ⟨_, _, chance_eq hA hs hr, hle' r, hld r, ?_, fun e => ?_⟩⟩
    · have h1 := hbd o
      have h2 : (((xs.length * (cntW xs s o).toNat : Nat)) : Int) = (xs.length : Int) * cntW xs s o := by rw [Int.natCast_mul, Int.toNat_of_nonneg h1.1]
      omega
    · have := hmax r hr
      exact (frac_le hA').2 (by omega)
    · have h1 : (cntW xs s o).toNat ≤ (cntW xs s r).toNat := (frac_le hA').1 (by rw [e]; exact Nat.le_refl _)
      have h2 := hmax r hr
      have h3 := hbd o
      have h4 := hbd r
      exact hfirst r hr (by omega)
  · omega
/-- .. and a sender that is certain -/
def sureB (xs : List (List Bool)) (s k : Nat) : Bool := (List.range k).any fun (r : Nat) => (chance xs s r).1 == 1 && (chance xs s r).2 == 1
theorem sureB_succ (xs : List (List Bool)) (s k : Nat) : sureB xs s (k + 1) = (sureB xs s k || ((chance xs s k).1 == 1 && (chance xs s k).2 == 1)) := by
  simp only [sureB, List.range_succ, List.any_append, List.any_cons, List.any_nil, Bool.or_false]
theorem cert_law {xs : List (List Bool)} {s : Nat} (h : 0 < cntV xs) (hs : s < xs.length) : (certV xs).contains (s : Int) = sureB xs s xs.length := by
  have hA' : 0 < (cntV xs).toNat := by omega
  obtain ⟨_, h5, _⟩ := validB_props (cntV_pos h)
  rw [Bool.eq_iff_iff, List.contains_iff_mem, certV, if_pos h, certL_mem, sureB, List.any_eq_true]
  constructor
  · rintro ⟨_, r, hr, e⟩
    refine ⟨r, List.mem_range.2 hr, ?_⟩
    have h1 := (frac_one (n := (cntW xs s r).toNat) hA').2 (by rw [e])
    rw [chance_eq h hs hr]
    simp only [Bool.and_eq_true, beq_iff_eq]
    exact ⟨by omega, by omega⟩
  · rintro ⟨r, hr, e⟩
    have hr' := List.mem_range.1 hr
    rw [chance_eq h hs hr'] at e
    simp only [Bool.and_eq_true, beq_iff_eq] at e
    have h1 := (frac_one (n := (cntW xs s r).toNat) hA').1 ⟨by omega, by omega⟩
    have h2 := cntW_bd h5 s r
    exact ⟨hs, r, hr', by omega⟩
theorem chance_one : chance [[true]] 0 0 = (1, 1) := by decide +kernel
theorem cert_one : certV [[true]] = [0] := by decide +kernel
theorem best_one : bestS [[true]] 0 = 0 := by decide +kernel
end Go.Proofs.Ytndfookgkkefnaa
