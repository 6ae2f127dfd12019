/- Small facts for the laws over plans. -/
import Derived.Test.YtbeiacoplhbmeaaClose
import Derived.Test.YtbeiacoplhbmeaaCovC
namespace Go.Proofs.Ytbeiacoplhbmeaa
open Go Go.RowKit
set_option maxHeartbeats 400000
theorem wf_u8 {x : Int} (h : (Lit.int .u8 x).wf = true) : 0 ≤ x ∧ x ≤ 255 := by simpa [Lit.wf, IntKind.min, IntKind.max, IntKind.signed, IntKind.bits] using h
theorem num_int {p u : Int} {N : Nat} (hp : 1 ≤ p) (hu : 0 ≤ u) (h : Cov.num p u = N) : (N : Int) = u / p + 1 := by
  have := Int.ediv_nonneg hu (show 0 ≤ p by omega)
  rw [← h]; unfold Cov.num; omega
theorem mul_small {p u : Int} {N k : Nat} (hp : 1 ≤ p) (hu : 0 ≤ u) (h : Cov.num p u = N) (hk : k < N) : (k : Int) * p ≤ u := by
  have := num_int hp hu h
  exact (Int.le_ediv_iff_mul_le (by omega)).1 (by omega)
theorem num_mono {p a b : Int} (hp : 1 ≤ p) (ha : 0 ≤ a) (h : a ≤ b) : Cov.num p a ≤ Cov.num p b := by
  have h1 := num_int (N := Cov.num p a) hp ha rfl
  have h2 := num_int (N := Cov.num p b) hp (by omega) rfl
  have h3 : a / p ≤ b / p := Int.ediv_le_ediv (by omega) h
  omega
theorem plan_take (r : List Int) (p : Int) {M N : Nat} (h : M ≤ N) : (Cov.plan r p N).take M = Cov.plan r p M := by
  unfold Cov.plan
  rw [← List.map_take, List.take_range, Nat.min_eq_left h]
end Go.Proofs.Ytbeiacoplhbmeaa
