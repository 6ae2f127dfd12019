/- Small facts for the laws over plans. -/
import Derived.Test.YtbeiacoplhbmeaaClose
import Derived.Test.YtbeiacoplhbmeaaCovC
namespace Go.Proofs.Ytbeiacoplhbmeaa
open Go Go.RowKit
set_option maxHeartbeats 400000
theorem wf_u8 {x : Int} (h : (Lit.int .u8 x).wf = true) : 0 ≤ x ∧ x ≤ 255 := by simpa [Lit.wf, IntKind.min, IntKind.max, IntKind.signed, IntKind.bits] using h
theorem num_int {p u : Int} {N : Nat} (hp : 1 ≤ p) (hu : 0 ≤ u) (h : Cov.num p u = N) : (N : Int) = u / p + 1 := by
  have := Int.ediv_nonneg hu (show 0 ≤ p by omega)
  rw [← h]; unfold Cov.num; omega
theorem mul_small {p u : Int} {N k : Nat} (hp : 1 ≤ p) (hu : 0 ≤ u) (h : Cov.num p u = N) (hk : k < N) : (k : Int) * p ≤ u := by
  have := num_int hp hu h
  exact (Int.le_ediv_iff_mul_le (by omega)).1 (by omega)
end Go.Proofs.Ytbeiacoplhbmeaa
