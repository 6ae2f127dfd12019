/- A code that is opened: a law over bytes that starts goroutines. -/
import Derived.Test.YtndfookgkkefnaaBCl
import Derived.Test.YtndfookgkkefnaaBQ1
import Derived.ChangeSlices
namespace Go.Proofs.Ytndfookgkkefnaa
set_option linter.unusedSimpArgs false
set_option linter.unusedVariables false
set_option linter.unusedSectionVars false
open Go Go.Conc Go.RowKit Go.ChangeShapes Go.WideShapes Go.ChangeAt Go.Deep
set_option maxRecDepth 100000 in
theorem opn_code {H : Type} {enc : TypeId × Value → H} {W : World} {base : Nat} {v : Value} {d : DataW H} {p : List MemPlace}
    (hv : Value.okWide Try.prog W .any base 22 v) (h : DataW.Trod enc Try.prog W 0 (fun _ => true) true 22 v d p) :
    ∃ n : Nat, RowY (Gh.start W) W v n ∧ n < 9223372036854775808 := by
  obtain ⟨a, l, c, rfl⟩ := okWide_slice Try.underlying22 hv
  obtain ⟨fuel, hf⟩ := h
  have hml : maxLen < 9223372036854775808 := by simp only [maxLen]; omega
  rcases open_ints Try.underlying22 Try.underlying5 (by kernel_rfl) hf with ⟨hcs, _⟩ | ⟨a', len, cap, zs, hcs, _, hlc, hcm, hzl, _, hcell, hwf⟩
  · simp [Value.cells] at hcs
    obtain ⟨rfl, rfl, rfl⟩ := hcs
    exact ⟨0, ⟨none, 0, rfl, Nat.le_refl _, fun i hi => absurd hi (Nat.not_lt_zero i)⟩, by omega⟩
  · simp [Value.cells] at hcs
    obtain ⟨rfl, rfl, rfl⟩ := hcs
    simp only [if_true] at hzl
    refine ⟨l, ⟨some a', c, rfl, hlc, fun i hi => ?_⟩, by omega⟩
    obtain ⟨hs, hb⟩ := spot_none (hcell 0 (by omega))
    obtain ⟨b, o, s⟩ := a'
    obtain rfl : s = none := hs
    have hiz : i < zs.length := by omega
    have h1 := hcell i hiz
    have h2 := hwf zs[i] (List.getElem_mem hiz)
    rw [Addr.add_lit, List.getD_eq_getElem?_getD, List.getElem?_eq_getElem hiz, Option.getD_some] at h1
    have h3 : 0 ≤ zs[i] ∧ zs[i] ≤ 255 := by
      simp only [Lit.wf, Bool.and_eq_true, decide_eq_true_eq] at h2
      rw [show IntKind.min .u8 = 0 from by decide, show IntKind.max .u8 = 255 from by decide] at h2
      exact h2
    exact ⟨b, o, zs[i], rfl, hb, h3.1, h3.2, h1⟩
end Go.Proofs.Ytndfookgkkefnaa
