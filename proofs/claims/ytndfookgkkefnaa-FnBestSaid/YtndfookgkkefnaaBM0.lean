/- The measure of many goroutines: a list of trees, of which one falls. -/
import Derived.Test.YtndfookgkkefnaaBG
import Derived.Conc.CrowdBase
namespace Go.Proofs.Ytndfookgkkefnaa
set_option linter.unusedSimpArgs false
set_option linter.unusedVariables false
set_option linter.unusedSectionVars false
open Go Go.Conc

/-- a branch of a tree -/
inductive Sub : Rk → Rk → Prop
  | mk (f : Gh → Goroutine → World → Rk) (γ : Gh) (g : Goroutine) (w : World) : Sub (f γ g w) (.mk f)
theorem sub_acc (r : Rk) : Acc Sub r := by
  induction r with
  | leaf => exact ⟨_, fun y h => by cases h⟩
  | mk f ih => exact ⟨_, fun y h => by cases h with | mk _ γ g w => exact ih γ g w⟩
/-- one of the list falls -/
inductive LL {α : Type} (r : α → α → Prop) : List α → List α → Prop
  | head {a b : α} {l : List α} : r a b → LL r (a :: l) (b :: l)
  | tail {a : α} {l l' : List α} : LL r l l' → LL r (a :: l) (a :: l')
theorem ll_cons {α : Type} {r : α → α → Prop} {a : α} (ha : Acc r a) : ∀ {l : List α}, Acc (LL r) l → Acc (LL r) (a :: l) := by
  induction ha with
  | intro a _ iha =>
    intro l hl
    induction hl with
    | intro l hl ihl =>
      refine ⟨_, fun y h => ?_⟩
      cases h with
      | head hs => exact iha _ hs ⟨l, hl⟩
      | tail ht => exact ihl _ ht
theorem ll_acc {α : Type} {r : α → α → Prop} (hr : ∀ a, Acc r a) : ∀ l : List α, Acc (LL r) l
  | [] => ⟨_, fun y h => by cases h⟩
  | a :: l => ll_cons (hr a) (ll_acc hr l)
theorem LL.set {α : Type} {r : α → α → Prop} {a b : α} (h : r b a) : ∀ {l : List α} {i : Nat}, l[i]? = some a → LL r (l.set i b) l
  | _ :: _, 0, hi => by obtain rfl := Option.some.inj hi; exact .head h
  | _ :: _, i + 1, hi => .tail (LL.set h (by simpa using hi))
/-- a count as a tree -/
def Rk.ofNat : Nat → Rk
  | 0 => .leaf
  | n + 1 => .mk fun _ _ _ => Rk.ofNat n
theorem ofNat_sub (γ : Gh) (g : Goroutine) (w : World) (n : Nat) : Sub (Rk.ofNat n) (Rk.ofNat (n + 1)) := .mk (fun _ _ _ => Rk.ofNat n) γ g w
/-- a worker's: its stage, then its tree -/
abbrev WR := Nat × Rk
def WRlt : WR → WR → Prop := Prod.Lex (· < ·) Sub
theorem wr_wf : WellFounded WRlt := (Prod.lex (⟨_, Nat.lt_wfRel.wf⟩ : WellFoundedRelation Nat) ⟨Sub, ⟨sub_acc⟩⟩).wf
/-- the starter's tree, the workers' list, a bit -/
abbrev MR := Rk × (List WR × Nat)
def MRlt : MR → MR → Prop := Prod.Lex Sub (Prod.Lex (LL WRlt) (· < ·))
theorem mr_wf : WellFounded MRlt := (Prod.lex (⟨Sub, ⟨sub_acc⟩⟩ : WellFoundedRelation Rk) (Prod.lex (⟨LL WRlt, ⟨ll_acc fun a => wr_wf.apply a⟩⟩ : WellFoundedRelation (List WR)) ⟨_, Nat.lt_wfRel.wf⟩)).wf
/-- the list of the first j -/
def rowR (j : Nat) (R : Nat → WR) : List WR := (List.range j).map R
theorem rowR_upd (R : Nat → WR) {i j : Nat} {x : WR} (hi : i < j) (h : WRlt x (R i)) : LL WRlt (rowR j (ConcN.upd R i x)) (rowR j R) := by
  have e : rowR j (ConcN.upd R i x) = (rowR j R).set i x := by
    apply List.ext_getElem?
    intro k
    by_cases hk : i = k
    · subst hk
      simp [rowR, hi, ConcN.upd_same]
    · rw [List.getElem?_set_ne hk]
      simp only [rowR, List.getElem?_map, List.getElem?_range]
      rcases Nat.lt_or_ge k j with h1 | h1
      · simp [h1, ConcN.upd_ne R x (Ne.symm hk)]
      · simp [Nat.not_lt.2 h1]
  rw [e]
  exact LL.set h (by simp [rowR, hi])
end Go.Proofs.Ytndfookgkkefnaa
