/- Plans of cover, as plain functions: which packet carries which letter. No program here. -/
namespace Go.Proofs.Ytbeiacoplhbmeaa.Cov
/-- letters sent before packet i -/
def nx (r : List Int) (p : Int) : Nat → Nat
  | 0 => 0
  | i + 1 => if nx r p i < r.length ∧ r.getD (nx r p i) 0 ≤ i * p then nx r p i + 1 else nx r p i
def hit (r : List Int) (p : Int) (i : Nat) : Bool := decide (nx r p i < r.length ∧ r.getD (nx r p i) 0 ≤ i * p)
def let_ (r : List Int) (p : Int) (i : Nat) : Int := if hit r p i then nx r p i else -1
def pk (r : List Int) (p : Int) (i : Nat) : Int × Int := (i * p, let_ r p i)
def plan (r : List Int) (p : Int) (n : Nat) : List (Int × Int) := (List.range n).map (pk r p)
def num (p u : Int) : Nat := (u / p).toNat + 1
def okAt (r : List Int) (i : Nat) : Bool := (decide (0 ≤ r.getD i 0) && decide (r.getD i 0 ≤ 40)) && !(decide (0 < i) && decide (r.getD i 0 < r.getD (i-1) 0))
def ok (r : List Int) (p u : Int) : Bool := (List.range r.length).all (okAt r) && (decide (1 ≤ p) && decide (p ≤ 9)) && (decide (0 ≤ u) && decide (u ≤ 40)) && decide (r.length ≤ 8)
def full (r : List Int) (p u : Int) : List (Int × Int) := if ok r p u then plan r p (num p u) else []
def cover (l : List (Int × Int)) : Nat := (l.filter (fun x => x.2 == -1)).length
/-- delay -/
def within (n a b : Int) : Bool := decide (a ≤ n) && decide (n ≤ b)
def dgo (r : List Int) : Int → List (Int × Int) → Int
  | m, [] => m
  | m, x :: l => if x.2 = -1 then dgo r m l else
    if within x.2 0 (r.length - 1) && within x.1 0 40 && within (r.getD x.2.toNat 0) 0 40 then dgo r (max m (x.1 - r.getD x.2.toNat 0)) l else -1
def delay (r : List Int) (l : List (Int × Int)) : Int := dgo r (-1) l

theorem nx_succ (r p i) : nx r p (i+1) = if hit r p i then nx r p i + 1 else nx r p i := by
  simp [nx, hit]
theorem nx_le (r p i) : nx r p i ≤ r.length := by
  induction i with
  | zero => simp [nx]
  | succ i ih => rw [nx]; split <;> omega
theorem nx_le_i (r p i) : nx r p i ≤ i := by
  induction i with
  | zero => simp [nx]
  | succ i ih => rw [nx]; split <;> omega
theorem plan_succ (r p n) : plan r p (n+1) = plan r p n ++ [pk r p n] := by
  simp [plan, List.range_succ]
theorem plan_length (r p n) : (plan r p n).length = n := by simp [plan]
theorem plan_get (r p n i) (h : i < n) : (plan r p n)[i]? = some (pk r p i) := by
  simp [plan, h]
theorem let_neg (r p i) : let_ r p i = -1 ↔ hit r p i = false := by
  unfold let_
  cases h : hit r p i <;> simp <;> omega
theorem let_hit (r p i) (h : hit r p i = true) : let_ r p i = nx r p i := by simp [let_, h]
theorem hit_spec (r p i) (h : hit r p i = true) : nx r p i < r.length ∧ r.getD (nx r p i) 0 ≤ i * p := by simpa [hit] using h
theorem cover_plan (r p n) : cover (plan r p n) + nx r p n = n := by
  induction n with
  | zero => simp [cover, plan, nx]
  | succ n ih =>
    rw [plan_succ, nx_succ]
    have : cover (plan r p n ++ [pk r p n]) = cover (plan r p n) + (if hit r p n then 0 else 1) := by
      simp only [cover, List.filter_append, List.length_append]
      congr 1
      cases h : hit r p n <;> simp [pk, let_, h] <;> omega
    rw [this]; split <;> omega
theorem nx_take (r : List Int) (p m i) (hm : m ≤ r.length) : nx (r.take m) p i = min (nx r p i) m := by
  induction i with
  | zero => simp [nx]
  | succ i ih =>
    have hl : (r.take m).length = m := by simp; omega
    rw [nx, nx, ih, hl]
    by_cases h : nx r p i < m
    · have e : min (nx r p i) m = nx r p i := by omega
      rw [e]
      have : (r.take m).getD (nx r p i) 0 = r.getD (nx r p i) 0 := by
        simp [List.getD, h]
      rw [this]
      by_cases c : r.getD (nx r p i) 0 ≤ i * p
      · rw [if_pos ⟨h, c⟩, if_pos ⟨by omega, c⟩]; omega
      · rw [if_neg (fun hh => c hh.2), if_neg (fun hh => c hh.2)]; omega
    · have e : min (nx r p i) m = m := by omega
      rw [e, if_neg (by omega)]
      split <;> omega

theorem ok_parts {r : List Int} {p u : Int} : ok r p u = true ↔ (∀ i, i < r.length → okAt r i = true) ∧ (1 ≤ p ∧ p ≤ 9) ∧ (0 ≤ u ∧ u ≤ 40) ∧ r.length ≤ 8 := by
  simp [ok, and_assoc]
theorem ok_at_false {r : List Int} {p u : Int} {i : Nat} (hi : i < r.length) (h : okAt r i = false) : ok r p u = false := by
  cases hh : ok r p u with
  | false => rfl
  | true => rw [(ok_parts.1 hh).1 i hi] at h; cases h
theorem num_eq {p u : Int} {i : Nat} (hp : 1 ≤ p) (hu : 0 ≤ u) (h1 : u < i * p) (h2 : ∀ j : Nat, j < i → (j : Int) * p ≤ u) : i = num p u := by
  have hi : 0 < i := by
    rcases Nat.eq_zero_or_pos i with h | h
    · subst h; simp at h1; omega
    · exact h
  have h3 := h2 (i - 1) (by omega)
  have e : u / p = ((i - 1 : Nat) : Int) := by
    apply Int.le_antisymm
    · have : u / p < (i : Int) := Int.ediv_lt_of_lt_mul (by omega) (by simpa using h1)
      omega
    · exact (Int.le_ediv_iff_mul_le (by omega)).2 h3
  unfold num
  rw [e]; omega
theorem plan_len_num {r : List Int} {p u : Int} : (plan r p (num p u)).length = num p u := plan_length _ _ _
end Go.Proofs.Ytbeiacoplhbmeaa.Cov
