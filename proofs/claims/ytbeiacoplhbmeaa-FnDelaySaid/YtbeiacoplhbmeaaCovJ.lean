/- Plain laws of plans: letters less, no letters, one letter, delays. -/
import Derived.Test.YtbeiacoplhbmeaaCovI
import Derived.Test.YtbeiacoplhbmeaaCovD
import Derived.Test.YtbeiacoplhbmeaaCovG
namespace Go.Proofs.Ytbeiacoplhbmeaa
open Go Go.RowKit
theorem num_le {p u : Int} (hp : 1 ≤ p) (hu : 0 ≤ u) (hu40 : u ≤ 40) : Cov.num p u ≤ 41 := by
  have h := num_int hp hu (rfl : Cov.num p u = Cov.num p u)
  have : u / p ≤ 40 := Int.le_trans (Int.ediv_le_self _ hu) hu40
  omega
theorem full_len (r : List Int) (p u : Int) : (Cov.full r p u).length ≤ 41 := by
  unfold Cov.full
  split
  · rename_i h
    have hp := Cov.ok_parts.1 h
    rw [Cov.plan_length]
    exact num_le hp.2.1.1 hp.2.2.1.1 hp.2.2.1.2
  · simp
theorem full_ok {r : List Int} {p u : Int} (h : Cov.ok r p u = true) : Cov.full r p u = Cov.plan r p (Cov.num p u) := by simp [Cov.full, h]
theorem okAt_take {r : List Int} {m i : Nat} (hi : i < m) : Cov.okAt (r.take m) i = Cov.okAt r i := by
  have h1 : (r.take m).getD i 0 = r.getD i 0 := by simp [List.getD, hi]
  have h2 : (r.take m).getD (i - 1) 0 = r.getD (i - 1) 0 := by simp [List.getD, show i - 1 < m by omega]
  unfold Cov.okAt; rw [h1, h2]
theorem ok_take {r : List Int} {p u : Int} (m : Nat) (h : Cov.ok r p u = true) : Cov.ok (r.take m) p u = true := by
  have hp := Cov.ok_parts.1 h
  refine Cov.ok_parts.2 ⟨fun i hi => ?_, hp.2.1, hp.2.2.1, by have := hp.2.2.2; simp; omega⟩
  rw [List.length_take] at hi
  rw [okAt_take (by omega)]
  exact hp.1 i (by omega)
theorem ok_nil {p u : Int} (hp : 1 ≤ p ∧ p ≤ 9) (hu : 0 ≤ u ∧ u ≤ 40) : Cov.ok [] p u = true := Cov.ok_parts.2 ⟨fun i hi => absurd hi (by simp), hp, hu, by simp⟩
theorem ok_one {t p u : Int} (ht : 0 ≤ t ∧ t ≤ 40) (hp : 1 ≤ p ∧ p ≤ 9) (hu : 0 ≤ u ∧ u ≤ 40) : Cov.ok [t] p u = true :=
  Cov.ok_parts.2 ⟨fun i hi => by obtain rfl : i = 0 := by simpa using hi
                                 simp [Cov.okAt, ht], hp, hu, by simp⟩
theorem ok_two {t p u : Int} (ht : 0 ≤ t ∧ t ≤ 8) (hp : 1 ≤ p ∧ p ≤ 9) (hu : 0 ≤ u ∧ u ≤ 40) : Cov.ok [t, 9] p u = true :=
  Cov.ok_parts.2 ⟨fun i hi => by rcases i with _ | _ | i
                                 · simp [Cov.okAt]; omega
                                 · simp [Cov.okAt]; omega
                                 · simp at hi; omega, hp, hu, by simp⟩
theorem fst_plan (r : List Int) (p : Int) (N : Nat) : (Cov.plan r p N).map Prod.fst = (List.range N).map (fun i : Nat => (i : Int) * p) := by
  simp [Cov.plan, Cov.pk, Function.comp_def]
theorem plan_drop (r : List Int) (p : Int) {N k : Nat} (h : k < N) : (Cov.plan r p N).drop k = Cov.pk r p k :: (Cov.plan r p N).drop (k + 1) := drop_ex (Cov.plan_get r p N k h)
theorem dstep_miss {r : List Int} {p m : Int} {N k : Nat} (h : k < N) (hh : Cov.hit r p k = false) : Cov.dgo r m ((Cov.plan r p N).drop k) = Cov.dgo r m ((Cov.plan r p N).drop (k + 1)) := by
  rw [plan_drop r p h, Cov.pk, (Cov.let_neg _ _ _).2 hh]; exact dgo_cover rfl
theorem win_of {n a b : Int} (h1 : a ≤ n) (h2 : n ≤ b) : win n a b = true := win_t.2 ⟨h1, h2⟩
theorem okAt_win {r : List Int} {i : Nat} {y : Int} (h : Cov.okAt r i = true) (hy : r[i]? = some y) : win y 0 40 = true := by
  rw [okAt_of hy, Bool.and_eq_true] at h; exact h.1
theorem dstep_hit {r : List Int} {p u m y : Int} {N k : Nat} (hr : ∀ i, i < r.length → Cov.okAt r i = true) (hp : 1 ≤ p) (hu : 0 ≤ u) (hu40 : u ≤ 40) (hN : Cov.num p u = N) (h : k < N) (hh : Cov.hit r p k = true) (hy : r[Cov.nx r p k]? = some y) :
    Cov.dgo r m ((Cov.plan r p N).drop k) = Cov.dgo r (max m (k * p - y)) ((Cov.plan r p N).drop (k + 1)) := by
  have hl := (List.getElem?_eq_some_iff.1 hy).1
  rw [plan_drop r p h, Cov.pk, Cov.let_hit _ _ _ hh]
  exact dgo_good (win_of (by omega) (by omega)) (win_of (Int.mul_nonneg (by omega) (by omega)) (Int.le_trans (mul_small hp hu hN h) hu40)) hy (okAt_win (hr _ hl) hy)
theorem hit_y {r : List Int} {p : Int} {k : Nat} (hh : Cov.hit r p k = true) : ∃ y, r[Cov.nx r p k]? = some y ∧ y ≤ k * p := by
  obtain ⟨h1, h2⟩ := Cov.hit_spec _ _ _ hh
  obtain ⟨y, hy⟩ := get_ex h1
  exact ⟨y, hy, by simpa [List.getD, hy] using h2⟩
/-- delays are at most a bound -/
theorem dgo_le {r : List Int} {p B : Int} {N : Nat} (hB : -1 ≤ B) (hP : ∀ i y, i < N → Cov.hit r p i = true → r[Cov.nx r p i]? = some y → i * p - y ≤ B) :
    ∀ (j k : Nat) (m : Int), k + j = N → m ≤ B → Cov.dgo r m ((Cov.plan r p N).drop k) ≤ B := by
  intro j
  induction j with
  | zero => intro k m hk hm; rw [List.drop_eq_nil_of_le (by rw [Cov.plan_length]; omega)]; exact hm
  | succ j ih =>
    intro k m hk hm
    have hkN : k < N := by omega
    cases hh : Cov.hit r p k with
    | false => rw [dstep_miss hkN hh]; exact ih (k + 1) m (by omega) hm
    | true =>
      obtain ⟨y, hy, hyk⟩ := hit_y hh
      have hl := (List.getElem?_eq_some_iff.1 hy).1
      rw [plan_drop r p hkN, Cov.pk, Cov.let_hit _ _ _ hh, Cov.dgo, if_neg (by omega)]
      split
      · have e : r.getD ((Cov.nx r p k : Int).toNat) 0 = y := by simp [List.getD, hy]
        rw [e]
        exact ih (k + 1) _ (by omega) (by have := hP k y hkN hh hy; omega)
      · exact hB
/-- where a letter is sent the delay is no less than nought -/
theorem delay_inv {r : List Int} {p u : Int} {N : Nat} (hr : ∀ i, i < r.length → Cov.okAt r i = true) (hp : 1 ≤ p) (hu : 0 ≤ u) (hu40 : u ≤ 40) (hN : Cov.num p u = N) :
    ∀ k, k ≤ N → ∃ m, Cov.delay r (Cov.plan r p N) = Cov.dgo r m ((Cov.plan r p N).drop k) ∧ -1 ≤ m ∧ (Cov.nx r p k = 0 ∨ 0 ≤ m) := by
  intro k
  induction k with
  | zero => intro _; exact ⟨-1, rfl, by omega, .inl rfl⟩
  | succ k ih =>
    intro hk
    obtain ⟨m, h1, h2, h3⟩ := ih (by omega)
    cases hh : Cov.hit r p k with
    | false => exact ⟨m, by rw [h1, dstep_miss (by omega) hh], h2, by rw [nx_miss hh]; exact h3⟩
    | true =>
      obtain ⟨y, hy, hyk⟩ := hit_y hh
      exact ⟨_, by rw [h1, dstep_hit hr hp hu hu40 hN (by omega) hh hy], by omega, .inr (by omega)⟩
theorem delay_end {r : List Int} {p : Int} {N : Nat} {m : Int} : Cov.dgo r m ((Cov.plan r p N).drop N) = m := by
  rw [List.drop_eq_nil_of_le (by rw [Cov.plan_length]; omega)]; rfl
theorem delay_nil (p : Int) (N : Nat) : Cov.delay [] (Cov.plan [] p N) = -1 := by
  have h : ∀ j k, k + j = N → Cov.dgo [] (-1) ((Cov.plan [] p N).drop k) = -1 := by
    intro j
    induction j with
    | zero => intro k hk; obtain rfl : k = N := by omega
              exact delay_end
    | succ j ih => intro k hk; rw [dstep_miss (by omega) (hit_end (by simp))]; exact ih (k + 1) (by omega)
  exact h N 0 (by omega)
theorem nx_nil (p : Int) (N : Nat) : Cov.nx [] p N = 0 := by have := Cov.nx_le [] p N; simpa using this
/-- a single letter -/
theorem one_wait (t p : Int) (i : Nat) (h : Cov.nx [t] p i = 0) : i = 0 ∨ ((i : Int) - 1) * p < t := by
  cases i with
  | zero => exact .inl rfl
  | succ i =>
    right
    cases hh : Cov.hit [t] p i with
    | true => rw [nx_hit hh] at h; omega
    | false =>
      have h0 : Cov.nx [t] p i = 0 := by rw [nx_miss hh] at h; exact h
      have : ¬ t ≤ (i : Int) * p := fun hle => by
        rw [hit_t (x := t) (by rw [h0]; rfl) rfl hle] at hh; cases hh
      rw [show ((i + 1 : Nat) : Int) - 1 = i from by omega]; omega
theorem one_nx (t p : Int) (i : Nat) (h : Cov.hit [t] p i = true) : Cov.nx [t] p i = 0 := by
  have := (Cov.hit_spec _ _ _ h).1
  simpa using this
theorem delay_one {t p u : Int} {N : Nat} (ht : 0 ≤ t ∧ t ≤ 40) (hp : 1 ≤ p) (hu : 0 ≤ u) (hu40 : u ≤ 40) (hN : Cov.num p u = N) :
    Cov.delay [t] (Cov.plan [t] p N) < p ∧ (0 ≤ Cov.delay [t] (Cov.plan [t] p N) ∨ ((N : Int) - 1) * p < t) := by
  constructor
  · have := dgo_le (r := [t]) (p := p) (B := p - 1) (N := N) (by omega) (fun i y hi hh hy => by
      have h0 := one_nx t p i hh
      rw [h0] at hy
      obtain rfl : t = y := by simpa using hy
      rcases one_wait t p i h0 with h | h
      · subst h; simp; omega
      · rw [Int.sub_mul] at h; omega) N 0 (-1) (by omega) (by omega)
    show Cov.dgo [t] (-1) (Cov.plan [t] p N) < p
    rw [List.drop_zero] at this; omega
  · have hr : ∀ i, i < [t].length → Cov.okAt [t] i = true := fun i hi => by
      obtain rfl : i = 0 := by simpa using hi
      simp [Cov.okAt, ht]
    obtain ⟨m, h1, h2, h3⟩ := delay_inv hr hp hu hu40 hN N (by omega)
    rw [delay_end] at h1
    rcases h3 with h3 | h3
    · rcases one_wait t p N h3 with h | h
      · have : 0 < N := by rw [← hN]; unfold Cov.num; omega
        omega
      · exact .inr h
    · left; omega
/-- at period 1 -/
theorem short_wait {r : List Int} (hr : ∀ i, i < r.length → Cov.okAt r i = true) (i : Nat) : ∀ y, r[Cov.nx r 1 i]? = some y → (i : Int) ≤ y + Cov.nx r 1 i := by
  induction i with
  | zero =>
    intro y hy
    have hl := (List.getElem?_eq_some_iff.1 hy).1
    have := win_t.1 (okAt_win (hr _ hl) hy)
    omega
  | succ i ih =>
    intro y hy
    cases hh : Cov.hit r 1 i with
    | true =>
      rw [nx_hit hh] at hy ⊢
      obtain ⟨z, hz, _⟩ := hit_y hh
      have h1 := ih z hz
      have hl := (List.getElem?_eq_some_iff.1 hy).1
      have h2 := hr _ hl
      rw [okAt_of hy] at h2
      have : ¬ y < z := fun hlt => by simp [List.getD, hz, hlt] at h2
      omega
    | false =>
      rw [nx_miss hh] at hy ⊢
      have : ¬ y ≤ (i : Int) * 1 := fun hle => by rw [hit_t hy rfl hle] at hh; cases hh
      omega
theorem delay_short {r : List Int} {N : Nat} (hr : ∀ i, i < r.length → Cov.okAt r i = true) : Cov.delay r (Cov.plan r 1 N) ≤ r.length := by
  have := dgo_le (r := r) (p := 1) (B := r.length) (N := N) (by omega) (fun i y hi hh hy => by
    have h1 := short_wait hr i y hy
    have h2 := Cov.nx_le r 1 i
    omega) N 0 (-1) (by omega) (by omega)
  rw [List.drop_zero] at this
  exact this
theorem cover_more {r : List Int} {p : Int} {N m : Nat} (hm : m ≤ r.length) : Cov.cover (Cov.plan r p N) ≤ Cov.cover (Cov.plan (r.take m) p N) := by
  have h1 := Cov.cover_plan r p N
  have h2 := Cov.cover_plan (r.take m) p N
  have h3 := Cov.nx_take r p m N hm
  omega
end Go.Proofs.Ytbeiacoplhbmeaa
