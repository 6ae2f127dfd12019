/- Words for memory: a slice that reads as a list of data of some type, with the blocks that it reaches; and the same for a slice that the call made itself. -/
import Derived.WalkKit
import Derived.WalkSmall
import Derived.Deep.Draws
import Derived.Maps.AppendAt
import Derived.Deep.AppendLies
namespace Go.Proofs.Ytbkckjobhopicaa
open Go Go.RowKit

theorem hid {p : Prop} (h : p) : Hid p := h

/-- A type of data: how many cells a value takes, what its cells read as, which blocks that reaches. -/
structure Ty (α : Type) where
  k : Nat
  E : World → List Value → α → List Nat → Prop
  len : ∀ {w cs x F}, E w cs x F → cs.length = k
  keep : ∀ {w w' : World} {cs x F}, E w cs x F → (∀ b ∈ F, w'.heap[b]? = w.heap[b]?) → E w' cs x F
  lt : ∀ {w : World} {cs x F}, E w cs x F → ∀ b ∈ F, b < w.heap.size
  one : ∀ {w : World} {cs x F}, E w cs x F → ∀ u ∈ cs, u.oneCell' = true

def Ty.els {α : Type} (T : Ty α) (w : World) : List Value → List α → List Nat → Prop
  | cs, [], F => cs = [] ∧ F = []
  | cs, x :: xs, F => ∃ c1 c2 F1 F2, cs = c1 ++ c2 ∧ F = F1 ++ F2 ∧ T.E w c1 x F1 ∧ T.els w c2 xs F2

section
variable {α : Type} {T : Ty α} {w w' : World}

theorem Ty.els_len {cs : List Value} {xs : List α} {F : List Nat} (h : T.els w cs xs F) : cs.length = xs.length * T.k := by
  induction xs generalizing cs F with
  | nil => obtain ⟨rfl, rfl⟩ := h; simp
  | cons x xs ih =>
    obtain ⟨c1, c2, F1, F2, rfl, rfl, h1, h2⟩ := h
    rw [List.length_append, T.len h1, ih h2, List.length_cons, Nat.succ_mul]; omega
theorem Ty.els_keep {cs : List Value} {xs : List α} {F : List Nat} (h : T.els w cs xs F) (hk : ∀ b ∈ F, w'.heap[b]? = w.heap[b]?) : T.els w' cs xs F := by
  induction xs generalizing cs F with
  | nil => exact h
  | cons x xs ih =>
    obtain ⟨c1, c2, F1, F2, rfl, rfl, h1, h2⟩ := h
    exact ⟨c1, c2, F1, F2, rfl, rfl, T.keep h1 (fun b hb => hk b (List.mem_append_left _ hb)), ih h2 (fun b hb => hk b (List.mem_append_right _ hb))⟩
theorem Ty.els_lt {cs : List Value} {xs : List α} {F : List Nat} (h : T.els w cs xs F) : ∀ b ∈ F, b < w.heap.size := by
  induction xs generalizing cs F with
  | nil => obtain ⟨rfl, rfl⟩ := h; intro b hb; cases hb
  | cons x xs ih =>
    obtain ⟨c1, c2, F1, F2, rfl, rfl, h1, h2⟩ := h
    intro b hb
    rcases List.mem_append.1 hb with h | h
    · exact T.lt h1 b h
    · exact ih h2 b h
theorem Ty.els_append {c1 c2 : List Value} {xs ys : List α} {F G : List Nat} (h : T.els w c1 xs F) (h' : T.els w c2 ys G) : T.els w (c1 ++ c2) (xs ++ ys) (F ++ G) := by
  induction xs generalizing c1 F with
  | nil => obtain ⟨rfl, rfl⟩ := h; exact h'
  | cons x xs ih =>
    obtain ⟨a1, a2, F1, F2, rfl, rfl, h1, h2⟩ := h
    exact ⟨a1, a2 ++ c2, F1, F2 ++ G, by simp, by simp, h1, ih h2⟩
theorem Ty.els_one {c : List Value} {x : α} {F : List Nat} (h : T.E w c x F) : T.els w c [x] F := ⟨c, [], F, [], by simp, by simp, h, rfl, rfl⟩
theorem Ty.els_nil : T.els w [] [] [] := ⟨rfl, rfl⟩
/-- the i-th element's cells -/
theorem Ty.els_at {cs : List Value} {xs : List α} {F : List Nat} (h : T.els w cs xs F) {i : Nat} {x : α} (hx : xs[i]? = some x) :
    ∃ c G, T.E w c x G ∧ (∀ b ∈ G, b ∈ F) ∧ ∀ j u, c[j]? = some u → cs[i * T.k + j]? = some u := by
  induction xs generalizing cs F i with
  | nil => simp at hx
  | cons y xs ih =>
    obtain ⟨c1, c2, F1, F2, rfl, rfl, h1, h2⟩ := h
    cases i with
    | zero =>
      simp at hx; subst hx
      refine ⟨c1, F1, h1, fun b hb => List.mem_append_left _ hb, fun j u hj => ?_⟩
      have hl := (List.getElem?_eq_some_iff.1 hj).1
      rw [Nat.zero_mul, Nat.zero_add, List.getElem?_append_left hl]; exact hj
    | succ i =>
      obtain ⟨c, G, hE, hG, hc⟩ := ih h2 (by simpa using hx)
      refine ⟨c, G, hE, fun b hb => List.mem_append_right _ (hG b hb), fun j u hj => ?_⟩
      have hk := T.len h1
      rw [List.getElem?_append_right (by rw [hk, Nat.succ_mul]; omega), hk]
      rw [show (i + 1) * T.k + j - T.k = i * T.k + j from by rw [Nat.succ_mul]; omega]
      exact hc j u hj

theorem Ty.els_take {cs : List Value} {xs : List α} {F : List Nat} (h : T.els w cs xs F) (k : Nat) : ∃ (c1 : List Value) (G : List Nat), T.els w c1 (xs.take k) G ∧ (∀ b ∈ G, b ∈ F) ∧ ∀ (j : Nat) (u : Value), c1[j]? = some u → cs[j]? = some u := by
  induction xs generalizing cs F k with
  | nil => obtain ⟨rfl, rfl⟩ := h; exact ⟨[], [], by simp [Ty.els], (fun b hb => by cases hb), (fun j u hj => by cases hj)⟩
  | cons x xs ih =>
    cases k with
    | zero => exact ⟨[], [], by simp [Ty.els], (fun b hb => by cases hb), (fun j u hj => by cases hj)⟩
    | succ k =>
      obtain ⟨c1, c2, F1, F2, rfl, rfl, h1, h2⟩ := h
      obtain ⟨d, G, hd, hG, hdc⟩ := ih h2 k
      refine ⟨c1 ++ d, F1 ++ G, ⟨c1, d, F1, G, rfl, rfl, h1, hd⟩, fun b hb => ?_, fun j u hj => ?_⟩
      · rcases List.mem_append.1 hb with hb | hb
        · exact List.mem_append_left _ hb
        · exact List.mem_append_right _ (hG b hb)
      · by_cases hjl : j < c1.length
        · rw [List.getElem?_append_left hjl] at hj ⊢; exact hj
        · rw [List.getElem?_append_right (by omega)] at hj ⊢; exact hdc _ u hj
/-- v is a slice that reads as xs; F: the blocks that it reaches. -/
def Sl (T : Ty α) (w : World) (v : Value) (xs : List α) (F : List Nat) : Prop :=
  ∃ A c cs, v = .slice A xs.length c ∧ xs.length ≤ c ∧ c ≤ maxLen ∧
    ((xs = [] ∧ F = []) ∨ ∃ b o G, A = some ⟨b, o, none⟩ ∧ F = b :: G ∧ xs ≠ [] ∧ b < w.heap.size ∧ T.els w cs xs G ∧ ∀ j u, cs[j]? = some u → w.cell? ⟨b, o + j, none⟩ = some u)

theorem Sl.form {v : Value} {xs : List α} {F : List Nat} (h : Sl T w v xs F) : ∃ A c, v = .slice A xs.length c ∧ xs.length ≤ c ∧ c ≤ maxLen ∧ xs.length ≤ 9223372036854775807 := by
  obtain ⟨A, c, cs, h1, h2, h3, _⟩ := h
  exact ⟨A, c, h1, h2, h3, by unfold maxLen at h3; omega⟩
theorem Sl.nil (c : Nat) (A : Option Addr) (hc : c ≤ maxLen) : Sl T w (.slice A 0 c) [] [] := ⟨A, c, [], rfl, Nat.zero_le _, hc, .inl ⟨rfl, rfl⟩⟩
theorem Sl.at_ {A : Option Addr} {n c : Nat} {xs : List α} {F : List Nat} (h : Sl T w (.slice A n c) xs F) {i : Nat} {x : α} (hx : xs[i]? = some x) :
    ∃ b o cs G, A = some ⟨b, o, none⟩ ∧ b ∈ F ∧ b < w.heap.size ∧ T.E w cs x G ∧ (∀ g ∈ G, g ∈ F) ∧ ∀ j u, cs[j]? = some u → w.cell? ⟨b, o + (i * T.k + j), none⟩ = some u := by
  obtain ⟨A', c', cs, h1, h2, h3, h4⟩ := h
  injection h1 with e1 e2 e3; subst e1 e2 e3
  rcases h4 with ⟨rfl, rfl⟩ | ⟨b, o, G, rfl, rfl, hne, hb, hels, hc⟩
  · simp at hx
  · obtain ⟨c1, G1, hE, hG, hcc⟩ := Ty.els_at hels hx
    exact ⟨b, o, c1, G1, rfl, by simp, hb, hE, fun g hg => List.mem_cons_of_mem _ (hG g hg), fun j u hj => hc _ _ (hcc j u hj)⟩
theorem Sl.keep {v : Value} {xs : List α} {F : List Nat} (h : Sl T w v xs F) (hs : w.heap.size ≤ w'.heap.size) (hk : ∀ b ∈ F, w'.heap[b]? = w.heap[b]?) : Sl T w' v xs F := by
  obtain ⟨A, c, cs, h1, h2, h3, h4⟩ := h
  refine ⟨A, c, cs, h1, h2, h3, ?_⟩
  rcases h4 with h4 | ⟨b, o, G, rfl, rfl, hne, hb, hels, hc⟩
  · exact .inl h4
  · refine .inr ⟨b, o, G, rfl, rfl, hne, by omega, T.els_keep hels (fun b hb => hk b (List.mem_cons_of_mem _ hb)), fun j u hj => ?_⟩
    rw [World.cell?_of_block (w := w) (hk b (by simp))]; exact hc j u hj
theorem Sl.lt {v : Value} {xs : List α} {F : List Nat} (h : Sl T w v xs F) : ∀ b ∈ F, b < w.heap.size := by
  obtain ⟨A, c, cs, h1, h2, h3, h4⟩ := h
  rcases h4 with ⟨_, rfl⟩ | ⟨b, o, G, rfl, rfl, hne, hb, hels, hc⟩
  · intro b hb; cases hb
  · intro b' hb'
    rcases List.mem_cons.1 hb' with rfl | h
    · exact hb
    · exact Ty.els_lt hels b' h
theorem Sl.below {v : Value} {xs : List α} {F : List Nat} {B : Nat} (h : Sl T w v xs F) (hb : Below B w w') (hF : ∀ b ∈ F, b < B) : Sl T w' v xs F :=
  h.keep hb.size (fun b hm => hb.block b (hF b hm))

/-- a slice that reads as xs and lies below block B -/
def SlB (T : Ty α) (B : Nat) (w : World) (v : Value) (xs : List α) : Prop := ∃ F, Sl T w v xs F ∧ ∀ b ∈ F, b < B
theorem SlB.form {B : Nat} {v : Value} {xs : List α} (h : SlB T B w v xs) : ∃ A c, v = .slice A xs.length c ∧ xs.length ≤ c ∧ c ≤ maxLen ∧ xs.length ≤ 9223372036854775807 := by
  obtain ⟨F, h, _⟩ := h; exact h.form
theorem SlB.below {B B' : Nat} {v : Value} {xs : List α} (h : SlB T B w v xs) (hb : Below B' w w') (hB : B ≤ B') : SlB T B w' v xs := by
  obtain ⟨F, h, hF⟩ := h
  exact ⟨F, h.below hb (fun b hm => Nat.lt_of_lt_of_le (hF b hm) hB), hF⟩
theorem SlB.mono {B B' : Nat} {v : Value} {xs : List α} (h : SlB T B w v xs) (hB : B ≤ B') : SlB T B' w v xs := by
  obtain ⟨F, h, hF⟩ := h
  exact ⟨F, h, fun b hm => Nat.lt_of_lt_of_le (hF b hm) hB⟩
theorem SlB.at_ {B : Nat} {A : Option Addr} {n c : Nat} {xs : List α} (h : SlB T B w (.slice A n c) xs) {i : Nat} {x : α} (hx : xs[i]? = some x) :
    ∃ b o cs G, A = some ⟨b, o, none⟩ ∧ b < B ∧ b < w.heap.size ∧ T.E w cs x G ∧ (∀ g ∈ G, g < B) ∧ ∀ j u, cs[j]? = some u → w.cell? ⟨b, o + (i * T.k + j), none⟩ = some u := by
  obtain ⟨F, h, hF⟩ := h
  obtain ⟨b, o, cs, G, h1, h2, h2', h3, h4, h5⟩ := h.at_ hx
  exact ⟨b, o, cs, G, h1, hF b h2, h2', h3, fun g hg => hF g (h4 g hg), h5⟩
theorem SlB.of {F : List Nat} {v : Value} {xs : List α} (h : Sl T w v xs F) : SlB T w.heap.size w v xs := ⟨F, h, h.lt⟩

/-- v is a slice of the call's own (its block is one from B on) that holds xs; G: the blocks that its elements reach -/
def Own (T : Ty α) (e : TypeId) (B : Nat) (w : World) (v : Value) (xs : List α) (G : List Nat) : Prop :=
  ∃ cs, w.ownsRow B e T.k v xs.length cs ∧ T.els w cs xs G ∧ ∀ b, v.ownBlock = some b → b ∉ G

theorem ownsRow_keep {base : Nat} {e : TypeId} {size n : Nat} {v : Value} {xs : List Value} (h : w.ownsRow base e size v n xs) (hk : ∀ b, v.ownBlock = some b → w'.heap[b]? = w.heap[b]?) : w'.ownsRow base e size v n xs := by
  refine ⟨h.1, ?_⟩
  rcases h.2 with h | ⟨g, cap, cur, rfl, hb, hg, rest⟩
  · exact .inl h
  · exact .inr ⟨g, cap, cur, rfl, hb, (hk g rfl).trans hg, rest⟩
theorem ownsRow_base {base base' : Nat} {e : TypeId} {size n : Nat} {v : Value} {xs : List Value} (h : w.ownsRow base e size v n xs) (hb : ∀ b, v.ownBlock = some b → base' ≤ b) : w.ownsRow base' e size v n xs := by
  refine ⟨h.1, ?_⟩
  rcases h.2 with h | ⟨g, cap, cur, rfl, _, hg, rest⟩
  · exact .inl h
  · exact .inr ⟨g, cap, cur, rfl, hb g rfl, hg, rest⟩
theorem Own.keep {e B : Nat} {v : Value} {xs : List α} {G : List Nat} (h : Own T e B w v xs G) (hv : ∀ b, v.ownBlock = some b → w'.heap[b]? = w.heap[b]?) (hk : ∀ b ∈ G, w'.heap[b]? = w.heap[b]?) : Own T e B w' v xs G := by
  obtain ⟨cs, h1, h2, h3⟩ := h
  exact ⟨cs, ownsRow_keep h1 hv, T.els_keep h2 hk, h3⟩
theorem Own.top {e B : Nat} {v : Value} {xs : List α} {G : List Nat} (h : Own T e B w v xs G) : ∀ b, v.ownBlock = some b → B ≤ b ∧ b < w.heap.size := by
  obtain ⟨cs, h1, h2, h3⟩ := h
  exact h1.lt
theorem Own.lt {e B : Nat} {v : Value} {xs : List α} {G : List Nat} (h : Own T e B w v xs G) : ∀ b ∈ G, b < w.heap.size := by
  obtain ⟨cs, h1, h2, h3⟩ := h
  exact Ty.els_lt h2
theorem Own.below {e B n : Nat} {v : Value} {xs : List α} {G : List Nat} (h : Own T e B w v xs G) (hb : Below n w w') (hn : w.heap.size ≤ n) : Own T e B w' v xs G :=
  h.keep (fun b hm => hb.block b (Nat.lt_of_lt_of_le (h.top b hm).2 hn)) (fun b hm => hb.block b (Nat.lt_of_lt_of_le (h.lt b hm) hn))
theorem Own.nil (e B : Nat) : Own T e B w (.slice none 0 0) [] [] := ⟨[], World.ownsRow_nil _ _ _ _, ⟨rfl, rfl⟩, fun _ _ h => by cases h⟩
theorem Own.base {e B B' : Nat} {v : Value} {xs : List α} {G : List Nat} (h : Own T e B w v xs G) (hB : B' ≤ B) : Own T e B' w v xs G := by
  obtain ⟨cs, h1, h2, h3⟩ := h
  exact ⟨cs, ownsRow_base h1 (fun b hb => Nat.le_trans hB (h1.lt b hb).1), h2, h3⟩
/-- another row is written -/
theorem Own.kept {e B : Nat} {v : Value} {xs : List α} {G : List Nat} {row : Option Nat} (h : Own T e B w v xs G) (hg : w.grownBy w' row) (hv : ∀ b, row = some b → v.ownBlock ≠ some b ∧ b ∉ G) : Own T e B w' v xs G :=
  h.keep (fun b hm => hg.block b (h.top b hm).2 (fun e => (hv b e.symm).1 hm)) (fun b hm => hg.block b (h.lt b hm) (fun e => (hv b e.symm).2 hm))
/-- what is owned reads -/
theorem Own.sl {e B : Nat} {v : Value} {xs : List α} {G : List Nat} (h : Own T e B w v xs G) : ∃ F', Sl T w v xs F' ∧ ∀ b ∈ F', v.ownBlock = some b ∨ b ∈ G := by
  obtain ⟨cs, h1, h2, h3⟩ := h
  rcases h1.2 with ⟨rfl, hn⟩ | ⟨g, cap, cur, rfl, hb, hg, hnc, hcm, hsz, htk⟩
  · have : xs = [] := List.eq_nil_of_length_eq_zero hn
    subst this
    exact ⟨[], ⟨none, 0, [], rfl, Nat.le_refl _, by simp [maxLen], .inl ⟨rfl, rfl⟩⟩, fun b hb => by cases hb⟩
  · by_cases hx : xs = []
    · subst hx
      exact ⟨[], ⟨some ⟨g, 0, none⟩, cap, [], rfl, hnc, hcm, .inl ⟨rfl, rfl⟩⟩, fun b hb => by cases hb⟩
    · refine ⟨g :: G, ⟨some ⟨g, 0, none⟩, cap, cs, rfl, hnc, hcm, .inr ⟨g, 0, G, rfl, rfl, hx, (Array.getElem?_eq_some_iff.1 hg).1, h2, fun j u hj => ?_⟩⟩, ?_⟩
      · have hl := (List.getElem?_eq_some_iff.1 hj).1
        rw [Nat.zero_add, h1.cellAt j (by rw [h1.1] at hl; exact hl)]; exact hj
      · intro b hb
        rcases List.mem_cons.1 hb with rfl | hb
        · exact .inl rfl
        · exact .inr hb
theorem Own.slB {e B : Nat} {v : Value} {xs : List α} {G : List Nat} (h : Own T e B w v xs G) : SlB T w.heap.size w v xs := by
  obtain ⟨F', h', hF⟩ := h.sl
  exact ⟨F', h', h'.lt⟩
theorem Own.form {e B : Nat} {v : Value} {xs : List α} {G : List Nat} (h : Own T e B w v xs G) : ∃ A c, v = .slice A xs.length c ∧ xs.length ≤ c ∧ c ≤ maxLen ∧ xs.length ≤ 9223372036854775807 := h.slB.form

/-- new memory: what a call hands back -/
def NewS (T : Ty α) (e : TypeId) (B : Nat) (w' : World) (v : Value) (xs : List α) : Prop :=
  ∃ G, Own T e B w' v xs G ∧ G.Nodup ∧ ∀ b ∈ G, B ≤ b
theorem NewS.slB {e B : Nat} {v : Value} {xs : List α} (h : NewS T e B w v xs) : SlB T w.heap.size w v xs := by
  obtain ⟨F, h, _⟩ := h; exact h.slB
theorem NewS.nil (e B : Nat) : NewS T e B w (.slice none 0 0) [] := ⟨[], Own.nil e B, List.nodup_nil, fun b hb => by cases hb⟩
theorem NewS.below {e B n : Nat} {v : Value} {xs : List α} (h : NewS T e B w v xs) (hb : Below n w w') (hn : w.heap.size ≤ n) : NewS T e B w' v xs := by
  obtain ⟨F, h, h2, h3⟩ := h
  exact ⟨F, h.below hb hn, h2, h3⟩
end

theorem oneCell_of_els {α : Type} {T : Ty α} {w : World} {cs : List Value} {xs : List α} {F : List Nat} (h : T.els w cs xs F) : ∀ u ∈ cs, u.oneCell' = true := by
  induction xs generalizing cs F with
  | nil => obtain ⟨rfl, rfl⟩ := h; intro u hu; cases hu
  | cons x xs ih =>
    obtain ⟨c1, c2, F1, F2, rfl, rfl, h1, h2⟩ := h
    intro u hu
    rcases List.mem_append.1 hu with hu | hu
    · exact T.one h1 u hu
    · exact ih h2 u hu

section
variable {α : Type} {T : Ty α} {P : Program} {w : World}
/-- append onto a slice of the call's own, of whatever slice, nil and empty ones too -/
theorem run_app {t ty e : TypeId} {i : TypeInfo} {z : Value} {bytes B : Nat} (ht : P.underlying t = some (.slice e)) (hi : P.info? e = some i) (hz : i.zero = some z)
    (hsize : i.size = T.k) (hby : i.bytes = bytes) (hzs : z.cells.size = T.k) (hk : 0 < T.k)
    {v : Value} {xs ys : List α} {G0 G1 : List Nat} (hown : Own T e B w v xs G0) (A : Option Addr) (c : Nat) (hsl : Sl T w (.slice A ys.length c) ys G1)
    (hd : ∀ b, v.ownBlock = some b → b ∉ G1.tail) (hb : (xs.length + ys.length) * bytes ≤ 140737488355328) (hm : xs.length + ys.length ≤ maxLen) (hB : B ≤ w.heap.size) :
    ∃ v' w', (Builtin.append_ #[t, t] ty #[v, .slice A ys.length c]).run P w = .ok v' w' ∧ Own T e B w' v' (xs ++ ys) (G0 ++ G1.tail) ∧ w.grownBy w' v.ownBlock ∧
      (v'.ownBlock = v.ownBlock ∨ v'.ownBlock = some w.heap.size) := by
  obtain ⟨cs, h1, h2, h3⟩ := hown
  obtain ⟨A', c', ds, e1, _, _, h4⟩ := hsl
  injection e1 with e1 _ e3; subst e1 e3
  have fin : ∀ (v' : Value) (w' : World) (ds' : List Value) (G : List Nat), T.els w ds' ys G → G1.tail = G → w'.ownsRow B e T.k v' (xs.length + ys.length) (cs ++ ds') → w.grownBy w' v.ownBlock → (v'.ownBlock = v.ownBlock ∨ v'.ownBlock = some w.heap.size) →
      Own T e B w' v' (xs ++ ys) (G0 ++ G1.tail) := by
    intro v' w' ds' G hE hG hrow hg hat
    subst hG
    refine ⟨cs ++ ds', by rw [List.length_append]; exact hrow, Ty.els_append (T.els_keep h2 fun b hb => hg.block b (Ty.els_lt h2 b hb) (fun e => h3 b e.symm hb)) (T.els_keep hE fun b hb => hg.block b (Ty.els_lt hE b hb) (fun e => hd b e.symm hb)), ?_⟩
    intro b hvb hm
    rcases hat with hat | hat
    · rw [hat] at hvb
      rcases List.mem_append.1 hm with hm | hm
      · exact h3 b hvb hm
      · exact hd b hvb hm
    · rw [hat] at hvb
      injection hvb with hvb; subst hvb
      rcases List.mem_append.1 hm with hm | hm
      · exact absurd (Ty.els_lt h2 _ hm) (Nat.lt_irrefl _)
      · exact absurd (Ty.els_lt hE _ hm) (Nat.lt_irrefl _)
  rcases h4 with ⟨rfl, rfl⟩ | ⟨b, o, G, rfl, rfl, hne, hbw, hels, hc⟩
  · rcases A with _ | ad
    · refine ⟨v, w, ?_, ?_, World.grownBy.refl w _, .inl rfl⟩
      · rcases h1.2 with ⟨rfl, h0⟩ | ⟨g, cap, cur, rfl, _, _, hnc, _⟩
        · rw [h0] at *
          simp [Builtin.append_, run_underlying ht, sizeOf, typeInfo, hi, Builtin.lenOf, Builtin.firstCells]
        · simp [Builtin.append_, run_underlying ht, sizeOf, typeInfo, hi, Builtin.lenOf, Builtin.firstCells, hnc, storeCells]
      · exact fin v w [] [] ⟨rfl, rfl⟩ rfl (by simpa using h1) (World.grownBy.refl w _) (.inl rfl)
    · obtain ⟨v', w', hrun, r2, r3, _, r5⟩ := run_append_own_at (P := P) w B t ty e i z T.k bytes ht hi hz hsize hby hzs hk v xs.length cs h1 ad 0 c [] (by simp) (by simp) (by simp) (by simpa using hm) (by simpa using hb) hB
      exact ⟨v', w', hrun, fin v' w' [] [] ⟨rfl, rfl⟩ rfl (by simpa using r2) r3 r5, r3, r5⟩
  · obtain ⟨v', w', hrun, r2, r3, _, r5⟩ := run_append_own_at (P := P) w B t ty e i z T.k bytes ht hi hz hsize hby hzs hk v xs.length cs h1 ⟨b, o, none⟩ ys.length c ds (Ty.els_len hels)
      (fun j u hj => by
        have := hc j u hj
        rcases Nat.eq_zero_or_pos j with h | h
        · subst h; simpa [Addr.add] using this
        · simpa [Addr.add, Nat.ne_of_gt h] using this)
      (oneCell_of_els hels) hm hb hB
    exact ⟨v', w', hrun, fin v' w' ds G hels rfl r2 r3 r5, r3, r5⟩

theorem wp_app {o : Oper} {a : Act} {K : Act → World → Prop} {Q : Exit → Act → World → Prop} (s x : Operand) (t : TypeId)
    (ho : o.op = .call { callee := .builtin .append, args := #[s, x], argTypes := #[t, t] }) (T : Ty α)
    {e : TypeId} {i : TypeInfo} {z : Value} {bytes B : Nat} (ht : P.underlying t = some (.slice e)) (hi : P.info? e = some i) (hz : i.zero = some z)
    (hsize : i.size = T.k) (hby : i.bytes = bytes) (hzs : z.cells.size = T.k) (hk : 0 < T.k)
    {v : Value} {xs ys : List α} {G0 G1 : List Nat} (hs : a.eval s = v) (hown : Own T e B w v xs G0) (A : Option Addr) (n c : Nat) (hx : a.eval x = .slice A n c) (hsl : Sl T w (.slice A n c) ys G1)
    (hd : ∀ b, v.ownBlock = some b → b ∉ G1.tail) (hb : (xs.length + ys.length) * bytes ≤ 140737488355328) (hm : xs.length + ys.length ≤ maxLen) (hB : B ≤ w.heap.size)
    (h : ∀ v' w', Own T e B w' v' (xs ++ ys) (G0 ++ G1.tail) → w.grownBy w' v.ownBlock → (v'.ownBlock = v.ownBlock ∨ v'.ownBlock = some w.heap.size) → K (a.put o.dst v') w') : o.wp P a w K Q := by
  have hn : n = ys.length := by obtain ⟨_, _, _, e, _⟩ := hsl; injection e
  subst hn
  obtain ⟨v', w', hrun, h2, h3, h4⟩ := run_app (P := P) (ty := o.type) ht hi hz hsize hby hzs hk hown A c hsl hd hb hm hB
  unfold Oper.wp execOp
  simp only [ho, resolve, invoke, builtin, Sem.run_bind, Sem.run_pure, Result.andThen_ok, List.map_toArray, List.map_cons, List.map_nil, hs, hx, hrun]
  exact h v' w' h2 h3 h4
theorem wpList_app {ops : Array Oper} {rest : List Oper} {o : Oper} {a : Act} {Q : Exit → Act → World → Prop} (hgd : o.guard = none) (s x : Operand) (t : TypeId)
    (ho : o.op = .call { callee := .builtin .append, args := #[s, x], argTypes := #[t, t] }) (T : Ty α)
    {e : TypeId} {i : TypeInfo} {z : Value} {bytes B : Nat} (ht : P.underlying t = some (.slice e)) (hi : P.info? e = some i) (hz : i.zero = some z)
    (hsize : i.size = T.k) (hby : i.bytes = bytes) (hzs : z.cells.size = T.k) (hk : 0 < T.k)
    {v : Value} {xs ys : List α} {G0 G1 : List Nat} (hs : a.eval s = v) (hown : Own T e B w v xs G0) (A : Option Addr) (n c : Nat) (hx : a.eval x = .slice A n c) (hsl : Sl T w (.slice A n c) ys G1)
    (hd : ∀ b, v.ownBlock = some b → b ∉ G1.tail) (hb : (xs.length + ys.length) * bytes ≤ 140737488355328) (hm : xs.length + ys.length ≤ maxLen) (hB : B ≤ w.heap.size)
    (h : ∀ v' w', Own T e B w' v' (xs ++ ys) (G0 ++ G1.tail) → w.grownBy w' v.ownBlock → (v'.ownBlock = v.ownBlock ∨ v'.ownBlock = some w.heap.size) → wpList P ops Q rest (a.put o.dst v') w') : wpList P ops Q (o :: rest) a w :=
  wpList_plain hgd fun _ hK => wp_app s x t ho T ht hi hz hsize hby hzs hk hs hown A n c hx hsl hd hb hm hB fun v' w' h2 h3 h4 => hK _ _ (h v' w' h2 h3 h4)
/-- make([]T, 0, n) -/
theorem wpList_mk0 {ops : Array Oper} {rest : List Oper} {o : Oper} {a : Act} {Q : Exit → Act → World → Prop}
    (hg : o.guard = none) (l c : Operand) (t : TypeId) (hop : o.op = Op.makeSlice t l c) (T : Ty α)
    {e : TypeId} {i : TypeInfo} {z : Value} {B : Nat} (h1 : P.underlying t = some (.slice e)) (h2 : P.info? e = some i) (h3 : i.zero = some z) (h4 : i.size = T.k)
    {kl kc : IntKind} {C : Int} (n : Nat) (hl : a.eval l = .int kl 0) (hc : a.eval c = .int kc C) (hC : C = (n : Int)) (b2 : i.bytes * n ≤ 281474976710656) (b3 : n ≤ maxLen) (b4 : B ≤ w.heap.size)
    (hK : ∀ w', Own T e B w' (.slice (some ⟨w.heap.size, 0, none⟩) 0 n) [] [] → w.grownBy w' none → wpList P ops Q rest (a.put o.dst (.slice (some ⟨w.heap.size, 0, none⟩) 0 n)) w') :
    wpList P ops Q (o :: rest) a w :=
  wpList_make_own w hg l c t hop B e i z T.k h1 h2 h3 h4 kl kc C n hl hc hC b2 b3 b4 fun w' hown hgr => hK w' ⟨[], hown, ⟨rfl, rfl⟩, fun _ _ h => by cases h⟩ hgr
/-- make([]T, n) -/
theorem wpList_mkN {ops : Array Oper} {rest : List Oper} {o : Oper} {a : Act} {Q : Exit → Act → World → Prop}
    (hg : o.guard = none) (l c : Operand) (t : TypeId) (hop : o.op = Op.makeSlice t l c) (T : Ty α) (x0 : α)
    {e : TypeId} {i : TypeInfo} {z : Value} {B : Nat} (h1 : P.underlying t = some (.slice e)) (h2 : P.info? e = some i) (h3 : i.zero = some z) (h4 : i.size = T.k)
    {kl kc : IntKind} {L C : Int} (n : Nat) (hl : a.eval l = .int kl L) (hc : a.eval c = .int kc C) (hL : L = (n : Int)) (hC : C = (n : Int)) (b2 : i.bytes * n ≤ 281474976710656) (b3 : n ≤ maxLen) (b4 : B ≤ w.heap.size)
    (h0 : ∀ w, T.els w (madeCells z.cells (n * T.k)).toList (List.replicate n x0) [])
    (hK : ∀ w', Own T e B w' (.slice (some ⟨w.heap.size, 0, none⟩) n n) (List.replicate n x0) [] → w.grownBy w' none → wpList P ops Q rest (a.put o.dst (.slice (some ⟨w.heap.size, 0, none⟩) n n)) w') :
    wpList P ops Q (o :: rest) a w :=
  wpList_make_full w hg l c t hop B e i z T.k h1 h2 h3 h4 kl kc L C n hl hc hL hC b2 b3 b4 fun w' hown hgr => hK w' ⟨_, by rw [List.length_replicate]; exact hown, h0 w', fun _ _ h => by cases h⟩ hgr
end

/-- Data whose cells name no block: one list of cells for each datum. -/
def Ty.flat {α : Type} (k : Nat) (f : α → List Value) (hf : ∀ x, (f x).length = k) (h1 : ∀ x, ∀ u ∈ f x, u.oneCell' = true) : Ty α where
  k := k
  E := fun _ cs x F => cs = f x ∧ F = []
  len := by rintro w cs x F ⟨rfl, _⟩; exact hf x
  keep := by intro w w' cs x F h _; exact h
  lt := by rintro w cs x F ⟨_, rfl⟩ b hb; cases hb
  one := by rintro w cs x F ⟨rfl, _⟩; exact h1 x

def tInt : Ty Int := Ty.flat 1 (fun n => [.int .i64 n]) (fun _ => rfl) (fun _ u hu => by simp at hu; subst hu; rfl)
def tByte : Ty Int := Ty.flat 1 (fun n => [.int .u8 n]) (fun _ => rfl) (fun _ u hu => by simp at hu; subst hu; rfl)
def tBool : Ty Bool := Ty.flat 1 (fun b => [.bool b]) (fun _ => rfl) (fun _ u hu => by simp at hu; subst hu; rfl)
def tTwo : Ty (Int × Int) := Ty.flat 2 (fun s => [.int .i64 s.1, .int .i64 s.2]) (fun _ => rfl) (fun _ u hu => by simp at hu; rcases hu with rfl | rfl <;> rfl)

theorem els_flat {α : Type} {k : Nat} {f : α → List Value} {hf : ∀ x, (f x).length = k} {h1 : ∀ x, ∀ u ∈ f x, u.oneCell' = true} {w : World} {cs : List Value} {xs : List α} {F : List Nat} :
    (Ty.flat k f hf h1).els w cs xs F ↔ cs = xs.flatMap f ∧ F = [] := by
  induction xs generalizing cs F with
  | nil => simp [Ty.els]
  | cons x xs ih =>
    simp only [Ty.els, List.flatMap_cons]
    constructor
    · rintro ⟨c1, c2, F1, F2, rfl, rfl, ⟨rfl, rfl⟩, h2⟩
      obtain ⟨rfl, rfl⟩ := ih.1 h2
      exact ⟨rfl, rfl⟩
    · rintro ⟨rfl, rfl⟩
      exact ⟨f x, xs.flatMap f, [], [], rfl, rfl, ⟨rfl, rfl⟩, ih.2 ⟨rfl, rfl⟩⟩

/-- a slice of numbers, at one of its places -/
theorem SlB.int {B : Nat} {w : World} {A : Option Addr} {n c : Nat} {xs : List Int} (h : SlB tInt B w (.slice A n c) xs) {i : Nat} {x : Int} (hx : xs[i]? = some x) :
    ∃ b o, A = some ⟨b, o, none⟩ ∧ b < B ∧ b < w.heap.size ∧ w.cell? ⟨b, o + i, none⟩ = some (.int .i64 x) := by
  obtain ⟨b, o, cs, G, h1, h2, h2', ⟨rfl, _⟩, _, h5⟩ := h.at_ hx
  exact ⟨b, o, h1, h2, h2', by simpa [tInt, Ty.flat] using h5 0 _ rfl⟩
theorem SlB.bool {B : Nat} {w : World} {A : Option Addr} {n c : Nat} {xs : List Bool} (h : SlB tBool B w (.slice A n c) xs) {i : Nat} {x : Bool} (hx : xs[i]? = some x) :
    ∃ b o, A = some ⟨b, o, none⟩ ∧ b < B ∧ b < w.heap.size ∧ w.cell? ⟨b, o + i, none⟩ = some (.bool x) := by
  obtain ⟨b, o, cs, G, h1, h2, h2', ⟨rfl, _⟩, _, h5⟩ := h.at_ hx
  exact ⟨b, o, h1, h2, h2', by simpa [tBool, Ty.flat] using h5 0 _ rfl⟩
theorem SlB.two {B : Nat} {w : World} {A : Option Addr} {n c : Nat} {xs : List (Int × Int)} (h : SlB tTwo B w (.slice A n c) xs) {i : Nat} {x : Int × Int} (hx : xs[i]? = some x) :
    ∃ b o, A = some ⟨b, o, none⟩ ∧ b < B ∧ b < w.heap.size ∧ w.cell? ⟨b, o + i * 2, none⟩ = some (.int .i64 x.1) ∧ w.cell? ⟨b, o + i * 2 + 1, none⟩ = some (.int .i64 x.2) := by
  obtain ⟨b, o, cs, G, h1, h2, h2', ⟨rfl, _⟩, _, h5⟩ := h.at_ hx
  exact ⟨b, o, h1, h2, h2', by simpa [tTwo, Ty.flat] using h5 0 _ rfl, by simpa [tTwo, Ty.flat, Nat.add_assoc] using h5 1 _ rfl⟩
theorem get_ex {α : Type} {xs : List α} {k : Nat} (h : k < xs.length) : ∃ x, xs[k]? = some x := ⟨xs[k], List.getElem?_eq_getElem h⟩
theorem take_ex {α : Type} {xs : List α} {k : Nat} {x : α} (h : xs[k]? = some x) : xs.take (k + 1) = xs.take k ++ [x] := by
  rw [List.take_add_one, h]; rfl
theorem Below.any {B : Nat} {w w' : World} (h : Below w.heap.size w w') (hB : B ≤ w.heap.size) : Below B w w' := h.mono hB

/-- data that name no block -/
def Ty.isFlat {α : Type} (T : Ty α) : Prop := ∀ {w cs x F}, T.E w cs x F → F = []
theorem flat_flat {α : Type} {k : Nat} {f : α → List Value} {hf : ∀ x, (f x).length = k} {h1 : ∀ x, ∀ u ∈ f x, u.oneCell' = true} : (Ty.flat k f hf h1).isFlat := fun h => h.2
theorem tInt_flat : tInt.isFlat := flat_flat
theorem tBool_flat : tBool.isFlat := flat_flat
theorem tTwo_flat : tTwo.isFlat := flat_flat
theorem els_isFlat {α : Type} {T : Ty α} (hT : T.isFlat) {w : World} {cs : List Value} {xs : List α} {F : List Nat} (h : T.els w cs xs F) : F = [] := by
  induction xs generalizing cs F with
  | nil => exact h.2
  | cons x xs ih =>
    obtain ⟨c1, c2, F1, F2, rfl, rfl, h1, h2⟩ := h
    rw [hT h1, ih h2]; rfl
theorem sl_isFlat {α : Type} {T : Ty α} (hT : T.isFlat) {w : World} {v : Value} {xs : List α} {F : List Nat} (h : Sl T w v xs F) : F.tail = [] := by
  obtain ⟨_, _, _, _, _, _, h4⟩ := h
  rcases h4 with ⟨_, rfl⟩ | ⟨_, _, _, _, rfl, _, _, h, _⟩
  · rfl
  · exact els_isFlat hT h
theorem own_isFlat {α : Type} {T : Ty α} (hT : T.isFlat) {e B : Nat} {w : World} {v : Value} {xs : List α} {G : List Nat} (h : Own T e B w v xs G) : G = [] := by
  obtain ⟨cs, _, h, _⟩ := h
  exact els_isFlat hT h
section
variable {α : Type} {T : Ty α} {P : Program} {w : World}
/-- append of flat data -/
theorem wpList_appF {ops : Array Oper} {rest : List Oper} {o : Oper} {a : Act} {Q : Exit → Act → World → Prop} (hgd : o.guard = none) (s x : Operand) (t : TypeId)
    (ho : o.op = .call { callee := .builtin .append, args := #[s, x], argTypes := #[t, t] }) (T : Ty α) (hT : T.isFlat)
    {e : TypeId} {i : TypeInfo} {z : Value} {bytes B : Nat} (ht : P.underlying t = some (.slice e)) (hi : P.info? e = some i) (hz : i.zero = some z)
    (hsize : i.size = T.k) (hby : i.bytes = bytes) (hzs : z.cells.size = T.k) (hk : 0 < T.k) (hby0 : 0 < bytes)
    {v : Value} {xs ys : List α} (hs : a.eval s = v) (hown : Own T e B w v xs []) (A : Option Addr) (n c : Nat) (hx : a.eval x = .slice A n c) (hsl : ∃ F, Sl T w (.slice A n c) ys F)
    (hb : (xs.length + ys.length) * bytes ≤ 140737488355328) (hB : B ≤ w.heap.size)
    (h : ∀ v' w', Own T e B w' v' (xs ++ ys) [] → w.grownBy w' v.ownBlock → (v'.ownBlock = v.ownBlock ∨ v'.ownBlock = some w.heap.size) → wpList P ops Q rest (a.put o.dst v') w') : wpList P ops Q (o :: rest) a w := by
  obtain ⟨F, hsl⟩ := hsl
  have hF := sl_isFlat hT hsl
  refine wpList_app hgd s x t ho T ht hi hz hsize hby hzs hk hs hown A n c hx hsl (fun b _ => by rw [hF]; intro h; cases h) hb ?_ hB fun v' w' h2 h3 h4 => h v' w' ?_ h3 h4
  · have : xs.length + ys.length ≤ (xs.length + ys.length) * bytes := Nat.le_mul_of_pos_right _ hby0
    unfold maxLen; omega
  · rw [hF] at h2; exact h2
/-- the one element that 'append(out, x)' lays in a block of its own -/
theorem Sl.box {cs : List Value} {x : α} {G : List Nat} {e : TypeId} {f : Nat × Nat} (h : T.E w cs x G) :
    Sl T (w.alloc (.cells cs.toArray e f)) (.slice (some ⟨w.heap.size, 0, none⟩) 1 1) [x] (w.heap.size :: G) := by
  refine ⟨_, 1, cs, rfl, Nat.le_refl _, by simp [maxLen], .inr ⟨w.heap.size, 0, G, rfl, rfl, by simp, by simp, Ty.els_one (T.keep h fun b hb => ?_), fun j u hj => ?_⟩⟩
  · exact Below.heap_alloc _ _ _ (T.lt h b hb)
  · have hh : (w.alloc (.cells cs.toArray e f)).heap[w.heap.size]? = some (.cells cs.toArray e f) := heap_alloc_new w _
    rw [Nat.zero_add, cell_of_row _ _ j cs.toArray e f hh]
    simpa using hj
theorem Own.at_ {e B : Nat} {A : Option Addr} {n c : Nat} {xs : List α} {G : List Nat} (h : Own T e B w (.slice A n c) xs G) {i : Nat} {x : α} (hx : xs[i]? = some x) :
    ∃ g cs G', A = some ⟨g, 0, none⟩ ∧ B ≤ g ∧ g < w.heap.size ∧ g ∉ G ∧ T.E w cs x G' ∧ (∀ b ∈ G', b ∈ G) ∧ (∀ j u, cs[j]? = some u → w.cell? ⟨g, i * T.k + j, none⟩ = some u) ∧ ∀ j, w.frozen? ⟨g, j, none⟩ = false := by
  obtain ⟨cs, h1, h2, h3⟩ := h
  have hl : i < xs.length := (List.getElem?_eq_some_iff.1 hx).1
  have h1' := h1
  rcases h1.2 with ⟨_, h0⟩ | ⟨g, cap, cur, e1, hb, hg, hnc, hcm, hsz, htk⟩
  · omega
  · injection e1 with e1 e2 e3; subst e1 e2 e3
    obtain ⟨c1, G1, hE, hG, hcc⟩ := Ty.els_at h2 hx
    refine ⟨g, c1, G1, rfl, hb, (Array.getElem?_eq_some_iff.1 hg).1, h3 g rfl, hE, hG, fun j u hj => ?_, fun j => h1'.frozenAt j⟩
    have := hcc j u hj
    rw [h1'.cellAt _ (by have := (List.getElem?_eq_some_iff.1 this).1; rw [h1'.1] at this; exact this)]
    exact this
end
theorem grown_set {w wr : World} {g : Nat} (h : w.grownBy wr (some g)) (i : Nat) (u : Value) : w.grownBy (wr.setCell ⟨g, i, none⟩ u) (some g) :=
  ⟨h.os, h.tape, h.output, by simpa [World.setCell] using h.size, fun k hk hne => (Below.heap_setCell _ _ _ _ (fun e => hne (by rw [e]))).trans (h.block k hk hne)⟩
theorem grown_drewN {w wr : World} {r : Option Nat} (h : w.grownBy wr r) (n : Nat) : w.grownBy (wr.drewN n) r := ⟨h.os, h.tape, h.output, h.size, h.block⟩
theorem grown_trans {a b c : World} {r : Option Nat} (h : a.grownBy b r) (k : b.grownBy c r) : a.grownBy c r :=
  ⟨k.os.trans h.os, k.tape.trans h.tape, k.output.trans h.output, Nat.le_trans h.size k.size, fun i hi hne => (k.block i (Nat.lt_of_lt_of_le hi h.size) hne).trans (h.block i hi hne)⟩
theorem grown_below {a b : World} {r : Option Nat} (h : Below a.heap.size a b) : a.grownBy b r := ⟨h.os, h.tape, h.output, h.size, fun i hi _ => h.block i hi⟩
theorem Below.of_grown {a b : World} {r : Option Nat} {B : Nat} (h : a.grownBy b r) (hB : B ≤ a.heap.size) (hr : ∀ k, r = some k → B ≤ k) : Below B a b := (Below.refl _ _).grown h hB hr
theorem Own.slB' {α : Type} {T : Ty α} {w : World} {e B : Nat} {v : Value} {xs : List α} {G : List Nat} (h : Own T e B w v xs G) : ∃ F, Sl T w v xs F := let ⟨F, h, _⟩ := h.sl; ⟨F, h⟩
theorem flatMap_single {α β : Type} (f : α → β) (xs : List α) : xs.flatMap (fun n => [f n]) = xs.map f := by induction xs <;> simp_all
/-- flat numbers in an owned row -/
theorem Own.int {w : World} {e B : Nat} {A : Option Addr} {n c : Nat} {xs : List Int} {G : List Nat} (h : Own tInt e B w (.slice A n c) xs G) {i : Nat} {x : Int} (hx : xs[i]? = some x) :
    ∃ g, A = some ⟨g, 0, none⟩ ∧ B ≤ g ∧ g < w.heap.size ∧ w.cell? ⟨g, i, none⟩ = some (.int .i64 x) ∧ ∀ j, w.frozen? ⟨g, j, none⟩ = false := by
  obtain ⟨g, cs, G', h1, h2, h3, _, ⟨rfl, _⟩, _, h4, h5⟩ := h.at_ hx
  exact ⟨g, h1, h2, h3, by simpa [tInt, Ty.flat] using h4 0 _ rfl, h5⟩
theorem Own.int_set {w : World} {e B g n c i : Nat} {xs : List Int} {G : List Nat} (h : Own tInt e B w (.slice (some ⟨g, 0, none⟩) n c) xs G) (x : Int) : Own tInt e B (w.setCell ⟨g, i, none⟩ (.int .i64 x)) (.slice (some ⟨g, 0, none⟩) n c) (xs.set i x) G := by
  obtain ⟨cs, h1, h2, h3⟩ := h
  obtain ⟨rfl, rfl⟩ := els_flat.1 h2
  have hn : n = xs.length := by
    rcases h1.2 with ⟨e, _⟩ | ⟨g, cap, cur, e, _⟩
    · cases e
    · injection e
  subst hn
  refine ⟨(xs.set i x).flatMap (fun n => [.int .i64 n]), ?_, els_flat.2 ⟨rfl, rfl⟩, fun _ _ h => by cases h⟩
  rw [List.length_set, flatMap_single, List.map_set, ← flatMap_single]
  exact (h1.stored i (.int .i64 x)).1
theorem Own.two {w : World} {e B : Nat} {A : Option Addr} {n c : Nat} {xs : List (Int × Int)} {G : List Nat} (h : Own tTwo e B w (.slice A n c) xs G) {i : Nat} {x : Int × Int} (hx : xs[i]? = some x) :
    ∃ g, A = some ⟨g, 0, none⟩ ∧ B ≤ g ∧ g < w.heap.size ∧ w.cell? ⟨g, i * 2, none⟩ = some (.int .i64 x.1) ∧ w.cell? ⟨g, i * 2 + 1, none⟩ = some (.int .i64 x.2) ∧ ∀ j, w.frozen? ⟨g, j, none⟩ = false := by
  obtain ⟨g, cs, G', h1, h2, h3, _, ⟨rfl, _⟩, _, h4, h5⟩ := h.at_ hx
  exact ⟨g, h1, h2, h3, by simpa [tTwo, Ty.flat] using h4 0 _ rfl, by simpa [tTwo, Ty.flat] using h4 1 _ rfl, h5⟩
theorem flat_two_set {α : Type} (f g : α → Value) (xs : List α) (i : Nat) (hi : i < xs.length) (x : α) :
    ((xs.flatMap (fun s => [f s, g s])).set (i * 2) (f x)).set (i * 2 + 1) (g x) = (xs.set i x).flatMap (fun s => [f s, g s]) := by
  induction xs generalizing i with
  | nil => simp at hi
  | cons y ys ih =>
    cases i with
    | zero => simp
    | succ i =>
      have := ih i (by simpa using hi)
      simp only [List.flatMap_cons, List.set_cons_succ, List.cons_append, List.nil_append, Nat.succ_mul]
      rw [this]
theorem Own.len {α : Type} {T : Ty α} {w : World} {e B n c : Nat} {A : Option Addr} {xs : List α} {G : List Nat} (h : Own T e B w (.slice A n c) xs G) : n = xs.length := by
  obtain ⟨_, _, e, _⟩ := h.form; injection e
/-- one cell of a pair is written: the row as its cells -/
theorem ownsRow_set {w : World} {e B k g n c : Nat} {cs : List Value} (h : w.ownsRow B e k (.slice (some ⟨g, 0, none⟩) n c) n cs) (j : Nat) (u : Value) : (w.setCell ⟨g, j, none⟩ u).ownsRow B e k (.slice (some ⟨g, 0, none⟩) n c) n (cs.set j u) := (h.stored j u).1
theorem Own.two_set {w : World} {e B g n c i : Nat} {xs : List (Int × Int)} {G : List Nat} (h : Own tTwo e B w (.slice (some ⟨g, 0, none⟩) n c) xs G) (hi : i < xs.length) (x : Int × Int) :
    Own tTwo e B ((w.setCell ⟨g, i * 2, none⟩ (.int .i64 x.1)).setCell ⟨g, i * 2 + 1, none⟩ (.int .i64 x.2)) (.slice (some ⟨g, 0, none⟩) n c) (xs.set i x) G := by
  have hn := h.len
  subst hn
  obtain ⟨cs, h1, h2, h3⟩ := h
  obtain ⟨rfl, rfl⟩ := els_flat.1 h2
  refine ⟨(xs.set i x).flatMap (fun s => [.int .i64 s.1, .int .i64 s.2]), ?_, els_flat.2 ⟨rfl, rfl⟩, fun _ _ h => by cases h⟩
  rw [List.length_set, ← flat_two_set (fun s => Value.int .i64 s.1) (fun s => Value.int .i64 s.2) xs i hi x]
  exact ownsRow_set (ownsRow_set h1 _ _) _ _
theorem fill_set {α : Type} (xs : List α) (d x : α) (j : Nat) (hx : xs[j]? = some x) : (xs.take j ++ List.replicate (xs.length - j) d).set j x = xs.take (j + 1) ++ List.replicate (xs.length - (j + 1)) d := by
  have hj : j < xs.length := (List.getElem?_eq_some_iff.1 hx).1
  have hl : (xs.take j).length = j := by simp; omega
  rw [List.set_append_right _ _ (by omega), hl, Nat.sub_self, take_ex hx, List.append_assoc, show xs.length - j = (xs.length - (j + 1)) + 1 from by omega, List.replicate_succ]
  rfl
theorem fill_at {α : Type} (xs : List α) (d : α) (j : Nat) (h : j < xs.length) : (xs.take j ++ List.replicate (xs.length - j) d)[j]? = some d := by
  have hl : (xs.take j).length = j := by simp; omega
  rw [List.getElem?_append_right (by omega), hl, Nat.sub_self, List.getElem?_replicate, if_pos (by omega)]
theorem fill_len {α : Type} (xs : List α) (d : α) (j : Nat) (h : j ≤ xs.length) : (xs.take j ++ List.replicate (xs.length - j) d).length = xs.length := by simp; omega
theorem zeros_int (n : Nat) (w : World) : tInt.els w (madeCells (Value.int .i64 0).cells (n * tInt.k)).toList (List.replicate n 0) [] := by
  refine els_flat.2 ⟨?_, rfl⟩
  rw [flatMap_single, List.map_replicate]
  exact (toList_madeCells_one _ _).trans (by simp [tInt, Ty.flat])
theorem NewS.base {α : Type} {T : Ty α} {w : World} {e B B' : Nat} {v : Value} {xs : List α} (h : NewS T e B w v xs) (hB : B' ≤ B) : NewS T e B' w v xs := by
  obtain ⟨G, h1, h2, h3⟩ := h
  exact ⟨G, h1.base hB, h2, fun b hb => Nat.le_trans hB (h3 b hb)⟩
theorem Sl.box' {α : Type} {T : Ty α} {w : World} {cs : List Value} {x : α} {G : List Nat} {e : TypeId} (n : Nat) (hn : n = w.heap.size) (h : T.E w cs x G) :
    ∃ F, Sl T (w.alloc (.cells cs.toArray e)) (.slice (some ⟨n, 0, none⟩) 1 1) [x] F := by subst hn; exact ⟨_, Sl.box h⟩
theorem SlB.drewN {α : Type} {T : Ty α} {B : Nat} {w : World} {v : Value} {xs : List α} (h : SlB T B w v xs) (hB : B ≤ w.heap.size) (n : Nat) : SlB T B (w.drewN n) v xs := h.below (below_drewN (Below.refl w.heap.size _) n) hB
theorem sl_keep {α : Type} {T : Ty α} {w w' : World} {v : Value} {xs : List α} {F : List Nat} (h : Sl T w v xs F) (hk : ∀ b ∈ F, w'.heap[b]? = w.heap[b]?) : Sl T w' v xs F := by
  obtain ⟨A, c, cs, h1, h2, h3, h4⟩ := h
  refine ⟨A, c, cs, h1, h2, h3, ?_⟩
  rcases h4 with h4 | ⟨b, o, G, rfl, rfl, hne, hb, hels, hc⟩
  · exact .inl h4
  · have hbb := hk b (by simp)
    refine .inr ⟨b, o, G, rfl, rfl, hne, ?_, T.els_keep hels (fun b hb => hk b (List.mem_cons_of_mem _ hb)), fun j u hj => ?_⟩
    · rcases Nat.lt_or_ge b w'.heap.size with h | h
      · exact h
      · rw [Array.getElem?_eq_none h, Array.getElem?_eq_getElem hb] at hbb; cases hbb
    · rw [World.cell?_of_block (w := w) hbb]; exact hc j u hj
def Ty.sl {α : Type} (T : Ty α) : Ty (List α) where
  k := 1
  E := fun w cs xs F => ∃ v, cs = [v] ∧ Sl T w v xs F
  len := by rintro w cs xs F ⟨v, rfl, _⟩; rfl
  keep := by rintro w w' cs xs F ⟨v, rfl, h⟩ hk; exact ⟨v, rfl, sl_keep h hk⟩
  lt := by rintro w cs xs F ⟨v, rfl, h⟩; exact h.lt
  one := by
    rintro w cs xs F ⟨v, rfl, h⟩ u hu
    obtain ⟨A, c, rfl, _⟩ := h.form
    simp at hu; subst hu; rfl
theorem SlB.take {α : Type} {T : Ty α} {B : Nat} {w : World} {A : Option Addr} {n c : Nat} {xs : List α} (h : SlB T B w (.slice A n c) xs) (k : Nat) (hk : k ≤ n) : SlB T B w (.slice A k c) (xs.take k) := by
  obtain ⟨F, ⟨A', c', cs, e1, h2, h3, h4⟩, hF⟩ := h
  injection e1 with e1 e2 e3; subst e1 e2 e3
  have hlen : (xs.take k).length = k := by simp; omega
  have mk : ∀ F', ((xs.take k = [] ∧ F' = []) ∨ ∃ b o G, A = some ⟨b, o, none⟩ ∧ F' = b :: G ∧ xs.take k ≠ [] ∧ b < w.heap.size ∧ ∃ cs', T.els w cs' (xs.take k) G ∧ ∀ j u, cs'[j]? = some u → w.cell? ⟨b, o + j, none⟩ = some u) → (∀ b ∈ F', b < B) → SlB T B w (.slice A k c) (xs.take k) := by
    intro F' h hB
    rcases h with h | ⟨b, o, G, h5, h6, h7, h8, cs', h9, h10⟩
    · exact ⟨F', ⟨A, c, [], by rw [hlen], by omega, h3, .inl h⟩, hB⟩
    · exact ⟨F', ⟨A, c, cs', by rw [hlen], by omega, h3, .inr ⟨b, o, G, h5, h6, h7, h8, h9, h10⟩⟩, hB⟩
  by_cases h0 : xs.take k = []
  · exact mk [] (.inl ⟨h0, rfl⟩) (fun b hb => by cases hb)
  · rcases h4 with ⟨rfl, rfl⟩ | ⟨b, o, G, rfl, rfl, hne, hb, hels, hc⟩
    · simp at h0
    · obtain ⟨c1, G1, hE1, hG1, hc1⟩ := Ty.els_take hels k
      exact mk (b :: G1) (.inr ⟨b, o, G1, rfl, rfl, h0, hb, c1, hE1, fun j u hj => hc j u (hc1 j u hj)⟩) (fun b' hb' => by
        rcases List.mem_cons.1 hb' with rfl | hb'
        · exact hF _ (by simp)
        · exact hF _ (by simp [hG1 _ hb']))
theorem SlB.go {α : Type} {T : Ty α} {w w' : World} {v : Value} {xs : List α} (h : SlB T w.heap.size w v xs) (hb : Below w.heap.size w w') : SlB T w'.heap.size w' v xs := (h.below hb (Nat.le_refl _)).mono hb.size
theorem bt {a b c : World} (h : Below a.heap.size a b) (k : Below b.heap.size b c) : Below a.heap.size a c := h.trans (k.mono h.size)
theorem Own.go {α : Type} {T : Ty α} {e B : Nat} {w w' : World} {v : Value} {xs : List α} {G : List Nat} (h : Own T e B w v xs G) (hb : Below w.heap.size w w') : Own T e B w' v xs G := h.below hb (Nat.le_refl _)
theorem lit_below (w : World) (o : Obj) : Below w.heap.size w (w.alloc o) := (Below.refl _ _).alloc (Nat.le_refl _) _
theorem rowcell (w : World) (cs : Array Value) (e i : Nat) (v : Value) (h : cs[i]? = some v) : (w.alloc (.cells cs e)).cell? ⟨w.heap.size, i, none⟩ = some v := by
  rw [cell_of_row _ _ i cs e (0, 0) (heap_alloc_new w _)]; exact h
end Go.Proofs.Ytbkckjobhopicaa
