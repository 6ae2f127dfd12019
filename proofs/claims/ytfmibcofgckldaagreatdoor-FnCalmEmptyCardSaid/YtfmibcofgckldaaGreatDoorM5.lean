/- Texts that the last file leans on (part 5). -/
import Derived.Handy
import Derived.Test.YtfmibcofgckldaaGreatDoorM2
import Derived.Test.YtfmibcofgckldaaGreatDoorM4
set_option linter.unusedVariables false
set_option linter.unusedSimpArgs false
set_option maxHeartbeats 4000000
set_option maxRecDepth 100000
namespace Go.Proofs.YtfmibcofgckldaaGreatDoor
open Go Go.RowKit
def ao {α : Type} (T : Ty α) (B : Nat) (w : World) (cs : List Value) (x : α) : Prop := ∃ F, T.E w cs x F ∧ F.Nodup ∧ ∀ b ∈ F, B ≤ b
theorem ao.go {α : Type} {T : Ty α} {B n : Nat} {w w' : World} {cs : List Value} {x : α} (h : ao T B w cs x) (hb : Below n w w') (hn : w.heap.size ≤ n) : ao T B w' cs x := by
 obtain ⟨F, h1, h2, h3⟩ := h
 exact ⟨F, T.keep h1 (fun b hm => hb.block b (Nat.lt_of_lt_of_le (T.lt h1 b hm) hn)), h2, h3⟩
theorem ao.base {α : Type} {T : Ty α} {B B' : Nat} {w : World} {cs : List Value} {x : α} (h : ao T B w cs x) (hB : B' ≤ B) : ao T B' w cs x := by
 obtain ⟨F, h1, h2, h3⟩ := h
 exact ⟨F, h1, h2, fun b hb => Nat.le_trans hB (h3 b hb)⟩
theorem ao.set {α : Type} {T : Ty α} {B : Nat} {w : World} {cs : List Value} {x : α} {p : Addr} {u : Value} (h : ao T B w cs x) (hp : p.block < B) : ao T B (w.setCell p u) cs x := by
 obtain ⟨F, h1, h2, h3⟩ := h
 exact ⟨F, T.keep h1 (fun b hm => Below.heap_setCell _ _ _ _ (fun e => by have := h3 b hm; omega)), h2, h3⟩
theorem ng {B : Nat} {w : World} {v : Value} {xs : List Int} (h : be ae 3 B w v xs) : ao bK B w [v] xs := by
 obtain ⟨G, ho, _, _⟩ := h
 obtain rfl := am ai ho
 refine ⟨v.ownBlock.toList ++ [], ⟨v, [], rfl, ho.base (Nat.zero_le _), rfl⟩, ?_, fun b hb => ?_⟩
 ·cases v.ownBlock <;> simp
 ·simp at hb; exact (ho.top b hb).1
theorem cW {w w' : World} {a b c : Obj} (hb : Below (((w.alloc a).alloc b).alloc c).heap.size (((w.alloc a).alloc b).alloc c) w') : w'.heap[w.heap.size]? = some a ∧ w'.heap[w.heap.size + 1]? = some b ∧ w'.heap[w.heap.size + 1 + 1]? = some c := by
 have e1 : (w.alloc a).heap.size = w.heap.size + 1 := by simp
 have e2 : ((w.alloc a).alloc b).heap.size = w.heap.size + 1 + 1 := by simp
 have h1 := heap_go (bt (lit_below _ b) (bt (lit_below _ c) hb)) (heap_alloc_new w a)
 have h2 := heap_go (bt (lit_below _ c) hb) (heap_alloc_new (w.alloc a) b)
 have h3 := heap_go hb (heap_alloc_new ((w.alloc a).alloc b) c)
 rw [e1] at h2; rw [e2] at h3
 exact ⟨h1, h2, h3⟩
theorem aQ {w : World} {n t : Nat} {a b c d : Value} (h : w.heap[n]? = some (.cells #[a, b, c, d] t (0, 0))) :
  w.cell? ⟨n, 0, none⟩ = some a ∧ w.cell? ⟨n, 1, none⟩ = some b ∧ w.cell? ⟨n, 2, none⟩ = some c ∧ w.cell? ⟨n, 3, none⟩ = some d ∧ ∀ j, w.frozen? ⟨n, j, none⟩ = false :=
 ⟨by rw [cell_of_row w n 0 _ _ _ h]; rfl, by rw [cell_of_row w n 1 _ _ _ h]; rfl, by rw [cell_of_row w n 2 _ _ _ h]; rfl, by rw [cell_of_row w n 3 _ _ _ h]; rfl, fun j => frozen_of_row w n j _ _ h⟩
theorem Own.base' {α : Type} {T : Ty α} {e B B' : Nat} {w : World} {v : Value} {xs : List α} {G : List Nat} (h : Own T e B w v xs G) (hB : ∀ b, v.ownBlock = some b → B' ≤ b) : Own T e B' w v xs G := by
 obtain ⟨cs, h1, h2, h3⟩ := h
 exact ⟨cs, ii h1 hB, h2, h3⟩
theorem jh {B B1 B2 : Nat} {w : World} {p : Pk} {uh ub : Value} (h1 : Own ae 3 B1 w uh p.hd []) (h2 : Own ae 3 B2 w ub p.bd []) (hB1 : B ≤ B1) (hB2 : B ≤ B2) (ht : ∀ b, uh.ownBlock = some b → b < B2) : ao oPk B w [.int .i64 p.el, uh, .int .i64 p.tag, ub] p := by
 refine ⟨_, ⟨[_], _, [], _, rfl, rfl, ⟨rfl, rfl⟩, [_], _, _, _, rfl, rfl, ⟨uh, [], rfl, h1.base (Nat.zero_le _), rfl⟩, [_], [_], [], _, rfl, rfl, ⟨rfl, rfl⟩, ⟨ub, [], rfl, h2.base (Nat.zero_le _), rfl⟩⟩, ?_, ?_⟩
 ·have e : ∀ a b, uh.ownBlock = some a → ub.ownBlock = some b → a ≠ b := fun a b ha hb he => by have x1 := ht a ha; have x2 := (h2.top b hb).1; omega
  cases hu : uh.ownBlock <;> cases hv : ub.ownBlock <;> simp
  exact e _ _ hu hv
 ·intro b hb
  simp at hb
  rcases hb with hb | hb
  ·exact Nat.le_trans hB1 (h1.top b hb).1
  ·exact Nat.le_trans hB2 (h2.top b hb).1
theorem al {w : World} {n t : Nat} {a b c d e f : Value} (h : w.heap[n]? = some (.cells #[a, b, c, d, e, f] t (0, 0))) :
  w.cell? ⟨n, 0, none⟩ = some a ∧ w.cell? ⟨n, 1, none⟩ = some b ∧ w.cell? ⟨n, 2, none⟩ = some c ∧ w.cell? ⟨n, 3, none⟩ = some d ∧ w.cell? ⟨n, 4, none⟩ = some e ∧ w.cell? ⟨n, 5, none⟩ = some f ∧ ∀ j, w.frozen? ⟨n, j, none⟩ = false :=
 ⟨by rw [cell_of_row w n 0 _ _ _ h]; rfl, by rw [cell_of_row w n 1 _ _ _ h]; rfl, by rw [cell_of_row w n 2 _ _ _ h]; rfl, by rw [cell_of_row w n 3 _ _ _ h]; rfl, by rw [cell_of_row w n 4 _ _ _ h]; rfl, by rw [cell_of_row w n 5 _ _ _ h]; rfl, fun j => frozen_of_row w n j _ _ h⟩
theorem vC {w W : World} {a b : Obj} (h : (w.alloc a).alloc b = W) : W.heap[w.heap.size]? = some a ∧ W.heap[w.heap.size + 1]? = some b ∧ Below w.heap.size w W ∧ W.heap.size = w.heap.size + 2 := by
 subst h
 exact ⟨heap_go (lit_below _ b) (heap_alloc_new w a), by have := heap_alloc_new (w.alloc a) b; rwa [World.size_alloc] at this, bA (lit_below _ _) (by simp), by simp⟩
theorem vB {w W : World} {a b c : Obj} (h : ((w.alloc a).alloc b).alloc c = W) : W.heap[w.heap.size]? = some a ∧ W.heap[w.heap.size + 1]? = some b ∧ W.heap[w.heap.size + 1 + 1]? = some c ∧ Below w.heap.size w W ∧ W.heap.size = w.heap.size + 3 := by
 subst h
 obtain ⟨h1, h2, h3⟩ := cW (Below.refl _ (((w.alloc a).alloc b).alloc c))
 exact ⟨h1, h2, h3, bA (bA (lit_below _ _) (by simp)) (by simp), by simp⟩
theorem aK {w : World} {g t : Nat} {cs : Array Value} (i : Nat) (u : Value) (h : w.heap[g]? = some (.cells cs t (0, 0))) : (w.setCell ⟨g, i, none⟩ u).heap[g]? = some (.cells (cs.setIfInBounds i u) t (0, 0)) := by
 simp [World.setCell, Array.getElem?_modify, h]
theorem row6f {w : World} {n t : Nat} {a b c d e f : Value} (h : w.heap[n]? = some (.cells #[a, b, c, d, e, f] t (0, 0))) :
  w.cell? ⟨n, 0, none⟩ = some a ∧ w.cell? ⟨n, 1, none⟩ = some b ∧ w.cell? ⟨n, 2, none⟩ = some c ∧ w.cell? ⟨n, 3, none⟩ = some d ∧ w.cell? ⟨n, 4, none⟩ = some e ∧ w.cell? ⟨n, 5, none⟩ = some f ∧ (∀ j, w.frozen? ⟨n, j, none⟩ = false) ∧ w.frozen? ⟨n, 0, none⟩ = false ∧ w.frozen? ⟨n, 1, none⟩ = false ∧ w.frozen? ⟨n, 2, none⟩ = false ∧ w.frozen? ⟨n, 3, none⟩ = false ∧ w.frozen? ⟨n, 4, none⟩ = false ∧ w.frozen? ⟨n, 5, none⟩ = false := by
 obtain ⟨q0, q1, q2, q3, q4, q5, qf⟩ := al h
 exact ⟨q0, q1, q2, q3, q4, q5, qf, qf 0, qf 1, qf 2, qf 3, qf 4, qf 5⟩
theorem cJ {B : Nat} {w : World} {p : Pk} {a b uh ub : Value} (h : ao oPk B w [a, uh, b, ub] p) : ∃ Ah ch Ab cb, uh = .slice Ah p.hd.length ch ∧ ub = .slice Ab p.bd.length cb := by
 obtain ⟨F, ⟨c1, c2, F1, F2, e1, _, ⟨rfl, _⟩, c3, c4, F3, F4, e2, _, ⟨u, G, rfl, ho, _⟩, c5, c6, F5, F6, e3, _, ⟨rfl, _⟩, ⟨v, G2, rfl, hv, _⟩⟩, _⟩ := h
 subst e3
 subst e2
 simp at e1
 obtain ⟨_, rfl, _, rfl⟩ := e1
 obtain ⟨Ah, ch, rfl, _⟩ := ho.form
 obtain ⟨Ab, cb, rfl, _⟩ := hv.form
 exact ⟨_, _, _, _, rfl, rfl⟩
theorem gv {B : Nat} {w : World} {x : Pl} {uh ub : Value} (h : ao oPk B w [.int .i64 x.pk.el, uh, .int .i64 x.pk.tag, ub] x.pk) : ao oPl B w [.int .i64 x.kind, .int .i64 x.next, .int .i64 x.pk.el, uh, .int .i64 x.pk.tag, ub] x := by
 obtain ⟨F, h1, h2, h3⟩ := h
 exact ⟨F, ⟨[_], _, [], F, rfl, rfl, ⟨rfl, rfl⟩, [_], _, [], F, rfl, rfl, ⟨rfl, rfl⟩, h1⟩, h2, h3⟩
theorem gw {B : Nat} {w : World} {x : Tr} {uh ub : Value} (h : ao oPk B w [.int .i64 x.pk.el, uh, .int .i64 x.pk.tag, ub] x.pk) : ao oTr B w [.int .i64 x.mix, .int .i64 x.pk.el, uh, .int .i64 x.pk.tag, ub, .bool x.ch] x := by
 obtain ⟨F, h1, h2, h3⟩ := h
 exact ⟨F, ⟨[_], _, [], F, rfl, rfl, ⟨rfl, rfl⟩, [_, _, _, _], [_], F, [], rfl, by simp, h1, ⟨rfl, rfl⟩⟩, h2, h3⟩
theorem iS {ks b : List Int} {k : Nat} {x : Int} (h : ks[k]? = some x) : (ks.take (k + 1)).foldl onL b = onL ((ks.take k).foldl onL b) x := by rw [ax h, List.foldl_append]; rfl
theorem aq {w : World} {v : Value} {xs : List Int} {B : Nat} {p : Addr} {u : Value} (h : Own ae 3 B w v xs []) (hp : p.block < B) : Own ae 3 B (w.setCell p u) v xs [] :=
 h.keep (fun b hb => Below.heap_setCell _ _ _ _ (fun e => by have := (h.top b hb).1; omega)) (fun _ h => by cases h)
section
variable {α : Type} {T : Ty α}
def Fil (T : Ty α) (e B : Nat) (z : Array Value) (n : Nat) (w : World) (g : Nat) (xs : List α) : Prop :=
 ∃ c1 G, w.ownsRow B e T.k (.slice (some ⟨g, 0, none⟩) n n) n (c1 ++ (madeCells z (n * T.k)).toList.drop (xs.length * T.k)) ∧ T.els w c1 xs G ∧ (∀ b ∈ G, g < b) ∧ G.Nodup
theorem rT (z : Array Value) (k n i d : Nat) (hz : z.size = k) (hi : i < n) (hd : d < k) : (madeCells z (n * k)).toList[i * k + d]? = z[d]? := by
 have h1 : i * k + d < n * k := by
  have : (i + 1) * k ≤ n * k := Nat.mul_le_mul_right k hi
  rw [Nat.succ_mul] at this; omega
 subst hz
 simp [madeCells, h1, Nat.mod_eq_of_lt hd, Nat.mul_add_mod_self_right, hd]
theorem Fil.start {e B : Nat} {z : Array Value} {n g : Nat} {w : World} (h : w.ownsRow B e T.k (.slice (some ⟨g, 0, none⟩) n n) n (madeCells z (n * T.k)).toList) : Fil T e B z n w g [] :=
 ⟨[], [], by simpa using h, ⟨rfl, rfl⟩, (fun b hb => by cases hb), List.nodup_nil⟩
theorem Fil.at_ {e B : Nat} {z : Array Value} {n g : Nat} {w : World} {xs : List α} (h : Fil T e B z n w g xs) (hz : z.size = T.k) (hn : xs.length < n) (d : Nat) (u : Value) (hu : z[d]? = some u) :
  w.cell? ⟨g, xs.length * T.k + d, none⟩ = some u := by
 obtain ⟨c1, G, h1, h2, h3, h4⟩ := h
 have hd : d < T.k := by rw [← hz]; exact (Array.getElem?_eq_some_iff.1 hu).1
 have hl := Ty.els_len h2
 have hlt : xs.length * T.k + d < n * T.k := by
  have : (xs.length + 1) * T.k ≤ n * T.k := Nat.mul_le_mul_right _ hn
  rw [Nat.succ_mul] at this; omega
 rw [h1.cellAt _ hlt, List.getElem?_append_right (by omega), hl, List.getElem?_drop, Nat.add_sub_cancel_left, rT z T.k n xs.length d hz hn hd]; exact hu
theorem Fil.top {e B : Nat} {z : Array Value} {n g : Nat} {w : World} {xs : List α} (h : Fil T e B z n w g xs) : B ≤ g ∧ g < w.heap.size := by
 obtain ⟨c1, G, h1, h2, h3, h4⟩ := h
 exact h1.lt g rfl
theorem Fil.frozen {e B : Nat} {z : Array Value} {n g : Nat} {w : World} {xs : List α} (h : Fil T e B z n w g xs) (j : Nat) : w.frozen? ⟨g, j, none⟩ = false := by
 obtain ⟨c1, G, h1, h2, h3, h4⟩ := h
 exact h1.frozenAt j
theorem Fil.go {e B : Nat} {z : Array Value} {n g : Nat} {w w' : World} {xs : List α} (h : Fil T e B z n w g xs) (hb : Below w.heap.size w w') : Fil T e B z n w' g xs := by
 have ht := h.top
 obtain ⟨c1, G, h1, h2, h3, h4⟩ := h
 exact ⟨c1, G, dU h1 (fun b hb' => by injection hb' with hb'; subst hb'; exact hb.block _ ht.2), T.els_keep h2 (fun b hb' => hb.block b (Ty.els_lt h2 b hb')), h3, h4⟩
theorem Fil.round {e B : Nat} {z : Array Value} {n g : Nat} {w w' : World} {xs : List α} {x : α} {cx : List Value} (h : Fil T e B z n w g xs) (hn : xs.length < n) (hb : Below w.heap.size w w') (hx : ao T w.heap.size w' cx x) :
  Fil T e B z n (cr w' g (xs.length * T.k) cx) g (xs ++ [x]) := by
 have ht := h.top
 obtain ⟨c1, G, h1, h2, h3, h4⟩ := h
 have hG := Ty.els_lt h2
 replace h1 := dU (w' := w') h1 (fun b hb' => by injection hb' with hb'; subst hb'; exact hb.block _ ht.2)
 replace h2 := T.els_keep (w' := w') h2 (fun b hb' => hb.block b (hG b hb'))
 have hg := ht.2
 obtain ⟨F, f1, f2, f3⟩ := hx
 have hl := Ty.els_len h2
 have hk := T.len f1
 have hgG : g ∉ G := fun hm => Nat.lt_irrefl _ (h3 g hm)
 have hgF : g ∉ F := fun hm => by have := f3 g hm; omega
 have hlt : (xs.length + 1) * T.k ≤ n * T.k := Nat.mul_le_mul_right _ hn
 rw [Nat.succ_mul] at hlt
 have hsz : (madeCells z (n * T.k)).toList.length = n * T.k := by simp [size_madeCells]
 refine ⟨c1 ++ cx, G ++ F, ?_, ?_, ?_, ?_⟩
 ·have e1 : (madeCells z (n * T.k)).toList.drop (xs.length * T.k) = ((madeCells z (n * T.k)).toList.drop (xs.length * T.k)).take T.k ++ (madeCells z (n * T.k)).toList.drop ((xs ++ [x]).length * T.k) := by
   have := (List.take_append_drop T.k ((madeCells z (n * T.k)).toList.drop (xs.length * T.k))).symm
   rw [List.drop_drop] at this
   rw [List.length_append, List.length_singleton, Nat.succ_mul]; exact this
  rw [e1] at h1
  have := dj (xs.length * T.k) cx h1
  rw [← hl, gx c1 _ _ cx (by rw [List.length_take, List.length_drop, hsz, hk]; omega), hl] at this
  rw [List.append_assoc]; exact this
 ·have k1 := T.els_keep h2 (w' := cr w' g (xs.length * T.k) cx) (fun b hb => setMany_block _ _ _ _ _ (fun e => hgG (e ▸ hb)))
  have k2 := T.keep f1 (w' := cr w' g (xs.length * T.k) cx) (fun b hb => setMany_block _ _ _ _ _ (fun e => hgF (e ▸ hb)))
  exact Ty.els_append k1 (Ty.els_one k2)
 ·intro b hb
  rcases List.mem_append.1 hb with hb | hb
  ·exact h3 b hb
  ·have := f3 b hb; omega
 ·rw [List.nodup_append]
  exact ⟨h4, f2, fun a ha b hb e => by have := hG a ha; have := f3 b hb; omega⟩
theorem Fil.done {e B : Nat} {z : Array Value} {n g : Nat} {w : World} {xs : List α} (h : Fil T e B z n w g xs) (hn : xs.length = n) : be T e B w (.slice (some ⟨g, 0, none⟩) n n) xs := by
 have ht := h.top
 obtain ⟨c1, G, h1, h2, h3, h4⟩ := h
 subst hn
 have hsz : (madeCells z (xs.length * T.k)).toList.length = xs.length * T.k := by simp [size_madeCells]
 rw [List.drop_of_length_le (by omega), List.append_nil] at h1
 exact ⟨G, ⟨c1, h1, h2, fun b hb => by injection hb with hb; subst hb; exact fun hm => Nat.lt_irrefl _ (h3 _ hm)⟩, h4, fun b hb => by have := h3 b hb; omega⟩
end
theorem iB : (Tryz.prog.info? 102).map (fun i => (i.zero, i.size, i.bytes)) = some (some (.agg #[.int .i64 0, .int .i64 0, .int .i64 0, .slice none 0 0, .int .i64 0, .slice none 0 0]), 6, 80) := by kernel_rfl
theorem cK {B : Nat} {w : World} {x : Pl} {a b c d uh ub : Value} (h : ao oPl B w [a, b, c, uh, d, ub] x) : ∃ Ah ch Ab cb, uh = .slice Ah x.pk.hd.length ch ∧ ub = .slice Ab x.pk.bd.length cb := by
 obtain ⟨F, ⟨c1, c2, F1, F2, e1, e2, ⟨rfl, rfl⟩, c3, c4, F3, F4, e3, e4, ⟨rfl, rfl⟩, h3⟩, n1, n2⟩ := h
 subst e3 e4
 simp at e1 e2
 subst e2
 obtain ⟨_, _, rfl⟩ := e1
 exact cJ ⟨_, h3, n1, n2⟩
theorem aj (w : World) (p : Addr) (u : Value) : (w.setCell p u).heap.size = w.heap.size := by simp [World.setCell]
theorem dO {α : Type} {T : Ty α} {e B : Nat} {w : World} {v : Value} {xs : List α} (h : be T e B w v xs) : ao (T.own e) B w [v] xs := by
 obtain ⟨G, ho, hn, hG⟩ := h
 have hx := ho.top
 obtain ⟨cs, h1, h2, h3⟩ := id ho
 refine ⟨v.ownBlock.toList ++ G, ⟨v, G, rfl, ho.base (Nat.zero_le _), rfl⟩, ?_, fun b hb => ?_⟩
 ·cases hv : v.ownBlock with
  | none => simpa using hn
  | some g => simpa using ⟨h3 g hv, hn⟩
 ·rcases List.mem_append.1 hb with hb | hb
  ·exact (hx b (by simpa using hb)).1
  ·exact hG b hb
def cZ {α : Type} (T : Ty α) (B C : Nat) (w : World) (cs : List Value) (x : α) : Prop := ∃ F, T.E w cs x F ∧ F.Nodup ∧ ∀ b ∈ F, B ≤ b ∧ b < C
theorem ao.inn {α : Type} {T : Ty α} {B : Nat} {w : World} {cs : List Value} {x : α} (h : ao T B w cs x) : cZ T B w.heap.size w cs x := by
 obtain ⟨F, h1, h2, h3⟩ := h
 exact ⟨F, h1, h2, fun b hb => ⟨h3 b hb, T.lt h1 b hb⟩⟩
theorem cZ.new {α : Type} {T : Ty α} {B C : Nat} {w : World} {cs : List Value} {x : α} (h : cZ T B C w cs x) : ao T B w cs x := by
 obtain ⟨F, h1, h2, h3⟩ := h
 exact ⟨F, h1, h2, fun b hb => (h3 b hb).1⟩
theorem cZ.go {α : Type} {T : Ty α} {B C n : Nat} {w w' : World} {cs : List Value} {x : α} (h : cZ T B C w cs x) (hb : Below n w w') (hn : C ≤ n) : cZ T B C w' cs x := by
 obtain ⟨F, h1, h2, h3⟩ := h
 exact ⟨F, T.keep h1 (fun b hm => hb.block b (Nat.lt_of_lt_of_le (h3 b hm).2 hn)), h2, h3⟩
theorem cZ.base {α : Type} {T : Ty α} {B B' C : Nat} {w : World} {cs : List Value} {x : α} (h : cZ T B C w cs x) (hB : B' ≤ B) : cZ T B' C w cs x := by
 obtain ⟨F, h1, h2, h3⟩ := h
 exact ⟨F, h1, h2, fun b hb => ⟨Nat.le_trans hB (h3 b hb).1, (h3 b hb).2⟩⟩
theorem cZ.top {α : Type} {T : Ty α} {B C C' : Nat} {w : World} {cs : List Value} {x : α} (h : cZ T B C w cs x) (hC : C ≤ C') : cZ T B C' w cs x := by
 obtain ⟨F, h1, h2, h3⟩ := h
 exact ⟨F, h1, h2, fun b hb => ⟨(h3 b hb).1, Nat.lt_of_lt_of_le (h3 b hb).2 hC⟩⟩
theorem cZ.set {α : Type} {T : Ty α} {B C : Nat} {w : World} {cs : List Value} {x : α} {p : Addr} {u : Value} (h : cZ T B C w cs x) (hp : p.block < B) : cZ T B C (w.setCell p u) cs x := by
 obtain ⟨F, h1, h2, h3⟩ := h
 exact ⟨F, T.keep h1 (fun b hm => Below.heap_setCell _ _ _ _ (fun e => by have := h3 b hm; omega)), h2, h3⟩
theorem gu {α β : Type} {S : Ty α} {T : Ty β} {B C : Nat} {w : World} {c1 c2 : List Value} {x : α} {y : β} (h1 : cZ S B C w c1 x) (h2 : ao T C w c2 y) (hBC : B ≤ C) : ao (S.prod T) B w (c1 ++ c2) (x, y) := by
 obtain ⟨F, a1, a2, a3⟩ := h1
 obtain ⟨G, b1, b2, b3⟩ := h2
 refine ⟨F ++ G, ⟨c1, c2, F, G, rfl, rfl, a1, b1⟩, ?_, fun b hb => ?_⟩
 ·rw [List.nodup_append]
  exact ⟨a2, b2, fun a ha b hb e => by have h1 := a3 a ha; have h2 := b3 b hb; omega⟩
 ·rcases List.mem_append.1 hb with h | h
  ·exact (a3 b h).1
  ·exact Nat.le_trans hBC (b3 b h)
theorem oZ {α β : Type} {k : Nat} {f : α → List Value} {hf : ∀ x, (f x).length = k} {h1 : ∀ x, ∀ u ∈ f x, u.oneCell' = true} {T : Ty β} {B : Nat} {w : World} {c2 : List Value} {y : β} (x : α) (h2 : ao T B w c2 y) : ao ((Ty.flat k f hf h1).prod T) B w (f x ++ c2) (x, y) := by
 obtain ⟨G, b1, b2, b3⟩ := h2
 exact ⟨G, ⟨f x, c2, [], G, rfl, rfl, ⟨rfl, rfl⟩, b1⟩, b2, b3⟩
theorem me {B C : Nat} {w : World} {m : Mx} {us up : Value} (h1 : cZ bK B C w [us] m.seen) (h2 : ao dT C w [up] m.pool) (hBC : B ≤ C) : ao oMx B w [.int .i64 m.sec, us, up] m :=
 oZ (f := fun n => [Value.int .i64 n]) m.sec (gu h1 h2 hBC)
theorem aW {B : Nat} {w : World} {x : Mx} {a us up : Value} (h : ao oMx B w [a, us, up] x) : ∃ As cs Ap cp, us = .slice As x.seen.length cs ∧ up = .slice Ap x.pool.length cp := by
 obtain ⟨F, ⟨c1, c2, F1, F2, e1, e2, ⟨rfl, rfl⟩, c3, c4, F3, F4, e3, e4, ⟨u, G, rfl, hu, _⟩, ⟨v, G', rfl, hv, _⟩⟩, n1, n2⟩ := h
 subst e3
 simp at e1
 obtain ⟨_, rfl, rfl⟩ := e1
 obtain ⟨A, c, rfl, _⟩ := hu.form
 obtain ⟨A', c', rfl, _⟩ := hv.form
 exact ⟨_, _, _, _, rfl, rfl⟩
theorem gO : (Tryz.prog.info? 35).map (fun i => (i.zero, i.size, i.bytes)) = some (some (.agg #[.int .i64 0, .int .i64 0, .int .i64 0]), 3, 24) := by kernel_rfl
theorem gP : (Tryz.prog.info? 42).map (fun i => (i.zero, i.size, i.bytes)) = some (some (.agg #[.int .i64 0, .int .i64 0, .slice none 0 0, .int .i64 0, .slice none 0 0, .bool false]), 6, 80) := by kernel_rfl
def bf : Ty (List Lt) := tLt.own 35
def de : Ty (List Tr) := oTr.own 42
def dd : Ty (List Mx) := oMx.own 57
def oWd : Ty Wd := vz dd bf de
theorem uN : oWd.le tWd := Ty.le_via (Ty.le_prod (Ty.le_own rO _) (Ty.le_prod (Ty.le_own (Ty.le_refl _) _) (Ty.le_prod (Ty.le_own oQ _) (Ty.le_prod (Ty.le_own (Ty.le_refl _) _) (Ty.le_refl _)))))
theorem ib {B : Nat} {w : World} {x : Wd} {vm vs vn vg a b : Value} (h : ao oWd B w [vm, vs, vn, vg, a, b] x) : WdB w.heap.size w (.agg #[vm, vs, vn, vg, a, b]) x := by
 obtain ⟨F, h1, _, _⟩ := h
 obtain ⟨F', h2, hF⟩ := uN.2 h1
 obtain ⟨vm', vs', vn', vg', Fm, Fs, Fn, Fg, e, e2, hm, hs, hn, hg⟩ := uy.1 h2
 simp at e
 obtain ⟨rfl, rfl, rfl, rfl, rfl, rfl⟩ := e
 exact ⟨_, _, _, _, rfl, ⟨_, hm, hm.lt⟩, ⟨_, hs, hs.lt⟩, ⟨_, hn, hn.lt⟩, ⟨_, hg, hg.lt⟩⟩
theorem fI {w : World} {B : Nat} (n : Nat) (hn : n = w.heap.size) (h : B ≤ n) : Own ae 3 B (w.alloc (.cells #[] 3)) (.slice (some ⟨n, 0, none⟩) 0 0) [] [] := by subst hn; exact bP h
theorem oa {B : Nat} {W w1 : World} (hb : Below B W w1) : (∀ b o, b < B → w1.cell? ⟨b, o, none⟩ = W.cell? ⟨b, o, none⟩) ∧ (∀ b o, b < B → w1.frozen? ⟨b, o, none⟩ = W.frozen? ⟨b, o, none⟩) :=
 ⟨fun b o h => hb.cell (p := ⟨b, o, none⟩) h, fun b o h => hb.frozen (p := ⟨b, o, none⟩) h⟩
theorem Own.step {α : Type} {T : Ty α} {e B n : Nat} {w w3 : World} {o : Obj} {v : Value} {xs : List α} {G : List Nat} (h : Own T e B w v xs G) (hb : Below n (w.alloc o) w3) (hn : w.heap.size ≤ n) : Own T e B w3 v xs G :=
 (h.go (lit_below _ o)).keep (fun b hm => hb.block b (Nat.lt_of_lt_of_le (h.top b hm).2 hn)) (fun b hm => hb.block b (Nat.lt_of_lt_of_le (h.lt b hm) hn))
theorem fK (p : Pk) (vh vb : Value) (w : World) (h1 : SlB ae w.heap.size w vh p.hd) (h2 : SlB ae w.heap.size w vb p.bd) (l1 : p.hd.length ≤ 1073741824) (l2 : p.bd.length ≤ 1073741824) :
  Calls Tryz.prog 50 #[.agg #[.int .i64 p.el, vh, .int .i64 p.tag, vb]] w fun e w' => ∃ uh ub, e = .returned (.agg #[.int .i64 p.el, uh, .int .i64 p.tag, ub]) ∧ ao oPk w.heap.size w' [.int .i64 p.el, uh, .int .i64 p.tag, ub] p ∧ Below w.heap.size w w' := by
 obtain ⟨i0, hi, hz0, hz1, hz2⟩ := info_parts aV
 have H1 := hid (fun (wx : World) (hb : Below w.heap.size w wx) => h1.go hb)
 have H2 := hid (fun (wx : World) (hb : Below w.heap.size w wx) => h2.go hb)
 obtain ⟨Ah, ch, rfl, _, _, _⟩ := h1.form
 obtain ⟨Ab, cb, rfl, _, _, _⟩ := h2.form
 clear h1 h2
 go_enter Tryz.func50, Tryz.ntmps50
 go_wp2_with (first
  | (at_builtin; go_loud (refine aD rfl (.tmp 3) (.tmp 5) 38 rfl ae ai (B := w.heap.size + 1 + 1) (v := .slice (some ⟨w.heap.size + 1 + 1, 0, none⟩) 0 0) Tryz.underlying38 hi hz0 hz1 hz2 rfl (by decide) (by decide) rfl (fI _ (by simp) (Nat.le_refl _)) Ah p.hd.length ch rfl (slE (H1.out _ (by (repeat (first | exact Below.refl _ _ | refine ab ?_ | refine Below.setCell ?_ (by first | omega | (simp; done) | (simp; omega)) _ | refine Below.alloc ?_ (by first | omega | (simp; done) | (simp; omega)) _))))) ?_ ?_ ?_; (simp; omega); (first | omega | (simp only [World.size_alloc, aj]; omega)); intro v2 w2 ho2 hg2 hv2; rw [List.nil_append] at ho2; have hb2 := (Below.refl (w.heap.size + 1 + 1) _).grown hg2 (by first | omega | (simp; done) | (simp; omega)) (fun q hq => by simp [Value.ownBlock] at hq; omega); obtain ⟨hc2, hf2⟩ := oa hb2; have sz2 := hb2.size; simp at sz2; obtain ⟨A2, c2, rfl, _, _⟩ := ho2.formN rfl; (have Hb2 := hid ((show Below w.heap.size w _ from by (repeat (first | exact Below.refl _ _ | refine ab ?_ | refine Below.setCell ?_ (by first | omega | (simp; done) | (simp; omega)) _ | refine Below.alloc ?_ (by first | omega | (simp; done) | (simp; omega)) _))).trans (hb2.mono (by omega))); have O2 := hid ho2; have y2 : w.heap.size < w2.heap.size := (by omega); have e2 := (hb2.block w.heap.size (by omega)).trans (cW (Below.refl _ _)).1; have R2 := hid ((hb2.block (w.heap.size + 1) (by omega)).trans (cW (Below.refl _ _)).2.1); obtain ⟨k0, k1, k2, k3, kf⟩ := aQ e2; have kf1 := kf 1; have E2 := hid e2; clear ho2 hg2 hv2 hb2 hc2 hf2 e2 kf)))
  | (at_builtin; go_loud (refine aD rfl (.tmp 8) (.tmp 10) 38 rfl ae ai (B := w2.heap.size) (v := .slice (some ⟨w2.heap.size, 0, none⟩) 0 0) Tryz.underlying38 hi hz0 hz1 hz2 rfl (by decide) (by decide) rfl (fI _ (by simp) (Nat.le_refl _)) Ab p.bd.length cb rfl (slE (H2.out _ (((Hb2.out.setCell (by simp) _)).alloc (by simp <;> omega) _))) ?_ ?_ ?_; (simp; omega); (first | omega | (simp only [World.size_alloc, aj]; omega)); intro v3 w3 ho3 hg3 hv3; rw [List.nil_append] at ho3; have hb3 := (Below.refl (w2.heap.size) _).grown hg3 (by first | omega | (simp; done) | (simp; omega)) (fun q hq => by simp [Value.ownBlock] at hq; omega); obtain ⟨hc3, hf3⟩ := oa hb3; have sz3 := hb3.size; simp at sz3; obtain ⟨A3, c3, rfl, _, _⟩ := ho3.formN rfl; (have y2c : w.heap.size < (w2.setCell ⟨w.heap.size, 1, none⟩ (.slice A2 p.hd.length c2)).heap.size := (by rw [aj]; exact y2); have y2d : w.heap.size + 1 < (w2.setCell ⟨w.heap.size, 1, none⟩ (.slice A2 p.hd.length c2)).heap.size := (by rw [aj]; omega); have Hb3 := hid (((((Hb2.out.setCell (p := ⟨w.heap.size, 1, none⟩) (by simp) (.slice A2 p.hd.length c2))).alloc (by simp <;> omega) _)).trans (hb3.mono (by omega))); have O3 := hid ho3; have O23 := hid ((cE (p := ⟨w.heap.size, 1, none⟩) (u := .slice A2 p.hd.length c2) O2.out (fun e => by have := (O2.out.top _ e).1; simp at this; omega) (by simp)).step hb3 (by rw [aj]; exact Nat.le_refl _)); have e3 := (hb3.block w.heap.size (by omega)).trans ((Below.heap_alloc _ _ _ y2c).trans (show (w2.setCell ⟨w.heap.size, 1, none⟩ (.slice A2 p.hd.length c2)).heap[w.heap.size]? = some (.cells #[.int .i64 p.el, .slice A2 p.hd.length c2, .int .i64 p.tag, .slice Ab p.bd.length cb] 40 (0, 0)) from (by rw [heap_setCell_same _ _ 1 _ _ _ E2.out]; rfl))); have r3 := (hb3.block (w.heap.size + 1) (by omega)).trans ((Below.heap_alloc _ _ _ y2d).trans ((Below.heap_setCell _ _ _ _ (fun e => by simp at e)).trans R2.out)); have y3 : w.heap.size < w3.heap.size := (by omega); clear ho3 hg3 hv3 hb3 hc3 hf3 k0 k1 k2 k3 kf1; obtain ⟨k0, k1, k2, k3, kf⟩ := aQ e3; obtain ⟨q0, q1, q2, q3, qf⟩ := aQ r3; have kf3 := kf 3; have qf0 := qf 0; have qf1 := qf 1; have qf2 := qf 2; have qf3 := qf 3; clear kf qf e3 r3))))
 refine bodyPost_ret (v := .agg #[.int .i64 p.el, .slice A2 p.hd.length c2, .int .i64 p.tag, .slice A3 p.bd.length c3]) (by simp [results, go_sem, q0, q1, q2, q3]) rfl ⟨_, _, rfl, jh (B1 := w.heap.size + 1 + 1) (B2 := w2.heap.size) ?_ ?_ (by omega) (by omega) (fun b hb => (O2.out.top b hb).2), ?_⟩
 ·repeat (refine aq ?_ (by dsimp only; omega))
  exact O23.out
 ·repeat (refine aq ?_ (by dsimp only; omega))
  exact O3.out
 ·repeat (refine Below.setCell ?_ (by dsimp only; omega) _)
  exact Hb3.out
section
variable {α : Type} {T : Ty α} {P : Program} {w w0 w1 : World}
theorem be.app {e B : Nat} {v v' : Value} {xs : List α} {y : α} {cx : List Value} {w' : World} (hown : be T e B w0 v xs) (h01 : Below w0.heap.size w0 w1) (hy : ao T w0.heap.size w1 cx y)
  (hB : B ≤ w0.heap.size) (hr : ∀ G0 G1, Own T e B (w1.alloc (.cells cx.toArray e)) v xs G0 → Sl T (w1.alloc (.cells cx.toArray e)) (.slice (some ⟨w1.heap.size, 0, none⟩) 1 1) [y] G1 → (∀ b, v.ownBlock = some b → b ∉ G1.tail) → Own T e B w' v' (xs ++ [y]) (G0 ++ G1.tail)) : be T e B w' v' (xs ++ [y]) := by
 obtain ⟨G, g1, g2, g3⟩ := hown
 obtain ⟨F, f1, f2, f3⟩ := hy
 have hs := Sl.box (e := e) (f := (0, 0)) f1
 have ho := (g1.go h01).go (lit_below w1 (.cells cx.toArray e))
 refine ⟨G ++ F, hr G (w1.heap.size :: F) ho hs (fun b hb hm => ?_), ?_, fun b hb => ?_⟩
 ·have := (g1.top b hb).2; have := f3 b hm; omega
 ·rw [List.nodup_append]
  exact ⟨g2, f2, fun a ha b hb e => by have := g1.lt a ha; have := f3 b hb; omega⟩
 ·rcases List.mem_append.1 hb with hb | hb
  ·exact g3 b hb
  ·have := f3 b hb; omega
theorem nO {ops : Array Oper} {rest : List Oper} {o : Oper} {a : Act} {Q : Exit → Act → World → Prop} (hgd : o.guard = none) (s x : Operand) (t : TypeId)
  (ho : o.op = .call { callee := .builtin .append, args := #[s, x], argTypes := #[t, t] }) (T : Ty α)
  {e : TypeId} {i : TypeInfo} {z : Value} {bytes B : Nat} (ht : P.underlying t = some (.slice e)) (hi : P.info? e = some i) (hz : i.zero = some z)
  (hsize : i.size = T.k) (hby : i.bytes = bytes) (hzs : z.cells.size = T.k) (hk : 0 < T.k)
  {v : Value} {xs : List α} {y : α} (cx : List Value) (hs : a.eval s = v) (hown : be T e B w0 v xs) (h01 : Below w0.heap.size w0 w1) (hy : ao T w0.heap.size w1 cx y) (hw : w = w1.alloc (.cells cx.toArray e))
  (n : Nat) (hn : n = w1.heap.size) (hx : a.eval x = .slice (some ⟨n, 0, none⟩) 1 1) (hb : (xs.length + 1) * bytes ≤ 140737488355328) (hm : xs.length + 1 ≤ maxLen) (hB : B ≤ w0.heap.size)
  (h : ∀ v' w', be T e B w' v' (xs ++ [y]) → w.grownBy w' v.ownBlock → Below B w w' → wpList P ops Q rest (a.put o.dst v') w') : wpList P ops Q (o :: rest) a w := by
 subst hw hn
 obtain ⟨G, g1, g2, g3⟩ := id hown
 obtain ⟨F, f1, f2, f3⟩ := id hy
 have hsz := h01.size
 have hsl := Sl.box (e := e) (f := (0, 0)) f1
 have hoo := (g1.go h01).go (lit_below w1 (.cells cx.toArray e))
 refine fq hgd s x t ho T ht hi hz hsize hby hzs hk hs hoo _ 1 1 hx hsl (fun b hb hm => ?_) (by simpa using hb) (by simpa using hm) (by simp; omega) fun v' w' h2 h3 h4 => ?_
 ·have := (g1.top b hb).2; have := f3 b hm; omega
 ·refine h v' w' ⟨G ++ F, h2, ?_, fun b hb => ?_⟩ h3 ((Below.refl _ _).grown h3 (by simp; omega) (fun k hk => (g1.top k hk).1))
  ·rw [List.nodup_append]
   exact ⟨g2, f2, fun a ha b hb e => by have := g1.lt a ha; have := f3 b hb; omega⟩
  ·rcases List.mem_append.1 hb with hb | hb
   ·exact g3 b hb
   ·have := f3 b hb; omega
end
end Go.Proofs.YtfmibcofgckldaaGreatDoor
