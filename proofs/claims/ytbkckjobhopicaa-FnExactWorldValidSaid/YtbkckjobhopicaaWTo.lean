/- Copies of a run in new memory, record by record. -/
import Derived.Test.YtbkckjobhopicaaWNew
import Derived.Test.YtbkckjobhopicaaWSz
import Derived.Test.YtbkckjobhopicaaWFill
import Derived.Test.YtbkckjobhopicaaWIo
namespace Go.Proofs.Ytbkckjobhopicaa
open Go Go.RowKit
set_option maxHeartbeats 400000
/-- new memory that holds x in the cells cs -/
def NewA {α : Type} (T : Ty α) (B : Nat) (w : World) (cs : List Value) (x : α) : Prop := ∃ F, T.E w cs x F ∧ F.Nodup ∧ ∀ b ∈ F, B ≤ b
theorem NewA.go {α : Type} {T : Ty α} {B n : Nat} {w w' : World} {cs : List Value} {x : α} (h : NewA T B w cs x) (hb : Below n w w') (hn : w.heap.size ≤ n) : NewA T B w' cs x := by
  obtain ⟨F, h1, h2, h3⟩ := h
  exact ⟨F, T.keep h1 (fun b hm => hb.block b (Nat.lt_of_lt_of_le (T.lt h1 b hm) hn)), h2, h3⟩
theorem NewA.base {α : Type} {T : Ty α} {B B' : Nat} {w : World} {cs : List Value} {x : α} (h : NewA T B w cs x) (hB : B' ≤ B) : NewA T B' w cs x := by
  obtain ⟨F, h1, h2, h3⟩ := h
  exact ⟨F, h1, h2, fun b hb => Nat.le_trans hB (h3 b hb)⟩
theorem NewA.set {α : Type} {T : Ty α} {B : Nat} {w : World} {cs : List Value} {x : α} {p : Addr} {u : Value} (h : NewA T B w cs x) (hp : p.block < B) : NewA T B (w.setCell p u) cs x := by
  obtain ⟨F, h1, h2, h3⟩ := h
  exact ⟨F, T.keep h1 (fun b hm => Below.heap_setCell _ _ _ _ (fun e => by have := h3 b hm; omega)), h2, h3⟩
theorem newA_int {B : Nat} {w : World} {v : Value} {xs : List Int} (h : NewS tInt 3 B w v xs) : NewA oInt B w [v] xs := by
  obtain ⟨G, ho, _, _⟩ := h
  obtain rfl := own_isFlat tInt_flat ho
  refine ⟨v.ownBlock.toList ++ [], ⟨v, [], rfl, ho.base (Nat.zero_le _), rfl⟩, ?_, fun b hb => ?_⟩
  · cases v.ownBlock <;> simp
  · simp at hb; exact (ho.top b hb).1
/-- two new data, the second one younger -/
theorem newA_prod {α β : Type} {S : Ty α} {T : Ty β} {B C : Nat} {w : World} {c1 c2 : List Value} {x : α} {y : β} (h1 : NewA S B w c1 x) (h2 : NewA T C w c2 y) (hs : ∀ F, S.E w c1 x F → ∀ b ∈ F, b < C) (hBC : B ≤ C) : NewA (S.prod T) B w (c1 ++ c2) (x, y) := by
  obtain ⟨F, a1, a2, a3⟩ := h1
  obtain ⟨G, b1, b2, b3⟩ := h2
  refine ⟨F ++ G, ⟨c1, c2, F, G, rfl, rfl, a1, b1⟩, ?_, fun b hb => ?_⟩
  · rw [List.nodup_append]
    exact ⟨a2, b2, fun a ha b hb e => by have h1 := hs F a1 a ha; have h2 := b3 b hb; omega⟩
  · rcases List.mem_append.1 hb with h | h
    · exact a3 b h
    · exact Nat.le_trans hBC (b3 b h)
theorem newA_flat {α : Type} {k : Nat} {f : α → List Value} {hf : ∀ x, (f x).length = k} {h1 : ∀ x, ∀ u ∈ f x, u.oneCell' = true} (B : Nat) (w : World) (x : α) : NewA (Ty.flat k f hf h1) B w (f x) x := ⟨[], ⟨rfl, rfl⟩, List.nodup_nil, fun _ h => by cases h⟩
theorem box3 {w w' : World} {a b c : Obj} (hb : Below (((w.alloc a).alloc b).alloc c).heap.size (((w.alloc a).alloc b).alloc c) w') : w'.heap[w.heap.size]? = some a ∧ w'.heap[w.heap.size + 1]? = some b ∧ w'.heap[w.heap.size + 1 + 1]? = some c := by
  have e1 : (w.alloc a).heap.size = w.heap.size + 1 := by simp
  have e2 : ((w.alloc a).alloc b).heap.size = w.heap.size + 1 + 1 := by simp
  have h1 := heap_go (bt (lit_below _ b) (bt (lit_below _ c) hb)) (heap_alloc_new w a)
  have h2 := heap_go (bt (lit_below _ c) hb) (heap_alloc_new (w.alloc a) b)
  have h3 := heap_go hb (heap_alloc_new ((w.alloc a).alloc b) c)
  rw [e1] at h2; rw [e2] at h3
  exact ⟨h1, h2, h3⟩
theorem row4 {w : World} {n t : Nat} {a b c d : Value} (h : w.heap[n]? = some (.cells #[a, b, c, d] t (0, 0))) :
    w.cell? ⟨n, 0, none⟩ = some a ∧ w.cell? ⟨n, 1, none⟩ = some b ∧ w.cell? ⟨n, 2, none⟩ = some c ∧ w.cell? ⟨n, 3, none⟩ = some d ∧ ∀ j, w.frozen? ⟨n, j, none⟩ = false :=
  ⟨by rw [cell_of_row w n 0 _ _ _ h]; rfl, by rw [cell_of_row w n 1 _ _ _ h]; rfl, by rw [cell_of_row w n 2 _ _ _ h]; rfl, by rw [cell_of_row w n 3 _ _ _ h]; rfl, fun j => frozen_of_row w n j _ _ h⟩
theorem Own.base' {α : Type} {T : Ty α} {e B B' : Nat} {w : World} {v : Value} {xs : List α} {G : List Nat} (h : Own T e B w v xs G) (hB : ∀ b, v.ownBlock = some b → B' ≤ b) : Own T e B' w v xs G := by
  obtain ⟨cs, h1, h2, h3⟩ := h
  exact ⟨cs, ownsRow_base h1 hB, h2, h3⟩
theorem newA_pk {B B1 B2 : Nat} {w : World} {p : Pk} {uh ub : Value} (h1 : Own tInt 3 B1 w uh p.hd []) (h2 : Own tInt 3 B2 w ub p.bd []) (hB1 : B ≤ B1) (hB2 : B ≤ B2) (ht : ∀ b, uh.ownBlock = some b → b < B2) : NewA oPk B w [.int .i64 p.el, uh, .int .i64 p.tag, ub] p := by
  refine ⟨_, ⟨[_], _, [], _, rfl, rfl, ⟨rfl, rfl⟩, [_], _, _, _, rfl, rfl, ⟨uh, [], rfl, h1.base (Nat.zero_le _), rfl⟩, [_], [_], [], _, rfl, rfl, ⟨rfl, rfl⟩, ⟨ub, [], rfl, h2.base (Nat.zero_le _), rfl⟩⟩, ?_, ?_⟩
  · have e : ∀ a b, uh.ownBlock = some a → ub.ownBlock = some b → a ≠ b := fun a b ha hb he => by have x1 := ht a ha; have x2 := (h2.top b hb).1; omega
    cases hu : uh.ownBlock <;> cases hv : ub.ownBlock <;> simp
    exact e _ _ hu hv
  · intro b hb
    simp at hb
    rcases hb with hb | hb
    · exact Nat.le_trans hB1 (h1.top b hb).1
    · exact Nat.le_trans hB2 (h2.top b hb).1
theorem toPacket_c (p : Pk) (vh vb : Value) (w : World) (h1 : SlB tInt w.heap.size w vh p.hd) (h2 : SlB tInt w.heap.size w vb p.bd) (hs : smPk p) :
    Calls Try.prog 83 #[.agg #[.int .i64 p.el, vh, .int .i64 p.tag, vb]] w fun e w' => ∃ uh ub, e = .returned (.agg #[.int .i64 p.el, uh, .int .i64 p.tag, ub]) ∧ NewA oPk w.heap.size w' [.int .i64 p.el, uh, .int .i64 p.tag, ub] p ∧ Below w.heap.size w w' := by
  have H2 := hid (fun (wx : World) (hb : Below w.heap.size w wx) => h2.go hb)
  have hs1 := hs.1; have hs2 := hs.2
  unfold lenB at hs1 hs2
  go_enter Try.func83, Try.ntmps83
  go_wp2_with fail
  refine (toIntS_c vh p.hd _ (h1.go (by (repeat (first | exact Below.refl _ _ | refine below_drew1 ?_ | refine Below.alloc ?_ (by simp <;> omega) _)))) (by omega)).mono ?_
  rintro e w1 ⟨uh, rfl, n1, hb1⟩
  obtain ⟨b0, b1, b2⟩ := box3 hb1
  have hc : Below w.heap.size w w1 := bt (by (repeat (first | exact Below.refl _ _ | refine below_drew1 ?_ | refine Below.alloc ?_ (by simp <;> omega) _))) hb1
  have hz : w.heap.size + 1 + 1 < w1.heap.size := (Array.getElem?_eq_some_iff.1 b2).1
  obtain ⟨G, o1, _, _⟩ := n1
  obtain rfl := own_isFlat tInt_flat o1
  have t1 : ∀ b, uh.ownBlock = some b → w.heap.size + 1 + 1 < b := fun b hb => by have := (o1.top b hb).1; simp at this; omega
  obtain ⟨Ah, ch, rfl, _, _, _⟩ := o1.form
  obtain ⟨k0, k1, k2, k3, _⟩ := row4 b0
  obtain ⟨l0, l1, l2, l3, lf⟩ := row4 b2
  have lf1 := lf 1; have lf2 := lf 2
  have B0 := hid b0; have B1 := hid b1; have B2 := hid b2; have O1 := hid o1; have T1 := hid t1; have Hc := hid hc
  clear h1 h2 hb1 b0 b1 b2 o1 t1 hc lf
  go_wp2_with fail
  have x2 : ((w1.setCell ⟨w.heap.size + 1 + 1, 1, none⟩ (.slice Ah p.hd.length ch)).setCell ⟨w.heap.size + 1 + 1, 2, none⟩ (.int .i64 p.tag)).heap[w.heap.size + 1 + 1]? = some (.cells #[.int .i64 p.el, .slice Ah p.hd.length ch, .int .i64 p.tag, .slice none 0 0] 53 (0, 0)) := by
    rw [heap_setCell_same _ _ 2 _ _ _ (heap_setCell_same _ _ 1 _ _ _ B2.out)]; rfl
  have x1 : ((w1.setCell ⟨w.heap.size + 1 + 1, 1, none⟩ (.slice Ah p.hd.length ch)).setCell ⟨w.heap.size + 1 + 1, 2, none⟩ (.int .i64 p.tag)).heap[w.heap.size + 1]? = some (.cells #[.int .i64 0, .slice none 0 0, .int .i64 0, .slice none 0 0] 53 (0, 0)) :=
    (Below.heap_setCell _ _ _ _ (fun e => by simp at e)).trans ((Below.heap_setCell _ _ _ _ (fun e => by simp at e)).trans B1.out)
  have ne : (Value.slice Ah p.hd.length ch).ownBlock ≠ some (w.heap.size + 1 + 1) := fun e => by have := T1.out _ e; omega
  have oX := own_set (p := ⟨w.heap.size + 1 + 1, 2, none⟩) (u := .int .i64 p.tag) (own_set (p := ⟨w.heap.size + 1 + 1, 1, none⟩) (u := .slice Ah p.hd.length ch) O1.out ne (by simp)) ne (by simp)
  have cX := (Hc.out.setCell (p := ⟨w.heap.size + 1 + 1, 1, none⟩) (by simp <;> omega) (.slice Ah p.hd.length ch)).setCell (p := ⟨w.heap.size + 1 + 1, 2, none⟩) (by simp <;> omega) (.int .i64 p.tag)
  clear k0 k1 k2 k3 l0 l1 l2 l3 lf1 lf2 O1 Hc B0 B1 B2 ne
  generalize (w1.setCell ⟨w.heap.size + 1 + 1, 1, none⟩ (.slice Ah p.hd.length ch)).setCell ⟨w.heap.size + 1 + 1, 2, none⟩ (.int .i64 p.tag) = wX at *
  refine (toIntS_c vb p.bd _ (H2.out _ cX) (by omega)).mono ?_
  rintro e w2 ⟨ub, rfl, n2, hb2⟩
  obtain ⟨G, o2, _, _⟩ := n2
  obtain rfl := own_isFlat tInt_flat o2
  have t2 : ∀ b, ub.ownBlock = some b → wX.heap.size ≤ b := fun b hb => (o2.top b hb).1
  have tX : ∀ b, (Value.slice Ah p.hd.length ch).ownBlock = some b → b < wX.heap.size := fun b hb => (oX.top b hb).2
  have b1 := heap_go hb2 x1
  have b2 := heap_go hb2 x2
  have zX := (Array.getElem?_eq_some_iff.1 x2).1
  have o1 := oX.go hb2
  have c2 := bt cX hb2
  obtain ⟨Ab, cb, rfl, _, _, _⟩ := o2.form
  obtain ⟨k0, k1, k2, k3, kf⟩ := row4 b1
  obtain ⟨l0, l1, l2, l3, lf⟩ := row4 b2
  have kf0 := kf 0; have kf1 := kf 1; have kf2 := kf 2; have kf3 := kf 3; have lf3 := lf 3
  have O1 := hid o1; have O2 := hid o2; have T2 := hid t2; have TX := hid tX; have C2 := hid c2
  clear H2 x1 x2 oX cX hb2 o1 o2 b1 b2 t2 tX c2 kf lf
  go_wp2
  refine bodyPost_ret (v := .agg #[.int .i64 p.el, .slice Ah p.hd.length ch, .int .i64 p.tag, .slice Ab p.bd.length cb]) (by simp [results, go_sem, k0, k1, k2, k3]) rfl ⟨_, _, rfl, ?_, ?_⟩
  · have n1 : (Value.slice Ah p.hd.length ch).ownBlock ≠ some (w.heap.size + 1) := fun e => by have := T1.out _ e; omega
    have n2 : (Value.slice Ah p.hd.length ch).ownBlock ≠ some (w.heap.size + 1 + 1) := fun e => by have := T1.out _ e; omega
    have m1 : (Value.slice Ab p.bd.length cb).ownBlock ≠ some (w.heap.size + 1) := fun e => by have := T2.out _ e; omega
    have m2 : (Value.slice Ab p.bd.length cb).ownBlock ≠ some (w.heap.size + 1 + 1) := fun e => by have := T2.out _ e; omega
    refine newA_pk (B1 := w.heap.size) (B2 := wX.heap.size) ?_ ?_ (Nat.le_refl _) (by omega) TX.out
    · exact (own_set (own_set (own_set (own_set (own_set O1.out n2 (by simp)) n1 (by simp)) n1 (by simp)) n1 (by simp)) n1 (by simp)).base' (fun b hb => by have := T1.out b hb; omega)
    · exact own_set (own_set (own_set (own_set (own_set O2.out m2 (by simp)) m1 (by simp)) m1 (by simp)) m1 (by simp)) m1 (by simp)
  · exact ((((C2.out.setCell (by simp <;> omega) _).setCell (by simp) _).setCell (by simp) _).setCell (by simp) _).setCell (by simp) _
theorem row6 {w : World} {n t : Nat} {a b c d e f : Value} (h : w.heap[n]? = some (.cells #[a, b, c, d, e, f] t (0, 0))) :
    w.cell? ⟨n, 0, none⟩ = some a ∧ w.cell? ⟨n, 1, none⟩ = some b ∧ w.cell? ⟨n, 2, none⟩ = some c ∧ w.cell? ⟨n, 3, none⟩ = some d ∧ w.cell? ⟨n, 4, none⟩ = some e ∧ w.cell? ⟨n, 5, none⟩ = some f ∧ ∀ j, w.frozen? ⟨n, j, none⟩ = false :=
  ⟨by rw [cell_of_row w n 0 _ _ _ h]; rfl, by rw [cell_of_row w n 1 _ _ _ h]; rfl, by rw [cell_of_row w n 2 _ _ _ h]; rfl, by rw [cell_of_row w n 3 _ _ _ h]; rfl, by rw [cell_of_row w n 4 _ _ _ h]; rfl, by rw [cell_of_row w n 5 _ _ _ h]; rfl, fun j => frozen_of_row w n j _ _ h⟩
theorem oPk_form {B : Nat} {w : World} {p : Pk} {a b uh ub : Value} (h : NewA oPk B w [a, uh, b, ub] p) : ∃ Ah ch Ab cb, uh = .slice Ah p.hd.length ch ∧ ub = .slice Ab p.bd.length cb := by
  obtain ⟨F, ⟨c1, c2, F1, F2, e1, _, ⟨rfl, _⟩, c3, c4, F3, F4, e2, _, ⟨u, G, rfl, ho, _⟩, c5, c6, F5, F6, e3, _, ⟨rfl, _⟩, ⟨v, G2, rfl, hv, _⟩⟩, _⟩ := h
  subst e3
  subst e2
  simp at e1
  obtain ⟨_, rfl, _, rfl⟩ := e1
  obtain ⟨Ah, ch, rfl, _⟩ := ho.form
  obtain ⟨Ab, cb, rfl, _⟩ := hv.form
  exact ⟨_, _, _, _, rfl, rfl⟩
theorem newA_pl {B : Nat} {w : World} {x : Pl} {uh ub : Value} (h : NewA oPk B w [.int .i64 x.pk.el, uh, .int .i64 x.pk.tag, ub] x.pk) : NewA oPl B w [.int .i64 x.kind, .int .i64 x.next, .int .i64 x.pk.el, uh, .int .i64 x.pk.tag, ub] x := by
  obtain ⟨F, h1, h2, h3⟩ := h
  exact ⟨F, ⟨[_], _, [], F, rfl, rfl, ⟨rfl, rfl⟩, [_], _, [], F, rfl, rfl, ⟨rfl, rfl⟩, h1⟩, h2, h3⟩
theorem newA_tr {B : Nat} {w : World} {x : Tr} {uh ub : Value} (h : NewA oPk B w [.int .i64 x.pk.el, uh, .int .i64 x.pk.tag, ub] x.pk) : NewA oTr B w [.int .i64 x.mix, .int .i64 x.pk.el, uh, .int .i64 x.pk.tag, ub, .bool x.ch] x := by
  obtain ⟨F, h1, h2, h3⟩ := h
  exact ⟨F, ⟨[_], _, [], F, rfl, rfl, ⟨rfl, rfl⟩, [_, _, _, _], [_], F, [], rfl, by simp, h1, ⟨rfl, rfl⟩⟩, h2, h3⟩
theorem toPeeled_c (x : Pl) (vh vb : Value) (w : World) (h1 : SlB tInt w.heap.size w vh x.pk.hd) (h2 : SlB tInt w.heap.size w vb x.pk.bd) (hs : smPl x) :
    Calls Try.prog 87 #[.agg #[.int .i64 x.kind, .int .i64 x.next, .int .i64 x.pk.el, vh, .int .i64 x.pk.tag, vb]] w fun e w' => ∃ uh ub, e = .returned (.agg #[.int .i64 x.kind, .int .i64 x.next, .int .i64 x.pk.el, uh, .int .i64 x.pk.tag, ub]) ∧ NewA oPl w.heap.size w' [.int .i64 x.kind, .int .i64 x.next, .int .i64 x.pk.el, uh, .int .i64 x.pk.tag, ub] x ∧ Below w.heap.size w w' := by
  go_enter Try.func87, Try.ntmps87
  go_wp2_with fail
  refine (toPacket_c x.pk vh vb _ (h1.go (by (repeat (first | exact Below.refl _ _ | refine below_drew1 ?_ | refine Below.alloc ?_ (by simp <;> omega) _)))) (h2.go (by (repeat (first | exact Below.refl _ _ | refine below_drew1 ?_ | refine Below.alloc ?_ (by simp <;> omega) _)))) hs).mono ?_
  rintro e w1 ⟨uh, ub, rfl, n1, hb1⟩
  obtain ⟨b0, b1, b2⟩ := box3 hb1
  have hc : Below w.heap.size w w1 := bt (by (repeat (first | exact Below.refl _ _ | refine below_drew1 ?_ | refine Below.alloc ?_ (by simp <;> omega) _))) hb1
  have hz : w.heap.size + 1 + 1 < w1.heap.size := (Array.getElem?_eq_some_iff.1 b2).1
  obtain ⟨Ah, ch, Ab, cb, rfl, rfl⟩ := oPk_form n1
  simp only [World.size_alloc] at n1
  obtain ⟨k0, k1, k2, k3, k4, k5, kf⟩ := row6 b1
  obtain ⟨l0, l1, l2, l3, l4, l5, lf⟩ := row6 b2
  have kf0 := kf 0; have kf1 := kf 1; have kf2 := kf 2; have kf3 := kf 3; have kf4 := kf 4; have kf5 := kf 5
  have lf2 := lf 2; have lf3 := lf 3; have lf4 := lf 4; have lf5 := lf 5
  have N1 := hid n1; have Hc := hid hc
  clear h1 h2 hb1 b0 b1 b2 n1 hc kf lf
  go_wp2
  refine bodyPost_ret (v := .agg #[.int .i64 x.kind, .int .i64 x.next, .int .i64 x.pk.el, .slice Ah x.pk.hd.length ch, .int .i64 x.pk.tag, .slice Ab x.pk.bd.length cb]) (by simp [results, go_sem, k0, k1, k2, k3, k4, k5]) rfl ⟨_, _, rfl, ?_, ?_⟩
  · refine newA_pl (NewA.base (B := w.heap.size + 1 + 1 + 1) ?_ (by omega))
    refine NewA.set ?_ (by dsimp only; omega); refine NewA.set ?_ (by dsimp only; omega); refine NewA.set ?_ (by dsimp only; omega); refine NewA.set ?_ (by dsimp only; omega); refine NewA.set ?_ (by dsimp only; omega); refine NewA.set ?_ (by dsimp only; omega); refine NewA.set ?_ (by dsimp only; omega); refine NewA.set ?_ (by dsimp only; omega); refine NewA.set ?_ (by dsimp only; omega); refine NewA.set ?_ (by dsimp only; omega)
    exact N1.out
  · refine Below.setCell ?_ (by simp <;> omega) _; refine Below.setCell ?_ (by simp <;> omega) _; refine Below.setCell ?_ (by simp <;> omega) _; refine Below.setCell ?_ (by simp <;> omega) _; refine Below.setCell ?_ (by simp <;> omega) _; refine Below.setCell ?_ (by simp <;> omega) _; refine Below.setCell ?_ (by simp <;> omega) _; refine Below.setCell ?_ (by simp <;> omega) _; refine Below.setCell ?_ (by simp <;> omega) _; refine Below.setCell ?_ (by simp <;> omega) _
    exact Hc.out
theorem toTransit_c (x : Tr) (vh vb : Value) (w : World) (h1 : SlB tInt w.heap.size w vh x.pk.hd) (h2 : SlB tInt w.heap.size w vb x.pk.bd) (hs : smTr x) :
    Calls Try.prog 70 #[.agg #[.int .i64 x.mix, .int .i64 x.pk.el, vh, .int .i64 x.pk.tag, vb, .bool x.ch]] w fun e w' => ∃ uh ub, e = .returned (.agg #[.int .i64 x.mix, .int .i64 x.pk.el, uh, .int .i64 x.pk.tag, ub, .bool x.ch]) ∧ NewA oTr w.heap.size w' [.int .i64 x.mix, .int .i64 x.pk.el, uh, .int .i64 x.pk.tag, ub, .bool x.ch] x ∧ Below w.heap.size w w' := by
  go_enter Try.func70, Try.ntmps70
  go_wp2_with fail
  refine (toPacket_c x.pk vh vb _ (h1.go (by (repeat (first | exact Below.refl _ _ | refine below_drew1 ?_ | refine Below.alloc ?_ (by simp <;> omega) _)))) (h2.go (by (repeat (first | exact Below.refl _ _ | refine below_drew1 ?_ | refine Below.alloc ?_ (by simp <;> omega) _)))) hs).mono ?_
  rintro e w1 ⟨uh, ub, rfl, n1, hb1⟩
  obtain ⟨b0, b1, b2⟩ := box3 hb1
  have hc : Below w.heap.size w w1 := bt (by (repeat (first | exact Below.refl _ _ | refine below_drew1 ?_ | refine Below.alloc ?_ (by simp <;> omega) _))) hb1
  have hz : w.heap.size + 1 + 1 < w1.heap.size := (Array.getElem?_eq_some_iff.1 b2).1
  obtain ⟨Ah, ch, Ab, cb, rfl, rfl⟩ := oPk_form n1
  simp only [World.size_alloc] at n1
  obtain ⟨_, _, _, _, _, j5, _⟩ := row6 b0
  obtain ⟨k0, k1, k2, k3, k4, k5, kf⟩ := row6 b1
  obtain ⟨l0, l1, l2, l3, l4, l5, lf⟩ := row6 b2
  have kf0 := kf 0; have kf1 := kf 1; have kf2 := kf 2; have kf3 := kf 3; have kf4 := kf 4; have kf5 := kf 5
  have lf1 := lf 1; have lf2 := lf 2; have lf3 := lf 3; have lf4 := lf 4; have lf5 := lf 5
  have N1 := hid n1; have Hc := hid hc
  clear h1 h2 hb1 b0 b1 b2 n1 hc kf lf
  go_wp2
  refine bodyPost_ret (v := .agg #[.int .i64 x.mix, .int .i64 x.pk.el, .slice Ah x.pk.hd.length ch, .int .i64 x.pk.tag, .slice Ab x.pk.bd.length cb, .bool x.ch]) (by simp [results, go_sem, k0, k1, k2, k3, k4, k5]) rfl ⟨_, _, rfl, ?_, ?_⟩
  · refine newA_tr (NewA.base (B := w.heap.size + 1 + 1 + 1) ?_ (by omega))
    refine NewA.set ?_ (by dsimp only; omega); refine NewA.set ?_ (by dsimp only; omega); refine NewA.set ?_ (by dsimp only; omega); refine NewA.set ?_ (by dsimp only; omega); refine NewA.set ?_ (by dsimp only; omega); refine NewA.set ?_ (by dsimp only; omega); refine NewA.set ?_ (by dsimp only; omega); refine NewA.set ?_ (by dsimp only; omega); refine NewA.set ?_ (by dsimp only; omega); refine NewA.set ?_ (by dsimp only; omega); refine NewA.set ?_ (by dsimp only; omega)
    exact N1.out
  · refine Below.setCell ?_ (by simp <;> omega) _; refine Below.setCell ?_ (by simp <;> omega) _; refine Below.setCell ?_ (by simp <;> omega) _; refine Below.setCell ?_ (by simp <;> omega) _; refine Below.setCell ?_ (by simp <;> omega) _; refine Below.setCell ?_ (by simp <;> omega) _; refine Below.setCell ?_ (by simp <;> omega) _; refine Below.setCell ?_ (by simp <;> omega) _; refine Below.setCell ?_ (by simp <;> omega) _; refine Below.setCell ?_ (by simp <;> omega) _; refine Below.setCell ?_ (by simp <;> omega) _
    exact Hc.out
theorem toLetter_c (l : Lt) (w : World) : Calls Try.prog 69 #[.agg #[.int .i64 l.fr, .int .i64 l.to, .int .i64 l.num]] w fun e w' => e = .returned (.agg #[.int .i64 l.fr, .int .i64 l.to, .int .i64 l.num]) ∧ Below w.heap.size w w' := by
  go_enter Try.func69, Try.ntmps69
  go_wp2
  refine bodyPost_ret (v := .agg #[.int .i64 l.fr, .int .i64 l.to, .int .i64 l.num]) (by simp [results, go_sem]) rfl ⟨rfl, ?_⟩
  (repeat (first | exact Below.refl _ _ | refine below_drew1 ?_ | refine Below.alloc ?_ (by simp <;> omega) _))
end Go.Proofs.Ytbkckjobhopicaa
