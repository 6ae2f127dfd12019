/- Copies of mixes and runs in new memory. -/
import Derived.Test.YtbkckjobhopicaaWTo2
import Derived.Handy
namespace Go.Proofs.Ytbkckjobhopicaa
open Go Go.RowKit
set_option maxHeartbeats 400000
theorem bcell {W w1 : World} (hb : Below W.heap.size W w1) : (∀ b o, b < W.heap.size → w1.cell? ⟨b, o, none⟩ = W.cell? ⟨b, o, none⟩) ∧ (∀ b o, b < W.heap.size → w1.frozen? ⟨b, o, none⟩ = W.frozen? ⟨b, o, none⟩) :=
  ⟨fun b o h => hb.cell (p := ⟨b, o, none⟩) h, fun b o h => hb.frozen (p := ⟨b, o, none⟩) h⟩
theorem size3 {w w1 : World} {a b c : Obj} (h : (((w.alloc a).alloc b).alloc c).heap.size ≤ w1.heap.size) : w.heap.size < w1.heap.size ∧ w.heap.size + 1 < w1.heap.size ∧ w.heap.size + 1 + 1 < w1.heap.size := by
  simp at h; omega
theorem size_set (w : World) (p : Addr) (u : Value) : (w.setCell p u).heap.size = w.heap.size := by simp [World.setCell]
theorem newA_own {α : Type} {T : Ty α} {e B : Nat} {w : World} {v : Value} {xs : List α} (h : NewS T e B w v xs) : NewA (T.own e) B w [v] xs := by
  obtain ⟨G, ho, hn, hG⟩ := h
  have hx := ho.top
  obtain ⟨cs, h1, h2, h3⟩ := id ho
  refine ⟨v.ownBlock.toList ++ G, ⟨v, G, rfl, ho.base (Nat.zero_le _), rfl⟩, ?_, fun b hb => ?_⟩
  · cases hv : v.ownBlock with
    | none => simpa using hn
    | some g => simpa using ⟨h3 g hv, hn⟩
  · rcases List.mem_append.1 hb with hb | hb
    · exact (hx b (by simpa using hb)).1
    · exact hG b hb
/-- new memory, all of it below block C -/
def NewIn {α : Type} (T : Ty α) (B C : Nat) (w : World) (cs : List Value) (x : α) : Prop := ∃ F, T.E w cs x F ∧ F.Nodup ∧ ∀ b ∈ F, B ≤ b ∧ b < C
theorem NewA.inn {α : Type} {T : Ty α} {B : Nat} {w : World} {cs : List Value} {x : α} (h : NewA T B w cs x) : NewIn T B w.heap.size w cs x := by
  obtain ⟨F, h1, h2, h3⟩ := h
  exact ⟨F, h1, h2, fun b hb => ⟨h3 b hb, T.lt h1 b hb⟩⟩
theorem NewIn.new {α : Type} {T : Ty α} {B C : Nat} {w : World} {cs : List Value} {x : α} (h : NewIn T B C w cs x) : NewA T B w cs x := by
  obtain ⟨F, h1, h2, h3⟩ := h
  exact ⟨F, h1, h2, fun b hb => (h3 b hb).1⟩
theorem NewIn.go {α : Type} {T : Ty α} {B C n : Nat} {w w' : World} {cs : List Value} {x : α} (h : NewIn T B C w cs x) (hb : Below n w w') (hn : C ≤ n) : NewIn T B C w' cs x := by
  obtain ⟨F, h1, h2, h3⟩ := h
  exact ⟨F, T.keep h1 (fun b hm => hb.block b (Nat.lt_of_lt_of_le (h3 b hm).2 hn)), h2, h3⟩
theorem NewIn.base {α : Type} {T : Ty α} {B B' C : Nat} {w : World} {cs : List Value} {x : α} (h : NewIn T B C w cs x) (hB : B' ≤ B) : NewIn T B' C w cs x := by
  obtain ⟨F, h1, h2, h3⟩ := h
  exact ⟨F, h1, h2, fun b hb => ⟨Nat.le_trans hB (h3 b hb).1, (h3 b hb).2⟩⟩
theorem NewIn.top {α : Type} {T : Ty α} {B C C' : Nat} {w : World} {cs : List Value} {x : α} (h : NewIn T B C w cs x) (hC : C ≤ C') : NewIn T B C' w cs x := by
  obtain ⟨F, h1, h2, h3⟩ := h
  exact ⟨F, h1, h2, fun b hb => ⟨(h3 b hb).1, Nat.lt_of_lt_of_le (h3 b hb).2 hC⟩⟩
theorem NewIn.set {α : Type} {T : Ty α} {B C : Nat} {w : World} {cs : List Value} {x : α} {p : Addr} {u : Value} (h : NewIn T B C w cs x) (hp : p.block < B) : NewIn T B C (w.setCell p u) cs x := by
  obtain ⟨F, h1, h2, h3⟩ := h
  exact ⟨F, T.keep h1 (fun b hm => Below.heap_setCell _ _ _ _ (fun e => by have := h3 b hm; omega)), h2, h3⟩
theorem newA_pair {α β : Type} {S : Ty α} {T : Ty β} {B C : Nat} {w : World} {c1 c2 : List Value} {x : α} {y : β} (h1 : NewIn S B C w c1 x) (h2 : NewA T C w c2 y) (hBC : B ≤ C) : NewA (S.prod T) B w (c1 ++ c2) (x, y) := by
  obtain ⟨F, a1, a2, a3⟩ := h1
  obtain ⟨G, b1, b2, b3⟩ := h2
  refine ⟨F ++ G, ⟨c1, c2, F, G, rfl, rfl, a1, b1⟩, ?_, fun b hb => ?_⟩
  · rw [List.nodup_append]
    exact ⟨a2, b2, fun a ha b hb e => by have h1 := a3 a ha; have h2 := b3 b hb; omega⟩
  · rcases List.mem_append.1 hb with h | h
    · exact (a3 b h).1
    · exact Nat.le_trans hBC (b3 b h)
theorem newA_flat1 {α β : Type} {k : Nat} {f : α → List Value} {hf : ∀ x, (f x).length = k} {h1 : ∀ x, ∀ u ∈ f x, u.oneCell' = true} {T : Ty β} {B : Nat} {w : World} {c2 : List Value} {y : β} (x : α) (h2 : NewA T B w c2 y) : NewA ((Ty.flat k f hf h1).prod T) B w (f x ++ c2) (x, y) := by
  obtain ⟨G, b1, b2, b3⟩ := h2
  exact ⟨G, ⟨f x, c2, [], G, rfl, rfl, ⟨rfl, rfl⟩, b1⟩, b2, b3⟩
theorem newA_mx {B C : Nat} {w : World} {m : Mx} {us up : Value} (h1 : NewIn oInt B C w [us] m.seen) (h2 : NewA oPls C w [up] m.pool) (hBC : B ≤ C) : NewA oMx B w [.int .i64 m.sec, us, up] m :=
  newA_flat1 (f := fun n => [Value.int .i64 n]) m.sec (newA_pair h1 h2 hBC)
theorem toMix_c (m : Mx) (vs vp : Value) (w : World) (h1 : SlB tInt w.heap.size w vs m.seen) (h2 : SlB tPl w.heap.size w vp m.pool) (hs : smMx m) :
    Calls Try.prog 68 #[.agg #[.int .i64 m.sec, vs, vp]] w fun e w' => ∃ us up, e = .returned (.agg #[.int .i64 m.sec, us, up]) ∧ NewA oMx w.heap.size w' [.int .i64 m.sec, us, up] m ∧ Below w.heap.size w w' := by
  have H2 := hid (fun (wx : World) (hb : Below w.heap.size w wx) => h2.go hb)
  have hs1 := hs.1; have Hs2 := hid hs.2
  unfold lenB at hs1
  go_enter Try.func68, Try.ntmps68
  go_wp2_with fail
  refine (toIntS_c vs m.seen _ (h1.go (by (repeat (first | exact Below.refl _ _ | refine below_drew1 ?_ | refine Below.alloc ?_ (by simp <;> omega) _)))) (by omega)).mono ?_
  rintro e w1 ⟨us, rfl, n1, hb1⟩
  have hc : Below w.heap.size w w1 := bt (by (repeat (first | exact Below.refl _ _ | refine below_drew1 ?_ | refine Below.alloc ?_ (by simp <;> omega) _))) hb1
  obtain ⟨y0, y1, y2⟩ := size3 hb1.size
  obtain ⟨hc1, hf1⟩ := bcell hb1
  have N1 := hid n1; have Hc := hid hc
  obtain ⟨As, cs, rfl, _, _, _⟩ := n1.slB.form
  clear h1 h2 hb1 n1 hc hs
  go_wp2_with fail
  have hx : Below w.heap.size w (w1.setCell ⟨w.heap.size + 1 + 1, 1, none⟩ (.slice As m.seen.length cs)) := Hc.out.setCell (by simp <;> omega) _
  refine (toPeeledS_c vp m.pool _ (H2.out _ hx) Hs2.out.1 Hs2.out.2).mono ?_
  rintro e w2 ⟨up, rfl, n2, hb2⟩
  have yy := hb2.size
  rw [size_set] at yy
  have z0 := Nat.lt_of_lt_of_le y0 yy; have z1 := Nat.lt_of_lt_of_le y1 yy; have z2 := Nat.lt_of_lt_of_le y2 yy
  obtain ⟨hc2, hf2⟩ := bcell hb2
  obtain ⟨Ap, cp, rfl, _, _, _⟩ := n2.slB.form
  have N2 := hid n2; have Hx := hid hx; have Hb2 := hid hb2
  clear n2 hx hb2 Hc
  go_wp2
  refine bodyPost_ret (v := .agg #[.int .i64 m.sec, .slice As m.seen.length cs, .slice Ap m.pool.length cp]) (by simp [results, go_sem, hc2, hc1, z0, z1, z2, y0, y1, y2]) rfl ⟨_, _, rfl, ?_, ?_⟩
  · refine NewA.base (B := w.heap.size + 1 + 1 + 1) ?_ (by omega)
    repeat (refine NewA.set ?_ (by dsimp only; omega))
    have hin := ((newA_own N1.out).inn.set (p := ⟨w.heap.size + 1 + 1, 1, none⟩) (u := .slice As m.seen.length cs) (by simp)).go Hb2.out (by rw [size_set]; exact Nat.le_refl _)
    refine newA_mx (hin.base (by simp)) (newA_own (N2.out.base (Nat.le_of_eq (size_set _ _ _).symm))) (by omega)
  · (repeat (refine Below.setCell ?_ (by dsimp only; omega) _))
    exact bt Hx.out Hb2.out
theorem oTr_form {B : Nat} {w : World} {x : Tr} {a b c d uh ub : Value} (h : NewA oTr B w [a, b, uh, c, ub, d] x) : ∃ Ah ch Ab cb, uh = .slice Ah x.pk.hd.length ch ∧ ub = .slice Ab x.pk.bd.length cb := by
  obtain ⟨F, ⟨c1, c2, F1, F2, e1, e2, ⟨rfl, rfl⟩, c3, c4, F3, F4, e3, e4, h3, ⟨rfl, rfl⟩⟩, n1, n2⟩ := h
  subst e3 e4
  have hl := oPk.len h3
  match c3, hl with
  | [p0, p1, p2, p3], _ =>
    simp at e1 e2
    obtain ⟨_, rfl, rfl, rfl, rfl, _⟩ := e1
    exact oPk_form ⟨_, h3, by subst e2; simpa using n1, fun b hb => n2 b (by subst e2; simpa using hb)⟩
theorem oMx_form {B : Nat} {w : World} {x : Mx} {a us up : Value} (h : NewA oMx B w [a, us, up] x) : ∃ As cs Ap cp, us = .slice As x.seen.length cs ∧ up = .slice Ap x.pool.length cp := by
  obtain ⟨F, ⟨c1, c2, F1, F2, e1, e2, ⟨rfl, rfl⟩, c3, c4, F3, F4, e3, e4, ⟨u, G, rfl, hu, _⟩, ⟨v, G', rfl, hv, _⟩⟩, n1, n2⟩ := h
  subst e3
  simp at e1
  obtain ⟨_, rfl, rfl⟩ := e1
  obtain ⟨A, c, rfl, _⟩ := hu.form
  obtain ⟨A', c', rfl, _⟩ := hv.form
  exact ⟨_, _, _, _, rfl, rfl⟩
def zLt : Array Value := #[.int .i64 0, .int .i64 0, .int .i64 0]
theorem infoLt : (Try.prog.info? 60).map (fun i => (i.zero, i.size, i.bytes)) = some (some (.agg #[.int .i64 0, .int .i64 0, .int .i64 0]), 3, 24) := by kernel_rfl
def zTr : Array Value := #[.int .i64 0, .int .i64 0, .slice none 0 0, .int .i64 0, .slice none 0 0, .bool false]
theorem infoTr : (Try.prog.info? 55).map (fun i => (i.zero, i.size, i.bytes)) = some (some (.agg #[.int .i64 0, .int .i64 0, .slice none 0 0, .int .i64 0, .slice none 0 0, .bool false]), 6, 80) := by kernel_rfl
def zMx : Array Value := #[.int .i64 0, .slice none 0 0, .slice none 0 0]
def smLt (_ : Lt) : Prop := True
theorem toLetterS_c (v : Value) (xs : List Lt) (w : World) (h : SlB tLt w.heap.size w v xs) (hb : lenB xs.length) (hs : ∀ x ∈ xs, smLt x) :
    Calls Try.prog 46 #[v] w fun e w' => ∃ v', e = .returned v' ∧ NewS tLt 60 w.heap.size w' v' xs ∧ Below w.heap.size w w' := by
  obtain ⟨i0, hi, hz0, hz1, hz2⟩ := info_parts infoLt
  obtain ⟨A, c, rfl, h1, h2, h3⟩ := h.form
  unfold lenB at hb
  clear h2
  go_enter Try.func46, Try.ntmps46
  go_wp2_with
    (at_make; refine wpList_mkFil rfl _ _ 24 rfl tLt (B := w.heap.size) Try.underlying24 hi hz0 (zs := zLt) rfl hz1 xs.length rfl rfl rfl rfl (by rw [hz2]; omega) (by unfold maxLen; omega) (Nat.le_refl _) ?_; intro w1 ho1 hg1)
  go_loopw [4] (fun i wr => ∃ j : Nat, j ≤ xs.length ∧ i = .int .i64 j ∧ Fil tLt 60 w.heap.size zLt xs.length wr w.heap.size (xs.take j) ∧ Below w.heap.size w wr) (fun i _ => xs.length - (intOf i).toNat)
  case atStart => exact ⟨0, by omega, rfl, by simpa using ho1, (Below.refl _ _).grown hg1 (Nat.le_refl _) (by simp)⟩
  case round =>
    obtain ⟨j, hj, rfl, ho, hbw⟩ := hrel
    by_cases hlt : j < xs.length
    · obtain ⟨x, hx⟩ := get_ex hlt
      obtain ⟨x, hx, b, o, rfl, hbB, hbz, k0, k1, k2⟩ : ∃ x, xs[j]? = some x ∧ ∃ b o, A = some ⟨b, o, none⟩ ∧ b < wr.heap.size ∧ b < wr.heap.size ∧ wr.cell? ⟨b, o + j * 3, none⟩ = some (.int .i64 x.fr) ∧ wr.cell? ⟨b, o + j * 3 + 1, none⟩ = some (.int .i64 x.to) ∧ wr.cell? ⟨b, o + j * 3 + 2, none⟩ = some (.int .i64 x.num) := ⟨x, hx, (h.go hbw).lt3 hx⟩
      have Hx := hid hx
      have Ho := hid ho; have Hb := hid hbw
      have hsx := hs x (List.mem_of_getElem? hx)
      clear hx ho hbw h ho1 hg1
      go_wp2_with fail
      refine (toLetter_c x _).mono ?_
      rintro e w2 ⟨rfl, hb2⟩
      have n2 : NewA tLt wr.heap.size w2 _ x := newA_flat (f := fun s : Lt => [Value.int .i64 s.fr, .int .i64 s.to, .int .i64 s.num]) wr.heap.size w2 x
      have hlen : (xs.take j).length = j := by simp; omega
      have hgo := Ho.out.go hb2
      have fa := fun d u hu => hgo.at_ rfl (by rw [hlen]; exact hlt) d u hu
      rw [hlen] at fa
      have zf := fun d => hgo.frozen (j * 3 + d)
      have f0 : w2.cell? ⟨w.heap.size, j * 3, none⟩ = some (Value.int .i64 0) := fa 0 _ rfl; have z0 : w2.frozen? ⟨w.heap.size, j * 3, none⟩ = false := zf 0; have f1 : w2.cell? ⟨w.heap.size, j * 3 + 1, none⟩ = some (Value.int .i64 0) := fa 1 _ rfl; have z1 : w2.frozen? ⟨w.heap.size, j * 3 + 1, none⟩ = false := zf 1; have f2 : w2.cell? ⟨w.heap.size, j * 3 + 2, none⟩ = some (Value.int .i64 0) := fa 2 _ rfl; have z2 : w2.frozen? ⟨w.heap.size, j * 3 + 2, none⟩ = false := zf 2
      have R := hid (Ho.out.round (by rw [hlen]; exact hlt) hb2 n2)
      have Hb2 := hid (bt Hb.out hb2)
      clear hgo n2 hb2 Ho Hb hlen fa zf
      go_wp2
      go_roundw
      case rel => exact ⟨j + 1, by omega, by go_num, by rw [take_ex Hx.out]; have := R.out; rw [show (xs.take j).length = j from by simp; omega] at this; exact this, by
        have := setMany_below Hb2.out w.heap.size (j * 3) [.int .i64 x.fr, .int .i64 x.to, .int .i64 x.num] (Nat.le_refl _)
        exact this⟩
      case measure => simp [intOf]; omega
    · have Ho := hid ho; have Hb := hid hbw
      clear ho hbw
      have hjl : j = xs.length := by omega
      subst hjl
      go_wp2
      go_ret
      exact ⟨_, rfl, by simpa using Ho.out.done (by simp), Hb.out⟩
theorem toTransitS_c (v : Value) (xs : List Tr) (w : World) (h : SlB tTr w.heap.size w v xs) (hb : lenB xs.length) (hs : ∀ x ∈ xs, smTr x) :
    Calls Try.prog 47 #[v] w fun e w' => ∃ v', e = .returned v' ∧ NewS oTr 55 w.heap.size w' v' xs ∧ Below w.heap.size w w' := by
  obtain ⟨i0, hi, hz0, hz1, hz2⟩ := info_parts infoTr
  obtain ⟨A, c, rfl, h1, h2, h3⟩ := h.form
  unfold lenB at hb
  clear h2
  go_enter Try.func47, Try.ntmps47
  go_wp2_with
    (at_make; refine wpList_mkFil rfl _ _ 25 rfl oTr (B := w.heap.size) Try.underlying25 hi hz0 (zs := zTr) rfl hz1 xs.length rfl rfl rfl rfl (by rw [hz2]; omega) (by unfold maxLen; omega) (Nat.le_refl _) ?_; intro w1 ho1 hg1)
  go_loopw [4] (fun i wr => ∃ j : Nat, j ≤ xs.length ∧ i = .int .i64 j ∧ Fil oTr 55 w.heap.size zTr xs.length wr w.heap.size (xs.take j) ∧ Below w.heap.size w wr) (fun i _ => xs.length - (intOf i).toNat)
  case atStart => exact ⟨0, by omega, rfl, by simpa using ho1, (Below.refl _ _).grown hg1 (Nat.le_refl _) (by simp)⟩
  case round =>
    obtain ⟨j, hj, rfl, ho, hbw⟩ := hrel
    by_cases hlt : j < xs.length
    · obtain ⟨x, hx⟩ := get_ex hlt
      obtain ⟨b, o, vh, vb, rfl, hbB, hbz, hvh, hvb, k0, k1, k2, k3, k4, k5⟩ := (h.go hbw).tr hx
      have Hx := hid hx
      have Ho := hid ho; have Hb := hid hbw
      have hsx := hs x (List.mem_of_getElem? hx)
      clear hx ho hbw h ho1 hg1
      go_wp2_with fail
      refine (toTransit_c x vh vb _ hvh hvb hsx).mono ?_
      rintro e w2 ⟨uh, ub, rfl, n2, hb2⟩
      obtain ⟨Ah, ch, Ab, cb, rfl, rfl⟩ := oTr_form n2
      have hlen : (xs.take j).length = j := by simp; omega
      have hgo := Ho.out.go hb2
      have fa := fun d u hu => hgo.at_ rfl (by rw [hlen]; exact hlt) d u hu
      rw [hlen] at fa
      have zf := fun d => hgo.frozen (j * 6 + d)
      have f0 : w2.cell? ⟨w.heap.size, j * 6, none⟩ = some (Value.int .i64 0) := fa 0 _ rfl; have z0 : w2.frozen? ⟨w.heap.size, j * 6, none⟩ = false := zf 0; have f1 : w2.cell? ⟨w.heap.size, j * 6 + 1, none⟩ = some (Value.int .i64 0) := fa 1 _ rfl; have z1 : w2.frozen? ⟨w.heap.size, j * 6 + 1, none⟩ = false := zf 1; have f2 : w2.cell? ⟨w.heap.size, j * 6 + 2, none⟩ = some (Value.slice none 0 0) := fa 2 _ rfl; have z2 : w2.frozen? ⟨w.heap.size, j * 6 + 2, none⟩ = false := zf 2; have f3 : w2.cell? ⟨w.heap.size, j * 6 + 3, none⟩ = some (Value.int .i64 0) := fa 3 _ rfl; have z3 : w2.frozen? ⟨w.heap.size, j * 6 + 3, none⟩ = false := zf 3; have f4 : w2.cell? ⟨w.heap.size, j * 6 + 4, none⟩ = some (Value.slice none 0 0) := fa 4 _ rfl; have z4 : w2.frozen? ⟨w.heap.size, j * 6 + 4, none⟩ = false := zf 4; have f5 : w2.cell? ⟨w.heap.size, j * 6 + 5, none⟩ = some (Value.bool false) := fa 5 _ rfl; have z5 : w2.frozen? ⟨w.heap.size, j * 6 + 5, none⟩ = false := zf 5
      have R := hid (Ho.out.round (by rw [hlen]; exact hlt) hb2 n2)
      have Hb2 := hid (bt Hb.out hb2)
      clear hgo n2 hb2 Ho Hb hlen fa zf
      go_wp2
      go_roundw
      case rel => exact ⟨j + 1, by omega, by go_num, by rw [take_ex Hx.out]; have := R.out; rw [show (xs.take j).length = j from by simp; omega] at this; exact this, by
        have := setMany_below Hb2.out w.heap.size (j * 6) [.int .i64 x.mix, .int .i64 x.pk.el, .slice Ah x.pk.hd.length ch, .int .i64 x.pk.tag, .slice Ab x.pk.bd.length cb, .bool x.ch] (Nat.le_refl _)
        exact this⟩
      case measure => simp [intOf]; omega
    · have Ho := hid ho; have Hb := hid hbw
      clear ho hbw
      have hjl : j = xs.length := by omega
      subst hjl
      go_wp2
      go_ret
      exact ⟨_, rfl, by simpa using Ho.out.done (by simp), Hb.out⟩
theorem toMixS_c (v : Value) (xs : List Mx) (w : World) (h : SlB tMx w.heap.size w v xs) (hb : lenB xs.length) (hs : ∀ x ∈ xs, smMx x) :
    Calls Try.prog 45 #[v] w fun e w' => ∃ v', e = .returned v' ∧ NewS oMx 46 w.heap.size w' v' xs ∧ Below w.heap.size w w' := by
  obtain ⟨i0, hi, hz0, hz1, hz2⟩ := info_parts infoMix
  obtain ⟨A, c, rfl, h1, h2, h3⟩ := h.form
  unfold lenB at hb
  clear h2
  go_enter Try.func45, Try.ntmps45
  go_wp2_with
    (at_make; refine wpList_mkFil rfl _ _ 23 rfl oMx (B := w.heap.size) Try.underlying23 hi hz0 (zs := zMx) rfl hz1 xs.length rfl rfl rfl rfl (by rw [hz2]; omega) (by unfold maxLen; omega) (Nat.le_refl _) ?_; intro w1 ho1 hg1)
  go_loopw [4] (fun i wr => ∃ j : Nat, j ≤ xs.length ∧ i = .int .i64 j ∧ Fil oMx 46 w.heap.size zMx xs.length wr w.heap.size (xs.take j) ∧ Below w.heap.size w wr) (fun i _ => xs.length - (intOf i).toNat)
  case atStart => exact ⟨0, by omega, rfl, by simpa using ho1, (Below.refl _ _).grown hg1 (Nat.le_refl _) (by simp)⟩
  case round =>
    obtain ⟨j, hj, rfl, ho, hbw⟩ := hrel
    by_cases hlt : j < xs.length
    · obtain ⟨x, hx⟩ := get_ex hlt
      obtain ⟨b, o, us, up, rfl, hbB, hbz, hvs, hvp, k0, k1, k2⟩ := (h.go hbw).mx hx
      have Hx := hid hx
      have Ho := hid ho; have Hb := hid hbw
      have hsx := hs x (List.mem_of_getElem? hx)
      clear hx ho hbw h ho1 hg1
      go_wp2_with fail
      refine (toMix_c x us up _ hvs hvp hsx).mono ?_
      rintro e w2 ⟨vs, vp, rfl, n2, hb2⟩
      obtain ⟨As, cs, Ap, cp, rfl, rfl⟩ := oMx_form n2
      have hlen : (xs.take j).length = j := by simp; omega
      have hgo := Ho.out.go hb2
      have fa := fun d u hu => hgo.at_ rfl (by rw [hlen]; exact hlt) d u hu
      rw [hlen] at fa
      have zf := fun d => hgo.frozen (j * 3 + d)
      have f0 : w2.cell? ⟨w.heap.size, j * 3, none⟩ = some (Value.int .i64 0) := fa 0 _ rfl; have z0 : w2.frozen? ⟨w.heap.size, j * 3, none⟩ = false := zf 0; have f1 : w2.cell? ⟨w.heap.size, j * 3 + 1, none⟩ = some (Value.slice none 0 0) := fa 1 _ rfl; have z1 : w2.frozen? ⟨w.heap.size, j * 3 + 1, none⟩ = false := zf 1; have f2 : w2.cell? ⟨w.heap.size, j * 3 + 2, none⟩ = some (Value.slice none 0 0) := fa 2 _ rfl; have z2 : w2.frozen? ⟨w.heap.size, j * 3 + 2, none⟩ = false := zf 2
      have R := hid (Ho.out.round (by rw [hlen]; exact hlt) hb2 n2)
      have Hb2 := hid (bt Hb.out hb2)
      clear hgo n2 hb2 Ho Hb hlen fa zf
      go_wp2
      go_roundw
      case rel => exact ⟨j + 1, by omega, by go_num, by rw [take_ex Hx.out]; have := R.out; rw [show (xs.take j).length = j from by simp; omega] at this; exact this, by
        have := setMany_below Hb2.out w.heap.size (j * 3) [.int .i64 x.sec, .slice As x.seen.length cs, .slice Ap x.pool.length cp] (Nat.le_refl _)
        exact this⟩
      case measure => simp [intOf]; omega
    · have Ho := hid ho; have Hb := hid hbw
      clear ho hbw
      have hjl : j = xs.length := by omega
      subst hjl
      go_wp2
      go_ret
      exact ⟨_, rfl, by simpa using Ho.out.done (by simp), Hb.out⟩
end Go.Proofs.Ytbkckjobhopicaa
