/- Copies of the lists of a run in new memory. -/
import Derived.Test.YtbkckjobhopicaaWFil
namespace Go.Proofs.Ytbkckjobhopicaa
open Go Go.RowKit
set_option maxHeartbeats 400000
def zPl : Array Value := #[.int .i64 0, .int .i64 0, .int .i64 0, .slice none 0 0, .int .i64 0, .slice none 0 0]
theorem infoPl : (Try.prog.info? 93).map (fun i => (i.zero, i.size, i.bytes)) = some (some (.agg #[.int .i64 0, .int .i64 0, .int .i64 0, .slice none 0 0, .int .i64 0, .slice none 0 0]), 6, 80) := by kernel_rfl
/-- make([]T, n), to be filled -/
theorem wpList_mkFil {α : Type} {P : Program} {w : World} {ops : Array Oper} {rest : List Oper} {o : Oper} {a : Act} {Q : Exit → Act → World → Prop}
    (hg : o.guard = none) (l c : Operand) (t : TypeId) (hop : o.op = Op.makeSlice t l c) (T : Ty α)
    {e : TypeId} {i : TypeInfo} {z : Value} {zs : Array Value} {B : Nat} (h1 : P.underlying t = some (.slice e)) (h2 : P.info? e = some i) (h3 : i.zero = some z) (hz : z.cells = zs) (h4 : i.size = T.k)
    {kl kc : IntKind} {L C : Int} (n : Nat) (hl : a.eval l = .int kl L) (hc : a.eval c = .int kc C) (hL : L = (n : Int)) (hC : C = (n : Int)) (b2 : i.bytes * n ≤ 281474976710656) (b3 : n ≤ maxLen) (b4 : B ≤ w.heap.size)
    (hK : ∀ w', Fil T e B zs n w' w.heap.size [] → w.grownBy w' none → wpList P ops Q rest (a.put o.dst (.slice (some ⟨w.heap.size, 0, none⟩) n n)) w') :
    wpList P ops Q (o :: rest) a w :=
  wpList_make_full w hg l c t hop B e i z T.k h1 h2 h3 h4 kl kc L C n hl hc hL hC b2 b3 b4 fun w' hown hgr => hK w' (Fil.start (by rw [← hz]; exact hown)) hgr
theorem oPl_form {B : Nat} {w : World} {x : Pl} {a b c d uh ub : Value} (h : NewA oPl B w [a, b, c, uh, d, ub] x) : ∃ Ah ch Ab cb, uh = .slice Ah x.pk.hd.length ch ∧ ub = .slice Ab x.pk.bd.length cb := by
  obtain ⟨F, ⟨c1, c2, F1, F2, e1, e2, ⟨rfl, rfl⟩, c3, c4, F3, F4, e3, e4, ⟨rfl, rfl⟩, h3⟩, n1, n2⟩ := h
  subst e3 e4
  simp at e1 e2
  subst e2
  obtain ⟨_, _, rfl⟩ := e1
  exact oPk_form ⟨_, h3, n1, n2⟩
theorem toPeeledS_c (v : Value) (xs : List Pl) (w : World) (h : SlB tPl w.heap.size w v xs) (hb : lenB xs.length) (hs : ∀ x ∈ xs, smPl x) :
    Calls Try.prog 82 #[v] w fun e w' => ∃ v', e = .returned v' ∧ NewS oPl 93 w.heap.size w' v' xs ∧ Below w.heap.size w w' := by
  obtain ⟨i0, hi, hz0, hz1, hz2⟩ := info_parts infoPl
  obtain ⟨A, c, rfl, h1, h2, h3⟩ := h.form
  unfold lenB at hb
  clear h2
  go_enter Try.func82, Try.ntmps82
  go_wp2_with
    (at_make; refine wpList_mkFil rfl _ _ 44 rfl oPl (B := w.heap.size) Try.underlying44 hi hz0 (zs := zPl) rfl hz1 xs.length rfl rfl rfl rfl (by rw [hz2]; omega) (by unfold maxLen; omega) (Nat.le_refl _) ?_; intro w1 ho1 hg1)
  go_loopw [4] (fun i wr => ∃ j : Nat, j ≤ xs.length ∧ i = .int .i64 j ∧ Fil oPl 93 w.heap.size zPl xs.length wr w.heap.size (xs.take j) ∧ Below w.heap.size w wr) (fun i _ => xs.length - (intOf i).toNat)
  case atStart => exact ⟨0, by omega, rfl, by simpa using ho1, (Below.refl _ _).grown hg1 (Nat.le_refl _) (by simp)⟩
  case round =>
    obtain ⟨j, hj, rfl, ho, hbw⟩ := hrel
    by_cases hlt : j < xs.length
    · obtain ⟨x, hx⟩ := get_ex hlt
      obtain ⟨b, o, vh, vb, rfl, hbB, hbz, hvh, hvb, k0, k1, k2, k3, k4, k5⟩ := (h.go hbw).pl hx
      have Hx := hid hx
      have Ho := hid ho; have Hb := hid hbw
      have hsx := hs x (List.mem_of_getElem? hx)
      clear hx ho hbw h ho1 hg1
      go_wp2_with fail
      refine (toPeeled_c x vh vb _ hvh hvb hsx).mono ?_
      rintro e w2 ⟨uh, ub, rfl, n2, hb2⟩
      obtain ⟨Ah, ch, Ab, cb, rfl, rfl⟩ := oPl_form n2
      have hlen : (xs.take j).length = j := by simp; omega
      have hgo := Ho.out.go hb2
      have f0 : w2.cell? ⟨w.heap.size, j * 6, none⟩ = some (.int .i64 0) := by have := hgo.at_ rfl (by rw [hlen]; exact hlt) 0 _ rfl; rw [hlen] at this; exact this
      have f1 : w2.cell? ⟨w.heap.size, j * 6 + 1, none⟩ = some (.int .i64 0) := by have := hgo.at_ rfl (by rw [hlen]; exact hlt) 1 _ rfl; rw [hlen] at this; exact this
      have f2 : w2.cell? ⟨w.heap.size, j * 6 + 2, none⟩ = some (.int .i64 0) := by have := hgo.at_ rfl (by rw [hlen]; exact hlt) 2 _ rfl; rw [hlen] at this; exact this
      have f3 : w2.cell? ⟨w.heap.size, j * 6 + 3, none⟩ = some (.slice none 0 0) := by have := hgo.at_ rfl (by rw [hlen]; exact hlt) 3 _ rfl; rw [hlen] at this; exact this
      have f4 : w2.cell? ⟨w.heap.size, j * 6 + 4, none⟩ = some (.int .i64 0) := by have := hgo.at_ rfl (by rw [hlen]; exact hlt) 4 _ rfl; rw [hlen] at this; exact this
      have f5 : w2.cell? ⟨w.heap.size, j * 6 + 5, none⟩ = some (.slice none 0 0) := by have := hgo.at_ rfl (by rw [hlen]; exact hlt) 5 _ rfl; rw [hlen] at this; exact this
      have z0 := hgo.frozen (j * 6); have z1 := hgo.frozen (j * 6 + 1); have z2 := hgo.frozen (j * 6 + 2); have z3 := hgo.frozen (j * 6 + 3); have z4 := hgo.frozen (j * 6 + 4); have z5 := hgo.frozen (j * 6 + 5)
      have R := hid (Ho.out.round (by rw [hlen]; exact hlt) hb2 n2)
      have Hb2 := hid (bt Hb.out hb2)
      clear hgo n2 hb2 Ho Hb k0 k1 k2 k3 k4 k5 hvh hvb hlen
      go_wp2
      go_roundw
      case rel => exact ⟨j + 1, by omega, by go_num, by rw [take_ex Hx.out]; have := R.out; rw [show (xs.take j).length = j from by simp; omega] at this; exact this, by
        have := setMany_below Hb2.out w.heap.size (j * 6) [.int .i64 x.kind, .int .i64 x.next, .int .i64 x.pk.el, .slice Ah x.pk.hd.length ch, .int .i64 x.pk.tag, .slice Ab x.pk.bd.length cb] (Nat.le_refl _)
        exact this⟩
      case measure => simp [intOf]; omega
    · have Ho := hid ho; have Hb := hid hbw
      clear ho hbw
      have hjl : j = xs.length := by omega
      subst hjl
      go_wp2
      go_ret
      exact ⟨_, rfl, by simpa using Ho.out.done (by simp), Hb.out⟩
end Go.Proofs.Ytbkckjobhopicaa
