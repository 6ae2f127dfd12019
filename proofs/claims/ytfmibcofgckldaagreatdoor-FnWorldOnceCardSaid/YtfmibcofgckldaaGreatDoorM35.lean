/- Texts that the last file leans on (part 35). -/
import Derived.Test.YtfmibcofgckldaaGreatDoorM31
import Derived.Test.YtfmibcofgckldaaGreatDoorM34
set_option linter.unusedVariables false
set_option linter.unusedSimpArgs false
set_option maxHeartbeats 4000000
set_option maxRecDepth 100000
namespace Go.Proofs.YtfmibcofgckldaaGreatDoor
open Go Go.RowKit
theorem vO {w : World} {cs : List Value} {xs : List Mx} {F : List Nat} (h : nMx.els w cs xs F) (hp : ∀ x ∈ xs, x.seen = [] ∧ x.pool = []) : oMx.els w cs xs F := by
 induction xs generalizing cs F with
 | nil => exact h
 | cons x xs ih =>
  obtain ⟨c1, c2, F1, F2, rfl, rfl, ⟨rfl, rfl⟩, h2⟩ := h
  obtain ⟨e1, e2⟩ := hp x List.mem_cons_self
  obtain ⟨sec, seen, pool⟩ := x
  dsimp only at e1 e2
  subst e1 e2
  exact ⟨_, _, [], _, rfl, rfl, ⟨[_], [_, _], [], [], rfl, rfl, ⟨rfl, rfl⟩, [_], [_], [], [], rfl, rfl, ⟨_, [], rfl, Own.nil _ _, rfl⟩, ⟨_, [], rfl, Own.nil _ _, rfl⟩⟩, ih h2 (fun y hy => hp y (List.mem_cons_of_mem _ hy))⟩
theorem wj {B : Nat} {w : World} {vm : Value} (h : be nMx 57 B w vm (fP 3)) : cF B w.heap.size w vm (.slice none 0 0) (.slice none 0 0) (.slice none 0 0) vG := by
 obtain ⟨G, hO, hnd, hlo⟩ := h
 have ht := hO.top
 obtain ⟨cs, h1, h2, h3⟩ := hO
 have hO' : Own oMx 57 0 w vm (fP 3) G := ⟨cs, ii h1 (fun _ _ => Nat.zero_le _), vO h2 (vF 3), h3⟩
 refine ⟨vm.ownBlock.toList ++ G, [], [], [], ⟨⟨vm, G, rfl, hO', rfl⟩, ⟨_, [], rfl, Own.nil _ _, rfl⟩, ⟨_, [], rfl, Own.nil _ _, rfl⟩, ⟨_, [], rfl, Own.nil _ _, rfl⟩⟩, ?_, fun c hc => ?_⟩
 ·simp only [List.append_nil]
  exact List.nodup_append.2 ⟨dr _, hnd, fun a ha b hb e => h3 a (aM.1 ha) (e ▸ hb)⟩
 ·simp only [List.append_nil, List.mem_append] at hc
  rcases hc with hc | hc
  ·exact ht c (aM.1 hc)
  ·exact ⟨hlo c hc, Ty.els_lt h2 c hc⟩
def BxI (g n : Nat) (w : World) (y : Wd) : Prop :=
 ∃ a b c d B C, w.heap[g]? = some (.cells #[a, b, c, d, .int .i64 y.made, .int .i64 y.lost] 29 (0, 0)) ∧ cF B C w a b c d y ∧ (g < B ∨ C ≤ g) ∧ n ≤ B ∧ B ≤ C ∧ C ≤ w.heap.size
section
variable {g n : Nat} {w w5 : World} {y : Wd} {a b c d : Value}
theorem BxI.go (h : BxI g n w y) (hb : Below w.heap.size w w5) : BxI g n w5 y := by
 obtain ⟨a, b, c, d, B, C, h1, h2, h3, h4, h5, h6⟩ := h
 exact ⟨a, b, c, d, B, C, heap_go hb h1, h2.go hb h6, h3, h4, h5, Nat.le_trans h6 hb.size⟩
theorem BxI.put {x : Wd} (h : BxI g n w x) (hb : Below w.heap.size w w5) (hn : n ≤ w.heap.size) (h5 : ao oWd w.heap.size w5 [a, b, c, d, .int .i64 y.made, .int .i64 y.lost] y) :
  BxI g n ((((((w5.setCell ⟨g, 0, none⟩ a).setCell ⟨g, 1, none⟩ b).setCell ⟨g, 2, none⟩ c).setCell ⟨g, 3, none⟩ d).setCell ⟨g, 4, none⟩ (.int .i64 y.made)).setCell ⟨g, 5, none⟩ (.int .i64 y.lost)) y := by
 obtain ⟨_, _, _, _, _, _, h1, _⟩ := h
 have hg := (Array.getElem?_eq_some_iff.1 h1).1
 exact ⟨a, b, c, d, _, _, dy _ _ _ _ _ _ (heap_go hb h1), (cF.of h5).keep (fun c h1 _ => bS c (by omega)), .inl hg, hn, hb.size, by simp only [aj]; omega⟩
end
theorem vE (evs : List Ev) (v : Value) (w : World) (hg : eQ w) (h : SlB tEv w.heap.size w v evs) : Calls Tryz.prog 13 #[v] w (PyOut w evs) := by
 have hw0 : 0 < w.heap.size := World.block_lt_of_cell? _ _ hg
 have Hg := hid (fun (wx : World) (hb : Below w.heap.size w wx) => hg.go hb)
 obtain ⟨A, c, rfl, _, _, _⟩ := h.form
 have H := hid (fun (wx : World) (hb : Below w.heap.size w wx) => h.go hb)
 clear h hg
 obtain ⟨z, hz⟩ : ∃ z, z = plW evs := ⟨_, rfl⟩
 unfold PyOut
 rw [← hz]
 have Hz := hid hz
 clear hz
 go_enter Tryz.func13, Tryz.ntmps13
 have e1 := heap_alloc_new w (.cells #[.slice none 0 0, .slice none 0 0, .slice none 0 0, .slice none 0 0, .int .i64 0, .int .i64 0] 29)
 have E1 := hid e1
 have HB1 := hid (lit_below w (.cells #[.slice none 0 0, .slice none 0 0, .slice none 0 0, .slice none 0 0, .int .i64 0, .int .i64 0] 29))
 clear e1
 by_cases h80 : evs.length ≤ 80
 ·have i1 : decide ((80 : Int) < (evs.length : Int)) = false := decide_eq_false (by omega)
  have d1 : decide (evs.length ≤ 80) = true := decide_eq_true h80
  obtain rfl := Hz.out.trans (show plW evs = b6 evs by unfold plW; rw [if_pos h80])
  rw [d1]
  clear d1 Hz
  go_wp2_with fail
  refine (vV _).mono ?_
  rintro e w2 ⟨vm, rfl, hn2, hb2⟩
  have Hc2 := hid (bt HB1.out hb2); have E2 := hid (heap_go hb2 E1.out)
  have z2 : w.heap.size < w2.heap.size := (Array.getElem?_eq_some_iff.1 E2.out).1
  obtain ⟨Am, cm, rfl, _, _, _⟩ := hn2.slB.form
  have hr2 := wj (hn2.base (B' := w.heap.size + 1) (by simp))
  have Hr2 := hid hr2
  clear hn2 hr2 hb2 E1 HB1
  go_upto_region 4 with fail
  generalize hgw : World.alloc w2 _ = W1
  have hbx : BxI w2.heap.size (w.heap.size + 1) W1 vG := by
   subst hgw
   exact ⟨_, _, _, _, _, _, heap_alloc_new _ _, Hr2.out.go (lit_below _ _) (Nat.le_refl _), .inr (Nat.le_refl _), Nat.le_refl _, by omega, by simp⟩
  have hbW : Below w2.heap.size w2 W1 := by subst hgw; exact lit_below _ _
  have zg : w.heap.size + 1 ≤ w2.heap.size := by omega
  have zW : w.heap.size + 1 ≤ W1.heap.size := by have := hbW.size; omega
  have Hbx := hid hbx; have HbW := hid (bt Hc2.out hbW); have EW := hid (heap_go hbW E2.out)
  generalize w2.heap.size = g at *
  clear hgw hbx hbW Hr2 Hc2 E2 z2
  go_wp2_with fail
  go_loopw [14] (fun i wr => ∃ (k : Nat) (y : Wd), k ≤ evs.length ∧ i = .int .i64 k ∧ y = b6 (evs.take k) ∧ VD 0 y ∧ BxI g (w.heap.size + 1) wr y ∧ Below (w.heap.size + 1) W1 wr) (fun i _ => evs.length - (intOf i).toNat)
  case atStart => exact ⟨0, vG, by omega, rfl, rfl, vK, Hbx.out, Below.refl _ _⟩
  case round =>
   obtain ⟨k, y, hk, rfl, hy, hvy, hby, hb⟩ := hrel
   have Hby := hid hby; have Hb := hid hb; have Hvy := hid hvy; have Hy := hid hy
   have Hc := hid (HbW.out.trans (hb.mono (by omega)))
   clear hb hvy hy Hbx hby
   by_cases hlt : k < evs.length
   ·obtain ⟨ev, hev⟩ := ah hlt
    obtain ⟨b, o, rfl, hbl, _, t0, t1, t2, t3⟩ := (H.out _ Hc.out).ev hev
    have hbr : b < wr.heap.size := by have := Hc.out.size; omega
    have Hev := hid hev
    clear hev
    go_upto_region 7 with fail
    generalize hgw : World.alloc wr _ = w3
    have eb : w3.heap[wr.heap.size]? = some (.cells #[.int .i64 ev.kind, .int .i64 ev.a, .int .i64 ev.b, .int .i64 ev.c] 45 (0, 0)) := by subst hgw; exact heap_alloc_new _ _
    have hb3 : Below wr.heap.size wr w3 := by subst hgw; exact lit_below _ _
    obtain ⟨v0, v1, v2, v3, _⟩ := aQ eb
    have y3 := (Array.getElem?_eq_some_iff.1 eb).1
    have hby3 := Hby.out.go hb3
    have Hby3 := hid hby3; have Hb3 := hid (Hb.out.trans (hb3.mono (by have := Hb.out.size; omega))); have Hc3 := hid (bt Hc.out hb3)
    obtain ⟨a, b', c', d, B, C, r0, hri, _, _, _, _⟩ := hby3
    obtain ⟨A1, c1, A2, c2, A3, c3, A4, c4, rfl, rfl, rfl, rfl⟩ := hri.form
    obtain ⟨k0, k1, k2, k3, k4, k5, _⟩ := al r0
    have hg3 := (Array.getElem?_eq_some_iff.1 r0).1
    have Rw := hid hri.wdB
    clear hgw eb hb3 hri r0 Hb t0 t1 t2 t3 Hby
    go_wp2_with fail
    refine (mF y _ ev _ (Hg.out _ Hc3.out) Rw.out (by have := Hvy.out.gl; omega)).mono ?_
    rw [show stepW y ev = doW y ev by unfold stepW; rw [mm.2 Hvy.out]; rfl]
    rintro e w5 ⟨um, us, un, ug, rfl, n5, hb5⟩
    obtain ⟨D1, f1, D2, f2, D3, f3, D4, f4, rfl, rfl, rfl, rfl⟩ := cL n5
    have hz1 := vH Hev.out
    rw [← Hy.out] at hz1
    have hz3 := Hvy.out.do_ ev
    generalize doW y ev = z' at *
    obtain ⟨_, _, _, _, _, _, r5, _⟩ := Hby3.out.go hb5
    have hg5 := (Array.getElem?_eq_some_iff.1 r5).1
    obtain ⟨q0, q1, q2, q3, q4, q5, qf, qf0, qf1, qf2, qf3, qf4, qf5⟩ := row6f r5
    have N5 := hid n5; have HB5 := hid hb5; have Hb5 := hid (Hb3.out.trans (hb5.mono (by have := Hb3.out.size; omega)))
    have Hz1 := hid hz1; have Hz3 := hid hz3
    clear n5 hb5 r5 qf hz1 hz3 k0 k1 k2 k3 k4 k5 v0 v1 v2 v3
    go_wp2_with fail
    go_roundw
    case rel => exact ⟨k + 1, z', by omega, by go_num, Hz1.out.symm, Hz3.out, Hby3.out.put HB5.out (by have := Hb3.out.size; omega) N5.out, (by (repeat (refine Below.setCell ?_ (by dsimp only; omega) _)); exact Hb5.out)⟩
    case measure => simp [intOf]; omega
   ·obtain rfl : y = b6 evs := by rw [Hy.out, List.take_of_length_le (by omega)]
    obtain ⟨a, b', c', d, B, C, r0, hri, _, hnB, _, _⟩ := Hby.out
    have e3 := (Hb.out.block w.heap.size (by omega)).trans EW.out
    have z29 := (Array.getElem?_eq_some_iff.1 e3).1
    obtain ⟨A1, c1, A2, c2, A3, c3, A4, c4, rfl, rfl, rfl, rfl⟩ := hri.form
    obtain ⟨k0, k1, k2, k3, k4, k5, _⟩ := al r0
    have hg3 := (Array.getElem?_eq_some_iff.1 r0).1
    obtain ⟨q0, q1, q2, q3, q4, q5, qf, qf0, qf1, qf2, qf3, qf4, qf5⟩ := row6f e3
    have Hri := hid hri
    clear hri r0 e3 qf Hby Hb EW HbW Hy
    generalize b6 evs = y at *
    go_wp2_with fail
    refine bodyPost_ret (v := .tuple #[.agg #[.slice A1 y.mixes.length c1, .slice A2 y.sent.length c2, .slice A3 y.net.length c3, .slice A4 y.got.length c4, .int .i64 y.made, .int .i64 y.lost], .bool true]) (by simp [results, Tryz.results13, go_sem, q0, q1, q2, q3, q4, q5]) rfl ⟨_, _, _, _, rfl, ao.base (B := B) ?_ (by omega), ?_⟩
    ·repeat (refine ao.set ?_ (by dsimp only; omega))
     exact Hri.out.new
    ·repeat (refine Below.setCell ?_ (by dsimp only; omega) _)
     exact Hc.out
 ·have i1 : decide ((80 : Int) < (evs.length : Int)) = true := decide_eq_true (by omega)
  have d1 : decide (evs.length ≤ 80) = false := decide_eq_false h80
  obtain rfl := Hz.out.trans (show plW evs = zWd by unfold plW; rw [if_neg h80])
  rw [d1]
  clear d1 Hz
  obtain ⟨q0, q1, q2, q3, q4, q5, qf, qf0, qf1, qf2, qf3, qf4, qf5⟩ := row6f E1.out
  clear qf E1
  go_wp2_with fail
  refine bodyPost_ret (v := .tuple #[.agg #[.slice none 0 0, .slice none 0 0, .slice none 0 0, .slice none 0 0, .int .i64 0, .int .i64 0], .bool false]) (by simp [results, Tryz.results13, go_sem, q0, q1, q2, q3, q4, q5]) rfl ⟨_, _, _, _, rfl, qa _ _, ?_⟩
  repeat (refine Below.setCell ?_ (by first | (dsimp only; omega) | simp) _)
  exact HB1.out
end Go.Proofs.YtfmibcofgckldaaGreatDoor
