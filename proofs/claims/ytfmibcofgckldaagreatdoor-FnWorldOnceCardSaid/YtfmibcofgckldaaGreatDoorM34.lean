/- Texts that the last file leans on (part 34). -/
import Derived.Test.YtfmibcofgckldaaGreatDoorM10
import Derived.Test.YtfmibcofgckldaaGreatDoorM32
set_option linter.unusedVariables false
set_option linter.unusedSimpArgs false
set_option maxHeartbeats 4000000
set_option maxRecDepth 100000
namespace Go.Proofs.YtfmibcofgckldaaGreatDoor
open Go Go.RowKit
def plW (evs : List Ev) : Wd := if evs.length ≤ 80 then b6 evs else zWd
def PyO (w : World) (z : Wd) (b : Bool) (e : Ending) (w' : World) : Prop :=
 ∃ um us un ug, e = .returned (.tuple #[.agg #[um, us, un, ug, .int .i64 z.made, .int .i64 z.lost], .bool b]) ∧ ao oWd w.heap.size w' [um, us, un, ug, .int .i64 z.made, .int .i64 z.lost] z ∧ Below w.heap.size w w'
def PyOut (w : World) (evs : List Ev) : Ending → World → Prop := PyO w (plW evs) (decide (evs.length ≤ 80))
theorem vH {evs : List Ev} {k : Nat} {e : Ev} (h : evs[k]? = some e) : b6 (evs.take (k + 1)) = doW (b6 (evs.take k)) e := by
 rw [ax h]; unfold b6; rw [List.foldl_append]; rfl
theorem vR (evs : List Ev) (v : Value) (w : World) (h : SlB tEv w.heap.size w v evs) : Calls Tryz.prog 14 #[v] w (PyOut w evs) := by
 obtain ⟨A, c, rfl, _, _, _⟩ := h.form
 have H := hid (fun (wx : World) (hb : Below w.heap.size w wx) => h.go hb)
 clear h
 obtain ⟨z, hz⟩ : ∃ z, z = plW evs := ⟨_, rfl⟩
 unfold PyOut
 rw [← hz]
 have Hz := hid hz
 clear hz
 go_enter Tryz.func14, Tryz.ntmps14
 have e1 := heap_alloc_new w (.cells #[.slice none 0 0, .slice none 0 0, .slice none 0 0, .slice none 0 0, .int .i64 0, .int .i64 0] 29)
 have E1 := hid e1
 have HB1 := hid (lit_below w (.cells #[.slice none 0 0, .slice none 0 0, .slice none 0 0, .slice none 0 0, .int .i64 0, .int .i64 0] 29))
 clear e1
 by_cases h80 : evs.length ≤ 80
 ·have i1 : decide ((80 : Int) < (evs.length : Int)) = false := decide_eq_false (by omega)
  have d1 : decide (evs.length ≤ 80) = true := decide_eq_true h80
  obtain rfl := Hz.out.trans (show plW evs = b6 evs by unfold plW; rw [if_pos h80])
  rw [d1]
  clear d1 Hz
  go_wp2_with fail
  refine (vX _).mono ?_
  rintro e w2 ⟨v2, rfl, hw2, hb2⟩
  obtain ⟨B1, d1, B2, d2, B3, d3, B4, d4, rfl⟩ := (WdR.of_wdB (R := fun _ => True) hw2 (fun _ _ => trivial)).form
  have Hw2 := hid hw2; have Hc2 := hid (bt HB1.out hb2); have E2 := hid (heap_go hb2 E1.out)
  have z2 : w.heap.size < w2.heap.size := (Array.getElem?_eq_some_iff.1 E2.out).1
  clear hw2 hb2 E1 HB1
  go_upto_region 4 with fail
  generalize hgw : World.alloc w2 _ = W1
  obtain ⟨g, hg⟩ : ∃ g, g = w2.heap.size := ⟨_, rfl⟩
  rw [← hg]
  obtain ⟨hbx, hbW, hgW⟩ := Bx.new Hw2.out hg hgw
  have Hbx := hid hbx; have HbW := hid (bt Hc2.out hbW); have EW := hid (heap_go hbW E2.out)
  have zg : w.heap.size + 1 ≤ g := by omega
  clear hbx hbW hgw hg Hw2 Hc2 E2 z2
  have HnR := hid (show ¬ bi (fun _ => True) g (g + 1) g from aF (Nat.le_refl _) (by omega))
  have HRR := hid (show ∀ wx : World, g < wx.heap.size → ∀ b, wx.heap.size ≤ b → bi (fun _ => True) g (g + 1) b from fun wx h b hb => ⟨trivial, .inr (by omega)⟩)
  go_wp2_with fail
  go_loopw [5] (fun i wr => ∃ (k : Nat) (y : Wd), k ≤ evs.length ∧ i = .int .i64 k ∧ y = b6 (evs.take k) ∧ VD 0 y ∧ Bx (bi (fun _ => True) g (g + 1)) g wr y ∧ Below (w.heap.size + 1) W1 wr) (fun i _ => evs.length - (intOf i).toNat)
  case atStart => exact ⟨0, vG, by omega, rfl, rfl, vK, Hbx.out, Below.refl _ _⟩
  case round =>
   obtain ⟨k, y, hk, rfl, hy, hvy, hby, hb⟩ := hrel
   have Hby := hid hby; have Hb := hid hb; have Hvy := hid hvy; have Hy := hid hy
   obtain ⟨a1, e1, a2, e2, a3, e3, a4, e4, r0, rw⟩ := hby
   have hgr := (Array.getElem?_eq_some_iff.1 r0).1
   have Rw := hid rw
   have Hc := hid (HbW.out.trans (hb.mono (by omega)))
   clear hb hvy rw hy Hbx
   by_cases hlt : k < evs.length
   ·obtain ⟨ev, hev⟩ := ah hlt
    obtain ⟨b, o, rfl, hbl, _, t0, t1, t2, t3⟩ := (H.out _ Hc.out).ev hev
    have hbr : b < wr.heap.size := by have := Hc.out.size; omega
    have Hev := hid hev
    have HS := hid (fun (wx : World) (hT : Tch [] wr wx) => And.intro (al (hT.row r0 (by simp))) (And.intro (hT.cell t0 (by simp)) (And.intro (hT.cell t1 (by simp)) (And.intro (hT.cell t2 (by simp)) (And.intro (hT.cell t3 (by simp)) (show g < wx.heap.size by have := hT.size; omega))))))
    clear hev r0 t0 t1 t2 t3
    go_wp2_with fail
    refine rgN [] 7 (by kernel_rfl) rfl (fun | none, _, _, _, _ => id | some _, _, _, _, _ => id) fun wd hHeld hbwd swd => ?_
    simp only [pw]
    refine tr 0 HS.out rfl (by kernel_rfl) rfl (fun _ f => by go_simp; try with_reducible rfl) ?_
    refine tr 1 HS.out rfl (by kernel_rfl) rfl (fun _ f => by go_simp; try with_reducible rfl) ?_
    refine tr 2 HS.out rfl (by kernel_rfl) rfl (fun _ f => by go_simp; try with_reducible rfl) ?_
    try simp only [pw]
    refine tr 3 HS.out rfl (by kernel_rfl) rfl (fun _ f => by go_simp; try with_reducible rfl) ?_
    refine tr 4 HS.out rfl (by kernel_rfl) rfl (fun _ f => by go_simp; try with_reducible rfl) ?_
    try simp only [pw]
    refine rq 5 (by kernel_rfl) rfl fun K hK => ?_
    go_simp
    (go_at_call 26; refine (tD _ y _ ev _ (HRR.out _ (by omega)) (Rw.out.go hbwd) Hvy.out).mono ?_; rintro e w5 ⟨v5, rfl, hw5, hbC⟩; obtain ⟨b1', f1, b2', f2, b3', f3, b4', f4, rfl⟩ := hw5.form; have hb5 := hbC; obtain ⟨_, _, _, _, _, _, _, _, r5, _⟩ := Hby.out.go (bt hbwd hb5); have hg5 := (Array.getElem?_eq_some_iff.1 r5).1; obtain ⟨q0, q1, q2, q3, q4, q5, qf, qf0, qf1, qf2, qf3, qf4, qf5⟩ := row6f r5)
    refine hK.out _ _ (hHeld.trans (Tch.of hbC)) (fun hHeld => ?_)
    clear hK K
    refine rz 6 (by kernel_rfl) rfl fun K hK => ?_
    have fC := HS.out _ hHeld
    go_simp
    clear fC
    refine hK.out _ _ ?_
    clear hK K
    have Hb5 := hid (Hb.out.trans ((bt hbwd hb5).mono (by have := Hb.out.size; omega)))
    have HW5 := hid hw5; have HB5 := hid (bt hbwd hb5)
    clear hw5 hb5 hbC hHeld hbwd r5 qf
    go_wp2_with fail
    go_roundw
    case rel => exact ⟨k + 1, _, by omega, by go_num, (by rw [vH Hev.out, ← Hy.out]), Hvy.out.do_ ev, Hby.out.put HB5.out HnR.out HW5.out, (by (repeat (refine Below.setCell ?_ (by dsimp only; omega) _)); exact Hb5.out)⟩
    case measure => simp [intOf]; omega
   ·obtain rfl : y = b6 evs := by rw [Hy.out, List.take_of_length_le (by omega)]
    obtain ⟨k0, k1, k2, k3, k4, k5, _⟩ := al r0
    have E3 := hid ((Hb.out.block w.heap.size (by omega)).trans EW.out)
    clear r0 Hy Hb EW HbW
    generalize b6 evs = y at *
    go_wp2_with fail
    refine (gr y _ _ Rw.out.wdB Hvy.out.sm).mono ?_
    rintro e' w10 ⟨um, us, un, ug, rfl, n1, hb10⟩
    obtain ⟨B1', d1', B2', d2', B3', d3', B4', d4', rfl, rfl, rfl, rfl⟩ := cL n1
    have z29 := (Array.getElem?_eq_some_iff.1 E3.out).1
    obtain ⟨q0, q1, q2, q3, q4, q5, qf, qf0, qf1, qf2, qf3, qf4, qf5⟩ := row6f (heap_go hb10 E3.out)
    have z2' : w.heap.size < w10.heap.size := by have := hb10.size; omega
    have N1 := hid n1; have Hc10 := hid (bt Hc.out hb10)
    clear n1 hb10 qf k0 k1 k2 k3 k4 k5
    go_wp2_with fail
    refine bodyPost_ret (v := .tuple #[.agg #[.slice B1' y.mixes.length d1', .slice B2' y.sent.length d2', .slice B3' y.net.length d3', .slice B4' y.got.length d4', .int .i64 y.made, .int .i64 y.lost], .bool true]) (by simp [results, Tryz.results14, go_sem, q0, q1, q2, q3, q4, q5]) rfl ⟨_, _, _, _, rfl, ao.base (B := wr.heap.size) ?_ (by omega), ?_⟩
    ·repeat (refine ao.set ?_ (by dsimp only; omega))
     exact N1.out
    ·repeat (refine Below.setCell ?_ (by dsimp only; omega) _)
     exact Hc10.out
 ·have i1 : decide ((80 : Int) < (evs.length : Int)) = true := decide_eq_true (by omega)
  have d1 : decide (evs.length ≤ 80) = false := decide_eq_false h80
  obtain rfl := Hz.out.trans (show plW evs = zWd by unfold plW; rw [if_neg h80])
  rw [d1]
  clear d1 Hz
  obtain ⟨q0, q1, q2, q3, q4, q5, qf, qf0, qf1, qf2, qf3, qf4, qf5⟩ := row6f E1.out
  clear qf E1
  go_wp2_with fail
  refine bodyPost_ret (v := .tuple #[.agg #[.slice none 0 0, .slice none 0 0, .slice none 0 0, .slice none 0 0, .int .i64 0, .int .i64 0], .bool false]) (by simp [results, Tryz.results14, go_sem, q0, q1, q2, q3, q4, q5]) rfl ⟨_, _, _, _, rfl, qa _ _, ?_⟩
  repeat (refine Below.setCell ?_ (by first | (dsimp only; omega) | simp) _)
  exact HB1.out
end Go.Proofs.YtfmibcofgckldaaGreatDoor
