/- What is played is the events' doing, one behind the other: one event more is one step more. No condition. -/
import Derived.Deep.DeepCutAuto
import Derived.Test.YtfaeojmndaplcaaGreatDoorP0
import Derived.Test.YtfaeojmndaplcaaGreatDoorP1
import Derived.Test.YtfaeojmndaplcaaGreatDoorP11
import Derived.Test.YtfaeojmndaplcaaGreatDoorP20
import Derived.Test.YtfaeojmndaplcaaGreatDoorP26
import Derived.Test.YtfaeojmndaplcaaGreatDoorP27
set_option linter.unusedVariables false
set_option linter.unusedSimpArgs false
set_option maxHeartbeats 4000000
set_option maxRecDepth 100000
namespace Go.Proofs.YtfaeojmndaplcaaGreatDoor
open Go Go.RowKit
section
open Go.ChangeShapes Go.WideShapes Go.ChangeAt
set_option maxHeartbeats 40000000
theorem FnWorldPlay_c (v0 : Value) (xs0 : List Int) (v0' : Value) (xs1 : List Int) (w : World) (hg : so w) (s0 : SlB fD w.heap.size w v0 xs0) (hx0 : ∀ x ∈ xs0, (Lit.int .u8 x).wf = true) (s1' : SlB fD w.heap.size w v0' xs1) (hx1 : ∀ x ∈ xs1, (Lit.int .u8 x).wf = true) :
  Calls Tryz.prog 14 #[v0, v0'] w (ok true w.heap.size w) := by
 have hw0 : 0 < w.heap.size := World.block_lt_of_cell? _ _ hg
 have Hg := hid (fun (wx : World) (hb : Below w.heap.size w wx) => show dW wx from (hb.cell (p := ⟨0, 0, none⟩) hw0).trans hg)
 have HX := hid (fun x hx => sg (hx0 x hx))
 have HX1 := hid (fun x hx => sg (hx1 x hx))
 obtain ⟨A, c, rfl, _, _, _⟩ := s0.form
 obtain ⟨A', c', rfl, _, _, _⟩ := s1'.form
 have S0 := hid s0
 have S1 := hid (fun (wx : World) (hb : Below w.heap.size w wx) => s1'.go hb)
 clear hg s0 hx0 s1' hx1
 by_cases hl : 1048576 < xs0.length
 ·go_enter Tryz.func14, Tryz.ntmps14
  go_wp2
  go_ret
  exact ⟨rfl, ah⟩
 by_cases hl' : 1048576 < xs1.length
 ·go_enter Tryz.func14, Tryz.ntmps14
  go_wp2
  go_ret
  exact ⟨rfl, ah⟩
 go_enter Tryz.func14, Tryz.ntmps14
 go_wp2_with fail
 refine (iz _ xs0 _ S0.out HX.out).mono ?_
 rintro e w1 ⟨v1, evs, rfl, n1, hb1⟩
 obtain ⟨A1, c1, rfl, _, _, _⟩ := n1.slB.form
 have D1 := hid n1.slB
 have Hc := hid hb1
 obtain ⟨y, hy⟩ : ∃ y, plW evs = y := ⟨_, rfl⟩
 obtain ⟨pb, hp⟩ : ∃ pb, decide (evs.length ≤ 80) = pb := ⟨_, rfl⟩
 have hpp : (pb != pb) = false := bne_self_eq_false _
 have hpe : (pb == pb) = true := beq_self_eq_true _
 have Hy := hid hy; have Hp := hid hp
 clear n1 hb1 hy hp S0 HX
 go_wp2_with fail
 refine (iT evs _ _ (Hg.out _ Hc.out) D1.out).mono ?_
 unfold iK
 rw [Hy.out, Hp.out]
 rintro e w2 ⟨a2, b2, c2, d2, rfl, n2, hb2⟩
 obtain ⟨A2, p2, A2b, p2b, A2c, p2c, A2d, p2d, rfl, rfl, rfl, rfl⟩ := cr n2
 have N2 := hid n2
 replace D1 := hid (D1.out.go hb2)
 replace Hc := hid (bt Hc.out hb2)
 clear n2 hb2
 go_upto_region 5 with fail
 generalize hgw : World.alloc w2 _ = w3
 obtain ⟨e3, r3, hb3, _, s3⟩ := qJ N2.out (Below.refl w2.heap.size _) (Nat.le_refl _) hgw
 have E4 := hid e3; have D4 := hid (WdR.of_wdB (R := fun _ => True) r3.wdB (fun _ _ => trivial))
 replace D1 := hid (D1.out.go hb3)
 replace Hc := hid (bt Hc.out hb3)
 clear hgw e3 r3 hb3 N2
 go_wp2_with fail
 refine (oy evs _ _ D1.out).mono ?_
 unfold iK
 rw [Hy.out, Hp.out]
 rintro e w4 ⟨a4, b4, c4, d4, rfl, n4, hb4⟩
 obtain ⟨A4, p4, A4b, p4b, A4c, p4c, A4d, p4d, rfl, rfl, rfl, rfl⟩ := cr n4
 have N4 := hid n4
 replace D1 := hid (D1.out.go hb4)
 replace Hc := hid (bt Hc.out hb4)
 replace E4 := hid (ac hb4 E4.out)
 replace D4 := hid (D4.out.go hb4)
 have s4 := hb4.size
 clear n4 hb4
 go_upto_region 6 with fail
 generalize hgw : World.alloc w4 _ = w5
 obtain ⟨e5, r5, hb5, _, s5⟩ := qJ N4.out (Below.refl w4.heap.size _) (Nat.le_refl _) hgw
 have E6 := hid e5; have D6 := hid (WdR.of_wdB (R := fun _ => True) r5.wdB (fun _ _ => trivial))
 replace D1 := hid (D1.out.go hb5)
 replace Hc := hid (bt Hc.out hb5)
 replace E4 := hid (ac hb5 E4.out)
 replace D4 := hid (D4.out.go hb5)
 clear hgw e5 r5 hb5 N4
 obtain ⟨k0, k1, k2, k3, k4, k5, _⟩ := az E4.out
 obtain ⟨q0, q1, q2, q3, q4, q5, _⟩ := az E6.out
 have z4 : w2.heap.size < w5.heap.size := by omega
 have z6 : w4.heap.size < w5.heap.size := by omega
 go_wp2_with fail
 refine (d9 y _ _ _ D4.out.wdB D6.out.wdB).mono ?_
 rintro e w7 ⟨rfl, hb7⟩
 replace D1 := hid (D1.out.go hb7)
 replace Hc := hid (bt Hc.out hb7)
 replace E4 := hid (ac hb7 E4.out)
 replace D4 := hid (D4.out.go hb7)
 replace E6 := hid (ac hb7 E6.out)
 replace D6 := hid (D6.out.go hb7)
 have s7 := hb7.size
 clear hb7 k0 k1 k2 k3 k4 k5 q0 q1 q2 q3 q4 q5 z4 z6
 obtain ⟨k0, k1, k2, k3, k4, k5, _⟩ := az E4.out
 have z4 : w2.heap.size < w7.heap.size := by omega
 cases pb with
 | false =>
  obtain ⟨q0, q1, q2, q3, q4, q5, _⟩ := az E6.out
  have z6 : w4.heap.size < w7.heap.size := by omega
  go_wp2_with fail
  refine (d9 y _ _ _ D4.out.wdB D6.out.wdB).mono ?_
  rintro e w8 ⟨rfl, hb8⟩
  go_wp2_with fail
  go_ret
  exact ⟨rfl, bt Hc.out hb8⟩
 | true =>
 replace Hy := hid (Hy.out.symm.trans (oU Hp.out))
 have Hv := hid (show VD 0 y by rw [Hy.out]; exact oV evs)
 have Hgl := hid (show y.got.length ≤ 1073741824 by have := Hv.out.gl; omega)
 have hle : evs.length ≤ 80 := of_decide_eq_true Hp.out
 by_cases h80 : evs.length = 80
 ·have f1 : ((evs.length : Int) == 80) = true := by rw [h80]; rfl
  obtain ⟨q0, q1, q2, q3, q4, q5, _⟩ := az E6.out
  have z6 : w4.heap.size < w7.heap.size := by omega
  clear h80 hle
  go_wp2_with fail
  refine (d9 y _ _ _ D4.out.wdB D6.out.wdB).mono ?_
  rintro e w8 ⟨rfl, hb8⟩
  go_wp2_with fail
  go_ret
  exact ⟨rfl, bt Hc.out hb8⟩
 have f1 : ((evs.length : Int) == 80) = false := by simp; omega
 clear k0 k1 k2 k3 k4 k5 z4
 go_wp2_with fail
 refine (jH _ xs1 _ (S1.out _ Hc.out) HX1.out).mono ?_
 rintro e w8 ⟨v8, x8, ev, rfl, d8, _, hb8⟩
 obtain ⟨A8, c8, A8b, c8b, A8c, c8c, A8d, c8d, rfl⟩ := d8.form
 replace D1 := hid (D1.out.go hb8)
 replace Hc := hid (bt Hc.out hb8)
 replace E4 := hid (ac hb8 E4.out)
 replace D4 := hid (D4.out.go hb8)
 have s8 := hb8.size
 clear hb8 d8
 go_upto_region 9 with fail
 generalize hgw : World.alloc (World.alloc w8 _) _ = w9
 obtain ⟨_, e9', hb9, s9⟩ := iB hgw
 have E11 := hid e9'
 replace D1 := hid (D1.out.go hb9)
 replace Hc := hid (bt Hc.out hb9)
 replace E4 := hid (ac hb9 E4.out)
 replace D4 := hid (D4.out.go hb9)
 have s9' := hb9.size
 clear hgw e9' hb9
 obtain ⟨i0, hi, hz0, hz1, hz2⟩ := info_parts oH
 obtain ⟨z, hz⟩ : ∃ z, plW (evs ++ [ev]) = z := ⟨_, rfl⟩
 have hle1 : (evs ++ [ev]).length ≤ 80 := by simp; omega
 have Hst := hid (show fa y ev = z by rw [← hz, Hy.out, ← pU, oU (decide_eq_true hle1)])
 have Hz := hid hz
 have Hpz := hid (show decide ((evs ++ [ev]).length ≤ 80) = true from decide_eq_true hle1)
 clear hz hle1 h80 E6 D6
 go_cut [12, 13] (fun s12 s13 wx => ∃ (g : Nat) (a b c d : Value) (B C : Nat), s12 = .pointer (some ⟨g, 0, none⟩) ∧ s13 = .bool true ∧ wx.heap[g]? = some (.cells #[a, b, c, d, .int .i64 z.made, .int .i64 z.lost] 33 (0, 0)) ∧ cO B C wx a b c d z ∧ Below w9.heap.size w9 wx)
 case first =>
  have HX := hid (fun (wx : World) (hT : Tch [] w9 wx) => And.intro (aN (hT.row E11.out (by simp))) (show w8.heap.size + 1 < wx.heap.size by have := hT.size; omega))
  refine rgN [] 13 (by kernel_rfl) rfl (fun | none, _, _, _, _ => id | some _, _, _, _, _ => id) fun wd hH hbwd swd => ?_
  simp only [pw]
  refine ag [1, 3] ?_
  iterate 2 (refine ra HX.out rfl (by kernel_rfl) rfl (fun _ f => by go_simp; try with_reducible rfl) ?_; try simp only [pw])
  refine wIx pyF pyK 5 PyS.fl PyS.A (PyS.R evs ev w9) ⟨false, false, false, false, false, undef, undef, undef, undef, undef⟩ ?_ ⟨hH, ⟨0, 0, 0, rK⟩, fun h => (by cases h), fun h => (by cases h)⟩ rfl (by simp only [PyS.A, pw]) (fun _ => rfl) (by decide) (by kernel_rfl)
  rintro ⟨b0, b2, b4, b5, bx, t66, t68, t70, t71, t12⟩ wq ⟨hT, ⟨a, b, d, hI⟩, i2, i5⟩ i hi'
  simp only [PyS.fl, pyK, List.mem_append, oL, Bool.and_eq_true, Bool.not_eq_true'] at hi' i2 i5
  simp only [PyS.A, pw]
  have n0 := hT.size
  rcases hi' with ⟨h0, rfl⟩ | ⟨⟨h2, h0⟩, rfl⟩ | ⟨h4, rfl⟩ | ⟨⟨h5, h2, h4⟩, rfl⟩ | ⟨h5, rfl⟩ | ⟨hx, rfl⟩
  ·subst h0
   obtain rfl : b2 = false := by cases b2 with | false => rfl | true => cases i2 rfl
   obtain rfl : b5 = false := by cases b5 with | false => rfl | true => cases (i5 rfl).1
   refine iv rfl fun K hK => ?_
   go_simp
   generalize hgw : World.alloc _ _ = wa
   obtain ⟨ea, hbC, sa⟩ := al hgw
   have hT' := hT.trans (Tch.of hbC)
   exact hK.out _ _ ⟨hT', .inl ⟨⟨true, false, b4, false, bx, .slice (some ⟨wq.heap.size, 0, none⟩) 0 0, t68, t70, t71, t12⟩, rfl, (by simp only [PyS.A, pw]), hT', ⟨wq.heap.size, b, d, hI.turn (PyS.loc evs ev _ _ _ _) 0 (fun i h => by match i with | 0 => exact absurd rfl h | 1 => rfl | 2 => rfl | 3 => rfl) (fun b hb _ => hbC.block b hb) hbC.size ⟨n0, by show wq.heap.size < _; omega, rfl, ea⟩ (.inl rfl)⟩, fun h => (by cases h), fun h => (by cases h)⟩⟩
  ·subst h2 h0
   obtain rfl : b5 = false := by cases b5 with | false => rfl | true => cases (i5 rfl).1
   obtain ⟨ha1, ha2, ha3⟩ := hI.1 0 rfl
   obtain ⟨rfl, ea⟩ : evE t66 a wq := ha3
   replace ha1 : w9.heap.size ≤ a := ha1
   refine iv rfl fun K hK => ?_
   refine bf rfl (.tmp 66) (.tmp 67) 27 rfl tEv ew (B := 0) Tryz.underlying27 hi hz0 hz1 hz2 rfl (by decide) (by decide) (v := .slice (some ⟨a, 0, none⟩) 0 0) (xs := []) rfl (bU ea (Nat.zero_le _)) A1 evs.length c1 rfl (slE (D1.out.go hT.nil)) (by simp; omega) (by omega) ?_
   intro v3 w3' ho3 hg3 hv3
   rw [List.nil_append] at ho3
   have hT' := hT.grow hg3 (fun k hk hlt => by simp [Value.ownBlock] at hk; omega)
   obtain ⟨a', ha', hc'⟩ : ∃ a', v3.ownBlock = some a' ∧ (a' = wq.heap.size ∨ a' = a) := by
    rcases hv3 with e | e
    ·exact ⟨a, e, .inr rfl⟩
    ·exact ⟨_, e, .inl rfl⟩
   have htop := (ho3.top a' ha').2
   exact hK.out _ _ ⟨hT', .inl ⟨⟨true, true, b4, false, bx, .slice (some ⟨a, 0, none⟩) 0 0, v3, t70, t71, t12⟩, rfl, (by simp only [PyS.A, pw]), hT', ⟨a', b, d, hI.turn (PyS.loc evs ev _ _ _ _) 0 (fun i h => by match i with | 0 => exact absurd rfl h | 1 => rfl | 2 => rfl | 3 => rfl) (fun b hb hn => hg3.block b hb (fun e => by simp [Value.ownBlock] at e; exact hn rfl e)) hg3.size ⟨by show w9.heap.size ≤ a'; omega, htop, ho3, ha'⟩ (hc'.imp id (fun e => ⟨rfl, e⟩))⟩, fun _ => rfl, fun h => (by cases h)⟩⟩
  ·subst h4
   obtain rfl : b5 = false := by cases b5 with | false => rfl | true => cases (i5 rfl).2
   refine iv rfl fun K hK => ?_
   go_simp
   generalize hgw : World.alloc _ _ = wa
   obtain ⟨ea, hbC, sa⟩ := al hgw
   have hT' := hT.trans (Tch.of hbC)
   exact hK.out _ _ ⟨hT', .inl ⟨⟨b0, b2, true, false, bx, t66, t68, .slice (some ⟨wq.heap.size, 0, none⟩) 1 1, t71, t12⟩, rfl, (by simp only [PyS.A, pw]), hT', ⟨a, wq.heap.size, d, hI.turn (PyS.loc evs ev _ _ _ _) 1 (fun i h => by match i with | 0 => rfl | 1 => exact absurd rfl h | 2 => rfl | 3 => rfl) (fun b hb _ => hbC.block b hb) hbC.size ⟨n0, by show wq.heap.size < _; omega, rfl, ea⟩ (.inl rfl)⟩, i2, fun h => (by cases h)⟩⟩
  ·subst h5 h2 h4
   obtain rfl : b0 = true := i2 rfl
   obtain ⟨ha1, ha2, ha3⟩ := hI.1 0 rfl
   obtain ⟨ho2, hO⟩ : evL t68 evs a wq := ha3
   obtain ⟨_, _, rfl, eb⟩ := hI.1 1 rfl
   replace ha1 : w9.heap.size ≤ a := ha1
   refine iv rfl fun K hK => ?_
   refine bf rfl (.tmp 68) (.tmp 70) 27 rfl tEv ew (B := 0) Tryz.underlying27 hi hz0 hz1 hz2 rfl (by decide) (by decide) (v := t68) rfl ho2 (some ⟨b, 0, none⟩) 1 1 rfl ⟨_, cz (cs := [.int .i64 ev.kind, .int .i64 ev.a, .int .i64 ev.b, .int .i64 ev.c]) (x := ev) eb ⟨rfl, rfl⟩⟩ (by simp; omega) (by omega) ?_
   intro v3 w3' ho3 hg3 hv3
   have hT' := hT.grow hg3 (fun k hk hlt => by rw [hO] at hk; injection hk with hk; omega)
   obtain ⟨a', ha', hc'⟩ : ∃ a', v3.ownBlock = some a' ∧ (a' = wq.heap.size ∨ a' = a) := by
    rcases hv3 with e | e
    ·exact ⟨a, e.trans hO, .inr rfl⟩
    ·exact ⟨_, e, .inl rfl⟩
   have htop := (ho3.top a' ha').2
   exact hK.out _ _ ⟨hT', .inl ⟨⟨true, true, true, true, bx, t66, t68, .slice (some ⟨b, 0, none⟩) 1 1, v3, t12⟩, rfl, (by simp only [PyS.A, pw]), hT', ⟨a', b, d, hI.turn (PyS.loc evs ev _ _ _ _) 0 (fun i h => by match i with | 0 => exact absurd rfl h | 1 => rfl | 2 => rfl | 3 => rfl) (fun b hb hn => hg3.block b hb (fun e => by rw [hO] at e; injection e with e; exact hn rfl e)) hg3.size ⟨by show w9.heap.size ≤ a'; omega, htop, ho3, ha'⟩ (hc'.imp id (fun e => ⟨rfl, e⟩))⟩, fun _ => rfl, fun _ => ⟨rfl, rfl⟩⟩⟩
  ·subst h5
   obtain ⟨rfl, rfl⟩ := i5 rfl
   obtain rfl : b0 = true := i2 rfl
   obtain ⟨_, _, ho, _⟩ := hI.1 0 rfl
   have Hz12 := hid (fun (e : bx = true) => hI.1 2 e)
   have Ho := hid (show Own tEv 38 0 wq t71 (evs ++ [ev]) [] from ho)
   clear hI ho
   refine iv rfl fun K hK => ?_
   go_simp
   go_at_call 21
   refine (iT (evs ++ [ev]) _ _ (Hg.out _ (bt Hc.out hT.nil)) Ho.out.slB).mono ?_
   unfold iK
   rw [Hz.out, Hpz.out]
   rintro e w7' ⟨a7, b7, c7, g7, rfl, n7, hbC⟩
   obtain ⟨A7, p7, B7, q7, C7, r7, D7, s7', rfl, rfl, rfl, rfl⟩ := cr n7
   have d7 := cO.of n7
   have ss := hbC.size
   have hHeld2 := hT.trans (Tch.of hbC)
   cases bx with
   | true =>
    refine hK.out _ _ ⟨hHeld2, .inr ⟨5, by kernel_rfl, ?_⟩⟩
    obtain ⟨x1, x2, rfl, ea⟩ := Hz12.out rfl
    replace ea := ac hbC ea
    replace x2 : d < wq.heap.size := x2
    have la := x2
    have hH := hHeld2
    clear hK K Hz12 Ho n7
    simp only [PyS.fl, pyF, pw]
    refine ag [7, 8, 9] ?_
    iterate 3 (refine ra HX.out rfl (by kernel_rfl) rfl (fun _ f => by go_simp; try with_reducible rfl) ?_; try simp only [pw])
    refine rq 11 (by kernel_rfl) rfl fun K hK => ?_
    (obtain ⟨z0, z1, z2, z3, z4, z5, zf⟩ := az ea; have zf0 := zf 0; have zf1 := zf 1; have zf2 := zf 2; have zf3 := zf 3; have zf4 := zf 4; have zf5 := zf 5; have hga3 := World.block_lt_of_cell? _ _ z0; dsimp only at hga3)
    have fC := HX.out _ hH
    go_simp
    clear fC
    (have hbT := (((((hH.setCell (p := ⟨_, 0, none⟩) (.inr (by dsimp only; omega)) (.slice A7 z.mixes.length p7)).setCell (p := ⟨_, 1, none⟩) (.inr (by dsimp only; omega)) (.slice B7 z.sent.length q7)).setCell (p := ⟨_, 2, none⟩) (.inr (by dsimp only; omega)) (.slice C7 z.net.length r7)).setCell (p := ⟨_, 3, none⟩) (.inr (by dsimp only; omega)) (.slice D7 z.got.length s7')).setCell (p := ⟨_, 4, none⟩) (.inr (by dsimp only; omega)) (.int .i64 z.made)).setCell (p := ⟨_, 5, none⟩) (.inr (by dsimp only; omega)) (.int .i64 z.lost))
    refine hK.out _ _ hbT (fun hH => ?_)
    clear hK K
    try simp only [pw]
    refine tr 12 HX.out rfl (by kernel_rfl) rfl (fun _ f => by go_simp; try with_reducible rfl) ?_
    try simp only [pw]
    refine dm (by kernel_rfl) ?_
    clear z0 z1 z2 z3 z4 z5 zf zf0 zf1 zf2 zf3 zf4 zf5
    go_wp2_with fail
    go_meet
    exact ⟨_, _, _, _, _, _, _, rfl, rfl, bZ _ _ _ _ _ _ ea, d7.keep (fun c h1 h2 => bs c (by omega)), hH.nil⟩
   | false =>
    refine hK.out _ _ ⟨hHeld2, .inr ⟨6, by kernel_rfl, ?_⟩⟩
    have hH := hHeld2
    clear hK K Hz12 Ho n7
    simp only [PyS.fl, pyF, pw]
    refine ag [7, 8, 9] ?_
    iterate 3 (refine ra HX.out rfl (by kernel_rfl) rfl (fun _ f => by go_simp; try with_reducible rfl) ?_; try simp only [pw])
    refine rq 10 (by kernel_rfl) rfl fun K hK => ?_
    go_simp
    have la := hH.size
    generalize hgw : World.alloc _ _ = wa
    obtain ⟨ea, hbD, sa⟩ := al hgw
    clear hgw
    replace d7 := d7.go hbD (Nat.le_refl _)
    refine hK.out _ _ (hH.trans (Tch.of hbD)) (fun hH => ?_)
    clear hK K
    try simp only [pw]
    refine rq 11 (by kernel_rfl) rfl fun K hK => ?_
    (obtain ⟨z0, z1, z2, z3, z4, z5, zf⟩ := az ea; have zf0 := zf 0; have zf1 := zf 1; have zf2 := zf 2; have zf3 := zf 3; have zf4 := zf 4; have zf5 := zf 5; have hga3 := World.block_lt_of_cell? _ _ z0; dsimp only at hga3)
    have fC := HX.out _ hH
    go_simp
    clear fC
    (have hbT := (((((hH.setCell (p := ⟨_, 0, none⟩) (.inr (by dsimp only; omega)) (.slice A7 z.mixes.length p7)).setCell (p := ⟨_, 1, none⟩) (.inr (by dsimp only; omega)) (.slice B7 z.sent.length q7)).setCell (p := ⟨_, 2, none⟩) (.inr (by dsimp only; omega)) (.slice C7 z.net.length r7)).setCell (p := ⟨_, 3, none⟩) (.inr (by dsimp only; omega)) (.slice D7 z.got.length s7')).setCell (p := ⟨_, 4, none⟩) (.inr (by dsimp only; omega)) (.int .i64 z.made)).setCell (p := ⟨_, 5, none⟩) (.inr (by dsimp only; omega)) (.int .i64 z.lost))
    refine hK.out _ _ hbT (fun hH => ?_)
    clear hK K
    try simp only [pw]
    refine tr 12 HX.out rfl (by kernel_rfl) rfl (fun _ f => by go_simp; try with_reducible rfl) ?_
    try simp only [pw]
    refine dm (by kernel_rfl) ?_
    clear z0 z1 z2 z3 z4 z5 zf zf0 zf1 zf2 zf3 zf4 zf5
    go_wp2_with fail
    go_meet
    exact ⟨_, _, _, _, _, _, _, rfl, rfl, bZ _ _ _ _ _ _ ea, d7.keep (fun c h1 h2 => bs c (by omega)), hH.nil⟩
  ·subst hx
   refine iv rfl fun K hK => ?_
   go_simp
   generalize hgw : World.alloc _ _ = wa
   obtain ⟨ea, hbC, sa⟩ := al hgw
   have hT' := hT.trans (Tch.of hbC)
   exact hK.out _ _ ⟨hT', .inl ⟨⟨b0, b2, b4, b5, true, t66, t68, t70, t71, .pointer (some ⟨wq.heap.size, 0, none⟩)⟩, rfl, (by simp only [PyS.A, pw]), hT', ⟨a, b, wq.heap.size, hI.turn (PyS.loc evs ev _ _ _ _) 2 (fun i h => by match i with | 0 => rfl | 1 => rfl | 2 => exact absurd rfl h | 3 => rfl) (fun b hb _ => hbC.block b hb) hbC.size ⟨n0, by show wq.heap.size < _; omega, rfl, ea⟩ (.inl rfl)⟩, i2, i5⟩⟩
 case rest =>
 obtain ⟨g, a, b, c, d, B, C, rfl, rfl, e12, R12, hb12⟩ := hcut
 obtain ⟨wA, rfl⟩ : ∃ wA : World, wA = wc := ⟨_, rfl⟩
 obtain ⟨A12, p12, A12b, p12b, A12c, p12c, A12d, p12d, rfl, rfl, rfl, rfl⟩ := R12.form
 have D12 := hid (WdR.of_wdB (R := fun _ => True) R12.wdB (fun _ _ => trivial))
 have E12 := hid e12
 replace D1 := hid (D1.out.go hb12)
 replace Hc := hid (bt Hc.out hb12)
 replace E4 := hid (ac hb12 E4.out)
 replace D4 := hid (D4.out.go hb12)
 replace E11 := hid (ac hb12 E11.out)
 clear hb12 e12 R12
 have HS := hid (fun (wx : World) (hT : Tch [] wA wx) => And.intro (az (hT.row E12.out (by simp))) (And.intro (az (hT.row E4.out (by simp))) (aN (hT.row E11.out (by simp)))))
 go_wp2_with fail
 refine rgN [] 9 (by kernel_rfl) rfl (fun | none, _, _, _, _ => id | some _, _, _, _, _ => id) fun wd hH hbwd swd => ?_
 simp only [pw]
 refine ag [0, 1, 2, 3, 4] ?_
 iterate 5 (refine ra HS.out rfl (by kernel_rfl) rfl (fun _ f => by go_simp; try with_reducible rfl) ?_; try simp only [pw])
 refine rq 5 (by kernel_rfl) rfl fun K hK => ?_
 go_simp
 (go_at_call 25; refine (ma y _ ev _ (Hg.out _ (bt Hc.out hH.nil)) (D4.out.go hH.nil).wdB Hgl.out).mono ?_; rw [Hst.out]; rintro e wo ⟨a8, b8, c8, d8, rfl, n8, hbC⟩; have N8 := hid (mz n8); have hC8 := hbC; clear n8)
 refine hK.out _ _ (hH.trans (Tch.of hbC)) (fun hH => ?_)
 clear hK K
 refine rq 6 (by kernel_rfl) rfl fun K hK => ?_
 go_simp
 (go_at_call 23; refine (d9 z _ _ _ (D12.out.go hH.nil).wdB N8.out).mono ?_; rintro e wp ⟨rfl, hbC⟩)
 refine hK.out _ _ (hH.trans (Tch.of hbC)) (fun hH => ?_)
 clear hK K
 refine ag [7, 8] ?_
 iterate 2 (refine ra HS.out rfl (by kernel_rfl) rfl (fun _ f => by go_simp; try with_reducible rfl) ?_; try simp only [pw])
 refine dm (by kernel_rfl) ?_
 have hF := hH.nil
 go_wp2_with fail
 go_ret
 exact ⟨rfl, bt Hc.out hF⟩
theorem fS (os : Os) (started : os.Started) (H : Type) (enc : TypeId × Value → H) :
  ReturnsInHanded {} Tryz.checked os 14 .any (fun w args => (Rows.fnWorldPlaySpec.pre enc Tryz.prog Tryz.f14 [] false w args ∧ laidMetH Tryz.prog kH w) ∧ sizedMet enc Tryz.prog Tryz.f14 (OpenSpec.ofChange Rows.fnWorldPlaySpec) false w args) (Rows.fnWorldPlaySpec.post enc Tryz.prog Tryz.f14 false true false false) := by
 refine returnsInHanded_of_change_and (C := Tryz.checked) (X := fun w _ => laidMetH Tryz.prog kH w) (fun _ _ _ hh h => h.of_heap hh) qO started (by kernel_rfl) Tryz.func14
  (ChangeSpec.witness_at (enc := enc) (C := Tryz.checked) (os := os) (X := fun w _ => laidMetH Tryz.prog kH w) false (kI os) #[.slice none 0 0, .slice none 0 0] 8 rfl (by kernel_rfl) (by kernel_rfl) (by kernel_rfl) (by kernel_rfl) (by kernel_rfl) (jX os _)) ?_
 intro W base args ds gs before hval0 hW _ _ hL _
 have hg := iP hL
 have hval : ∀ (j : Nat) t v, Tryz.f14.params[j]? = some t → args[j]? = some v → Value.okWide Tryz.prog W .any base t v := hval0
 have hW' := hW
 obtain ⟨p, q, hA0, hV, rfl, hfz, hnd⟩ := hW
 have hA : DataW.TrodAll enc Tryz.prog W 0 (fun _ => true) true Tryz.f14.params.toList args.toList ds p := hA0
 rw [Tryz.params14] at hA hval
 obtain ⟨v0, vs0, d0, ds0, p0, q0, hargs, rfl, rfl, h0, r0⟩ := trodAll_cons hA
 obtain ⟨v1, vs1, d1, ds1, p1, q1, rfl, rfl, rfl, h1, r1⟩ := trodAll_cons r0
 obtain ⟨rfl, rfl, rfl⟩ := trodAll_nil r1
 obtain rfl : args = #[v0, v1] := by cases args; simp_all
 obtain ⟨rfl, rfl⟩ : gs = [] ∧ q = [] := by
  cases gs with
  | nil => exact ⟨rfl, hV⟩
  | cons g r => exact absurd hV (by intro h; cases h)
 have k0 := h0
 have lt0 : ∀ x ∈ p0, x.block < W.heap.size := by obtain ⟨m, hm⟩ := k0; exact DataW.trod_lt m _ _ _ hm
 obtain ⟨xs0, s0, f0⟩ := kO iu Tryz.underlying22 (hval 0 22 v0 rfl rfl) h0
 have k1 := h1
 have lt1 : ∀ x ∈ p1, x.block < W.heap.size := by obtain ⟨m, hm⟩ := k1; exact DataW.trod_lt m _ _ _ hm
 obtain ⟨xs1, s1, f1⟩ := kO iu Tryz.underlying22 (hval 1 22 v1 rfl rfl) h1
 clear hA0 hval0
 refine (FnWorldPlay_c v0 xs0 v1 xs1 W hg s0 f0 s1 f1).mono fun e W' ⟨he, bel⟩ => ?_
 subst he
 exact ⟨_, rfl, _, _, _, [], _, [], hW', trodAll_mk1 (shut_bool Tryz.underlying4 _), (trodAll_cons_mk (Below.trod mp (by kernel_rfl) (of_decide_eq_true (by kernel_rfl)) k0 bel lt0) (trodAll_cons_mk (Below.trod mp (by kernel_rfl) (of_decide_eq_true (by kernel_rfl)) k1 bel lt1) trodAll_mk0)), rfl, bel.frame _, fun h => by cases h⟩
theorem gv : joinedFacts Tryz.prog 14 Tryz.f14 Rows.fnWorldPlaySpec Rows.fnWorldPlayRow = true := by
 unfold joinedFacts
 simp only [Bool.and_eq_true]
 repeat' apply And.intro
 ·as_aux_lemma => kernel_rfl
 ·as_aux_lemma => kernel_rfl
 ·as_aux_lemma => kernel_rfl
 ·as_aux_lemma => kernel_rfl
 ·as_aux_lemma => kernel_rfl
 ·as_aux_lemma => kernel_rfl
 ·as_aux_lemma => kernel_rfl
 ·as_aux_lemma => kernel_rfl
 ·as_aux_lemma => kernel_rfl
 ·as_aux_lemma => kernel_rfl
 ·as_aux_lemma => kernel_rfl
 ·as_aux_lemma => kernel_rfl
 ·as_aux_lemma => kernel_rfl
 ·as_aux_lemma => kernel_rfl
 ·as_aux_lemma => kernel_rfl
 ·as_aux_lemma => kernel_rfl
 ·as_aux_lemma => kernel_rfl
 ·as_aux_lemma => kernel_rfl
 ·as_aux_lemma => kernel_rfl
 ·as_aux_lemma => kernel_rfl
 ·as_aux_lemma => kernel_rfl
 ·as_aux_lemma => kernel_rfl
 ·as_aux_lemma => kernel_rfl
 ·as_aux_lemma => kernel_rfl
 ·as_aux_lemma => kernel_rfl
 ·exact nr
 ·rw [nu]; rfl
 ·rw [pu]; rfl
 ·as_aux_lemma => kernel_rfl
 ·as_aux_lemma => kernel_rfl
 ·as_aux_lemma => kernel_rfl
 ·as_aux_lemma => kernel_rfl
theorem gw : Tryz.prog.funcNamed Rows.fnWorldPlayRow.func = some 14 := by kernel_rfl
theorem gU : Tryz.f14.isWrapper Tryz.prog Rows.fnWorldPlayRow.wrapper Rows.fnWorldPlayRow.mainSum := (by unfold Func.isWrapper; first | (rw [if_pos (by decide +kernel)]; kernel_rfl) | (rw [if_neg (by decide +kernel)]; exact ⟨rfl, rfl⟩))
theorem gT : Rows.fnWorldPlayRow.holds Tryz.pinned (OpenSpec.ofChange Rows.fnWorldPlaySpec) :=
 OpenClaim.holds_of_wide (p := Tryz.pinned) 14 Tryz.f14 rfl rfl rfl rfl rfl rfl rfl ⟨rfl, rfl, rfl, rfl, rfl⟩ rfl rfl rfl rfl rfl gw Tryz.func14 gv
  (of_decide_eq_true (by kernel_rfl)) gU
  (fun os started H enc _ => fS os started H enc)
theorem fnWorldPlay_row_tie : Rows.fnWorldPlayRow.laidByTextAt .later Tryz.pinned [.handle] true :=
 OpenClaim.laidByTextAt_later rfl rfl tK tc
theorem gS : Tryz.prog.mainIs = some ((true, "ce4b402aa199ae7ade3bea3dd62e7b99986f29c4f69e87e43d86418eff50f956").1, (true, "ce4b402aa199ae7ade3bea3dd62e7b99986f29c4f69e87e43d86418eff50f956").2.toList) := by
 unfold Program.mainIs
 rw [oG, String.toList_ofList, l8, du kZ (by kernel_rfl), du lc (by kernel_rfl), du ld (by kernel_rfl)]
 generalize wordsSigns iQ = ws
 kernel_rfl
theorem FnWorldPlay_holds : Rows.FnWorldPlayCardSaid :=
 Claim7.holds_tied_plain_at .later [] [.handle] true (true, "ce4b402aa199ae7ade3bea3dd62e7b99986f29c4f69e87e43d86418eff50f956") true
  gT (fun _ h => by cases h) (by kernel_rfl) (fun _ h => by cases h) fnWorldPlay_row_tie rfl ⟨rfl, rfl⟩ gS rfl
  (fun f fn hf hfn => by
   obtain rfl : f = 14 := Option.some.inj ((show Tryz.prog.funcNamed Rows.fnWorldPlayRow.func = some 14 by kernel_rfl).symm.trans hf) |>.symm
   obtain rfl : fn = Tryz.f14 := (Option.some.inj (Tryz.func14.symm.trans hfn)).symm
   exact ⟨by kernel_rfl, fun j t ht => by
    rw [Tryz.params14] at ht
    rcases j with _ | _ | j
    all_goals (first | (simp at ht; done) | (simp at ht; subst ht; exact (show Tryz.prog.wantsStandIn _ = false by kernel_rfl)))⟩)
  (by kernel_rfl)
#print axioms FnWorldPlay_holds
end
end Go.Proofs.YtfaeojmndaplcaaGreatDoor
