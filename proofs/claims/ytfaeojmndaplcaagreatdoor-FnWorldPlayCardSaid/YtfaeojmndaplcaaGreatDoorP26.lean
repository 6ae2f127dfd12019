/- Texts that the last file leans on (part 26). -/
import Derived.Test.YtfaeojmndaplcaaGreatDoorP20
import Derived.Test.YtfaeojmndaplcaaGreatDoorP21
import Derived.Test.YtfaeojmndaplcaaGreatDoorP3
import Derived.Test.YtfaeojmndaplcaaGreatDoorP7
import Derived.Test.YtfaeojmndaplcaaGreatDoorP8
set_option linter.unusedVariables false
set_option linter.unusedSimpArgs false
set_option maxHeartbeats 4000000
set_option maxRecDepth 100000
namespace Go.Proofs.YtfaeojmndaplcaaGreatDoor
open Go Go.RowKit
def plW (evs : List Ev) : Wd := if evs.length ≤ 80 then dD evs else zWd
def PyO (w : World) (z : Wd) (b : Bool) (e : Ending) (w' : World) : Prop :=
 ∃ um us un ug, e = .returned (.tuple #[.agg #[um, us, un, ug, .int .i64 z.made, .int .i64 z.lost], .bool b]) ∧ aC oWd w.heap.size w' [um, us, un, ug, .int .i64 z.made, .int .i64 z.lost] z ∧ Below w.heap.size w w'
def iK (w : World) (evs : List Ev) : Ending → World → Prop := PyO w (plW evs) (decide (evs.length ≤ 80))
theorem kR {evs : List Ev} {k : Nat} {e : Ev} (h : evs[k]? = some e) : dD (evs.take (k + 1)) = doW (dD (evs.take k)) e := by
 rw [aP h]; unfold dD; rw [List.foldl_append]; rfl
theorem oy (evs : List Ev) (v : Value) (w : World) (h : SlB tEv w.heap.size w v evs) : Calls Tryz.prog 22 #[v] w (iK w evs) := by
 obtain ⟨A, c, rfl, _, _, _⟩ := h.form
 have H := hid (fun (wx : World) (hb : Below w.heap.size w wx) => h.go hb)
 clear h
 obtain ⟨z, hz⟩ : ∃ z, z = plW evs := ⟨_, rfl⟩
 unfold iK
 rw [← hz]
 have Hz := hid hz
 clear hz
 go_enter Tryz.func22, Tryz.ntmps22
 have e1 := heap_alloc_new w (.cells #[.slice none 0 0, .slice none 0 0, .slice none 0 0, .slice none 0 0, .int .i64 0, .int .i64 0] 33)
 have E1 := hid e1
 have HB1 := hid (ab w (.cells #[.slice none 0 0, .slice none 0 0, .slice none 0 0, .slice none 0 0, .int .i64 0, .int .i64 0] 33))
 clear e1
 by_cases h80 : evs.length ≤ 80
 ·have i1 : decide ((80 : Int) < (evs.length : Int)) = false := decide_eq_false (by omega)
  have d1 : decide (evs.length ≤ 80) = true := decide_eq_true h80
  obtain rfl := Hz.out.trans (show plW evs = dD evs by unfold plW; rw [if_pos h80])
  rw [d1]
  clear d1 Hz
  go_wp2_with fail
  refine (p9 _).mono ?_
  rintro e w2 ⟨v2, rfl, hw2, hb2⟩
  obtain ⟨B1, d1, B2, d2, B3, d3, B4, d4, rfl⟩ := (WdR.of_wdB (R := fun _ => True) hw2 (fun _ _ => trivial)).form
  have Hw2 := hid hw2; have Hc2 := hid (bt HB1.out hb2); have E2 := hid (ac hb2 E1.out)
  have z2 : w.heap.size < w2.heap.size := (aL E2.out)
  clear hw2 hb2 E1 HB1
  go_upto_region 4 with fail
  generalize hgw : World.alloc w2 _ = W1
  obtain ⟨g, hg⟩ : ∃ g, g = w2.heap.size := ⟨_, rfl⟩
  rw [← hg]
  obtain ⟨hbx, hbW, hgW⟩ := Bx.new Hw2.out hg hgw
  have Hbx := hid hbx; have HbW := hid (bt Hc2.out hbW); have EW := hid (ac hbW E2.out)
  have zg : w.heap.size + 1 ≤ g := by omega
  clear hbx hbW hgw hg Hw2 Hc2 E2 z2
  have HnR := hid (show ¬ be (fun _ => True) g (g + 1) g from aJ (Nat.le_refl _) (by omega))
  have HRR := hid (show ∀ wx : World, g < wx.heap.size → ∀ b, wx.heap.size ≤ b → be (fun _ => True) g (g + 1) b from fun wx h b hb => ⟨trivial, .inr (by omega)⟩)
  go_wp2_with fail
  go_loopw [5] (fun i wr => ∃ (k : Nat) (y : Wd), k ≤ evs.length ∧ i = .int .i64 k ∧ y = dD (evs.take k) ∧ VD 0 y ∧ Bx (be (fun _ => True) g (g + 1)) g wr y ∧ Below (w.heap.size + 1) W1 wr) (fun i _ => evs.length - (intOf i).toNat)
  case atStart => exact ⟨0, dT, by omega, rfl, rfl, jq, Hbx.out, ah⟩
  case round =>
   obtain ⟨k, y, hk, rfl, hy, hvy, hby, hb⟩ := hrel
   have Hby := hid hby; have Hb := hid hb; have Hvy := hid hvy; have Hy := hid hy
   obtain ⟨a1, e1, a2, e2, a3, e3, a4, e4, r0, rw⟩ := hby
   have hgr := (aL r0)
   have Rw := hid rw
   have Hc := hid (HbW.out.trans (hb.mono (by omega)))
   clear hb hvy rw hy Hbx
   by_cases hlt : k < evs.length
   ·obtain ⟨ev, hev⟩ := ak hlt
    obtain ⟨b, o, rfl, hbl, _, t0, t1, t2, t3⟩ := (H.out _ Hc.out).ev hev
    have hbr : b < wr.heap.size := by have := Hc.out.size; omega
    have Hev := hid hev
    have HS := hid (fun (wx : World) (hT : Tch [] wr wx) => And.intro (az (hT.row r0 (by simp))) (And.intro (hT.cell t0 (by simp)) (And.intro (hT.cell t1 (by simp)) (And.intro (hT.cell t2 (by simp)) (And.intro (hT.cell t3 (by simp)) (show g < wx.heap.size by have := hT.size; omega))))))
    clear hev r0 t0 t1 t2 t3
    go_wp2_with fail
    refine rgN [] 7 (by kernel_rfl) rfl (fun | none, _, _, _, _ => id | some _, _, _, _, _ => id) fun wd hH hbwd swd => ?_
    simp only [pw]
    refine ag [0, 1, 2, 3, 4] ?_
    iterate 5 (refine ra HS.out rfl (by kernel_rfl) rfl (fun _ f => by go_simp; try with_reducible rfl) ?_; try simp only [pw])
    refine rq 5 (by kernel_rfl) rfl fun K hK => ?_
    go_simp
    (go_at_call 40; refine (lr _ y _ ev _ (HRR.out _ (by omega)) (Rw.out.go hbwd) Hvy.out).mono ?_; rintro e w5 ⟨v5, rfl, hw5, hbC⟩; obtain ⟨b1', f1, b2', f2, b3', f3, b4', f4, rfl⟩ := hw5.form; have hb5 := hbC; obtain ⟨_, _, _, _, _, _, _, _, r5, _⟩ := Hby.out.go (bt hbwd hb5); have hg5 := (aL r5); obtain ⟨q0, q1, q2, q3, q4, q5, qf, qf0, qf1, qf2, qf3, qf4, qf5⟩ := bj r5)
    refine hK.out _ _ (hH.trans (Tch.of hbC)) (fun hH => ?_)
    clear hK K
    refine rz 6 (by kernel_rfl) rfl fun K hK => ?_
    have fC := HS.out _ hH
    go_simp
    clear fC
    refine hK.out _ _ ?_
    clear hK K
    have Hb5 := hid (Hb.out.trans ((bt hbwd hb5).mono (by have := Hb.out.size; omega)))
    have HW5 := hid hw5; have HB5 := hid (bt hbwd hb5)
    clear hw5 hb5 hbC hH hbwd r5 qf
    go_wp2_with fail
    go_roundw
    case rel => exact ⟨k + 1, _, by omega, by go_num, (by rw [kR Hev.out, ← Hy.out]), Hvy.out.do_ ev, Hby.out.put HB5.out HnR.out HW5.out, (by (repeat (refine Below.setCell ?_ (by dsimp only; omega) _)); exact Hb5.out)⟩
    case measure => simp [intOf]; omega
   ·obtain rfl : y = dD evs := by rw [Hy.out, List.take_of_length_le (by omega)]
    obtain ⟨k0, k1, k2, k3, k4, k5, _⟩ := az r0
    have E3 := hid ((Hb.out.block w.heap.size (by omega)).trans EW.out)
    clear r0 Hy Hb EW HbW
    generalize dD evs = y at *
    go_wp2_with fail
    refine (eC y _ _ Rw.out.wdB Hvy.out.sm).mono ?_
    rintro e' w10 ⟨um, us, un, ug, rfl, n1, hb10⟩
    obtain ⟨B1', d1', B2', d2', B3', d3', B4', d4', rfl, rfl, rfl, rfl⟩ := cr n1
    have z29 := (aL E3.out)
    obtain ⟨q0, q1, q2, q3, q4, q5, qf, qf0, qf1, qf2, qf3, qf4, qf5⟩ := bj (ac hb10 E3.out)
    have z2' : w.heap.size < w10.heap.size := by have := hb10.size; omega
    have N1 := hid n1; have Hc10 := hid (bt Hc.out hb10)
    clear n1 hb10 qf k0 k1 k2 k3 k4 k5
    go_wp2_with fail
    refine bodyPost_ret (v := .tuple #[.agg #[.slice B1' y.mixes.length d1', .slice B2' y.sent.length d2', .slice B3' y.net.length d3', .slice B4' y.got.length d4', .int .i64 y.made, .int .i64 y.lost], .bool true]) (by simp [results, Tryz.results22, go_sem, q0, q1, q2, q3, q4, q5]) rfl ⟨_, _, _, _, rfl, aC.base (B := wr.heap.size) ?_ (by omega), ?_⟩
    ·repeat (refine aC.set ?_ (by dsimp only; omega))
     exact N1.out
    ·repeat (refine Below.setCell ?_ (by dsimp only; omega) _)
     exact Hc10.out
 ·have i1 : decide ((80 : Int) < (evs.length : Int)) = true := decide_eq_true (by omega)
  have d1 : decide (evs.length ≤ 80) = false := decide_eq_false h80
  obtain rfl := Hz.out.trans (show plW evs = zWd by unfold plW; rw [if_neg h80])
  rw [d1]
  clear d1 Hz
  obtain ⟨q0, q1, q2, q3, q4, q5, qf, qf0, qf1, qf2, qf3, qf4, qf5⟩ := bj E1.out
  clear qf E1
  go_wp2_with fail
  refine bodyPost_ret (v := .tuple #[.agg #[.slice none 0 0, .slice none 0 0, .slice none 0 0, .slice none 0 0, .int .i64 0, .int .i64 0], .bool false]) (by simp [results, Tryz.results22, go_sem, q0, q1, q2, q3, q4, q5]) rfl ⟨_, _, _, _, rfl, lQ _ _, ?_⟩
  repeat (refine Below.setCell ?_ (by first | (dsimp only; omega) | simp) _)
  exact HB1.out
theorem oH : (Tryz.prog.info? 38).map (fun i => (i.zero, i.size, i.bytes)) = some (some (.agg #[.int .i64 0, .int .i64 0, .int .i64 0, .int .i64 0]), 4, 32) := by kernel_rfl
def th (w : World) (e : Ending) (w' : World) : Prop := ∃ v evs, e = .returned v ∧ bp tEv 38 w.heap.size w' v evs ∧ Below w.heap.size w w'
def okR (g b4 : Nat) (ov : Value) (b : Nat) : Prop := b ≠ g ∧ b ≠ b4 ∧ ov.ownBlock ≠ some b
theorem WdR.keep {R : Nat → Prop} {w w' : World} {v : Value} {x : Wd} (h : WdR R w v x) (hs : w.heap.size ≤ w'.heap.size) (hk : ∀ b, R b → b < w.heap.size → w'.heap[b]? = w.heap[b]?) : WdR R w' v x := by
 obtain ⟨vm, vs, vn, vg, rfl, h1, h2, h3, h4⟩ := h
 exact ⟨_, _, _, _, rfl, h1.keep hs hk, h2.keep hs hk, h3.keep hs hk, h4.keep hs hk⟩
def PlI (B b4 q : Nat) (w : World) (ov : Value) (evs : List Ev) (y : Wd) : Prop :=
 Rdr B w B q ∧ Own tEv 38 (B + 1) w ov evs [] ∧ Bx (okR B b4 ov) b4 w y ∧ B + 1 ≤ b4 ∧ ov.ownBlock ≠ some b4 ∧ VD 0 y
section
variable {B b4 q q' : Nat} {w w' : World} {ov v' : Value} {evs : List Ev} {y z : Wd} {ev : Ev}
theorem PlI.tch (h : PlI B b4 q w ov evs y) (hr : Rdr B w' B q') (ht : Tch [B] w w') : PlI B b4 q' w' ov evs y := by
 obtain ⟨h1, h2, ⟨a1, e1, a2, e2, a3, e3, a4, e4, r0, r1⟩, h4, h5, h6⟩ := h
 refine ⟨hr, h2.keep (fun b hb => ht.block b (h2.top b hb).2 (fun hm => ?_)) (fun _ h => by cases h), ⟨a1, e1, a2, e2, a3, e3, a4, e4, ht.row r0 (fun hm => ?_), r1.keep ht.size (fun b hb hlt => ht.block b hlt (fun hm => ?_))⟩, h4, h5, h6⟩
 ·have := (h2.top b hb).1; simp at hm; omega
 ·simp at hm; omega
 ·simp at hm; exact hb.1 hm
theorem PlI.pick (h : PlI B b4 q w ov evs y) (hr : Rdr B w' B q') (hg : w.grownBy w' (some B)) : PlI B b4 q' w' ov evs y :=
 h.tch hr (Tch.grown hg (fun k hk _ => by injection hk with hk; subst hk; exact List.mem_cons_self))
theorem PlI.go (h : PlI B b4 q w ov evs y) (hb : Below w.heap.size w w') : PlI B b4 q w' ov evs y :=
 h.tch (h.1.below hb h.1.lt.2 (Nat.le_of_lt h.1.lt.2)) (Tch.of hb)
theorem PlI.app (h : PlI B b4 q w ov evs y) (ho : Own tEv 38 (B + 1) w' v' (evs ++ [ev]) []) (hg : w.grownBy w' ov.ownBlock) (hv : v'.ownBlock = ov.ownBlock ∨ v'.ownBlock = some w.heap.size) : PlI B b4 q w' v' (evs ++ [ev]) y := by
 obtain ⟨h1, h2, ⟨a1, e1, a2, e2, a3, e3, a4, e4, r0, r1⟩, h4, h5, h6⟩ := h
 have hgw := h1.lt
 have hn : ov.ownBlock ≠ some B := fun e => by have := (h2.top _ e).1; omega
 have h4w := (aL r0)
 have hB : Below (B + 1) w w' := (ah).grown hg (by omega) (fun k hk => (h2.top k hk).1)
 refine ⟨h1.below hB (by omega) (by omega), ho, ⟨a1, e1, a2, e2, a3, e3, a4, e4, au hg r0 h5, ((r1.mono (R' := fun b => okR B b4 ov b ∧ okR B b4 v' b) (fun b hlt hb => ⟨hb, hb.1, hb.2.1, ?_⟩)).keep hg.size (fun b hb hlt => hg.block b hlt (fun e => hb.1.2.2 e.symm))).mono (fun b _ hb => hb.2)⟩, h4, ?_, h6⟩
 ·rcases hv with hv | hv
  ·rw [hv]; exact hb.2.2
  ·rw [hv]; intro e; injection e with e; omega
 ·rcases hv with hv | hv
  ·rw [hv]; exact h5
  ·rw [hv]; intro e; injection e with e; omega
theorem PlI.put {a1 a2 a3 a4 : Option Addr} {e1 e2 e3 e4 : Nat} (h : PlI B b4 q w ov evs y) (hb : Below w.heap.size w w') (hz : WdR (okR B b4 ov) w' (.agg #[.slice a1 z.mixes.length e1, .slice a2 z.sent.length e2, .slice a3 z.net.length e3, .slice a4 z.got.length e4, .int .i64 z.made, .int .i64 z.lost]) z) (hv : VD 0 z) :
  PlI B b4 q ((((((w'.setCell ⟨b4, 0, none⟩ (.slice a1 z.mixes.length e1)).setCell ⟨b4, 1, none⟩ (.slice a2 z.sent.length e2)).setCell ⟨b4, 2, none⟩ (.slice a3 z.net.length e3)).setCell ⟨b4, 3, none⟩ (.slice a4 z.got.length e4)).setCell ⟨b4, 4, none⟩ (.int .i64 z.made)).setCell ⟨b4, 5, none⟩ (.int .i64 z.lost)) ov evs z := by
 obtain ⟨h1, h2, h3, h4, h5, h6⟩ := h
 have h1' := h1.below hb h1.lt.2 (Nat.le_of_lt h1.lt.2)
 refine ⟨h1'.below (n := B + 1) ?_ (by omega) (by omega), Own.keep (w := w) h2 (fun b hb' => ?_) (fun _ h => by cases h), h3.put hb (fun h => h.2.1 rfl) hz, h4, h5, hv⟩
 ·repeat (refine Below.setCell ?_ (by dsimp only; omega) _)
  exact ah
 ·have hne : b ≠ b4 := fun e => h5 (by rw [hb', e])
  rw [bs b hne]
  exact hb.block b (h2.top b hb').2
end
theorem iz (v : Value) (xs : List Int) (w : World) (h : SlB fD w.heap.size w v xs) (hx : ∀ x ∈ xs, 0 ≤ x ∧ x ≤ 255) : Calls Tryz.prog 20 #[v] w (th w) := by
 obtain ⟨i0, hi, hz0, hz1, hz2⟩ := info_parts oH
 go_enter Tryz.func20, Tryz.ntmps20
 go_wp2_with fail
 refine (qM v xs _ h hx).mono ?_
 rintro e w1 ⟨rfl, hr, hb1⟩
 clear h hx
 have hgr := hr.lt.2
 go_wp2_with fail
 refine (jD _).mono ?_
 rintro e w2 ⟨v2, rfl, hw2, hb2⟩
 obtain ⟨a1, c1, a2, c2, a3, c3, a4, c4, rfl⟩ := hw2.form
 replace hr := hr.below hb2 hgr (Nat.le_of_lt hgr)
 have Hb2 := hid (hb1.trans (hb2.mono (Nat.le_of_lt hgr)))
 have hg2 := hr.lt.2
 have Hw2 := hid (hw2.mono (R' := fun b => b ≠ w.heap.size) (fun b _ hb => by omega))
 clear hb1 hb2 hw2
 go_upto_region 3 with fail
 generalize hgw : World.alloc w2 _ = W3
 obtain ⟨e3, hb3, s3⟩ := al hgw
 have s3' := hb3.size
 have HE3 := hid e3; have Hb3 := hid hb3; have Hr2 := hid hr
 clear hgw e3 hb3 hr
 go_upto_region 4 with fail
 generalize hgw : World.alloc W3 _ = W4
 obtain ⟨e4, hb4, s4⟩ := al hgw
 have s4' := hb4.size
 have hpl : PlI w.heap.size w2.heap.size 0 W4 (.slice (some ⟨W3.heap.size, 0, none⟩) 0 0) [] dT := by
  have hr3 := Hr2.out.below Hb3.out hg2 (Nat.le_of_lt hg2)
  refine ⟨hr3.below hb4 hr3.lt.2 (Nat.le_of_lt hr3.lt.2), bU e4 (by omega), ⟨_, _, _, _, _, _, _, _, ac hb4 HE3.out, ((Hw2.out.mono (R' := okR w.heap.size w2.heap.size (.slice (some ⟨W3.heap.size, 0, none⟩) 0 0)) (fun b hlt hb => ⟨hb, ?_, ?_⟩)).go Hb3.out).go hb4⟩, by omega, ?_, jq⟩
  ·omega
  ·intro e; simp [Value.ownBlock] at e; omega
  ·intro e; simp [Value.ownBlock] at e; omega
 have Hb4 := hid (bt (bt Hb2.out Hb3.out) hb4)
 have Hpl := hid hpl
 have h42 : w.heap.size + 1 ≤ w2.heap.size := by omega
 clear hgw e4 hb4 hpl HE3 Hb3 Hr2 Hw2
 go_wp2_with fail
 refine (ay _ _ _ _ _ Hpl.out.1 (by omega)).mono ?_
 rintro e wa ⟨m, rfl, m0, m1, _, hr, hg⟩
 have m1 := m1 (by omega)
 replace Hpl := hid (Hpl.out.pick hr hg)
 replace Hb4 := hid (Hb4.out.trans (Below.of_grown hg Hb4.out.size (fun k hk => by injection hk with hk; omega)))
 clear hr hg
 go_upto_region 5 with fail
 go_cut [17] (fun s17 wx => ∃ m2 : Int, s17 = .bool (m2 == 0) ∧ PlI w.heap.size w2.heap.size 2 wx (.slice (some ⟨W3.heap.size, 0, none⟩) 0 0) [] dT ∧ Below w.heap.size w wx)
 case first =>
  go_wp2_with fail
  refine (ay _ _ _ _ _ Hpl.out.1 (by omega)).mono ?_
  rintro e wb ⟨m2, rfl, m20, m21, _, hr, hg⟩
  have Hp2 := hid (Hpl.out.pick hr hg)
  have Hb5 := hid (Hb4.out.trans (Below.of_grown hg Hb4.out.size (fun k hk => by injection hk with hk; omega)))
  clear hr hg m21
  go_wp2_with fail
  go_meet
  exact ⟨m2, rfl, Hp2.out, Hb5.out⟩
 case rest =>
  obtain ⟨m2, rfl, hpl2, hb5⟩ := hcut
  rename_i hK
  refine hK _ _ ?_
  have Hp2 := hid hpl2; have Hb5 := hid hb5
  clear hpl2 hb5 Hpl Hb4
  go_cut [6] (fun s6 wx => ∃ (N : Int) (q0 : Nat), s6 = .int .i64 N ∧ N ≤ 81 ∧ q0 ≤ 3 ∧ PlI w.heap.size w2.heap.size q0 wx (.slice (some ⟨W3.heap.size, 0, none⟩) 0 0) [] dT ∧ Below w.heap.size w wx)
  case first =>
   by_cases hm : m2 = 0
   ·subst hm
    go_wp2_with fail
    refine (ay _ _ _ _ _ Hp2.out.1 (by omega)).mono ?_
    rintro e wb ⟨m3, rfl, m30, m31, _, hr, hg⟩
    have m31 := m31 (by omega)
    have Hp3 := hid (Hp2.out.pick hr hg)
    have Hb6 := hid (Hb5.out.trans (Below.of_grown hg Hb5.out.size (fun k hk => by injection hk with hk; omega)))
    have e1 : IntKind.i64.wrap (79 + m3) = 79 + m3 := aZ (by omega) (by omega)
    clear hr hg
    go_wp2_with fail
    go_meet
    exact ⟨_, _, rfl, by omega, by omega, Hp3.out, Hb6.out⟩
   ·have hm : (m2 == 0) = false := by simpa using hm
    go_wp2_with fail
    go_meet
    exact ⟨_, _, rfl, by omega, by omega, Hp2.out, Hb5.out⟩
  case rest =>
   obtain ⟨N, q0, rfl, hN, hq0, hpl3, hb6⟩ := hcut
   have Hp3 := hid hpl3; have Hb6 := hid hb6
   clear hpl3 hb6 Hp2 Hb5 s3 s4 s3' s4' m0 m1
   go_wp2_with fail
   go_loopw [5, 7] (fun ov i wr => ∃ (k : Nat) (y : Wd) (evs : List Ev) (q : Nat), (k ≤ 81 ∧ (0 < k → (k : Int) ≤ N)) ∧ i = .int .i64 k ∧ evs.length = k ∧ q ≤ 3 + 8 * k ∧ PlI w.heap.size w2.heap.size q wr ov evs y ∧ Below w.heap.size w wr) (fun _ i _ => N.toNat - (intOf i).toNat)
   case atStart => exact ⟨0, dT, [], q0, ⟨by omega, fun h => by omega⟩, rfl, rfl, by omega, Hp3.out, Hb6.out⟩
   case round =>
    obtain ⟨k, y, evs, q, ⟨hk, hk2⟩, rfl, hel, hq, hpl, hb⟩ := hrel
    have Hpl := hid hpl; have Hb := hid hb; have Hel := hid hel; have Hk2 := hid hk2
    obtain ⟨a1, e1, a2, e2, a3, e3, a4, e4, r0, rw⟩ := hpl.2.2.1
    obtain ⟨k0, k1, k2, k3, k4, k5, _⟩ := az r0
    clear hpl hb hel r0 rw Hp3 Hb6 hk2
    by_cases hlt : (k : Int) < N
    ·go_wp2_with fail
     refine (fY _ y _ _ _ _ Hpl.out.1 (by omega) ⟨_, _, _, _, _, _, _, _, rfl⟩).mono ?_
     rintro e wa ⟨ev, q2, rfl, hq2, hr, hT⟩
     replace Hpl := hid (Hpl.out.tch hr hT)
     replace Hb := hid (Hb.out.trans (hT.below Hb.out.size (by simp)))
     have HtA := hid Hpl.out.2.1.top
     clear hr hT k0 k1 k2 k3 k4 k5
     go_upto_region 11 with fail
     generalize hgw : World.alloc wa _ = wb
     obtain ⟨e8, hb8, s8⟩ := al hgw
     replace Hpl := hid (Hpl.out.go hb8)
     replace Hb := hid (bt Hb.out hb8)
     obtain ⟨v0, v1, v2, v3, _⟩ := aN e8
     have E8 := hid e8
     have hbb := Hb.out.size
     clear hgw e8 hb8
     go_upto_region 12 with (at_builtin; go_loud (refine aw rfl (.tmp 29) (.tmp 31) 27 rfl tEv ew (B := w.heap.size + 1) (v := u5) (xs := evs) (ys := [ev]) Tryz.underlying27 hi hz0 hz1 hz2 rfl (by decide) (by decide) rfl (Hpl.out.2.1.go (ab _ _)) _ 1 1 rfl (Sl.box' (T := tEv) (x := ev) _ ?_ ⟨rfl, rfl⟩) ?_ ?_ ?_; rfl; (have := Hel.out; simp; omega); (simp; omega); intro v5 w5 ho5 hg5 hv5))
     have E8' := hid (au hg5 (ac (ab _ _) E8.out) (fun e => by have := (HtA.out _ e).2; omega))
     replace Hb := hid ((bt Hb.out (ab _ _)).trans (Below.of_grown hg5 (bt Hb.out (ab _ _)).size (fun k hk => by have := (HtA.out _ hk).1; omega)))
     replace Hpl := hid ((Hpl.out.go (ab _ _)).app ho5 hg5 hv5)
     clear ho5 hg5 hv5 E8 v0 v1 v2 v3 HtA s8
     obtain ⟨b1, f1, b2, f2, b3, f3, b4, f4, r0, rw⟩ := Hpl.out.2.2.1
     obtain ⟨k0, k1, k2, k3, k4, k5, kf⟩ := az r0
     obtain ⟨v0, v1, v2, v3, _⟩ := aN E8'.out
     have ht5 := Hpl.out.2.1.top
     have hr5 := Hpl.out.1.lt.2
     have h45 := (aL r0)
     go_wp2_with fail
     refine (lr _ y _ ev _ (fun b hb => ⟨by omega, by omega, fun e => by have := (ht5 _ e).2; omega⟩) rw Hpl.out.2.2.2.2.2).mono ?_
     rintro e w6 ⟨v6, rfl, hw6, hb6⟩
     obtain ⟨g1, j1, g2, j2, g3, j3, g4, j4, rfl⟩ := hw6.form
     obtain ⟨q0', q1, q2', q3, q4, q5, qf⟩ := az (ac hb6 r0)
     have qf0 := qf 0; have qf1 := qf 1; have qf2 := qf 2; have qf3 := qf 3; have qf4 := qf 4; have qf5 := qf 5
     have hpl := hid (Hpl.out.put hb6 hw6 (Hpl.out.2.2.2.2.2.do_ ev))
     have hb := hid (bt Hb.out hb6)
     clear k0 k1 k2 k3 k4 k5 kf v0 v1 v2 v3 r0 rw hw6 hb6 qf Hpl Hb E8'
     go_wp2_with fail
     go_roundw
     case rel => exact ⟨k + 1, _, evs ++ [ev], q2, ⟨by omega, fun _ => by omega⟩, by go_num, (by have := Hel.out; simp [this]), by omega, hpl.out, (by (repeat (refine Below.setCell ?_ (by dsimp only; omega) _)); exact hb.out)⟩
     case measure => simp [intOf]; omega
    ·have Ho := hid Hpl.out.2.1
     go_wp2
     go_ret
     exact ⟨_, evs, rfl, ⟨[], Ho.out.base (by omega), List.nodup_nil, fun _ h => by cases h⟩, Hb.out⟩
theorem mJ {w : World} {cs : List Value} {xs : List Mx} {F : List Nat} (h : nMx.els w cs xs F) (hp : ∀ x ∈ xs, x.seen = [] ∧ x.pool = []) : oMx.els w cs xs F := by
 induction xs generalizing cs F with
 | nil => exact h
 | cons x xs ih =>
  obtain ⟨c1, c2, F1, F2, rfl, rfl, ⟨rfl, rfl⟩, h2⟩ := h
  obtain ⟨e1, e2⟩ := hp x List.mem_cons_self
  obtain ⟨sec, seen, pool⟩ := x
  dsimp only at e1 e2
  subst e1 e2
  exact ⟨_, _, [], _, rfl, rfl, ⟨[_], [_, _], [], [], rfl, rfl, ⟨rfl, rfl⟩, [_], [_], [], [], rfl, rfl, ⟨_, [], rfl, Own.nil _ _, rfl⟩, ⟨_, [], rfl, Own.nil _ _, rfl⟩⟩, ih h2 (fun y hy => hp y (List.mem_cons_of_mem _ hy))⟩
theorem sP {B : Nat} {w : World} {vm : Value} (h : bp nMx 70 B w vm (ba 3)) : cO B w.heap.size w vm (.slice none 0 0) (.slice none 0 0) (.slice none 0 0) dT := by
 obtain ⟨G, hO, hnd, hlo⟩ := h
 have ht := hO.top
 obtain ⟨cs, h1, h2, h3⟩ := hO
 have hO' : Own oMx 70 0 w vm (ba 3) G := ⟨cs, eV h1 (fun _ _ => Nat.zero_le _), mJ h2 (jl 3), h3⟩
 refine ⟨vm.ownBlock.toList ++ G, [], [], [], ⟨⟨vm, G, rfl, hO', rfl⟩, ⟨_, [], rfl, Own.nil _ _, rfl⟩, ⟨_, [], rfl, Own.nil _ _, rfl⟩, ⟨_, [], rfl, Own.nil _ _, rfl⟩⟩, ?_, fun c hc => ?_⟩
 ·simp only [List.append_nil]
  exact List.nodup_append.2 ⟨bQ _, hnd, fun a ha b hb e => h3 a (aA.1 ha) (e ▸ hb)⟩
 ·simp only [List.append_nil, List.mem_append] at hc
  rcases hc with hc | hc
  ·exact ht c (aA.1 hc)
  ·exact ⟨hlo c hc, Ty.els_lt h2 c hc⟩
end Go.Proofs.YtfaeojmndaplcaaGreatDoor
