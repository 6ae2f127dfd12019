/- Texts that the last file leans on (part 21). -/
import Derived.Test.YtfaeojmndaplcaaGreatDoorM15
import Derived.Test.YtfaeojmndaplcaaGreatDoorM18
import Derived.Test.YtfaeojmndaplcaaGreatDoorM19
set_option linter.unusedVariables false
set_option linter.unusedSimpArgs false
set_option maxHeartbeats 4000000
set_option maxRecDepth 100000
namespace Go.Proofs.YtfaeojmndaplcaaGreatDoor
open Go Go.RowKit
theorem SlR.tr {R : Nat → Prop} {w : World} {A : Option Addr} {n c : Nat} {xs : List Tr} (h : SlR R tTr w (.slice A n c) xs) {i : Nat} {x : Tr} (hx : xs[i]? = some x) :
  ∃ b o vh vb, A = some ⟨b, o, none⟩ ∧ R b ∧ b < w.heap.size ∧ SlR R af w vh x.pk.hd ∧ SlR R af w vb x.pk.bd ∧ w.cell? ⟨b, o + i * 6, none⟩ = some (.int .i64 x.mix) ∧ w.cell? ⟨b, o + i * 6 + 1, none⟩ = some (.int .i64 x.pk.el) ∧
   w.cell? ⟨b, o + i * 6 + 2, none⟩ = some vh ∧ w.cell? ⟨b, o + i * 6 + 3, none⟩ = some (.int .i64 x.pk.tag) ∧ w.cell? ⟨b, o + i * 6 + 4, none⟩ = some vb ∧ w.cell? ⟨b, o + i * 6 + 5, none⟩ = some (.bool x.ch) := by
 obtain ⟨b, o, cs, G, h1, h2, h2', hE, hG, h5⟩ := h.at_ hx
 obtain ⟨c, rfl, hp⟩ := x7.1 hE
 obtain ⟨vh, vb, Fh, Fb, rfl, rfl, hh, hb⟩ := tw.1 hp
 exact ⟨b, o, vh, vb, h1, h2, h2', ⟨Fh, hh, fun b hb => hG b (List.mem_append_left _ hb)⟩, ⟨Fb, hb, fun b hb => hG b (List.mem_append_right _ hb)⟩, h5 0 _ rfl, h5 1 _ rfl, h5 2 _ rfl, h5 3 _ rfl, h5 4 _ rfl, h5 5 _ rfl⟩
theorem SlR.cut {α : Type} {T : Ty α} {R : Nat → Prop} {w : World} {b o n c : Nat} {xs : List α} (h : SlR R T w (.slice (some ⟨b, o, none⟩) n c) xs) {i : Nat} (hi : i < xs.length) :
  (∃ F, Sl T w (.slice (some ⟨b, o, none⟩) i c) (xs.take i) F ∧ ∀ x ∈ F, R x) ∧ ∀ (A : Option Addr) (cc : Nat), (i + 1 < xs.length → A = some ⟨b, o + (i + 1) * T.k, none⟩) → xs.length - (i + 1) ≤ cc → cc ≤ maxLen → ∃ F, Sl T w (.slice A (xs.length - (i + 1)) cc) (xs.drop (i + 1)) F ∧ ∀ x ∈ F, R x := by
 obtain ⟨F, ⟨A', c', cs, e1, h2, h3, h4⟩, hF⟩ := h
 injection e1 with e1 e2 e3; subst e1 e2 e3
 have hne : xs ≠ [] := fun e => by subst e; simp at hi
 rcases h4 with ⟨rfl, rfl⟩ | ⟨b', o', G, e, rfl, _, hb, hels, hc⟩
 ·exact absurd rfl hne
 ·injection e with e; injection e with e1 e2; subst e1 e2
  have hlt : (xs.take i).length = i := by simp; omega
  constructor
  ·obtain ⟨c1, c2, G1, G2, rfl, rfl, hl, k1, _⟩ := Ty.els_cut hels i (by omega)
   by_cases h0 : xs.take i = []
   ·exact ⟨[], ⟨_, c, [], by rw [hlt], by omega, h3, .inl ⟨h0, rfl⟩⟩, fun _ h => by cases h⟩
   ·refine ⟨b :: G1, ⟨_, c, c1, by rw [hlt], by omega, h3, .inr ⟨b, o, G1, rfl, rfl, h0, hb, k1, fun j u hj => hc j u ?_⟩⟩, fun x hx => hF x ?_⟩
    ·have hj' := (List.getElem?_eq_some_iff.1 hj).1
     rw [List.getElem?_append_left hj']; exact hj
    ·rcases List.mem_cons.1 hx with rfl | hx
     ·simp
     ·simp [hx]
  ·intro A cc hA hcc hcm
   have hlen : (xs.drop (i + 1)).length = xs.length - (i + 1) := by simp
   by_cases h0 : xs.length ≤ i + 1
   ·exact ⟨[], ⟨_, cc, [], by rw [hlen], by omega, hcm, .inl ⟨List.drop_eq_nil_of_le h0, rfl⟩⟩, fun _ h => by cases h⟩
   ·obtain rfl := hA (by omega)
    obtain ⟨c1, c2, G1, G2, rfl, rfl, hl, _, k2⟩ := Ty.els_cut hels (i + 1) (by omega)
    refine ⟨b :: G2, ⟨_, cc, c2, by rw [hlen], by omega, hcm, .inr ⟨b, o + (i + 1) * T.k, G2, rfl, rfl, fun e => h0 (by simpa using e), hb, k2, fun j u hj => ?_⟩⟩, fun x hx => hF x ?_⟩
    ·have := hc (c1.length + j) u (by rw [List.getElem?_append_right (by omega), Nat.add_sub_cancel_left]; exact hj)
     rw [hl] at this
     rw [Nat.add_assoc]; exact this
    ·rcases List.mem_cons.1 hx with rfl | hx
     ·simp
     ·simp [hx]
theorem qs (R : Nat → Prop) (x : Wd) (v : Value) (kd a b c : Int) (w : World) (hv : WdR R w v x) (hn : x.net.length ≤ 10) (hw : win a 0 ((x.net.length : Int) - 1) = false) :
  Calls Tryz.prog 67 #[v, .agg #[.int .i64 kd, .int .i64 a, .int .i64 b, .int .i64 c]] w (b6 w R x) := by
 obtain ⟨A1, c1, A2, c2, A3, c3, A4, c4, rfl⟩ := hv.form
 have HV := hid (fun (wx : World) (hb : Below w.heap.size w wx) => hv.go hb)
 have iw : IntKind.i64.wrap ((x.net.length : Int) - 1) = (x.net.length : Int) - 1 := a9 (by omega)
 clear hv
 go_enter Tryz.func67, Tryz.ntmps67
 go_wp2_with (go_at_call 68; refine (aU _ _ _ _).mono ?_; rw [hw]; rintro e w' ⟨rfl, rfl⟩)
 refine bodyPost_ret (v := .agg #[.slice A1 x.mixes.length c1, .slice A2 x.sent.length c2, .slice A3 x.net.length c3, .slice A4 x.got.length c4, .int .i64 x.made, .int .i64 x.lost]) (by simp [results, Tryz.results67, go_sem]) rfl ⟨_, rfl, HV.out _ (by repeat (first | exact zm | apply ae | refine bA ?_ (by omega) | refine Below.setCell ?_ (by first | omega | simp <;> omega) _)), by repeat (first | exact zm | apply ae | refine bA ?_ (by omega) | refine Below.setCell ?_ (by first | omega | simp <;> omega) _)⟩
theorem qr (R : Nat → Prop) (x : Wd) (v : Value) (i : Nat) (t : Tr) (b c : Int) (w : World) (hv : WdR R w v x) (hx : VD 0 x) (hi : x.net[i]? = some t) (hf : ¬ (x.net.length < 10 ∧ x.made < 999)) :
  Calls Tryz.prog 67 #[v, .agg #[.int .i64 4, .int .i64 i, .int .i64 b, .int .i64 c]] w (b6 w R x) := by
 obtain ⟨kd, hkd⟩ : ∃ kd : Int, kd = 4 := ⟨_, rfl⟩
 rw [← hkd]
 have i4 : (kd == 4) = true := by simp [hkd]
 clear hkd
 obtain ⟨A1, c1, A2, c2, A3, c3, A4, c4, rfl⟩ := hv.form
 have hil := (List.getElem?_eq_some_iff.1 hi).1
 have hn10 := hx.nn
 have iw : IntKind.i64.wrap ((x.net.length : Int) - 1) = (x.net.length : Int) - 1 := a9 (by omega)
 have hw : win (i : Int) 0 ((x.net.length : Int) - 1) = true := aH.2 (by omega)
 go_enter Tryz.func67, Tryz.ntmps67
 go_upto_region 1 with fail
 generalize hgw : World.alloc (World.alloc (World.alloc w _) _) _ = W0; obtain ⟨e0, e1, e2, hW0, sW0⟩ := mL hgw; clear hgw
 have hv0 := hv.off 4 hW0
 obtain ⟨g, o, vh, vb, rfl, _, hgW, hvh, hvb, t0, t1, t2, t3, t4, t5⟩ := hv0.un.2.2.1.tr hi
 obtain ⟨Ah, ch, rfl, _, _, _⟩ := hvh.form
 obtain ⟨Ab, cb, rfl, _, _, _⟩ := hvb.form
 obtain ⟨k0, k1, k2, k3, k4, k5, kf⟩ := aC e0
 obtain ⟨v0, v1, v2, v3, _⟩ := bh e1
 have z0 : w.heap.size < W0.heap.size := by omega
 have z1 : w.heap.size + 1 < W0.heap.size := by omega
 clear hv
 go_upto_region 4 with (go_at_call 68; refine (aU _ _ _ _).mono ?_; rw [hw]; rintro e w' ⟨rfl, rfl⟩)
 have hW1 : Below w.heap.size w (W0.alloc (.cells #[.int .i64 t.mix, .int .i64 t.pk.el, .slice Ah t.pk.hd.length ch, .int .i64 t.pk.tag, .slice Ab t.pk.bd.length cb, .bool t.ch] 74)) := hW0.alloc (by omega) _
 have e3 := heap_alloc_new W0 (.cells #[.int .i64 t.mix, .int .i64 t.pk.el, .slice Ah t.pk.hd.length ch, .int .i64 t.pk.tag, .slice Ab t.pk.bd.length cb, .bool t.ch] 74)
 rw [sW0] at e3
 have e0 := ac (ab W0 (.cells #[.int .i64 t.mix, .int .i64 t.pk.el, .slice Ah t.pk.hd.length ch, .int .i64 t.pk.tag, .slice Ab t.pk.bd.length cb, .bool t.ch] 74)) e0
 have e1 := ac (ab W0 (.cells #[.int .i64 t.mix, .int .i64 t.pk.el, .slice Ah t.pk.hd.length ch, .int .i64 t.pk.tag, .slice Ab t.pk.bd.length cb, .bool t.ch] 74)) e1
 have e2 := ac (ab W0 (.cells #[.int .i64 t.mix, .int .i64 t.pk.el, .slice Ah t.pk.hd.length ch, .int .i64 t.pk.tag, .slice Ab t.pk.bd.length cb, .bool t.ch] 74)) e2
 have hv1 := hv0.go (ab W0 (.cells #[.int .i64 t.mix, .int .i64 t.pk.el, .slice Ah t.pk.hd.length ch, .int .i64 t.pk.tag, .slice Ab t.pk.bd.length cb, .bool t.ch] 74))
 have hvh := hvh.go (ab W0 (.cells #[.int .i64 t.mix, .int .i64 t.pk.el, .slice Ah t.pk.hd.length ch, .int .i64 t.pk.tag, .slice Ab t.pk.bd.length cb, .bool t.ch] 74))
 have hvb := hvb.go (ab W0 (.cells #[.int .i64 t.mix, .int .i64 t.pk.el, .slice Ah t.pk.hd.length ch, .int .i64 t.pk.tag, .slice Ab t.pk.bd.length cb, .bool t.ch] 74))
 have sW1 : (W0.alloc (.cells #[.int .i64 t.mix, .int .i64 t.pk.el, .slice Ah t.pk.hd.length ch, .int .i64 t.pk.tag, .slice Ab t.pk.bd.length cb, .bool t.ch] 74)).heap.size = w.heap.size + 4 := by rw [World.size_alloc, sW0]
 try rw [sW0]
 clear t0 t1 t2 t3 t4 t5 k0 k1 k2 k3 k4 k5 kf v0 v1 v2 v3 z0 z1 hv0 hgW hW0
 generalize W0.alloc (.cells #[.int .i64 t.mix, .int .i64 t.pk.el, .slice Ah t.pk.hd.length ch, .int .i64 t.pk.tag, .slice Ab t.pk.bd.length cb, .bool t.ch] 74) = W1 at *
 clear sW0
 obtain ⟨k0, k1, k2, k3, k4, k5, kf⟩ := aC e0
 obtain ⟨v0, v1, v2, v3, _⟩ := bh e1
 obtain ⟨q0, q1, q2, q3, q4, q5, qf⟩ := aC e2
 obtain ⟨t0, t1, t2, t3, t4, t5, _⟩ := aC e3
 have kf4 := kf 4; have kf5 := kf 5; have kf2 := kf 2
 have qf0 := qf 0; have qf1 := qf 1; have qf2 := qf 2; have qf3 := qf 3; have qf4 := qf 4; have qf5 := qf 5
 have z0 : w.heap.size < W1.heap.size := by omega
 have z1 : w.heap.size + 1 < W1.heap.size := by omega
 have z2 : w.heap.size + 1 + 1 < W1.heap.size := by omega
 have z3 : w.heap.size + 3 < W1.heap.size := by omega
 have HV1 := hid hv1; have HW1 := hid hW1
 clear hv1 hW1 hi hvh hvb e0 e1 e2 e3 kf qf
 by_cases h10 : 10 ≤ x.net.length
 ·have i2 : decide ((10 : Int) ≤ (x.net.length : Int)) = true := decide_eq_true (by omega)
  go_wp2_with fail
  refine bodyPost_ret (v := .agg #[.slice A1 x.mixes.length c1, .slice A2 x.sent.length c2, .slice (some ⟨g, o, none⟩) x.net.length c3, .slice A4 x.got.length c4, .int .i64 x.made, .int .i64 x.lost]) (by simp [results, Tryz.results67, go_sem, q0, q1, q2, q3, q4, q5]) rfl ⟨_, rfl, ?_, ?_⟩
  ·refine WdR.mono (R := be R w.heap.size (w.heap.size + 4)) ?_ (fun b _ h => h.1)
   repeat (refine WdR.set ?_ (aE (by dsimp only; omega) (by dsimp only; omega)))
   exact HV1.out
  ·repeat (refine Below.setCell ?_ (by dsimp only; omega) _)
   exact HW1.out
 ·have i2 : decide ((10 : Int) ≤ (x.net.length : Int)) = false := decide_eq_false (by omega)
  have i3 : decide ((999 : Int) ≤ x.made) = true := decide_eq_true (by omega)
  clear hf
  go_wp2_with fail
  refine bodyPost_ret (v := .agg #[.slice A1 x.mixes.length c1, .slice A2 x.sent.length c2, .slice (some ⟨g, o, none⟩) x.net.length c3, .slice A4 x.got.length c4, .int .i64 x.made, .int .i64 x.lost]) (by simp [results, Tryz.results67, go_sem, q0, q1, q2, q3, q4, q5]) rfl ⟨_, rfl, ?_, ?_⟩
  ·refine WdR.mono (R := be R w.heap.size (w.heap.size + 4)) ?_ (fun b _ h => h.1)
   repeat (refine WdR.set ?_ (aE (by dsimp only; omega) (by dsimp only; omega)))
   exact HV1.out
  ·repeat (refine Below.setCell ?_ (by dsimp only; omega) _)
   exact HW1.out
theorem pq (R : Nat → Prop) (x : Wd) (v : Value) (i : Nat) (t : Tr) (b c : Int) (w : World) (hR : ∀ b, w.heap.size ≤ b → R b) (hv : WdR R w v x) (hx : VD 0 x) (hi : x.net[i]? = some t) (h10 : x.net.length < 10) (hmd : x.made < 999) :
  Calls Tryz.prog 67 #[v, .agg #[.int .i64 4, .int .i64 i, .int .i64 b, .int .i64 c]] w (b6 w R (ew ⟨x.mixes, x.sent, x.net, x.got, x.made + 1, x.lost⟩ t.mix t.pk t.ch)) := by
 have htr := bR.1 hx.nt t (List.mem_of_getElem? hi)
 have Hsm := hid (fG (cL.1 htr).2).le
 have HLim := hid (show Lim ⟨x.mixes, x.sent, x.net, x.got, x.made + 1, x.lost⟩ from by have := hx.lim; unfold Lim at *; dsimp only at *; omega)
 obtain ⟨_, _, m2, m3⟩ := hx.lim
 have iwm : IntKind.i64.wrap (x.made + 1) = x.made + 1 := a9 (by omega)
 obtain ⟨kd, hkd⟩ : ∃ kd : Int, kd = 4 := ⟨_, rfl⟩
 rw [← hkd]
 have i4 : (kd == 4) = true := by simp [hkd]
 clear hkd htr
 obtain ⟨A1, c1, A2, c2, A3, c3, A4, c4, rfl⟩ := hv.form
 have hil := (List.getElem?_eq_some_iff.1 hi).1
 have hn10 := hx.nn
 have iw : IntKind.i64.wrap ((x.net.length : Int) - 1) = (x.net.length : Int) - 1 := a9 (by omega)
 have hw : win (i : Int) 0 ((x.net.length : Int) - 1) = true := aH.2 (by omega)
 go_enter Tryz.func67, Tryz.ntmps67
 go_upto_region 1 with fail
 generalize hgw : World.alloc (World.alloc (World.alloc w _) _) _ = W0; obtain ⟨e0, e1, e2, hW0, sW0⟩ := mL hgw; clear hgw
 have hv0 := hv.off 4 hW0
 obtain ⟨g, o, vh, vb, rfl, _, hgW, hvh, hvb, t0, t1, t2, t3, t4, t5⟩ := hv0.un.2.2.1.tr hi
 obtain ⟨Ah, ch, rfl, _, _, _⟩ := hvh.form
 obtain ⟨Ab, cb, rfl, _, _, _⟩ := hvb.form
 obtain ⟨k0, k1, k2, k3, k4, k5, kf⟩ := aC e0
 obtain ⟨v0, v1, v2, v3, _⟩ := bh e1
 have z0 : w.heap.size < W0.heap.size := by omega
 have z1 : w.heap.size + 1 < W0.heap.size := by omega
 clear hv
 go_upto_region 4 with (go_at_call 68; refine (aU _ _ _ _).mono ?_; rw [hw]; rintro e w' ⟨rfl, rfl⟩)
 have hW1 : Below w.heap.size w (W0.alloc (.cells #[.int .i64 t.mix, .int .i64 t.pk.el, .slice Ah t.pk.hd.length ch, .int .i64 t.pk.tag, .slice Ab t.pk.bd.length cb, .bool t.ch] 74)) := hW0.alloc (by omega) _
 have e3 := heap_alloc_new W0 (.cells #[.int .i64 t.mix, .int .i64 t.pk.el, .slice Ah t.pk.hd.length ch, .int .i64 t.pk.tag, .slice Ab t.pk.bd.length cb, .bool t.ch] 74)
 rw [sW0] at e3
 have e0 := ac (ab W0 (.cells #[.int .i64 t.mix, .int .i64 t.pk.el, .slice Ah t.pk.hd.length ch, .int .i64 t.pk.tag, .slice Ab t.pk.bd.length cb, .bool t.ch] 74)) e0
 have e1 := ac (ab W0 (.cells #[.int .i64 t.mix, .int .i64 t.pk.el, .slice Ah t.pk.hd.length ch, .int .i64 t.pk.tag, .slice Ab t.pk.bd.length cb, .bool t.ch] 74)) e1
 have e2 := ac (ab W0 (.cells #[.int .i64 t.mix, .int .i64 t.pk.el, .slice Ah t.pk.hd.length ch, .int .i64 t.pk.tag, .slice Ab t.pk.bd.length cb, .bool t.ch] 74)) e2
 have hv1 := hv0.go (ab W0 (.cells #[.int .i64 t.mix, .int .i64 t.pk.el, .slice Ah t.pk.hd.length ch, .int .i64 t.pk.tag, .slice Ab t.pk.bd.length cb, .bool t.ch] 74))
 have hvh := hvh.go (ab W0 (.cells #[.int .i64 t.mix, .int .i64 t.pk.el, .slice Ah t.pk.hd.length ch, .int .i64 t.pk.tag, .slice Ab t.pk.bd.length cb, .bool t.ch] 74))
 have hvb := hvb.go (ab W0 (.cells #[.int .i64 t.mix, .int .i64 t.pk.el, .slice Ah t.pk.hd.length ch, .int .i64 t.pk.tag, .slice Ab t.pk.bd.length cb, .bool t.ch] 74))
 have sW1 : (W0.alloc (.cells #[.int .i64 t.mix, .int .i64 t.pk.el, .slice Ah t.pk.hd.length ch, .int .i64 t.pk.tag, .slice Ab t.pk.bd.length cb, .bool t.ch] 74)).heap.size = w.heap.size + 4 := by rw [World.size_alloc, sW0]
 try rw [sW0]
 clear t0 t1 t2 t3 t4 t5 k0 k1 k2 k3 k4 k5 kf v0 v1 v2 v3 z0 z1 hv0 hgW hW0
 generalize W0.alloc (.cells #[.int .i64 t.mix, .int .i64 t.pk.el, .slice Ah t.pk.hd.length ch, .int .i64 t.pk.tag, .slice Ab t.pk.bd.length cb, .bool t.ch] 74) = W1 at *
 clear sW0
 obtain ⟨k0, k1, k2, k3, k4, k5, kf⟩ := aC e0
 obtain ⟨v0, v1, v2, v3, _⟩ := bh e1
 obtain ⟨q0, q1, q2, q3, q4, q5, qf⟩ := aC e2
 obtain ⟨t0, t1, t2, t3, t4, t5, _⟩ := aC e3
 have kf4 := kf 4; have kf5 := kf 5; have kf2 := kf 2
 have qf0 := qf 0; have qf1 := qf 1; have qf2 := qf 2; have qf3 := qf 3; have qf4 := qf 4; have qf5 := qf 5
 have z0 : w.heap.size < W1.heap.size := by omega
 have z1 : w.heap.size + 1 < W1.heap.size := by omega
 have z2 : w.heap.size + 1 + 1 < W1.heap.size := by omega
 have z3 : w.heap.size + 3 < W1.heap.size := by omega
 have HV1 := hid hv1; have HW1 := hid hW1; have Hvh := hid hvh; have Hvb := hid hvb
 have i2 : decide ((10 : Int) ≤ (x.net.length : Int)) = false := decide_eq_false (by omega)
 have i3 : decide ((999 : Int) ≤ x.made) = false := decide_eq_false (by omega)
 have E2 := hid e2
 clear hv1 hW1 hi hvh hvb e0 e1 e2 e3 kf qf
 go_wp2_with fail
 have hvs : WdR (be R w.heap.size (w.heap.size + 4)) (W1.setCell ⟨w.heap.size, 4, none⟩ (.int .i64 (x.made + 1))) (.agg #[.slice A1 x.mixes.length c1, .slice A2 x.sent.length c2, .slice (some ⟨g, o, none⟩) x.net.length c3, .slice A4 x.got.length c4, .int .i64 (x.made + 1), .int .i64 x.lost]) ⟨x.mixes, x.sent, x.net, x.got, x.made + 1, x.lost⟩ := by
  refine WdR.set ?_ (aE (by dsimp only; omega) (by dsimp only; omega))
  obtain ⟨m1, m2, m3, m4⟩ := HV1.out.un
  exact ⟨_, _, _, _, rfl, m1, m2, m3, m4⟩
 have hs1 := (Hvh.out.set (p := ⟨w.heap.size, 4, none⟩) (u := .int .i64 (x.made + 1)) (aE (by dsimp only; omega) (by dsimp only; omega)))
 have hs2 := (Hvb.out.set (p := ⟨w.heap.size, 4, none⟩) (u := .int .i64 (x.made + 1)) (aE (by dsimp only; omega) (by dsimp only; omega)))
 have sW2 : (W1.setCell ⟨w.heap.size, 4, none⟩ (.int .i64 (x.made + 1))).heap.size = W1.heap.size := al _ _ _
 have hW2 := HW1.out.setCell (p := ⟨w.heap.size, 4, none⟩) (by dsimp only; omega) (.int .i64 (x.made + 1))
 have e2 : (W1.setCell ⟨w.heap.size, 4, none⟩ (.int .i64 (x.made + 1))).heap[w.heap.size + 1 + 1]? = _ := (Below.heap_setCell _ _ _ _ (by dsimp only; omega)).trans E2.out
 generalize W1.setCell ⟨w.heap.size, 4, none⟩ (.int .i64 (x.made + 1)) = W2 at *
 refine (mF (be R w.heap.size (w.heap.size + 4)) ⟨x.mixes, x.sent, x.net, x.got, x.made + 1, x.lost⟩ _ t.mix t.pk _ _ _ _ t.ch _ (fun b hb => ⟨hR b (by omega), .inr (by omega)⟩) hvs HLim.out hs1.slB hs2.slB Hsm.out.1 Hsm.out.2).mono ?_
 rintro e w9 ⟨v9, rfl, hw9, hb9⟩
 obtain ⟨b1', f1, b2', f2, b3', f3, b4', f4, rfl⟩ := hw9.form
 clear q0 q1 q2 q3 q4 q5 qf0 qf1 qf2 qf3 qf4 qf5
 obtain ⟨q0, q1, q2, q3, q4, q5, qf, qf0, qf1, qf2, qf3, qf4, qf5⟩ := bs (ac hb9 e2)
 have y2 : w.heap.size + 1 + 1 < w9.heap.size := by have := hb9.size; omega
 have HF := hid (bt hW2 hb9); have HR := hid hw9
 clear hvs hs1 hs2 hW2 e2 hb9 hw9 qf E2 k0 k1 k2 k3 k4 k5 v0 v1 v2 v3 t0 t1 t2 t3 t4 t5 kf4 kf5 kf2
 generalize ew ⟨x.mixes, x.sent, x.net, x.got, x.made + 1, x.lost⟩ t.mix t.pk t.ch = y at *
 go_wp2_with fail
 refine bodyPost_ret (v := .agg #[.slice b1' y.mixes.length f1, .slice b2' y.sent.length f2, .slice b3' y.net.length f3, .slice b4' y.got.length f4, .int .i64 y.made, .int .i64 y.lost]) (by simp [results, Tryz.results67, go_sem, q0, q1, q2, q3, q4, q5]) rfl ⟨_, rfl, ?_, ?_⟩
 ·refine WdR.mono (R := be R w.heap.size (w.heap.size + 4)) ?_ (fun b _ h => h.1)
  repeat (refine WdR.set ?_ (aE (by dsimp only; omega) (by dsimp only; omega)))
  exact HR.out
 ·repeat (refine Below.setCell ?_ (by dsimp only; omega) _)
  exact HF.out
theorem rU (R : Nat → Prop) (x : Wd) (v : Value) (i : Nat) (t : Tr) (b c : Int) (w : World) (hR : ∀ b, w.heap.size ≤ b → R b) (hv : WdR R w v x) (hx : VD 0 x) (hi : x.net[i]? = some t) :
  Calls Tryz.prog 67 #[v, .agg #[.int .i64 5, .int .i64 i, .int .i64 b, .int .i64 c]] w (b6 w R (gI x i t b)) := by
 obtain ⟨kd, hkd⟩ : ∃ kd : Int, kd = 5 := ⟨_, rfl⟩
 rw [← hkd]
 have i4 : (kd == 4) = false := by simp [hkd]
 have i5 : (kd == 5) = true := by simp [hkd]
 clear hkd
 have Hx := hid hx
 obtain ⟨A1, c1, A2, c2, A3, c3, A4, c4, rfl⟩ := hv.form
 have hil := (List.getElem?_eq_some_iff.1 hi).1
 have hn10 := hx.nn
 have iw : IntKind.i64.wrap ((x.net.length : Int) - 1) = (x.net.length : Int) - 1 := a9 (by omega)
 have hw : win (i : Int) 0 ((x.net.length : Int) - 1) = true := aH.2 (by omega)
 go_enter Tryz.func67, Tryz.ntmps67
 go_upto_region 1 with fail
 generalize hgw : World.alloc (World.alloc (World.alloc w _) _) _ = W0; obtain ⟨e0, e1, e2, hW0, sW0⟩ := mL hgw; clear hgw
 have hv0 := hv.off 4 hW0
 obtain ⟨g, o, vh, vb, rfl, _, hgW, hvh, hvb, t0, t1, t2, t3, t4, t5⟩ := hv0.un.2.2.1.tr hi
 obtain ⟨Ah, ch, rfl, _, _, _⟩ := hvh.form
 obtain ⟨Ab, cb, rfl, _, _, _⟩ := hvb.form
 obtain ⟨k0, k1, k2, k3, k4, k5, kf⟩ := aC e0
 obtain ⟨v0, v1, v2, v3, _⟩ := bh e1
 have z0 : w.heap.size < W0.heap.size := by omega
 have z1 : w.heap.size + 1 < W0.heap.size := by omega
 clear hv
 go_upto_region 4 with (go_at_call 68; refine (aU _ _ _ _).mono ?_; rw [hw]; rintro e w' ⟨rfl, rfl⟩)
 have hW1 : Below w.heap.size w (W0.alloc (.cells #[.int .i64 t.mix, .int .i64 t.pk.el, .slice Ah t.pk.hd.length ch, .int .i64 t.pk.tag, .slice Ab t.pk.bd.length cb, .bool t.ch] 74)) := hW0.alloc (by omega) _
 have e3 := heap_alloc_new W0 (.cells #[.int .i64 t.mix, .int .i64 t.pk.el, .slice Ah t.pk.hd.length ch, .int .i64 t.pk.tag, .slice Ab t.pk.bd.length cb, .bool t.ch] 74)
 rw [sW0] at e3
 have e0 := ac (ab W0 (.cells #[.int .i64 t.mix, .int .i64 t.pk.el, .slice Ah t.pk.hd.length ch, .int .i64 t.pk.tag, .slice Ab t.pk.bd.length cb, .bool t.ch] 74)) e0
 have e1 := ac (ab W0 (.cells #[.int .i64 t.mix, .int .i64 t.pk.el, .slice Ah t.pk.hd.length ch, .int .i64 t.pk.tag, .slice Ab t.pk.bd.length cb, .bool t.ch] 74)) e1
 have e2 := ac (ab W0 (.cells #[.int .i64 t.mix, .int .i64 t.pk.el, .slice Ah t.pk.hd.length ch, .int .i64 t.pk.tag, .slice Ab t.pk.bd.length cb, .bool t.ch] 74)) e2
 have hv1 := hv0.go (ab W0 (.cells #[.int .i64 t.mix, .int .i64 t.pk.el, .slice Ah t.pk.hd.length ch, .int .i64 t.pk.tag, .slice Ab t.pk.bd.length cb, .bool t.ch] 74))
 have hvh := hvh.go (ab W0 (.cells #[.int .i64 t.mix, .int .i64 t.pk.el, .slice Ah t.pk.hd.length ch, .int .i64 t.pk.tag, .slice Ab t.pk.bd.length cb, .bool t.ch] 74))
 have hvb := hvb.go (ab W0 (.cells #[.int .i64 t.mix, .int .i64 t.pk.el, .slice Ah t.pk.hd.length ch, .int .i64 t.pk.tag, .slice Ab t.pk.bd.length cb, .bool t.ch] 74))
 have sW1 : (W0.alloc (.cells #[.int .i64 t.mix, .int .i64 t.pk.el, .slice Ah t.pk.hd.length ch, .int .i64 t.pk.tag, .slice Ab t.pk.bd.length cb, .bool t.ch] 74)).heap.size = w.heap.size + 4 := by rw [World.size_alloc, sW0]
 try rw [sW0]
 clear t0 t1 t2 t3 t4 t5 k0 k1 k2 k3 k4 k5 kf v0 v1 v2 v3 z0 z1 hv0 hgW hW0
 generalize W0.alloc (.cells #[.int .i64 t.mix, .int .i64 t.pk.el, .slice Ah t.pk.hd.length ch, .int .i64 t.pk.tag, .slice Ab t.pk.bd.length cb, .bool t.ch] 74) = W1 at *
 clear sW0
 obtain ⟨k0, k1, k2, k3, k4, k5, kf⟩ := aC e0
 obtain ⟨v0, v1, v2, v3, _⟩ := bh e1
 obtain ⟨q0, q1, q2, q3, q4, q5, qf⟩ := aC e2
 obtain ⟨t0, t1, t2, t3, t4, t5, _⟩ := aC e3
 have kf4 := kf 4; have kf5 := kf 5; have kf2 := kf 2
 have qf0 := qf 0; have qf1 := qf 1; have qf2 := qf 2; have qf3 := qf 3; have qf4 := qf 4; have qf5 := qf 5
 have z0 : w.heap.size < W1.heap.size := by omega
 have z1 : w.heap.size + 1 < W1.heap.size := by omega
 have z2 : w.heap.size + 1 + 1 < W1.heap.size := by omega
 have z3 : w.heap.size + 3 < W1.heap.size := by omega
 have HV1 := hid hv1; have HW1 := hid hW1; have Hi := hid hi
 have E2 := hid e2
 clear hv1 hW1 hi hvh hvb e0 e1 e2 e3 kf qf
 go_wp2_with fail
 refine (qo (be R w.heap.size (w.heap.size + 4)) x _ i t b _ (fun b hb => ⟨hR b (by omega), .inr (by omega)⟩) HV1.out Hx.out Hi.out).mono ?_
 rintro e w9 ⟨v9, rfl, hw9, hb9⟩
 obtain ⟨b1', f1, b2', f2, b3', f3, b4', f4, rfl⟩ := hw9.form
 clear q0 q1 q2 q3 q4 q5 qf0 qf1 qf2 qf3 qf4 qf5
 obtain ⟨q0, q1, q2, q3, q4, q5, qf, qf0, qf1, qf2, qf3, qf4, qf5⟩ := bs (ac hb9 E2.out)
 have y2 : w.heap.size + 1 + 1 < w9.heap.size := by have := hb9.size; omega
 have HF := hid (bt HW1.out hb9); have HR := hid hw9
 clear hb9 hw9 qf E2 k0 k1 k2 k3 k4 k5 v0 v1 v2 v3 t0 t1 t2 t3 t4 t5 kf4 kf5 kf2
 generalize gI x i t b = y at *
 go_wp2_with fail
 refine bodyPost_ret (v := .agg #[.slice b1' y.mixes.length f1, .slice b2' y.sent.length f2, .slice b3' y.net.length f3, .slice b4' y.got.length f4, .int .i64 y.made, .int .i64 y.lost]) (by simp [results, Tryz.results67, go_sem, q0, q1, q2, q3, q4, q5]) rfl ⟨_, rfl, ?_, ?_⟩
 ·refine WdR.mono (R := be R w.heap.size (w.heap.size + 4)) ?_ (fun b _ h => h.1)
  repeat (refine WdR.set ?_ (aE (by dsimp only; omega) (by dsimp only; omega)))
  exact HR.out
 ·repeat (refine Below.setCell ?_ (by dsimp only; omega) _)
  exact HF.out
theorem rV (R : Nat → Prop) (x : Wd) (v : Value) (i : Nat) (t : Tr) (kd b c : Int) (w : World) (hR : ∀ b, w.heap.size ≤ b → R b) (hv : WdR R w v x) (hx : VD 0 x) (hi : x.net[i]? = some t) (h4 : kd ≠ 4) (h5 : kd ≠ 5) :
  Calls Tryz.prog 67 #[v, .agg #[.int .i64 kd, .int .i64 i, .int .i64 b, .int .i64 c]] w (b6 w R (if kd = 3 then dA (bS x (x.net.eraseIdx i)) else ex (bS x (x.net.eraseIdx i)) t)) := by
 obtain ⟨k00, ki, kz0, kz1, kz2⟩ := info_parts lr
 have i4 : (kd == 4) = false := by simp [h4]
 have i5 : (kd == 5) = false := by simp [h5]
 have Htr := hid (bR.1 hx.nt t (List.mem_of_getElem? hi))
 have Hxe := hid (hx.erase (List.getElem?_eq_some_iff.1 hi).1)
 have hs2 : (0 : Int) ≤ (i : Int) + 1 := by omega
 have Hy := hid hi
 have Hx := hid hx
 clear h4 h5
 obtain ⟨y, hy⟩ : ∃ y, y = (if kd = 3 then dA (bS x (x.net.eraseIdx i)) else ex (bS x (x.net.eraseIdx i)) t) := ⟨_, rfl⟩
 rw [← hy]
 have Hres := hid hy
 clear hy
 obtain ⟨A1, c1, A2, c2, A3, c3, A4, c4, rfl⟩ := hv.form
 have hil := (List.getElem?_eq_some_iff.1 hi).1
 have hn10 := hx.nn
 have iw : IntKind.i64.wrap ((x.net.length : Int) - 1) = (x.net.length : Int) - 1 := a9 (by omega)
 have hw : win (i : Int) 0 ((x.net.length : Int) - 1) = true := aH.2 (by omega)
 go_enter Tryz.func67, Tryz.ntmps67
 go_upto_region 1 with fail
 generalize hgw : World.alloc (World.alloc (World.alloc w _) _) _ = W0; obtain ⟨e0, e1, e2, hW0, sW0⟩ := mL hgw; clear hgw
 have hv0 := hv.off 4 hW0
 obtain ⟨g, o, vh, vb, rfl, _, hgW, hvh, hvb, t0, t1, t2, t3, t4, t5⟩ := hv0.un.2.2.1.tr hi
 obtain ⟨Ah, ch, rfl, _, _, _⟩ := hvh.form
 obtain ⟨Ab, cb, rfl, _, _, _⟩ := hvb.form
 obtain ⟨k0, k1, k2, k3, k4, k5, kf⟩ := aC e0
 obtain ⟨v0, v1, v2, v3, _⟩ := bh e1
 have z0 : w.heap.size < W0.heap.size := by omega
 have z1 : w.heap.size + 1 < W0.heap.size := by omega
 clear hv
 go_upto_region 4 with (go_at_call 68; refine (aU _ _ _ _).mono ?_; rw [hw]; rintro e w' ⟨rfl, rfl⟩)
 have hW1 : Below w.heap.size w (W0.alloc (.cells #[.int .i64 t.mix, .int .i64 t.pk.el, .slice Ah t.pk.hd.length ch, .int .i64 t.pk.tag, .slice Ab t.pk.bd.length cb, .bool t.ch] 74)) := hW0.alloc (by omega) _
 have e3 := heap_alloc_new W0 (.cells #[.int .i64 t.mix, .int .i64 t.pk.el, .slice Ah t.pk.hd.length ch, .int .i64 t.pk.tag, .slice Ab t.pk.bd.length cb, .bool t.ch] 74)
 rw [sW0] at e3
 have e0 := ac (ab W0 (.cells #[.int .i64 t.mix, .int .i64 t.pk.el, .slice Ah t.pk.hd.length ch, .int .i64 t.pk.tag, .slice Ab t.pk.bd.length cb, .bool t.ch] 74)) e0
 have e1 := ac (ab W0 (.cells #[.int .i64 t.mix, .int .i64 t.pk.el, .slice Ah t.pk.hd.length ch, .int .i64 t.pk.tag, .slice Ab t.pk.bd.length cb, .bool t.ch] 74)) e1
 have e2 := ac (ab W0 (.cells #[.int .i64 t.mix, .int .i64 t.pk.el, .slice Ah t.pk.hd.length ch, .int .i64 t.pk.tag, .slice Ab t.pk.bd.length cb, .bool t.ch] 74)) e2
 have hv1 := hv0.go (ab W0 (.cells #[.int .i64 t.mix, .int .i64 t.pk.el, .slice Ah t.pk.hd.length ch, .int .i64 t.pk.tag, .slice Ab t.pk.bd.length cb, .bool t.ch] 74))
 have hvh := hvh.go (ab W0 (.cells #[.int .i64 t.mix, .int .i64 t.pk.el, .slice Ah t.pk.hd.length ch, .int .i64 t.pk.tag, .slice Ab t.pk.bd.length cb, .bool t.ch] 74))
 have hvb := hvb.go (ab W0 (.cells #[.int .i64 t.mix, .int .i64 t.pk.el, .slice Ah t.pk.hd.length ch, .int .i64 t.pk.tag, .slice Ab t.pk.bd.length cb, .bool t.ch] 74))
 have sW1 : (W0.alloc (.cells #[.int .i64 t.mix, .int .i64 t.pk.el, .slice Ah t.pk.hd.length ch, .int .i64 t.pk.tag, .slice Ab t.pk.bd.length cb, .bool t.ch] 74)).heap.size = w.heap.size + 4 := by rw [World.size_alloc, sW0]
 try rw [sW0]
 clear t0 t1 t2 t3 t4 t5 k0 k1 k2 k3 k4 k5 kf v0 v1 v2 v3 z0 z1 hv0 hgW hW0
 generalize W0.alloc (.cells #[.int .i64 t.mix, .int .i64 t.pk.el, .slice Ah t.pk.hd.length ch, .int .i64 t.pk.tag, .slice Ab t.pk.bd.length cb, .bool t.ch] 74) = W1 at *
 clear sW0
 obtain ⟨k0, k1, k2, k3, k4, k5, kf⟩ := aC e0
 obtain ⟨v0, v1, v2, v3, _⟩ := bh e1
 obtain ⟨q0, q1, q2, q3, q4, q5, qf⟩ := aC e2
 obtain ⟨t0, t1, t2, t3, t4, t5, _⟩ := aC e3
 have kf4 := kf 4; have kf5 := kf 5; have kf2 := kf 2
 have qf0 := qf 0; have qf1 := qf 1; have qf2 := qf 2; have qf3 := qf 3; have qf4 := qf 4; have qf5 := qf 5
 have z0 : w.heap.size < W1.heap.size := by omega
 have z1 : w.heap.size + 1 < W1.heap.size := by omega
 have z2 : w.heap.size + 1 + 1 < W1.heap.size := by omega
 have z3 : w.heap.size + 3 < W1.heap.size := by omega
 have hs1 : IntKind.i64.wrap ((i : Int) + 1) = (i : Int) + 1 := a9 (by omega)
 have Hs3 := hid (show ((i : Int) + 1).toNat = i + 1 by omega)
 obtain ⟨⟨FT, hsT, hfT⟩, hcD⟩ := hv1.un.2.2.1.cut hil
 have hc3 := hv1.un.2.2.1.form
 obtain ⟨_, _, ec3, hc31, hc32, _⟩ := hc3
 injection ec3 with ea3 eb3 ec3; subst ea3; subst ec3; clear eb3
 have hltT := hsT.lt
 have HV1 := hid hv1; have HW1 := hid hW1; have Hvh := hid hvh; have Hvb := hid hvb
 have E0 := hid e0; have E1 := hid e1; have E2 := hid e2; have E3 := hid e3
 have HS := hid (fun (wx : World) (hT : Tch [] W1 wx) => And.intro (aC (hT.row E0.out (by simp))) (And.intro (bh (hT.row E1.out (by simp))) (show w.heap.size < wx.heap.size by have := hT.size; omega)))
 clear hv1 hW1 hi hvh hvb e0 e1 e2 e3 kf qf hx
 go_upto_region 12 with fail
 go_cut [] (fun W7 => ∃ (A13 : Option Addr) (c13 : Nat), W7.heap[w.heap.size]? = some (.cells #[.slice A1 x.mixes.length c1, .slice A2 x.sent.length c2, .slice A13 (x.net.eraseIdx i).length c13, .slice A4 x.got.length c4, .int .i64 x.made, .int .i64 x.lost] 33 (0, 0)) ∧ W7.heap[w.heap.size + 1]? = some (.cells #[.int .i64 kd, .int .i64 i, .int .i64 b, .int .i64 c] 38 (0, 0)) ∧ W7.heap[w.heap.size + 1 + 1]? = some (.cells #[.slice none 0 0, .slice none 0 0, .slice none 0 0, .slice none 0 0, .int .i64 0, .int .i64 0] 33 (0, 0)) ∧ W7.heap[w.heap.size + 3]? = some (.cells #[.int .i64 t.mix, .int .i64 t.pk.el, .slice Ah t.pk.hd.length ch, .int .i64 t.pk.tag, .slice Ab t.pk.bd.length cb, .bool t.ch] 74 (0, 0)) ∧ SlR (be R w.heap.size (w.heap.size + 4)) af W7 (.slice Ah t.pk.hd.length ch) t.pk.hd ∧ SlR (be R w.heap.size (w.heap.size + 4)) af W7 (.slice Ab t.pk.bd.length cb) t.pk.bd ∧ Below w.heap.size w W7 ∧ WdR (be R w.heap.size (w.heap.size + 4)) W7 (.agg #[.slice A1 x.mixes.length c1, .slice A2 x.sent.length c2, .slice A13 (x.net.eraseIdx i).length c13, .slice A4 x.got.length c4, .int .i64 x.made, .int .i64 x.lost]) (bS x (x.net.eraseIdx i)) ∧ W1.heap.size ≤ W7.heap.size)
 case first =>
  clear q0 q1 q2 q3 q4 q5 qf0 qf1 qf2 qf3 qf4 qf5 k0 k1 k2 k3 k4 k5 kf4 kf5 kf2 v0 v1 v2 v3 t0 t1 t2 t3 t4 t5
  by_cases hce : c3 = i + 1
  ·subst hce
   obtain ⟨FD, hsD, hfD⟩ := hcD (some ⟨g, o, none⟩) 0 (fun h => by omega) (by omega) (by omega)
   have hsD0 : Sl tTr W1 (.slice (some ⟨g, o, none⟩) 0 0) (x.net.drop (i + 1)) FD := by have h0 := hsD; rwa [show x.net.length - (i + 1) = 0 from by omega] at h0
   have hltD := hsD.lt
   have hs3 := Hs3.out
   have hlz : (i : Int) + 1 ≤ (x.net.length : Int) := by omega
   have hle : i ≤ i + 1 := by omega
   have hle' : (i : Int) ≤ (i : Int) + 1 := by omega
   refine rgN [] 16 (by kernel_rfl) rfl (fun | none, _, _, _, _ => id | some _, _, _, _, _ => id) fun wd hH hbwd swd => ?_
   simp only [pw]
   refine ag [1, 2, 3, 4, 5, 7, 8, 9, 10, 11, 12] ?_
   iterate 11 (refine ra HS.out rfl (by kernel_rfl) rfl (fun _ f => by go_simp; try with_reducible rfl) ?_; try simp only [pw])
   refine rq 0 (by kernel_rfl) rfl fun K hK => ?_
   go_simp
   (have la0 := hH.size; generalize hgw : World.alloc _ _ = wa0; obtain ⟨ea0, hbC, sa0⟩ := aD hgw; clear hgw)
   refine hK.out _ _ (hH.trans (Tch.of hbC)) (fun hH => ?_)
   clear hK K
   refine rq 6 (by kernel_rfl) rfl fun K hK => ?_
   (have lpa := hH.size; refine aZ rfl (.tmp 55) (.tmp 60) 31 rfl tTr (B := W1.heap.size) Tryz.underlying31 ki kz0 kz1 kz2 rfl (by decide) (v := .slice (some ⟨_, 0, none⟩) 0 0) (xs := []) rfl (eE ea0 la0) (some ⟨g, o, none⟩) i _ rfl (hsT.below hH.nil hltT) (fun b hb hm => by have h1 := hltT b (List.mem_of_mem_tail hm); simp [Value.ownBlock] at hb; omega) (by simp; omega) (by simp [maxLen]; omega) (by omega) ?_; intro v6 w6 ho6 hg6 hv6; rw [List.nil_append, List.nil_append] at ho6; have hbP := hH.grow hg6 (fun k hk hlt => by simp [Value.ownBlock] at hk; omega))
   refine hK.out _ _ (hbP) (fun hH => ?_)
   clear hK K
   refine rq 13 (by kernel_rfl) rfl fun K hK => ?_
   (have lpb := hH.size; refine aZ rfl (.tmp 61) (.tmp 67) 31 rfl tTr (B := W1.heap.size) Tryz.underlying31 ki kz0 kz1 kz2 rfl (by decide) (v := v6) rfl ho6 (some ⟨g, o, none⟩) 0 0 rfl (hsD0.below hH.nil hltD) (fun b hb hm => by have h1 := hltD b (List.mem_of_mem_tail hm); have h2 := (ho6.top b hb).1; omega) (by simp; omega) (by simp [maxLen]; omega) (by omega) ?_; intro v13 w13 ho13 hg13 hv13; have hbP := hH.grow hg13 (fun k hk hlt => by have := (ho6.top k hk).1; omega); obtain ⟨A13, c13, e13, _, _, _⟩ := ho13.form; rw [← List.eraseIdx_eq_take_drop_succ] at e13 ho13; subst e13)
   refine hK.out _ _ (hbP) (fun hH => ?_)
   clear hK K
   refine tr 14 HS.out rfl (by kernel_rfl) rfl (fun _ f => by go_simp; try with_reducible rfl) ?_
   try simp only [pw]
   refine rz 15 (by kernel_rfl) rfl fun K hK => ?_
   have fC := HS.out _ hH
   go_simp
   clear fC
   refine hK.out _ _ ?_
   clear hK K
   have hF := hH.nil
   have hFs := hF.size
   have e0' : (w13.setCell ⟨w.heap.size, 2, none⟩ (.slice A13 (x.net.eraseIdx i).length c13)).heap[w.heap.size]? = some (.cells #[.slice A1 x.mixes.length c1, .slice A2 x.sent.length c2, .slice A13 (x.net.eraseIdx i).length c13, .slice A4 x.got.length c4, .int .i64 x.made, .int .i64 x.lost] 33 (0, 0)) := aI 2 _ (ac hF E0.out)
   have e1' : (w13.setCell ⟨w.heap.size, 2, none⟩ (.slice A13 (x.net.eraseIdx i).length c13)).heap[w.heap.size + 1]? = _ := (Below.heap_setCell _ _ _ _ (by dsimp only; omega)).trans (ac hF E1.out)
   have e2' : (w13.setCell ⟨w.heap.size, 2, none⟩ (.slice A13 (x.net.eraseIdx i).length c13)).heap[w.heap.size + 1 + 1]? = _ := (Below.heap_setCell _ _ _ _ (by dsimp only; omega)).trans (ac hF E2.out)
   have e3' : (w13.setCell ⟨w.heap.size, 2, none⟩ (.slice A13 (x.net.eraseIdx i).length c13)).heap[w.heap.size + 3]? = _ := (Below.heap_setCell _ _ _ _ (by dsimp only; omega)).trans (ac hF E3.out)
   have s1' := (Hvh.out.go hF).set (p := ⟨w.heap.size, 2, none⟩) (u := .slice A13 (x.net.eraseIdx i).length c13) (aE (by dsimp only; omega) (by dsimp only; omega))
   have s2' := (Hvb.out.go hF).set (p := ⟨w.heap.size, 2, none⟩) (u := .slice A13 (x.net.eraseIdx i).length c13) (aE (by dsimp only; omega) (by dsimp only; omega))
   have hW7 := (bt HW1.out hF).setCell (p := ⟨w.heap.size, 2, none⟩) (by dsimp only; omega) (.slice A13 (x.net.eraseIdx i).length c13)
   have hwd7 : WdR (be R w.heap.size (w.heap.size + 4)) (w13.setCell ⟨w.heap.size, 2, none⟩ (.slice A13 (x.net.eraseIdx i).length c13)) (.agg #[.slice A1 x.mixes.length c1, .slice A2 x.sent.length c2, .slice A13 (x.net.eraseIdx i).length c13, .slice A4 x.got.length c4, .int .i64 x.made, .int .i64 x.lost]) (bS x (x.net.eraseIdx i)) := by
    obtain ⟨m1, m2, _, m4⟩ := (HV1.out.go hF).un
    have hn := SlR.of_own (R := be R w.heap.size (w.heap.size + 4)) ho13 (fun b hb => ⟨hR b (by omega), .inr (by omega)⟩) (fun b hb => by
     rcases List.mem_append.1 hb with hb | hb
     ·exact hfT b (List.mem_of_mem_tail hb)
     ·exact hfD b (List.mem_of_mem_tail hb))
    refine WdR.set ?_ (aE (by dsimp only; omega) (by dsimp only; omega))
    exact ⟨_, _, _, _, rfl, m1, m2, hn, m4⟩
   have s7 : W1.heap.size ≤ (w13.setCell ⟨w.heap.size, 2, none⟩ (.slice A13 (x.net.eraseIdx i).length c13)).heap.size := by rw [al]; exact hFs
   have HX := hid (show _ ∧ _ ∧ _ ∧ _ ∧ _ ∧ _ ∧ _ ∧ _ ∧ _ from ⟨e0', e1', e2', e3', s1', s2', hW7, hwd7, s7⟩)
   clear e0' e1' e2' e3' s1' s2' hW7 hwd7 s7 hF hFs hH ho13 ho6 hbC hbP hg13 hg6 ea0
   go_wp2_with fail
   go_meet
   exact ⟨_, _, HX.out⟩
  ·obtain ⟨FD, hsD, hfD⟩ := hcD (some ⟨g, o + (i + 1) * 6, none⟩) (c3 - (i + 1)) (fun h => rfl) (by omega) (by omega)
   have hltD := hsD.lt
   have hs3 := Hs3.out
   have hlz : (i : Int) + 1 ≤ (x.net.length : Int) := by omega
   have hic : i ≤ c3 := by omega
   refine rgN [] 16 (by kernel_rfl) rfl (fun | none, _, _, _, _ => id | some _, _, _, _, _ => id) fun wd hH hbwd swd => ?_
   simp only [pw]
   refine ag [1, 2, 3, 4, 5, 7, 8, 9, 10, 11, 12] ?_
   iterate 11 (refine ra HS.out rfl (by kernel_rfl) rfl (fun _ f => by go_simp; try with_reducible rfl) ?_; try simp only [pw])
   refine rq 0 (by kernel_rfl) rfl fun K hK => ?_
   go_simp
   (have la0 := hH.size; generalize hgw : World.alloc _ _ = wa0; obtain ⟨ea0, hbC, sa0⟩ := aD hgw; clear hgw)
   refine hK.out _ _ (hH.trans (Tch.of hbC)) (fun hH => ?_)
   clear hK K
   refine rq 6 (by kernel_rfl) rfl fun K hK => ?_
   (have lpa := hH.size; refine aZ rfl (.tmp 55) (.tmp 60) 31 rfl tTr (B := W1.heap.size) Tryz.underlying31 ki kz0 kz1 kz2 rfl (by decide) (v := .slice (some ⟨_, 0, none⟩) 0 0) (xs := []) rfl (eE ea0 la0) (some ⟨g, o, none⟩) i _ rfl (hsT.below hH.nil hltT) (fun b hb hm => by have h1 := hltT b (List.mem_of_mem_tail hm); simp [Value.ownBlock] at hb; omega) (by simp; omega) (by simp [maxLen]; omega) (by omega) ?_; intro v6 w6 ho6 hg6 hv6; rw [List.nil_append, List.nil_append] at ho6; have hbP := hH.grow hg6 (fun k hk hlt => by simp [Value.ownBlock] at hk; omega))
   refine hK.out _ _ (hbP) (fun hH => ?_)
   clear hK K
   refine rq 13 (by kernel_rfl) rfl fun K hK => ?_
   (have lpb := hH.size; refine aZ rfl (.tmp 61) (.tmp 67) 31 rfl tTr (B := W1.heap.size) Tryz.underlying31 ki kz0 kz1 kz2 rfl (by decide) (v := v6) rfl ho6 (some ⟨g, o + (i + 1) * 6, none⟩) (x.net.length - (i + 1)) (c3 - (i + 1)) rfl (hsD.below hH.nil hltD) (fun b hb hm => by have h1 := hltD b (List.mem_of_mem_tail hm); have h2 := (ho6.top b hb).1; omega) (by simp; omega) (by simp [maxLen]; omega) (by omega) ?_; intro v13 w13 ho13 hg13 hv13; have hbP := hH.grow hg13 (fun k hk hlt => by have := (ho6.top k hk).1; omega); obtain ⟨A13, c13, e13, _, _, _⟩ := ho13.form; rw [← List.eraseIdx_eq_take_drop_succ] at e13 ho13; subst e13)
   refine hK.out _ _ (hbP) (fun hH => ?_)
   clear hK K
   refine tr 14 HS.out rfl (by kernel_rfl) rfl (fun _ f => by go_simp; try with_reducible rfl) ?_
   try simp only [pw]
   refine rz 15 (by kernel_rfl) rfl fun K hK => ?_
   have fC := HS.out _ hH
   go_simp
   clear fC
   refine hK.out _ _ ?_
   clear hK K
   have hF := hH.nil
   have hFs := hF.size
   have e0' : (w13.setCell ⟨w.heap.size, 2, none⟩ (.slice A13 (x.net.eraseIdx i).length c13)).heap[w.heap.size]? = some (.cells #[.slice A1 x.mixes.length c1, .slice A2 x.sent.length c2, .slice A13 (x.net.eraseIdx i).length c13, .slice A4 x.got.length c4, .int .i64 x.made, .int .i64 x.lost] 33 (0, 0)) := aI 2 _ (ac hF E0.out)
   have e1' : (w13.setCell ⟨w.heap.size, 2, none⟩ (.slice A13 (x.net.eraseIdx i).length c13)).heap[w.heap.size + 1]? = _ := (Below.heap_setCell _ _ _ _ (by dsimp only; omega)).trans (ac hF E1.out)
   have e2' : (w13.setCell ⟨w.heap.size, 2, none⟩ (.slice A13 (x.net.eraseIdx i).length c13)).heap[w.heap.size + 1 + 1]? = _ := (Below.heap_setCell _ _ _ _ (by dsimp only; omega)).trans (ac hF E2.out)
   have e3' : (w13.setCell ⟨w.heap.size, 2, none⟩ (.slice A13 (x.net.eraseIdx i).length c13)).heap[w.heap.size + 3]? = _ := (Below.heap_setCell _ _ _ _ (by dsimp only; omega)).trans (ac hF E3.out)
   have s1' := (Hvh.out.go hF).set (p := ⟨w.heap.size, 2, none⟩) (u := .slice A13 (x.net.eraseIdx i).length c13) (aE (by dsimp only; omega) (by dsimp only; omega))
   have s2' := (Hvb.out.go hF).set (p := ⟨w.heap.size, 2, none⟩) (u := .slice A13 (x.net.eraseIdx i).length c13) (aE (by dsimp only; omega) (by dsimp only; omega))
   have hW7 := (bt HW1.out hF).setCell (p := ⟨w.heap.size, 2, none⟩) (by dsimp only; omega) (.slice A13 (x.net.eraseIdx i).length c13)
   have hwd7 : WdR (be R w.heap.size (w.heap.size + 4)) (w13.setCell ⟨w.heap.size, 2, none⟩ (.slice A13 (x.net.eraseIdx i).length c13)) (.agg #[.slice A1 x.mixes.length c1, .slice A2 x.sent.length c2, .slice A13 (x.net.eraseIdx i).length c13, .slice A4 x.got.length c4, .int .i64 x.made, .int .i64 x.lost]) (bS x (x.net.eraseIdx i)) := by
    obtain ⟨m1, m2, _, m4⟩ := (HV1.out.go hF).un
    have hn := SlR.of_own (R := be R w.heap.size (w.heap.size + 4)) ho13 (fun b hb => ⟨hR b (by omega), .inr (by omega)⟩) (fun b hb => by
     rcases List.mem_append.1 hb with hb | hb
     ·exact hfT b (List.mem_of_mem_tail hb)
     ·exact hfD b (List.mem_of_mem_tail hb))
    refine WdR.set ?_ (aE (by dsimp only; omega) (by dsimp only; omega))
    exact ⟨_, _, _, _, rfl, m1, m2, hn, m4⟩
   have s7 : W1.heap.size ≤ (w13.setCell ⟨w.heap.size, 2, none⟩ (.slice A13 (x.net.eraseIdx i).length c13)).heap.size := by rw [al]; exact hFs
   have HX := hid (show _ ∧ _ ∧ _ ∧ _ ∧ _ ∧ _ ∧ _ ∧ _ ∧ _ from ⟨e0', e1', e2', e3', s1', s2', hW7, hwd7, s7⟩)
   clear e0' e1' e2' e3' s1' s2' hW7 hwd7 s7 hF hFs hH ho13 ho6 hbC hbP hg13 hg6 ea0
   go_wp2_with fail
   go_meet
   exact ⟨_, _, HX.out⟩
 case rest =>
  obtain ⟨A13, c13, e0, e1, e2, e3, s1, s2, hW7, hwd7, s7⟩ := hcut
  obtain ⟨W7, rfl⟩ : ∃ W7 : World, W7 = wc := ⟨_, rfl⟩
  clear q0 q1 q2 q3 q4 q5 qf0 qf1 qf2 qf3 qf4 qf5 k0 k1 k2 k3 k4 k5 kf4 kf5 kf2 v0 v1 v2 v3 t0 t1 t2 t3 t4 t5 E0 E1 E2 E3 HV1 HW1 Hvh Hvb HS hsT hcD hltT hfT z0 z1 z2 z3
  obtain ⟨k0, k1, k2, k3, k4, k5, kf⟩ := aC e0
  obtain ⟨v0, v1, v2, v3, _⟩ := bh e1
  obtain ⟨q0, q1, q2, q3, q4, q5, qf⟩ := aC e2
  obtain ⟨t0, t1, t2, t3, t4, t5, _⟩ := aC e3
  have kf5 := kf 5
  have qf0 := qf 0; have qf1 := qf 1; have qf2 := qf 2; have qf3 := qf 3; have qf4 := qf 4; have qf5 := qf 5
  have z0 : w.heap.size < W7.heap.size := by omega
  have z1 : w.heap.size + 1 < W7.heap.size := by omega
  have z2 : w.heap.size + 1 + 1 < W7.heap.size := by omega
  have z3 : w.heap.size + 3 < W7.heap.size := by omega
  have Hwd := hid hwd7; have HW7 := hid hW7; have S1 := hid s1; have S2 := hid s2; have E2 := hid e2
  obtain ⟨l1, l2, _, _⟩ := Hx.out.lim
  have iwl : IntKind.i64.wrap (x.lost + 1) = x.lost + 1 := a9 (by omega)
  clear hwd7 hW7 s1 s2 e0 e1 e2 e3 kf qf
  by_cases hk3 : kd = 3
  ·have i3 : (kd == 3) = true := by simp [hk3]
   obtain rfl := Hres.out.trans (if_pos hk3)
   clear hk3 Hres
   go_wp2_with fail
   refine bodyPost_ret (v := .agg #[.slice A1 x.mixes.length c1, .slice A2 x.sent.length c2, .slice A13 (x.net.eraseIdx i).length c13, .slice A4 x.got.length c4, .int .i64 x.made, .int .i64 (x.lost + 1)]) (by simp [results, Tryz.results67, go_sem, q0, q1, q2, q3, q4, q5]) rfl ⟨_, rfl, ?_, ?_⟩
   ·refine WdR.mono (R := be R w.heap.size (w.heap.size + 4)) ?_ (fun b _ h => h.1)
    repeat (refine WdR.set ?_ (aE (by dsimp only; omega) (by dsimp only; omega)))
    exact Hwd.out.los
   ·repeat (refine Below.setCell ?_ (by dsimp only; omega) _)
    exact HW7.out
  ·have i3 : (kd == 3) = false := by simp [hk3]
   obtain rfl := Hres.out.trans (if_neg hk3)
   clear hk3 Hres
   go_wp2_with fail
   refine (uj (be R w.heap.size (w.heap.size + 4)) (bS x (x.net.eraseIdx i)) _ t _ _ _ _ _ (fun b hb => ⟨hR b (by omega), .inr (by omega)⟩) Hwd.out Hxe.out Htr.out S1.out.slB S2.out.slB).mono ?_
   rintro e w9 ⟨v9, rfl, hw9, hb9⟩
   obtain ⟨b1', f1, b2', f2, b3', f3, b4', f4, rfl⟩ := hw9.form
   clear q0 q1 q2 q3 q4 q5 qf0 qf1 qf2 qf3 qf4 qf5
   obtain ⟨q0, q1, q2, q3, q4, q5, qf, qf0, qf1, qf2, qf3, qf4, qf5⟩ := bs (ac hb9 E2.out)
   have y2 : w.heap.size + 1 + 1 < w9.heap.size := by have := hb9.size; omega
   have HF := hid (bt HW7.out hb9); have HR := hid hw9
   clear hb9 hw9 qf E2 k0 k1 k2 k3 k4 k5 v0 v1 v2 v3 t0 t1 t2 t3 t4 t5 kf5
   generalize ex (bS x (x.net.eraseIdx i)) t = y at *
   go_wp2_with fail
   refine bodyPost_ret (v := .agg #[.slice b1' y.mixes.length f1, .slice b2' y.sent.length f2, .slice b3' y.net.length f3, .slice b4' y.got.length f4, .int .i64 y.made, .int .i64 y.lost]) (by simp [results, Tryz.results67, go_sem, q0, q1, q2, q3, q4, q5]) rfl ⟨_, rfl, ?_, ?_⟩
   ·refine WdR.mono (R := be R w.heap.size (w.heap.size + 4)) ?_ (fun b _ h => h.1)
    repeat (refine WdR.set ?_ (aE (by dsimp only; omega) (by dsimp only; omega)))
    exact HR.out
   ·repeat (refine Below.setCell ?_ (by dsimp only; omega) _)
    exact HF.out
theorem iR (R : Nat → Prop) (x : Wd) (v : Value) (e : Ev) (w : World) (hR : ∀ b, w.heap.size ≤ b → R b) (hv : WdR R w v x) (hx : VD 0 x) :
  Calls Tryz.prog 67 #[v, .agg #[.int .i64 e.kind, .int .i64 e.a, .int .i64 e.b, .int .i64 e.c]] w (b6 w R (eS x e)) := by
 obtain ⟨kd, a, b, c⟩ := e
 dsimp only
 by_cases hin : 0 ≤ a ∧ a < (x.net.length : Int)
 ·obtain ⟨i, rfl⟩ := Int.eq_ofNat_of_zero_le hin.1
  have hil : i < x.net.length := by omega
  obtain ⟨t, ht⟩ := ai hil
  have hp : eS x ⟨kd, i, b, c⟩ = if kd = 4 then (if x.net.length < 10 ∧ x.made < 999 then ew ⟨x.mixes, x.sent, x.net, x.got, x.made + 1, x.lost⟩ t.mix t.pk t.ch else x) else if kd = 5 then gI x i t b else if kd = 3 then dA (bS x (x.net.eraseIdx i)) else ex (bS x (x.net.eraseIdx i)) t := by
   unfold eS
   rw [if_neg (by dsimp only; omega)]
   simp only [Int.toNat_natCast, ht]
  rw [hp]
  by_cases h4 : kd = 4
  ·subst h4
   rw [if_pos rfl]
   by_cases hf : x.net.length < 10 ∧ x.made < 999
   ·rw [if_pos hf]; exact pq R x v i t b c w hR hv hx ht hf.1 hf.2
   ·rw [if_neg hf]; exact qr R x v i t b c w hv hx ht hf
  ·rw [if_neg h4]
   by_cases h5 : kd = 5
   ·subst h5
    rw [if_pos rfl]; exact rU R x v i t b c w hR hv hx ht
   ·rw [if_neg h5]; exact rV R x v i t kd b c w hR hv hx ht h4 h5
 ·have hp : eS x ⟨kd, a, b, c⟩ = x := by
   unfold eS
   dsimp only
   split
   ·rfl
   ·rw [List.getElem?_eq_none (by omega)]
  rw [hp]
  refine qs R x v kd a b c w hv hx.nn ?_
  cases hw : win a 0 ((x.net.length : Int) - 1) with
  | false => rfl
  | true => have := aH.1 hw; omega
end Go.Proofs.YtfaeojmndaplcaaGreatDoor
