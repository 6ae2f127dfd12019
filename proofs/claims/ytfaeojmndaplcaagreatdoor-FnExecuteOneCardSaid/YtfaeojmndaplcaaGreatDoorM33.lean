/- Texts that the last file leans on (part 33). -/
import Derived.BigRegion
import Derived.Test.YtfaeojmndaplcaaGreatDoorM27
import Derived.Test.YtfaeojmndaplcaaGreatDoorM29
import Derived.Test.YtfaeojmndaplcaaGreatDoorM31
import Derived.Test.YtfaeojmndaplcaaGreatDoorM32
import Derived.Test.YtfaeojmndaplcaaGreatDoorM7
set_option linter.unusedVariables false
set_option linter.unusedSimpArgs false
set_option maxHeartbeats 4000000
set_option maxRecDepth 100000
namespace Go.Proofs.YtfaeojmndaplcaaGreatDoor
open Go Go.RowKit
theorem oa {w : World} {n t : Nat} {a b c d e f g : Value} (h : w.heap[n]? = some (.cells #[a, b, c, d, e, f, g] t (0, 0))) :
  w.cell? ⟨n, 0, none⟩ = some a ∧ w.cell? ⟨n, 1, none⟩ = some b ∧ w.cell? ⟨n, 2, none⟩ = some c ∧ w.cell? ⟨n, 3, none⟩ = some d ∧ w.cell? ⟨n, 4, none⟩ = some e ∧ w.cell? ⟨n, 5, none⟩ = some f ∧ w.cell? ⟨n, 6, none⟩ = some g ∧ (∀ j, w.frozen? ⟨n, j, none⟩ = false) ∧ n < w.heap.size :=
 ⟨by rw [cell_of_row w n 0 _ _ _ h]; rfl, by rw [cell_of_row w n 1 _ _ _ h]; rfl, by rw [cell_of_row w n 2 _ _ _ h]; rfl, by rw [cell_of_row w n 3 _ _ _ h]; rfl, by rw [cell_of_row w n 4 _ _ _ h]; rfl, by rw [cell_of_row w n 5 _ _ _ h]; rfl, by rw [cell_of_row w n 6 _ _ _ h]; rfl, fun j => frozen_of_row w n j _ _ h, (zn h)⟩
def dF (g m : Nat) (w : World) (vm vs vn vg : Value) (x : Wd) (o : List UInt8) : Prop :=
 ∃ vo, w.heap[g]? = some (.cells #[vm, vs, vn, vg, .int .i64 x.made, .int .i64 x.lost, vo] 51 (0, 0)) ∧ eU 5 m w vo o ∧ WdR (fun b => b ≠ g ∧ vo.ownBlock ≠ some b) w (.agg #[vm, vs, vn, vg, .int .i64 x.made, .int .i64 x.lost]) x ∧ g < m ∧ m ≤ w.heap.size
structure FrO (g m : Nat) (a b : World) : Prop where
 os : b.os = a.os
 tape : b.tape = a.tape
 output : b.output = a.output
 size : a.heap.size ≤ b.heap.size
 block : ∀ k, k < m → k ≠ g → b.heap[k]? = a.heap[k]?
theorem FrO.refl (g m : Nat) (w : World) : FrO g m w w := ⟨rfl, rfl, rfl, Nat.le_refl _, fun _ _ _ => rfl⟩
theorem FrO.trans {g m : Nat} {a b c : World} (h : FrO g m a b) (k : FrO g m b c) : FrO g m a c :=
 ⟨k.os.trans h.os, k.tape.trans h.tape, k.output.trans h.output, Nat.le_trans h.size k.size, fun i hi hn => (k.block i hi hn).trans (h.block i hi hn)⟩
theorem FrO.of {g m n : Nat} {a b : World} (h : Below n a b) (hm : m ≤ n) : FrO g m a b := ⟨h.os, h.tape, h.output, h.size, fun k hk _ => h.block k (Nat.lt_of_lt_of_le hk hm)⟩
theorem FrO.put {g m : Nat} {a b : World} (h : FrO g m a b) (i : Nat) (u : Value) : FrO g m a (b.setCell ⟨g, i, none⟩ u) :=
 ⟨h.os, h.tape, h.output, by simpa [World.setCell] using h.size, fun k hk hn => (Below.heap_setCell _ _ _ _ hn).trans (h.block k hk hn)⟩
theorem WdR.kp {R : Nat → Prop} {w w' : World} {v : Value} {x : Wd} (h : WdR R w v x) (hs : w.heap.size ≤ w'.heap.size) (hk : ∀ b, R b → b < w.heap.size → w'.heap[b]? = w.heap[b]?) : WdR R w' v x := by
 obtain ⟨vm, vs, vn, vg, rfl, h1, h2, h3, h4⟩ := h
 exact ⟨_, _, _, _, rfl, h1.keep hs hk, h2.keep hs hk, h3.keep hs hk, h4.keep hs hk⟩
theorem dF.put {g m : Nat} {w w2 : World} {vm vs vn vg vo vo' : Value} {x : Wd} {o o' : List UInt8} (h1 : w.heap[g]? = some (.cells #[vm, vs, vn, vg, .int .i64 x.made, .int .i64 x.lost, vo] 51 (0, 0)))
  (h2 : eU 5 m w vo o) (h3 : WdR (fun b => b ≠ g ∧ vo.ownBlock ≠ some b) w (.agg #[vm, vs, vn, vg, .int .i64 x.made, .int .i64 x.lost]) x) (h4 : g < m) (h5 : m ≤ w.heap.size)
  (hT : Tch vo.ownBlock.toList w w2) (ho : eU 5 m w2 vo' o') (hv : vo'.ownBlock = vo.ownBlock ∨ ∃ n, vo'.ownBlock = some n ∧ w.heap.size ≤ n) :
  dF g m (w2.setCell ⟨g, 6, none⟩ vo') vm vs vn vg x o' ∧ FrO g m w (w2.setCell ⟨g, 6, none⟩ vo') := by
 have hgo : g ∉ vo.ownBlock.toList := fun h => by have := h2.top g (by simpa using h); omega
 have hn : ∀ b, vo.ownBlock ≠ some b → b ∉ vo.ownBlock.toList := fun b hb h => hb (by simpa using h)
 refine ⟨⟨vo', aI 6 _ (hT.row h1 hgo), ?_, ?_, h4, by simpa [World.setCell] using Nat.le_trans h5 hT.size⟩, ?_⟩
 ·exact Own.keep ho (fun b hb => Below.heap_setCell _ _ _ _ (fun e => by have := (ho.top b hb).1; dsimp only at e; omega)) (fun b hb => by cases hb)
 ·refine WdR.set ?_ (fun h => h.1 rfl)
  have h6 := (h3.mono (R' := fun b => b ≠ g ∧ vo.ownBlock ≠ some b ∧ b < w.heap.size) (fun b hlt hb => ⟨hb.1, hb.2, hlt⟩)).kp hT.size (fun b hb hlt => hT.block b hlt (hn b hb.2.1))
  refine h6.mono (fun b _ hb => ⟨hb.1, ?_⟩)
  rcases hv with hv | ⟨n, hv, hle⟩
  ·rw [hv]; exact hb.2.1
  ·rw [hv]; intro e; injection e with e; have := hb.2.2; omega
 ·refine FrO.put ⟨hT.os, hT.tape, hT.output, hT.size, fun k hk hkg => hT.block k (by omega) (hn k (fun e => by have := (h2.top k e).1; omega))⟩ 6 vo'
def PrO (g m : Nat) (w : World) (vm vs vn vg : Value) (x : Wd) (o : List UInt8) (e : Ending) (w' : World) : Prop := e = .returned (.tuple #[]) ∧ dF g m w' vm vs vn vg x o ∧ FrO g m w w'
theorem yt : (Tryz.prog.info? 5).map (fun i => (i.zero, i.size, i.bytes)) = some (some (.int .u8 0), 1, 1) := by kernel_rfl
theorem lX (g m : Nat) (vm vs vn vg : Value) (x : Wd) (o : List UInt8) (v : Value) (ps : List ByteArray) (w : World) (hc : dF g m w vm vs vn vg x o) (hps : SlB fQ w.heap.size w v ps) (hne : ps ≠ [])
  (hl : (Lib.join (ps.map bL) [32]).length ≤ 100000000) (hn : ps.length ≤ 100000000) (hol : o.length ≤ 100000000) :
  Calls Tryz.prog 33 #[.pointer (some ⟨g, 0, none⟩), v] w (PrO g m w vm vs vn vg x (o ++ cC (ps.map bL))) := by
 obtain ⟨vo, h1, h2, h3, h4, h5⟩ := hc
 obtain ⟨i0, hi, hz0, hz1, hz2⟩ := info_parts yt
 have h5' := h5
 have hgo : g ∉ vo.ownBlock.toList := by
  intro h
  have := h2.top g (by simpa using h)
  omega
 have Hg := hid h1; have Ho := hid h2; have HR := hid h3; have Hps := hid hps; have Hl := hid hl; have Hn := hid hn; have Hne := hid hne
 obtain ⟨A, c, rfl, _, _, _⟩ := hps.form
 have HS := hid (fun (wx : World) (hT : Tch vo.ownBlock.toList w wx) => oa (hT.row h1 hgo))
 clear h1 h2 h3 hps hl hn hne
 go_enter Tryz.func33, Tryz.ntmps33
 go_wp2_with fail
 refine rgN (vo.ownBlock.toList) 11 (by kernel_rfl) rfl (fun | none, _, _, _, _ => id | some _, _, _, _, _ => id) fun wd hH hbwd swd => ?_
 simp only [pw]
 refine ag [0, 1, 2, 3, 4, 5] ?_
 iterate 6 (refine ra HS.out rfl (by kernel_rfl) rfl (fun _ f => by go_simp; try with_reducible rfl) ?_; try simp only [pw])
 refine rq 6 (by kernel_rfl) rfl fun K hK => ?_
 go_simp
 (go_at_call 57; refine (yu _ ps _ ((Hps.out.go hbwd)) Hl.out Hn.out Hne.out).mono ?_; rintro e w1 ⟨tj, rfl, htj, hbC⟩; have ho1 := (Ho.out.below hbwd (Nat.le_refl _)).below hbC (Nat.le_refl _); have htl : tj.size ≤ 100000000 := (by rw [← aB, htj]; exact Hl.out))
 refine hK.out _ _ (hH.trans (Tch.of hbC)) (fun hH => ?_)
 clear hK K
 refine rq 7 (by kernel_rfl) rfl fun K hK => ?_
 (have lp := hH.size; refine uV rfl (.tmp 8) (.tmp 10) 22 9 rfl Tryz.underlying22 Tryz.underlying9 hi hz0 hz1 hz2 (v := vo) rfl ho1 tj rfl (by omega) (by omega) ?_; intro v2 w2 ho2 hg2 hv2; obtain ⟨A2, c2, rfl⟩ := ho2.formB; have hbP := hH.grow hg2 (fun k hk _ => by rw [hk]; simp))
 refine hK.out _ _ (hbP) (fun hH => ?_)
 clear hK K
 refine ag [8, 9] ?_
 iterate 2 (refine ra HS.out rfl (by kernel_rfl) rfl (fun _ f => by go_simp; try with_reducible rfl) ?_; try simp only [pw])
 refine rz 10 (by kernel_rfl) rfl fun K hK => ?_
 have fC := HS.out _ hH
 go_simp
 clear fC
 refine hK.out _ _ ?_
 clear hK K
 have hF := hH
 obtain ⟨hc1, hf1⟩ := dF.put Hg.out Ho.out HR.out h4 h5 hF ho2 (by rcases hv2 with h | h; exact .inl h; exact .inr ⟨_, h, by omega⟩)
 have e2 : (o ++ bL tj).length = o.length + (Lib.join (List.map bL ps) [32]).length := by rw [List.length_append, htj]
 rw [e2] at hc1 hf1
 clear hH hF hv2 ho2 hg2 hbP ho1 hbC Hg Ho HR HS Hps hgo e2
 generalize World.setCell _ _ _ = w3 at *
 obtain ⟨vo1, g1, g2, g3, g4, g5⟩ := hc1
 have Hf1 := hid hf1; have Hg := hid g1; have Ho := hid g2; have HR := hid g3
 obtain ⟨q0, q1, q2, q3, q4, q5, q6, qf, zg⟩ := oa g1
 have qf6 := qf 6
 have hol1 : (o ++ bL tj).length ≤ 200000000 := by rw [List.length_append, aB]; omega
 clear hf1 g1 g2 g3 qf
 have hol2 : (kN (o ++ bL tj)).length ≤ 200000000 := by rw [List.length_map]; exact hol1
 go_wp2_with (at_builtin; go_loud (refine ay rfl (.tmp 18) (.tmp 19) 22 rfl du fc (B := m) (v := vo1) (xs := kN (o ++ bL tj)) (ys := [10]) Tryz.underlying22 hi hz0 hz1 hz2 rfl (by decide) (by decide) rfl (Ho.out.own.below (ab _ _) (Nat.le_refl _)) _ 1 1 rfl (Sl.box' (T := du) (x := 10) _ ?_ ⟨rfl, rfl⟩) ?_ ?_ ?_; rfl; (simp only [List.length_cons, List.length_nil]; omega); (simp; omega); intro v5 w5 ho5 hg5 hv5; have ho6 := eU.byte (b := 10) ho5 rfl; obtain ⟨A5, c5, e5⟩ := ho6.formB; subst e5; have er5 := aX hg5 (ac (ab _ _) Hg.out) (fun e => by have := (Ho.out.own.top _ e).1; omega); obtain ⟨_, _, _, _, _, _, p6, pf, pz⟩ := oa er5; have pf6 := pf 6; clear pf))
 have hT5 : Tch vo1.ownBlock.toList w3 w5 := (Tch.of (ab w3 _)).grow hg5 (fun k hk _ => by rw [hk]; simp)
 have hc2 := dF.put Hg.out Ho.out HR.out g4 g5 hT5 ho6 (by rcases hv5 with h | h; exact .inl h; exact .inr ⟨_, h, by simp⟩)
 have e3 : o ++ bL tj ++ [10] = o ++ cC (ps.map bL) := by rw [htj, List.append_assoc, qj (by simpa using Hne.out)]
 have e4 : (o ++ bL tj ++ [10]).length = o.length + ((Lib.join (List.map bL ps) [32]).length + 1) := by simp [htj, Nat.add_assoc]
 rw [e4] at hc2
 rw [e3] at hc2
 exact bodyPost_end (results_none rfl _ _ _) rfl ⟨rfl, hc2.1, Hf1.out.trans hc2.2⟩
theorem FrO.glob {g m : Nat} {a b : World} (h : FrO g m a b) (hg : bx a) (h0 : 0 < g) (hm : g < m) : bx b := by
 have hc : b.cell? ⟨0, 0, none⟩ = a.cell? ⟨0, 0, none⟩ := by
  have := h.block 0 (by omega) (by omega)
  simp only [World.cell?, this]
 exact hc.trans hg
theorem dF.le {g m : Nat} {w : World} {vm vs vn vg : Value} {x : Wd} {o : List UInt8} (h : dF g m w vm vs vn vg x o) : m ≤ w.heap.size := by
 obtain ⟨vo, _, _, _, _, h5⟩ := h; exact h5
theorem dF.go {g m : Nat} {w w' : World} {vm vs vn vg : Value} {x : Wd} {o : List UInt8} (h : dF g m w vm vs vn vg x o) (hb : Below w.heap.size w w') : dF g m w' vm vs vn vg x o := by
 obtain ⟨vo, h1, h2, h3, h4, h5⟩ := h
 exact ⟨vo, ac hb h1, h2.below hb (Nat.le_refl _), h3.go hb, h4, Nat.le_trans h5 hb.size⟩
def CmO (g m : Nat) (w : World) (z : Wd × List UInt8) (e : Ending) (w' : World) : Prop := e = .returned (.tuple #[]) ∧ (∃ vm vs vn vg, dF g m w' vm vs vn vg z.1 z.2) ∧ FrO g m w w'
theorem dF.run {g m : Nat} {w w2 : World} {vo um us un ug d0 d1 d2 d3 d4 d5 : Value} {y : Wd} {o : List UInt8}
  (h1 : w.heap[g]? = some (.cells #[d0, d1, d2, d3, d4, d5, vo] 51 (0, 0))) (h2 : eU 5 m w vo o) (h4 : g < m) (h5 : m ≤ w.heap.size) (hb : Below w.heap.size w w2)
  (hn : aJ oWd w.heap.size w2 [um, us, un, ug, .int .i64 y.made, .int .i64 y.lost] y) :
  dF g m ((((((w2.setCell ⟨g, 0, none⟩ um).setCell ⟨g, 1, none⟩ us).setCell ⟨g, 2, none⟩ un).setCell ⟨g, 3, none⟩ ug).setCell ⟨g, 4, none⟩ (.int .i64 y.made)).setCell ⟨g, 5, none⟩ (.int .i64 y.lost)) um us un ug y o ∧
  FrO g m w ((((((w2.setCell ⟨g, 0, none⟩ um).setCell ⟨g, 1, none⟩ us).setCell ⟨g, 2, none⟩ un).setCell ⟨g, 3, none⟩ ug).setCell ⟨g, 4, none⟩ (.int .i64 y.made)).setCell ⟨g, 5, none⟩ (.int .i64 y.lost)) := by
 have hs := hb.size
 refine ⟨⟨vo, ?_, ?_, ?_, h4, by simp only [al]; omega⟩, ?_⟩
 ·exact aI 5 _ (aI 4 _ (aI 3 _ (aI 2 _ (aI 1 _ (aI 0 _ (ac hb h1))))))
 ·exact Own.keep (w := w) h2 (fun b hb' => by have := h2.top b hb'; rw [dt b (by omega)]; exact hb.block b this.2) (fun b hb' => by cases hb')
 ·have hw := qI (R := fun b => b ≠ g ∧ vo.ownBlock ≠ some b) hn (fun b hb' => ⟨by omega, fun e => by have := h2.top b e; omega⟩)
  repeat (refine WdR.set ?_ (fun h => h.1 rfl))
  exact hw
 ·repeat (refine FrO.put ?_ _ _)
  exact FrO.of hb h5
theorem tU (g m : Nat) (vm vs vn vg : Value) (x : Wd) (o : List UInt8) (kd n1 n2 n3 : Int) (w : World) (hc : dF g m w vm vs vn vg x o) (hG : bx w) (hx : VD 0 x) :
  Calls Tryz.prog 145 #[.pointer (some ⟨g, 0, none⟩), .int .i64 kd, .agg #[.int .i64 n1, .int .i64 n2, .int .i64 n3]] w (CmO g m w (doW x ⟨kd, n1, n2, n3⟩, o)) := by
 obtain ⟨vo, h1, h2, h3, h4, h5⟩ := hc
 obtain ⟨A1, c1, A2, c2, A3, c3, A4, c4, ev⟩ := h3.form
 injection ev with ev
 simp only [Array.mk.injEq, List.cons.injEq] at ev
 obtain ⟨rfl, rfl, rfl, rfl, _⟩ := ev
 have Hgl := hid (show x.got.length ≤ 1073741824 by have := hx.gl; omega)
 have Hst := hid (show lj x ⟨kd, n1, n2, n3⟩ = doW x ⟨kd, n1, n2, n3⟩ from xR hx _)
 have hgs : g < w.heap.size := by omega
 have Hg := hid h1; have Ho := hid h2; have HV := hid h3; have HG := hid hG
 clear h1 h2 h3 hG hx
 go_enter Tryz.func145, Tryz.ntmps145
 go_upto_region 1 with fail
 generalize hgw : World.alloc w _ = w1
 obtain ⟨e1, hb1, s1⟩ := dK hgw
 have Hb1 := hid hb1
 have hb1' := hid s1
 have HS := hid (fun (wx : World) (hT : Tch [] w1 wx) => And.intro (oa (hT.row (ac hb1 Hg.out) (by simp))) (And.intro (aN (hT.row e1 (by simp))) (show g < wx.heap.size by have := hT.size; omega)))
 clear hgw e1 hb1
 obtain ⟨y, hy⟩ : ∃ y, doW x ⟨kd, n1, n2, n3⟩ = y := ⟨_, rfl⟩
 rw [hy] at Hst ⊢
 clear hy
 go_wp2_with fail
 refine rgN [] 17 (by kernel_rfl) rfl (fun | none, _, _, _, _ => id | some _, _, _, _, _ => id) fun wd hH hbwd swd => ?_
 simp only [pw]
 refine ag [0, 1, 2, 3, 4, 5, 6, 7, 8, 9, 10, 11, 12] ?_
 iterate 13 (refine ra HS.out rfl (by kernel_rfl) rfl (fun _ f => by go_simp; try with_reducible rfl) ?_; try simp only [pw])
 refine rq 13 (by kernel_rfl) rfl fun K hK => ?_
 go_simp
 (go_at_call 25; refine (vS x _ ⟨kd, n1, n2, n3⟩ _ (HG.out.go (bt Hb1.out hbwd)) (HV.out.go (bt Hb1.out hbwd)).wdB Hgl.out).mono ?_; rw [Hst.out]; rintro e w5 ⟨u1, u2, u3, u4, rfl, n5, hbC⟩; have hb5 := hbC; obtain ⟨B1, d1, B2, d2, B3, d3, B4, d4, rfl, rfl, rfl, rfl⟩ := cQ n5; have HN5 := hid n5; clear n5)
 refine hK.out _ _ (hH.trans (Tch.of hbC)) (fun hH => ?_)
 clear hK K
 refine ag [14, 15] ?_
 iterate 2 (refine ra HS.out rfl (by kernel_rfl) rfl (fun _ f => by go_simp; try with_reducible rfl) ?_; try simp only [pw])
 refine rz 16 (by kernel_rfl) rfl fun K hK => ?_
 have fC := HS.out _ hH
 go_simp
 clear fC
 refine hK.out _ _ ?_
 clear hK K
 have hb := bt (bt Hb1.out hbwd) hb5
 have hcv := dF.run (y := y) Hg.out Ho.out h4 h5 hb (HN5.out.base (by have := hbwd.size; have := hb1'.out; omega))
 exact bodyPost_end (results_none rfl _ _ _) rfl ⟨rfl, ⟨_, _, _, _, hcv.1⟩, hcv.2⟩
theorem yk (g m : Nat) (vm vs vn vg : Value) (x : Wd) (o : List UInt8) (n1 n2 n3 : Int) (w : World) (hc : dF g m w vm vs vn vg x o) (hG : bx w) (hx : VD 0 x) :
  Calls Tryz.prog 100 #[.pointer (some ⟨g, 0, none⟩), .agg #[.int .i64 n1, .int .i64 n2, .int .i64 n3]] w (CmO g m w (cK x, o)) := by
 obtain ⟨vo, h1, h2, h3, h4, h5⟩ := hc
 obtain ⟨A1, c1, A2, c2, A3, c3, A4, c4, ev⟩ := h3.form
 injection ev with ev
 simp only [Array.mk.injEq, List.cons.injEq] at ev
 obtain ⟨rfl, rfl, rfl, rfl, _⟩ := ev
 have Hgl := hid (show x.got.length ≤ 1073741824 by have := hx.gl; omega)
 have Hst := hid (show jP x = cK x by unfold jP; rw [if_pos (gV.2 hx)])
 have hgs : g < w.heap.size := by omega
 have Hg := hid h1; have Ho := hid h2; have HV := hid h3; have HG := hid hG
 clear h1 h2 h3 hG hx
 go_enter Tryz.func100, Tryz.ntmps100
 go_upto_region 1 with fail
 generalize hgw : World.alloc w _ = w1
 obtain ⟨e1, hb1, s1⟩ := dK hgw
 have Hb1 := hid hb1
 have hb1' := hid s1
 obtain ⟨k0, k1, k2, k3, k4, k5, k6, kf, ks⟩ := oa (ac hb1 Hg.out)
 clear hgw e1 hb1
 obtain ⟨y, hy⟩ : ∃ y, cK x = y := ⟨_, rfl⟩
 rw [hy] at Hst ⊢
 clear hy
 go_wp2_with (go_at_call 146; refine (rM x _ _ (HG.out.go Hb1.out) (HV.out.go Hb1.out).wdB Hgl.out).mono ?_; rw [Hst.out]; rintro e w5 ⟨u1, u2, u3, u4, rfl, n5, hbC⟩; have hb5 := hbC; obtain ⟨B1, d1, B2, d2, B3, d3, B4, d4, rfl, rfl, rfl, rfl⟩ := cQ n5; have HN5 := hid n5; clear n5 k0 k1 k2 k3 k4 k5 k6 kf ks; obtain ⟨k0, k1, k2, k3, k4, k5, k6, kf, ks⟩ := oa (ac (bt Hb1.out hb5) Hg.out))
 have hb := bt Hb1.out hb5
 have hcv := dF.run (y := y) Hg.out Ho.out h4 h5 hb (HN5.out.base (by have := hb1'.out; omega))
 exact bodyPost_end (results_none rfl _ _ _) rfl ⟨rfl, ⟨_, _, _, _, hcv.1⟩, hcv.2⟩
theorem xn (g m : Nat) (vm vs vn vg : Value) (x : Wd) (o : List UInt8) (n1 n2 n3 : Int) (w : World) (hc : dF g m w vm vs vn vg x o) (hG : bx w) (hx : VD 0 x) :
  Calls Tryz.prog 94 #[.pointer (some ⟨g, 0, none⟩), .agg #[.int .i64 n1, .int .i64 n2, .int .i64 n3]] w (CmO g m w (doW x ⟨1, n1, n2, n3⟩, o)) := by
 have Hc := hid (hc.go (ab w (.cells #[.int .i64 n1, .int .i64 n2, .int .i64 n3] 100))); have HG := hid hG; have Hx := hid hx
 have Hm := hid (show m ≤ w.heap.size from hc.le)
 clear hc hG hx
 go_enter Tryz.func94, Tryz.ntmps94
 go_wp2_with (go_at_call 145; refine (tU g m vm vs vn vg x o 1 n1 n2 n3 _ Hc.out (HG.out.go (ab _ _)) Hx.out).mono ?_; rintro e w2 ⟨rfl, hcv, hfr⟩)
 exact bodyPost_end (results_none rfl _ _ _) rfl ⟨rfl, hcv, (FrO.of (ab _ _) Hm.out).trans hfr⟩
theorem rA (g m : Nat) (vm vs vn vg : Value) (x : Wd) (o : List UInt8) (n1 n2 n3 : Int) (w : World) (hc : dF g m w vm vs vn vg x o) (hG : bx w) (hx : VD 0 x) :
  Calls Tryz.prog 95 #[.pointer (some ⟨g, 0, none⟩), .agg #[.int .i64 n1, .int .i64 n2, .int .i64 n3]] w (CmO g m w (doW x ⟨2, n1, n2, n3⟩, o)) := by
 have Hc := hid (hc.go (ab w (.cells #[.int .i64 n1, .int .i64 n2, .int .i64 n3] 100))); have HG := hid hG; have Hx := hid hx
 have Hm := hid (show m ≤ w.heap.size from hc.le)
 clear hc hG hx
 go_enter Tryz.func95, Tryz.ntmps95
 go_wp2_with (go_at_call 145; refine (tU g m vm vs vn vg x o 2 n1 n2 n3 _ Hc.out (HG.out.go (ab _ _)) Hx.out).mono ?_; rintro e w2 ⟨rfl, hcv, hfr⟩)
 exact bodyPost_end (results_none rfl _ _ _) rfl ⟨rfl, hcv, (FrO.of (ab _ _) Hm.out).trans hfr⟩
theorem xm (g m : Nat) (vm vs vn vg : Value) (x : Wd) (o : List UInt8) (n1 n2 n3 : Int) (w : World) (hc : dF g m w vm vs vn vg x o) (hG : bx w) (hx : VD 0 x) :
  Calls Tryz.prog 96 #[.pointer (some ⟨g, 0, none⟩), .agg #[.int .i64 n1, .int .i64 n2, .int .i64 n3]] w (CmO g m w (doW x ⟨3, n1, n2, n3⟩, o)) := by
 have Hc := hid (hc.go (ab w (.cells #[.int .i64 n1, .int .i64 n2, .int .i64 n3] 100))); have HG := hid hG; have Hx := hid hx
 have Hm := hid (show m ≤ w.heap.size from hc.le)
 clear hc hG hx
 go_enter Tryz.func96, Tryz.ntmps96
 go_wp2_with (go_at_call 145; refine (tU g m vm vs vn vg x o 3 n1 n2 n3 _ Hc.out (HG.out.go (ab _ _)) Hx.out).mono ?_; rintro e w2 ⟨rfl, hcv, hfr⟩)
 exact bodyPost_end (results_none rfl _ _ _) rfl ⟨rfl, hcv, (FrO.of (ab _ _) Hm.out).trans hfr⟩
theorem vD (g m : Nat) (vm vs vn vg : Value) (x : Wd) (o : List UInt8) (n1 n2 n3 : Int) (w : World) (hc : dF g m w vm vs vn vg x o) (hG : bx w) (hx : VD 0 x) :
  Calls Tryz.prog 97 #[.pointer (some ⟨g, 0, none⟩), .agg #[.int .i64 n1, .int .i64 n2, .int .i64 n3]] w (CmO g m w (doW x ⟨4, n1, n2, n3⟩, o)) := by
 have Hc := hid (hc.go (ab w (.cells #[.int .i64 n1, .int .i64 n2, .int .i64 n3] 100))); have HG := hid hG; have Hx := hid hx
 have Hm := hid (show m ≤ w.heap.size from hc.le)
 clear hc hG hx
 go_enter Tryz.func97, Tryz.ntmps97
 go_wp2_with (go_at_call 145; refine (tU g m vm vs vn vg x o 4 n1 n2 n3 _ Hc.out (HG.out.go (ab _ _)) Hx.out).mono ?_; rintro e w2 ⟨rfl, hcv, hfr⟩)
 exact bodyPost_end (results_none rfl _ _ _) rfl ⟨rfl, hcv, (FrO.of (ab _ _) Hm.out).trans hfr⟩
theorem tQ (g m : Nat) (vm vs vn vg : Value) (x : Wd) (o : List UInt8) (n1 n2 n3 : Int) (w : World) (hc : dF g m w vm vs vn vg x o) (hG : bx w) (hx : VD 0 x) :
  Calls Tryz.prog 98 #[.pointer (some ⟨g, 0, none⟩), .agg #[.int .i64 n1, .int .i64 n2, .int .i64 n3]] w (CmO g m w (doW x ⟨5, n1, n2, n3⟩, o)) := by
 have Hc := hid (hc.go (ab w (.cells #[.int .i64 n1, .int .i64 n2, .int .i64 n3] 100))); have HG := hid hG; have Hx := hid hx
 have Hm := hid (show m ≤ w.heap.size from hc.le)
 clear hc hG hx
 go_enter Tryz.func98, Tryz.ntmps98
 go_wp2_with (go_at_call 145; refine (tU g m vm vs vn vg x o 5 n1 n2 n3 _ Hc.out (HG.out.go (ab _ _)) Hx.out).mono ?_; rintro e w2 ⟨rfl, hcv, hfr⟩)
 exact bodyPost_end (results_none rfl _ _ _) rfl ⟨rfl, hcv, (FrO.of (ab _ _) Hm.out).trans hfr⟩
theorem vC (g m : Nat) (vm vs vn vg : Value) (x : Wd) (o : List UInt8) (n1 n2 n3 : Int) (w : World) (hc : dF g m w vm vs vn vg x o) (hG : bx w) (hx : VD 0 x) :
  Calls Tryz.prog 99 #[.pointer (some ⟨g, 0, none⟩), .agg #[.int .i64 n1, .int .i64 n2, .int .i64 n3]] w (CmO g m w (doW x ⟨6, n1, n2, n3⟩, o)) := by
 have Hc := hid (hc.go (ab w (.cells #[.int .i64 n1, .int .i64 n2, .int .i64 n3] 100))); have HG := hid hG; have Hx := hid hx
 have Hm := hid (show m ≤ w.heap.size from hc.le)
 clear hc hG hx
 go_enter Tryz.func99, Tryz.ntmps99
 go_wp2_with (go_at_call 145; refine (tU g m vm vs vn vg x o 6 n1 n2 n3 _ Hc.out (HG.out.go (ab _ _)) Hx.out).mono ?_; rintro e w2 ⟨rfl, hcv, hfr⟩)
 exact bodyPost_end (results_none rfl _ _ _) rfl ⟨rfl, hcv, (FrO.of (ab _ _) Hm.out).trans hfr⟩
theorem FrO.low {g m B : Nat} {a b : World} (h : FrO g m a b) (hB : B ≤ g) (hm : g < m) : Below B a b := ⟨h.os, h.tape, h.output, h.size, fun k hk => h.block k (by omega) (by omega)⟩
theorem ud {a b c d : ByteArray} (ha : a.size ≤ 3) (hb : b.size ≤ 3) (hc : c.size ≤ 3) (hd : d.size ≤ 3) : (Lib.join ([a, b, c, d].map bL) [32]).length ≤ 100000000 := by
 simp only [List.map_cons, List.map_nil, Lib.join_cons, Lib.joinTail, List.flatten_cons, List.flatten_nil, List.length_append, List.length_cons, List.length_nil, aB]
 omega
theorem yZ (g m : Nat) (vm vs vn vg : Value) (x : Wd) (o : List UInt8) (n1 n2 n3 : Int) (w : World) (hc : dF g m w vm vs vn vg x o) (hx : VD 0 x) (hol : o.length ≤ 90000000) (B : Nat) (hL : LbW B w) (hB : B ≤ g) :
  Calls Tryz.prog 101 #[.pointer (some ⟨g, 0, none⟩), .agg #[.int .i64 n1, .int .i64 n2, .int .i64 n3]] w (PrO g m w vm vs vn vg x (o ++ iW x)) := by
 have hnn := hx.nn
 have Hnt := hid (bR.1 hx.nt)
 have Hc := hid (hc.go (ab w (.cells #[.int .i64 n1, .int .i64 n2, .int .i64 n3] 100)))
 obtain ⟨vo, h1, h2, h3, h4, h5⟩ := hc
 obtain ⟨A1, c1, A2, c2, A3, c3, A4, c4, ev⟩ := h3.form
 injection ev with ev
 simp only [Array.mk.injEq, List.cons.injEq] at ev
 obtain ⟨rfl, rfl, rfl, rfl, _⟩ := ev
 have Hg := hid h1
 have hgs : g < w.heap.size := by omega
 have hms := h5
 have hgm := h4
 have HL := hid hL
 clear h1 h2 h3 hx h4 h5 hL
 go_enter Tryz.func101, Tryz.ntmps101
 go_upto_region 1 with fail
 obtain ⟨k0, k1, k2, k3, k4, k5, k6, kf, ks⟩ := oa (ac (ab w (.cells #[.int .i64 n1, .int .i64 n2, .int .i64 n3] 100)) Hg.out)
 have Hf := hid (show FrO g m w (w.alloc (.cells #[.int .i64 n1, .int .i64 n2, .int .i64 n3] 100)) from FrO.of (ab w _) hms)
 generalize hgw : World.alloc w _ = w1 at *
 have hs1 : w1.heap.size = w.heap.size + 1 := by rw [← hgw]; simp
 clear hgw
 go_wp2_with fail
 clear k0 k1 k2 k3 k4 k5 k6 kf ks
 go_loopw [12] (fun iv wr => ∃ (k : Nat), k ≤ x.net.length ∧ iv = .int .i64 k ∧ dF g m wr (.slice A1 x.mixes.length c1) (.slice A2 x.sent.length c2) (.slice A3 x.net.length c3) (.slice A4 x.got.length c4) x (o ++ iX x k) ∧ FrO g m w1 wr) (fun iv _ => x.net.length - (intOf iv).toNat)
 case atStart => exact ⟨0, by omega, rfl, by simpa [iX] using Hc.out, FrO.refl _ _ _⟩
 case round =>
  obtain ⟨k, hk, rfl, hcv, hfr⟩ := hrel
  by_cases hlt : k < x.net.length
  ·obtain ⟨t, ht⟩ := ai hlt
   have HC := hid hcv
   obtain ⟨vo2, e1, e2, e3, e4, e5⟩ := hcv
   obtain ⟨dn, _⟩ := e3.wdB.two'
   obtain ⟨b, ob, vh, vb, rfl, m1, m2, m3, m4, p0, p1, p2, p3, p4, p5⟩ := dn.tr ht
   obtain ⟨Ah, ch, rfl, _, _, _⟩ := m3.form
   obtain ⟨Ab, cb, rfl, _, _, _⟩ := m4.form
   have htb := cL.1 (Hnt.out t (List.mem_of_getElem? ht))
   have h1 := aH.1 htb.1
   have hpk := aA.1 htb.2
   have h2 := aH.1 hpk.1; have h3 := aH.1 hpk.2.2.2
   clear e1 e2 e3 dn m3 m4 htb hpk
   go_wp2_with fail
   have HL := hid (HL.out.on ((Hf.out.trans hfr).low hB hgm))
   have Hfr := hid hfr; have Ht := hid ht
   clear hfr ht p0 p1 p2 p3 p4 p5
   generalize hwa : World.alloc wr _ = wa
   obtain ⟨ea, ba, sa⟩ := dK hwa
   have HL := hid (HL.out.on (ba.mono (by omega)))
   have Hfa := hid (Hfr.out.trans (FrO.of ba e5))
   have HC := hid (HC.out.go ba)
   have HS := hid (fun (wx : World) (hT : Tch [] wa wx) => And.intro (aC (hT.row ea (by simp))) (show wr.heap.size < wx.heap.size by have := hT.size; omega))
   clear hwa ea ba
   refine rgN [] 16 (by kernel_rfl) rfl (fun | none, _, _, _, _ => id | some _, _, _, _, _ => id) fun wd hH hbwd swd => ?_
   simp only [pw]
   refine ag [0, 1, 3, 4, 6, 7, 8, 10, 11, 12] ?_
   iterate 10 (refine ra HS.out rfl (by kernel_rfl) rfl (fun _ f => by go_simp; try with_reducible rfl) ?_; try simp only [pw])
   refine rq 2 (by kernel_rfl) rfl fun K hK => ?_
   go_simp
   (go_at_call 34; refine (gO B k _ (HL.out.on (hH.nil.mono (by omega))) (by omega) (by omega)).mono ?_; rintro e w2 ⟨s1, rfl, hs1, hbC⟩; have zs1 := bO hs1)
   refine hK.out _ _ (hH.trans (Tch.of hbC)) (fun hH => ?_)
   clear hK K
   refine rq 5 (by kernel_rfl) rfl fun K hK => ?_
   go_simp
   (go_at_call 34; refine (gO B t.mix _ (HL.out.on (hH.nil.mono (by omega))) (by omega) (by omega)).mono ?_; rintro e w3 ⟨s2, rfl, hs2, hbC⟩; have zs2 := bO hs2)
   refine hK.out _ _ (hH.trans (Tch.of hbC)) (fun hH => ?_)
   clear hK K
   refine rq 9 (by kernel_rfl) rfl fun K hK => ?_
   go_simp
   (go_at_call 34; refine (gO B t.pk.el _ (HL.out.on (hH.nil.mono (by omega))) (by omega) (by omega)).mono ?_; rintro e w4 ⟨s3, rfl, hs3, hbC⟩; have zs3 := bO hs3)
   refine hK.out _ _ (hH.trans (Tch.of hbC)) (fun hH => ?_)
   clear hK K
   refine rq 13 (by kernel_rfl) rfl fun K hK => ?_
   go_simp
   (go_at_call 34; refine (gO B t.pk.tag _ (HL.out.on (hH.nil.mono (by omega))) (by omega) (by omega)).mono ?_; rintro e w5 ⟨s4, rfl, hs4, hbC⟩; have zs4 := bO hs4)
   refine hK.out _ _ (hH.trans (Tch.of hbC)) (fun hH => ?_)
   clear hK K
   refine rq 14 (by kernel_rfl) rfl fun K hK => ?_
   go_simp
   refine hK.out _ _ (hH.trans (Tch.of (ab _ _))) (fun hH => ?_)
   clear hK K
   refine rz 15 (by kernel_rfl) rfl fun K hK => ?_
   go_simp
   (go_at_call 33; have hF := hH.nil; refine (lX g m _ _ _ _ x (o ++ iX x k) _ [s1, s2, s3, s4] _ (HC.out.go hF) (lG w5 [s1, s2, s3, s4] 9 (by simp) (by simp [maxLen])) (by simp) (ud zs1 zs2 zs3 zs4) (by simp) (by rw [List.length_append]; have := gv x k; omega)).mono ?_; rintro e w9 ⟨rfl, hcv9, hfr9⟩)
   refine hK.out _ _ ?_
   clear hK K
   go_wp2_with fail
   go_roundw
   case rel =>
    refine ⟨k + 1, by omega, by go_num, ?_, (Hfa.out.trans (FrO.of hF (by omega))).trans hfr9⟩
    rw [ko Ht.out, ← List.append_assoc]
    simpa [mR, hs1, hs2, hs3, hs4] using hcv9
   case measure => simp [intOf]; omega
  ·have Hcv := hid hcv; have Hfr := hid hfr
   have Hall := hid (gu (x := x) (k := k) (by omega))
   clear hcv hfr
   go_wp2_with fail
   exact bodyPost_end (results_none rfl _ _ _) rfl ⟨rfl, by rw [← Hall.out]; exact Hcv.out, Hf.out.trans Hfr.out⟩
end Go.Proofs.YtfaeojmndaplcaaGreatDoor
