/- Texts that the last file leans on (part 32). -/
import Derived.Test.YtfaeojmndaplcaaGreatDoorM27
import Derived.Test.YtfaeojmndaplcaaGreatDoorM28
import Derived.Test.YtfaeojmndaplcaaGreatDoorM31
set_option linter.unusedVariables false
set_option linter.unusedSimpArgs false
set_option maxHeartbeats 4000000
set_option maxRecDepth 100000
namespace Go.Proofs.YtfaeojmndaplcaaGreatDoor
open Go Go.RowKit
theorem mG (j : Nat) (jj n : Int) (e : jj = (j : Int)) (v : Value) (ps : List ByteArray) (w : World) (hn : ed ((ps.map bL).getD j []) = n) (h : SlB fQ w.heap.size w v ps) (hj : j ≤ 3) : Calls Tryz.prog 62 #[v, .int .i64 jj] w fun e w' => e = .returned (.int .i64 n) ∧ w = w' := by
 subst e hn; exact (vY v ps j w h hj).mono (fun _ _ h => ⟨h.1, h.2.symm⟩)
theorem uy (s : ByteArray) (k : Int) (w : World) (hk : g7 (bL s) = k) : Calls Tryz.prog 61 #[.string s] w fun e w' => e = .returned (.int .i64 k) ∧ Below w.heap.size w w' := by
 subst hk; exact ux s w
theorem wu (x : Wd) (l p : List UInt8) {kd n1 n2 n3 : Int} (h0 : (aP 32 l).getD 0 [] = p) (hk : g7 p = kd) (h1 : ed ((aP 32 l).getD 1 []) = n1) (h2 : ed ((aP 32 l).getD 2 []) = n2) (h3 : ed ((aP 32 l).getD 3 []) = n3) :
  (0 < kd → bj x l = (doW x ⟨kd, n1, n2, n3⟩, [])) ∧ (¬ 0 < kd → (p = mb → bj x l = (cK x, [])) ∧ (p ≠ mb → (p = j8 → bj x l = (x, iW x)) ∧ (p ≠ j8 → bj x l = (x, cC [kG])))) := by
 unfold bj
 dsimp only
 rw [h0, hk, h1, h2, h3]
 refine ⟨fun h => if_pos h, fun h => ⟨fun hc => ?_, fun hc => ⟨fun hn => ?_, fun hn => ?_⟩⟩⟩
 ·rw [if_neg h, if_pos hc]
 ·rw [if_neg h, if_neg hc, if_pos hn]
 ·rw [if_neg h, if_neg hc, if_neg hn]
theorem qI {B : Nat} {R : Nat → Prop} {w : World} {x : Wd} {vm vs vn vg : Value} (h : aJ oWd B w [vm, vs, vn, vg, .int .i64 x.made, .int .i64 x.lost] x) (hR : ∀ b, B ≤ b → R b) : WdR R w (.agg #[vm, vs, vn, vg, .int .i64 x.made, .int .i64 x.lost]) x := by
 obtain ⟨F, h1, _, h3⟩ := h
 obtain ⟨F', h2, hF⟩ := wm.2 h1
 obtain ⟨vm', vs', vn', vg', Fm, Fs, Fn, Fg, e, rfl, hm, hs, hn, hg⟩ := x8.1 h2
 simp at e
 obtain ⟨rfl, rfl, rfl, rfl⟩ := e
 exact ⟨_, _, _, _, rfl, ⟨_, hm, fun b hb => hR b (h3 b (hF b (by simp [hb])))⟩, ⟨_, hs, fun b hb => hR b (h3 b (hF b (by simp [hb])))⟩, ⟨_, hn, fun b hb => hR b (h3 b (hF b (by simp [hb])))⟩, ⟨_, hg, fun b hb => hR b (h3 b (hF b (by simp [hb])))⟩⟩
theorem vB {R : Nat → Prop} {w w4 w9 : World} {k : Nat} {a b c d : Value} {y : Wd} (hR : ∀ b, w.heap.size ≤ b → R b) (h : aJ oWd w4.heap.size w9 [a, b, c, d, .int .i64 y.made, .int .i64 y.lost] y) (hw : w.heap.size + k ≤ w4.heap.size) : WdR (be R w.heap.size (w.heap.size + k)) w9 (.agg #[a, b, c, d, .int .i64 y.made, .int .i64 y.lost]) y :=
 qI h (fun b hb => ⟨hR b (by omega), .inr (by omega)⟩)
def LnO (w : World) (R : Nat → Prop) (z : Wd × List UInt8) (e : Ending) (w' : World) : Prop := ∃ v t, e = .returned (.tuple #[v, .string t]) ∧ WdR R w' v z.1 ∧ bL t = z.2 ∧ Below w.heap.size w w'
theorem uz (R : Nat → Prop) (x : Wd) (v : Value) (s : ByteArray) (w : World) (hR : ∀ b, w.heap.size ≤ b → R b) (hv : WdR R w v x) (hx : VD 0 x) (hs : s.size ≤ 1000000) :
  Calls Tryz.prog 37 #[v, .string s] w (LnO w R (bj x (bL s))) := by
 obtain ⟨A1, c1, A2, c2, A3, c3, A4, c4, rfl⟩ := hv.form
 have Hgl := hid (show x.got.length ≤ 1073741824 by have := hx.gl; omega)
 have Hcl := hid (show jP x = cK x by unfold jP; rw [if_pos (gV.2 hx)])
 have HV := hid hv; have Hx := hid hx; have HR := hid hR; have Hs := hid hs
 clear hv hx hR hs
 go_enter Tryz.func37, Tryz.ntmps37
 go_upto_region 1 with fail
 generalize hgw : World.alloc (World.alloc w _) _ = w1
 obtain ⟨e0, e1, hb1, s1⟩ := qB hgw
 have E0 := hid e0; have E1 := hid e1; have Hc := hid hb1
 replace HV := hid (HV.out.off 2 hb1)
 clear hgw e0 e1 hb1
 go_wp2_with fail
 refine (qw s 32 32 _ rfl Hs.out).mono ?_
 rintro e w2 ⟨v2, ps, rfl, hps, ho, hb2⟩
 obtain ⟨A, c, rfl, _, _, _⟩ := ho.form
 have hpl : 0 < ps.length := by
  have h := kI 32 (bL s)
  rw [← hps] at h
  cases ps with
  | nil => exact absurd rfl h
  | cons a l => simp
 obtain ⟨p0, hp0⟩ := ai hpl
 obtain ⟨bp, op, eqp, _, mp, q0⟩ := ho.slB.str hp0
 subst eqp
 have Ho := hid ho.slB; have Hps := hid hps; have Hp0 := hid (qX hp0)
 replace Hc := hid (bt Hc.out hb2); replace E0 := hid (ac hb2 E0.out); replace E1 := hid (ac hb2 E1.out); replace HV := hid (HV.out.go hb2)
 have s2 := hb2.size
 have q0 : w2.cell? ⟨bp, op, none⟩ = some (.string p0) := by simpa using q0
 clear hb2 ho hps hp0
 obtain ⟨kd, hkd⟩ : ∃ kd, g7 (bL p0) = kd := ⟨_, rfl⟩
 obtain ⟨n1, hn1⟩ : ∃ n, ed ((ps.map bL).getD 1 []) = n := ⟨_, rfl⟩
 obtain ⟨n2, hn2⟩ : ∃ n, ed ((ps.map bL).getD 2 []) = n := ⟨_, rfl⟩
 obtain ⟨n3, hn3⟩ : ∃ n, ed ((ps.map bL).getD 3 []) = n := ⟨_, rfl⟩
 have Hkd := hid hkd; have Hn1 := hid hn1; have Hn2 := hid hn2; have Hn3 := hid hn3
 clear hkd hn1 hn2 hn3
 go_upto_region 3 with (first
  | (go_at_call 61; refine (uy p0 kd _ Hkd.out).mono ?_; rintro e w3 ⟨rfl, hb3⟩; have ho3 := hid (Ho.out.go hb3))
  | (go_at_call 62; with_reducible refine (mG 1 1 n1 rfl _ ps _ Hn1.out ho3.out (by omega)).mono ?_; rintro e w' ⟨rfl, rfl⟩)
  | (go_at_call 62; with_reducible refine (mG 2 2 n2 rfl _ ps _ Hn2.out ho3.out (by omega)).mono ?_; rintro e w' ⟨rfl, rfl⟩)
  | (go_at_call 62; with_reducible refine (mG 3 3 n3 rfl _ ps _ Hn3.out ho3.out (by omega)).mono ?_; rintro e w' ⟨rfl, rfl⟩))
 generalize hgw : World.alloc w3 _ = w4
 obtain ⟨e4, hb4, s4⟩ := aD hgw
 replace Hc := hid (bt (bt Hc.out hb3) hb4); replace E0 := hid (ac hb4 (ac hb3 E0.out)); replace E1 := hid (ac hb4 (ac hb3 E1.out)); replace HV := hid ((HV.out.go hb3).go hb4)
 have s3 := hb3.size
 have q0 : w4.cell? ⟨bp, op, none⟩ = some (.string p0) := (hb4.cell (p := ⟨bp, op, none⟩) (by dsimp only; omega)).trans ((hb3.cell (p := ⟨bp, op, none⟩) mp).trans q0)
 have E4 := hid e4
 have hln := wu x (bL s) (bL p0) (by rw [← Hps.out]; exact Hp0.out) Hkd.out (show ed ((aP 32 (bL s)).getD 1 []) = n1 by rw [← Hps.out]; exact Hn1.out) (show ed ((aP 32 (bL s)).getD 2 []) = n2 by rw [← Hps.out]; exact Hn2.out) (show ed ((aP 32 (bL s)).getD 3 []) = n3 by rw [← Hps.out]; exact Hn3.out)
 have Hln := hid hln
 have HRR := hid (fun (wx : World) (hb : w4.heap.size ≤ wx.heap.size) => show ∀ b, wx.heap.size ≤ b → be R w.heap.size (w.heap.size + 2) b from fun b hb' => ⟨HR.out b (by omega), .inr (by omega)⟩)
 clear hgw e4 hb4 hb3 ho3 hln Ho
 obtain ⟨k0, k1, k2, k3, k4, k5, _⟩ := aC E0.out
 obtain ⟨j0, j1, j2, j3, _⟩ := bh E4.out
 obtain ⟨q0', q1, q2, q3, q4, q5, qf⟩ := aC E1.out
 have qf0 := qf 0; have qf1 := qf 1; have qf2 := qf 2; have qf3 := qf 3; have qf4 := qf 4; have qf5 := qf 5
 have z0 : w.heap.size < w4.heap.size := by omega
 have z1 : w.heap.size + 1 < w4.heap.size := by omega
 have z3 : w3.heap.size < w4.heap.size := by omega
 have z5 : bp < w4.heap.size := by omega
 clear qf
 by_cases hk : 0 < kd
 ·have hz := hid (Hln.out.1 hk)
  have f1 : decide (0 < kd) = true := decide_eq_true hk
  go_wp2_with fail
  refine (xz (be R w.heap.size (w.heap.size + 2)) x _ ⟨kd, n1, n2, n3⟩ _ (HRR.out _ (Nat.le_refl _)) HV.out Hx.out).mono ?_
  rintro e w9 ⟨v9, rfl, hw9, hb9⟩
  generalize doW x ⟨kd, n1, n2, n3⟩ = y at *
  obtain ⟨b1', f1, b2', f2, b3', f3, b4', f4, rfl⟩ := hw9.form
  clear q0' q1 q2 q3 q4 q5 qf0 qf1 qf2 qf3 qf4 qf5
  obtain ⟨q0', q1, q2, q3, q4, q5, qf⟩ := aC (ac hb9 E1.out)
  have qf0 := qf 0; have qf1 := qf 1; have qf2 := qf 2; have qf3 := qf 3; have qf4 := qf 4; have qf5 := qf 5
  have y1 : w.heap.size + 1 < w9.heap.size := by have := hb9.size; omega
  have HF := hid (bt Hc.out hb9); have HW := hid hw9
  clear hb9 hw9 qf k0 k1 k2 k3 k4 k5 j0 j1 j2 j3 z0 z1 z3 q0
  go_wp2_with fail
  refine bodyPost_ret (v := .tuple #[.agg #[.slice b1' y.mixes.length f1, .slice b2' y.sent.length f2, .slice b3' y.net.length f3, .slice b4' y.got.length f4, .int .i64 y.made, .int .i64 y.lost], .string { data := #[] }]) (by simp [results, Tryz.results37, go_sem, q0', q1, q2, q3, q4, q5]) rfl ?_
  rw [hz.out]
  refine ⟨_, _, rfl, ?_, rfl, ?_⟩
  ·refine WdR.mono (R := be R w.heap.size (w.heap.size + 2)) ?_ (fun b _ h => h.1)
   repeat (refine WdR.set ?_ (aE (by dsimp only; omega) (by dsimp only; omega)))
   exact HW.out
  ·repeat (refine Below.setCell ?_ (by dsimp only; omega) _)
   exact HF.out
 have f1 : decide (0 < kd) = false := decide_eq_false hk
 by_cases hc : bL p0 = mb
 ·have hz := hid ((Hln.out.2 hk).1 hc)
  have f2 : ([99, 97, 108, 109] == p0.toList) = true := eqB hc.symm
  have f2' : (p0.toList == [99, 97, 108, 109]) = true := by rw [Bool.beq_comm]; exact f2
  go_wp2_with fail
  refine (sy x _ _ HV.out.wdB Hgl.out).mono ?_
  rw [Hcl.out]
  rintro e w9 ⟨u1, u2, u3, u4, rfl, n9, hb9⟩
  have hw9 := vB (R := R) (k := 2) HR.out n9 (by omega)
  generalize cK x = y at *
  obtain ⟨v9, hv9⟩ : ∃ v, v = Value.agg #[u1, u2, u3, u4, .int .i64 y.made, .int .i64 y.lost] := ⟨_, rfl⟩
  rw [← hv9] at hw9 ⊢
  clear hv9 n9
  obtain ⟨b1', f1, b2', f2, b3', f3, b4', f4, rfl⟩ := hw9.form
  clear q0' q1 q2 q3 q4 q5 qf0 qf1 qf2 qf3 qf4 qf5
  obtain ⟨q0', q1, q2, q3, q4, q5, qf⟩ := aC (ac hb9 E1.out)
  have qf0 := qf 0; have qf1 := qf 1; have qf2 := qf 2; have qf3 := qf 3; have qf4 := qf 4; have qf5 := qf 5
  have y1 : w.heap.size + 1 < w9.heap.size := by have := hb9.size; omega
  have HF := hid (bt Hc.out hb9); have HW := hid hw9
  clear hb9 hw9 qf k0 k1 k2 k3 k4 k5 j0 j1 j2 j3 z0 z1 z3 q0
  go_wp2_with fail
  refine bodyPost_ret (v := .tuple #[.agg #[.slice b1' y.mixes.length f1, .slice b2' y.sent.length f2, .slice b3' y.net.length f3, .slice b4' y.got.length f4, .int .i64 y.made, .int .i64 y.lost], .string { data := #[] }]) (by simp [results, Tryz.results37, go_sem, q0', q1, q2, q3, q4, q5]) rfl ?_
  rw [hz.out]
  refine ⟨_, _, rfl, ?_, rfl, ?_⟩
  ·refine WdR.mono (R := be R w.heap.size (w.heap.size + 2)) ?_ (fun b _ h => h.1)
   repeat (refine WdR.set ?_ (aE (by dsimp only; omega) (by dsimp only; omega)))
   exact HW.out
  ·repeat (refine Below.setCell ?_ (by dsimp only; omega) _)
   exact HF.out
 have g2 : ([99, 97, 108, 109] == p0.toList) = false := neB (fun e => hc e.symm)
 have g2' : (p0.toList == [99, 97, 108, 109]) = false := by rw [Bool.beq_comm]; exact g2
 by_cases hn : bL p0 = j8
 ·have hz := hid (((Hln.out.2 hk).2 hc).1 hn)
  have f3 : ([110, 101, 116] == p0.toList) = true := eqB hn.symm
  have f3' : (p0.toList == [110, 101, 116]) = true := by rw [Bool.beq_comm]; exact f3
  have HS := hid (fun (wx : World) (hT : Tch [w.heap.size + 1] w4 wx) => And.intro (aC (hT.row E0.out (by simp))) (show w.heap.size < wx.heap.size by have := hT.size; omega))
  clear q0' q1 q2 q3 q4 q5 qf0 qf1 qf2 qf3 qf4 qf5
  go_wp2_with fail
  refine rgN [w.heap.size + 1] 5 (by kernel_rfl) rfl (fun | none, _, _, _, _ => id | some _, _, _, _, _ => id) fun wd hH hbwd swd => ?_
  simp only [pw]
  refine ag [0, 1] ?_
  iterate 2 (refine ra HS.out rfl (by kernel_rfl) rfl (fun _ f => by go_simp; try with_reducible rfl) ?_; try simp only [pw])
  refine rq 2 (by kernel_rfl) rfl fun K hK => ?_
  go_simp
  (go_at_call 64; refine (vX x _ _ (HV.out.go hbwd).wdB Hx.out).mono ?_; rintro e w9 ⟨sn, rfl, hsn, hbC⟩; have hb9 := hbC)
  refine hK.out _ _ (hH.trans (Tch.of hbC)) (fun hH => ?_)
  clear hK K
  (obtain ⟨q0', q1, q2, q3, q4, q5, qf⟩ := aC (ac hb9 (ac hbwd E1.out)); have qf0 := qf 0; have qf1 := qf 1; have qf2 := qf 2; have qf3 := qf 3; have qf4 := qf 4; have qf5 := qf 5; have y1 : w.heap.size + 1 < w9.heap.size := (by have := hb9.size; have := hbwd.size; omega); clear qf)
  refine rq 3 (by kernel_rfl) rfl fun K hK => ?_
  have fC := HS.out _ hH
  go_simp
  clear fC
  (have hbT := (((((hH.setCell (p := ⟨w.heap.size + 1, 0, none⟩) (.inl (by simp)) (.slice A1 x.mixes.length c1)).setCell (p := ⟨w.heap.size + 1, 1, none⟩) (.inl (by simp)) (.slice A2 x.sent.length c2)).setCell (p := ⟨w.heap.size + 1, 2, none⟩) (.inl (by simp)) (.slice A3 x.net.length c3)).setCell (p := ⟨w.heap.size + 1, 3, none⟩) (.inl (by simp)) (.slice A4 x.got.length c4)).setCell (p := ⟨w.heap.size + 1, 4, none⟩) (.inl (by simp)) (.int .i64 x.made)).setCell (p := ⟨w.heap.size + 1, 5, none⟩) (.inl (by simp)) (.int .i64 x.lost))
  refine hK.out _ _ (hbT) (fun hH => ?_)
  clear hK K
  refine tr 4 HS.out rfl (by kernel_rfl) rfl (fun _ f => by go_simp; try with_reducible rfl) ?_
  try simp only [pw]
  refine dm (by kernel_rfl) ?_
  have hbD := hbwd
  have sD := hb9.size
  go_wp2_with fail
  refine bodyPost_ret (v := .tuple #[.agg #[.slice A1 x.mixes.length c1, .slice A2 x.sent.length c2, .slice A3 x.net.length c3, .slice A4 x.got.length c4, .int .i64 x.made, .int .i64 x.lost], .string sn]) (by simp [results, Tryz.results37, go_sem, q0', q1, q2, q3, q4, q5]) rfl ?_
  rw [hz.out]
  refine ⟨_, _, rfl, ?_, hsn, ?_⟩
  ·refine WdR.mono (R := be R w.heap.size (w.heap.size + 2)) ?_ (fun b _ h => h.1)
   repeat (refine WdR.set ?_ (aE (by dsimp only; omega) (by dsimp only; omega)))
   exact (HV.out.go hbwd).go hb9
  ·repeat (refine Below.setCell ?_ (by dsimp only; omega) _)
   exact bt (bt Hc.out hbwd) hb9
 ·have hz := hid (((Hln.out.2 hk).2 hc).2 hn)
  have f3 : ([110, 101, 116] == p0.toList) = false := neB (fun e => hn e.symm)
  have f3' : (p0.toList == [110, 101, 116]) = false := by rw [Bool.beq_comm]; exact f3
  go_wp2_with fail
  refine bodyPost_ret (v := .tuple #[.agg #[.slice A1 x.mixes.length c1, .slice A2 x.sent.length c2, .slice A3 x.net.length c3, .slice A4 x.got.length c4, .int .i64 x.made, .int .i64 x.lost], .string { data := #[119, 104, 97, 116, 10] }]) (by simp [results, Tryz.results37, go_sem, q0', q1, q2, q3, q4, q5]) rfl ?_
  rw [hz.out]
  refine ⟨_, _, rfl, ?_, rfl, ?_⟩
  ·refine WdR.mono (R := be R w.heap.size (w.heap.size + 2)) ?_ (fun b _ h => h.1)
   repeat (refine WdR.set ?_ (aE (by dsimp only; omega) (by dsimp only; omega)))
   exact HV.out
  ·repeat (refine Below.setCell ?_ (by dsimp only; omega) _)
   exact Hc.out
def stL (l : List UInt8) (k : Nat) : Wd × List UInt8 := ((aP 10 l).dropLast.take k).foldl jh (nz, [])
theorem jg (l : List UInt8) : stL l 0 = (nz, []) := by simp [stL]
theorem nr {l p : List UInt8} {k : Nat} (h : (aP 10 l)[k]? = some p) (hk : k + 1 < (aP 10 l).length) : stL l (k + 1) = jh (stL l k) p := by
 have h' : (aP 10 l).dropLast[k]? = some p := by
  rw [List.getElem?_dropLast, if_pos (by omega)]; exact h
 unfold stL
 rw [aK h', List.foldl_append]
 rfl
theorem lg {l : List UInt8} {k : Nat} (h : ¬ k + 1 < (aP 10 l).length) : stL l k = bY (aP 10 l).dropLast := by
 unfold stL bY
 rw [List.take_of_length_le (by rw [List.length_dropLast]; omega)]
theorem sC (l : List UInt8) (k : Nat) : VD 0 (stL l k).1 := oH _ _ wL
theorem wK {x : Wd} (h : x.net.length ≤ 10) : (iW x).length ≤ 160 := by
 have := gv x x.net.length
 rw [gu (Nat.le_refl _)] at this
 omega
theorem oG {x : Wd} (h : VD 0 x) (l : List UInt8) : (bj x l).2.length ≤ 160 := by
 have hn := wK h.nn
 unfold bj
 dsimp only
 split
 ·simp
 ·split
  ·simp
  ·split
   ·exact hn
   ·simp [cC, kG]
theorem lh (l : List UInt8) : ∀ k, (stL l k).2.length ≤ 160 * k
 | 0 => by rw [jg]; simp
 | k + 1 => by
  by_cases hk : k + 1 < (aP 10 l).length
  ·obtain ⟨p, hp⟩ := ai (xs := aP 10 l) (k := k) (by omega)
   rw [nr hp hk]
   have h1 := lh l k
   have h2 := oG (sC l k) p
   simp only [jh, List.length_append]
   omega
  ·have h1 := lh l k
   have h2 : stL l (k + 1) = stL l k := by rw [lg hk, lg (k := k + 1) (by omega)]
   rw [h2]; omega
theorem iK (c : UInt8) : ∀ l : List UInt8, (aP c l).length ≤ l.length + 1
 | [] => by simp [aP]
 | b :: l => by
  have ih := iK c l
  unfold aP
  split
  ·simp; omega
  ·simp; omega
theorem fU {c : UInt8} : ∀ {l p : List UInt8}, p ∈ aP c l → p.length ≤ l.length
 | [], p, h => by simp [aP] at h; simp [h]
 | b :: l, p, h => by
  unfold aP at h
  split at h
  ·rcases List.mem_cons.1 h with rfl | h
   ·simp
   ·have := fU h; simp; omega
  ·have h0 := xq c l
   rcases List.mem_cons.1 h with rfl | h
   ·have : ((aP c l).headD []).length ≤ l.length := fU (by rw [h0]; exact List.mem_cons_self)
    simp only [List.length_cons]; omega
   ·have : p.length ≤ l.length := fU (by rw [h0]; exact List.mem_cons_of_mem _ h)
    simp; omega
theorem uA (g n : Nat) (x : Wd) (v : Value) (s : ByteArray) (w : World) (hg : g < w.heap.size) (hn : n ≤ w.heap.size) (hv : WdR (fun b => b ≠ g ∧ b < n) w v x) (hx : VD 0 x) (hs : s.size ≤ 1000000) :
  Calls Tryz.prog 37 #[v, .string s] w (LnO w (fun b => b ≠ g ∧ (b < n ∨ w.heap.size ≤ b)) (bj x (bL s))) :=
 uz _ x v s w (fun b hb => ⟨by omega, .inr hb⟩) (hv.mono (fun b _ h => ⟨h.1, .inl h.2⟩)) hx hs
theorem ww {g n na : Nat} {wc w5 : World} {v : Value} {x : Wd} {o : Obj} (h : WdR (fun b => b ≠ g ∧ (b < n ∨ wc.heap.size ≤ b)) w5 v x) (e : wc.heap[na]? = some o) (hn : n ≤ na) : WdR (fun b => b ≠ g ∧ b ≠ na) w5 v x :=
 h.mono (fun b _ hb => ⟨hb.1, by have := (zn e); omega⟩)
theorem vy {g : Nat} {Q : Nat → Prop} {w wa : World} {v : Value} {x : Wd} (h : WdR (fun b => b ≠ g ∧ Q b) w v x) (hb : Below w.heap.size w wa) : WdR (fun b => b ≠ g ∧ b ≠ w.heap.size) wa v x :=
 (h.mono (R' := fun b => b ≠ g ∧ b ≠ w.heap.size) (fun b hlt hh => ⟨hh.1, by omega⟩)).go hb
theorem yD {g na : Nat} {w : World} {v : Value} {x : Wd} {c0 c1 c2 c3 c4 c5 : Value} (h : WdR (fun b => b ≠ g ∧ b ≠ na) w v x) : WdR (fun b => b ≠ g ∧ b ≠ na) ((((((w.setCell ⟨na, 0, none⟩ c0).setCell ⟨na, 1, none⟩ c1).setCell ⟨na, 2, none⟩ c2).setCell ⟨na, 3, none⟩ c3).setCell ⟨na, 4, none⟩ c4).setCell ⟨na, 5, none⟩ c5) v x := by
 repeat (refine WdR.set ?_ (fun h => h.2 rfl))
 exact h
theorem oU {x : Wd} (h : VD 0 x) : (fP x).length ≤ 20000 := by
 have h1 := fd x x.got.length
 rw [fW (Nat.le_refl _)] at h1
 have h2 := h.gl
 have h3 := dh x.made; have h4 := dh x.lost
 simp only [fP, List.length_append, cC, ox, ou, List.length_cons, List.length_nil]
 omega
theorem cE (s : ByteArray) (w : World) : Calls Tryz.prog 17 #[.string s] w (pR w (ce (bL s))) := by
 by_cases hs : 600 < s.size
 ·have hx := hid (show ce (bL s) = sK by unfold ce; rw [aB, if_pos hs])
  go_enter Tryz.func17, Tryz.ntmps17
  go_wp2
  go_ret
  exact ⟨_, rfl, hx.out.symm, zm⟩
 have hx := hid (show ce (bL s) = (bY (aP 10 (bL s)).dropLast).2 ++ fP (bY (aP 10 (bL s)).dropLast).1 by unfold ce; rw [aB, if_neg hs])
 go_enter Tryz.func17, Tryz.ntmps17
 go_wp2_with fail
 refine (sA _).mono ?_
 rintro e w1 ⟨v1, rfl, n1, hb1⟩
 obtain ⟨A1, c1, A2, c2, A3, c3, A4, c4, rfl⟩ := n1.form
 have N1 := hid n1; have Hb1 := hid hb1
 have s1 := hb1.size
 clear n1 hb1
 go_upto_region 4 with fail
 generalize hgw : World.alloc w1 _ = w2
 obtain ⟨e2, hb2, s2⟩ := aD hgw
 have E2 := hid e2; have Hb2 := hid (bt Hb1.out hb2)
 have N2 := hid ((N1.out.mono (R' := fun b => b ≠ w1.heap.size) (fun b hb _ => by omega)).go hb2)
 clear hgw e2 hb2 N1 Hb1
 go_wp2_with fail
 refine (qw s 10 10 _ rfl (by omega)).mono ?_
 rintro e w3 ⟨v3, ps, rfl, hps, ho, hb3⟩
 obtain ⟨A, c, rfl, _, _, _⟩ := ho.form
 have Ho := hid ho; have Hps := hid hps
 replace E2 := hid (ac hb3 E2.out); replace N2 := hid (N2.out.go hb3); replace Hb2 := hid (bt Hb2.out hb3)
 have s3 := hb3.size
 have hlen : ps.length ≤ 601 := by
  have h := iK 10 (bL s)
  rw [← hps, List.length_map, aB] at h
  omega
 clear ho hb3 hps
 go_wp2_with fail
 go_loopw [4, 6] (fun ov iv wr => ∃ (k : Nat) (so : ByteArray) (a1 : Option Addr) (f1 : Nat) (a2 : Option Addr) (f2 : Nat) (a3 : Option Addr) (f3 : Nat) (a4 : Option Addr) (f4 : Nat), (k ≤ 601 ∧ (k = 0 ∨ k < ps.length)) ∧ iv = .int .i64 k ∧ ov = .string so ∧ bL so = (stL (bL s) k).2 ∧ wr.heap[w1.heap.size]? = some (.cells #[.slice a1 (stL (bL s) k).1.mixes.length f1, .slice a2 (stL (bL s) k).1.sent.length f2, .slice a3 (stL (bL s) k).1.net.length f3, .slice a4 (stL (bL s) k).1.got.length f4, .int .i64 (stL (bL s) k).1.made, .int .i64 (stL (bL s) k).1.lost] 33 (0, 0)) ∧ WdR (fun b => b ≠ w1.heap.size) wr (.agg #[.slice a1 (stL (bL s) k).1.mixes.length f1, .slice a2 (stL (bL s) k).1.sent.length f2, .slice a3 (stL (bL s) k).1.net.length f3, .slice a4 (stL (bL s) k).1.got.length f4, .int .i64 (stL (bL s) k).1.made, .int .i64 (stL (bL s) k).1.lost]) (stL (bL s) k).1 ∧ Tch [w1.heap.size] w3 wr) (fun _ iv _ => ps.length - (intOf iv).toNat)
 case atStart =>
  refine ⟨0, _, A1, c1, A2, c2, A3, c3, A4, c4, ⟨by omega, .inl rfl⟩, rfl, rfl, ?_, ?_, ?_, Tch.refl _ _⟩
  ·rw [jg]
  ·rw [jg]; exact E2.out
  ·rw [jg]; exact N2.out
 case round =>
  obtain ⟨k, so, a1, f1, a2, f2, a3, f3, a4, f4, ⟨hk, hk2⟩, rfl, rfl, hso, er, dr, ht⟩ := hrel
  have hsz : so.size ≤ 160 * k := by have := lh (bL s) k; rw [← hso, aB] at this; exact this
  have hvy := sC (bL s) k
  have Hln := hid (fun (p : ByteArray) (hp : ps[k]? = some p) (hk1 : k + 1 < ps.length) => show stL (bL s) (k + 1) = jh (stL (bL s) k) (bL p) from nr (by rw [← Hps.out, List.getElem?_map, hp]; rfl) (by rw [← Hps.out, List.length_map]; exact hk1))
  have Hall := hid (fun (hk1 : ¬ k + 1 < ps.length) => show stL (bL s) k = bY (aP 10 (bL s)).dropLast from lg (by rw [← Hps.out, List.length_map]; exact hk1))
  obtain ⟨st, hst⟩ : ∃ st, stL (bL s) k = st := ⟨_, rfl⟩
  rw [hst] at hso er dr hvy Hln Hall
  obtain ⟨y, so'⟩ := st
  dsimp only at hso er dr hvy Hln Hall
  have Hso := hid hso; have Hvy := hid hvy; have Ht := hid ht; have ER := hid er; have DR := hid dr
  have sr := ht.size
  clear hst hso hvy ht er dr E2 N2
  obtain ⟨k0, k1, k2, k3, k4, k5, kf⟩ := aC ER.out
  have kf0 := kf 0; have kf1 := kf 1; have kf2 := kf 2; have kf3 := kf 3; have kf4 := kf 4; have kf5 := kf 5
  have zr : w1.heap.size < wr.heap.size := by omega
  clear kf
  by_cases hlt : k + 1 < ps.length
  ·obtain ⟨p, hp⟩ := ai (xs := ps) (k := k) (by omega)
   have hor := Ho.out.keep (w' := wr) (fun b hb => Ht.out.block b (by have := (Ho.out.top b hb).2; omega) (by have := (Ho.out.top b hb).1; simp; omega)) (fun _ h => by cases h)
   obtain ⟨bl, ol, eql, _, ml, ql⟩ := hor.slB.str hp
   subst eql
   have Hpz := hid (show p.size ≤ 1000000 by
    have h := fU (c := 10) (l := bL s) (p := bL p) (by rw [← Hps.out]; exact List.mem_map_of_mem (List.mem_of_getElem? hp))
    rw [aB, aB] at h; omega)
   have Hst := hid (Hln.out p hp hlt)
   clear hp hor Hln
   replace DR := hid (DR.out.mono (R' := fun b => b ≠ w1.heap.size ∧ b < wr.heap.size) (fun b h1 h2 => ⟨h2, h1⟩))
   have HS := hid (fun (wx : World) (hT : Tch [] wr wx) => And.intro (aC (hT.row ER.out (by simp))) (And.intro (hT.nil.cell (p := ⟨bl, ol + k, none⟩) ml |>.trans ql) (show w1.heap.size < wx.heap.size by have := hT.size; omega)))
   have hkl : k < ps.length := by omega
   have f1 : IntKind.i64.wrap ((k : Int) + 1) = (k : Int) + 1 := IntWalk.i64_in _ ⟨by omega, by omega⟩
   have f2 : decide ((k : Int) + 1 < (ps.length : Int)) = true := decide_eq_true (by omega)
   have f2' : (k : Int) + 1 < (ps.length : Int) := by omega
   clear k0 k1 k2 k3 k4 k5 kf0 kf1 kf2 kf3 kf4 kf5 ql
   go_wp2_with fail
   refine rgN [] 12 (by kernel_rfl) rfl (fun | none, _, _, _, _ => id | some _, _, _, _, _ => id) fun wd hH hbwd swd => ?_
   simp only [pw]
   refine ag [0, 1, 2, 3, 4] ?_
   iterate 5 (refine ra HS.out rfl (by kernel_rfl) rfl (fun _ f => by go_simp; try with_reducible rfl) ?_; try simp only [pw])
   repeat' (first
    | (have t5 := hK5; clear t5; go_simp; (go_at_call 37; refine (uA w1.heap.size wr.heap.size y _ p _ (by have := hH.size; omega) hH.size (DR.out.go hH.nil) Hvy.out Hpz.out).mono ?_; rintro e w5 ⟨v5, t5, rfl, n5, ht5, hbC⟩; obtain ⟨B1, d1, B2, d2, B3, d3, B4, d4, rfl⟩ := n5.form; (try replace n5 := ww n5 ea la); have N5 := hid n5; have h5l := hbC.size; (try replace ea := ac hbC ea); clear n5); refine hK5.out _ _ (hH.trans (Tch.of hbC)) (fun hH => ?_); clear hK5 K5; try simp only [pw])
    | (have t9 := hK9; clear t9; go_simp; (have la := hH.size; generalize hgw : World.alloc _ _ = wa; obtain ⟨ea, hbC, sa⟩ := aD hgw; clear hgw; (try replace N5 := hid (vy N5.out hbC))); refine hK9.out _ _ (hH.trans (Tch.of hbC)) (fun hH => ?_); clear hK9 K9; try simp only [pw])
    | (have t10 := hK10; clear t10; (obtain ⟨z0, z1, z2, z3, z4, z5, zf⟩ := aC ea; have zf0 := zf 0; have zf1 := zf 1; have zf2 := zf 2; have zf3 := zf 3; have zf4 := zf 4; have zf5 := zf 5; have hga3 := World.block_lt_of_cell? _ _ z0; dsimp only at hga3); have fC := HS.out _ hH; go_simp; clear fC; (have hbT := (((((hH.setCell (p := ⟨_, 0, none⟩) (.inr (by dsimp only; omega)) (.slice B1 (bj y (bL p)).1.mixes.length d1)).setCell (p := ⟨_, 1, none⟩) (.inr (by dsimp only; omega)) (.slice B2 (bj y (bL p)).1.sent.length d2)).setCell (p := ⟨_, 2, none⟩) (.inr (by dsimp only; omega)) (.slice B3 (bj y (bL p)).1.net.length d3)).setCell (p := ⟨_, 3, none⟩) (.inr (by dsimp only; omega)) (.slice B4 (bj y (bL p)).1.got.length d4)).setCell (p := ⟨_, 4, none⟩) (.inr (by dsimp only; omega)) (.int .i64 (bj y (bL p)).1.made)).setCell (p := ⟨_, 5, none⟩) (.inr (by dsimp only; omega)) (.int .i64 (bj y (bL p)).1.lost)); refine hK10.out _ _ (hbT) (fun hH => ?_); clear hK10 K10; try simp only [pw])
    | (refine tr 6 HS.out rfl (by decide +kernel) rfl (fun _ f => by go_simp; try with_reducible rfl) ?_; try simp only [pw])
    | (refine tr 7 HS.out rfl (by decide +kernel) rfl (fun _ f => by go_simp; try with_reducible rfl) ?_; try simp only [pw])
    | (refine tr 8 HS.out rfl (by decide +kernel) rfl (fun _ f => by go_simp; try with_reducible rfl) ?_; try simp only [pw])
    | (refine tr 11 HS.out rfl (by decide +kernel) rfl (fun _ f => by go_simp; try with_reducible rfl) ?_; try simp only [pw])
    | (refine rk (i := 5) [9] (by decide +kernel) (rc rfl (fun K5 hK5 => ?_) (rc rfl (fun K9 hK9 => ?_) rn)))
    | (refine rk (i := 5) [] (by decide +kernel) (rc rfl (fun K5 hK5 => ?_) rn))
    | (refine rk (i := 9) [] (by decide +kernel) (rc rfl (fun K9 hK9 => ?_) rn))
    | (refine rk (i := 10) [] (by decide +kernel) (rc rfl (fun K10 hK10 => ?_) rn))
    | fail)
   all_goals refine dm (by kernel_rfl) ?_
   all_goals
    clear z0 z1 z2 z3 z4 z5 zf zf0 zf1 zf2 zf3 zf4 zf5
    have e9 := eh (.slice B1 (bj y (bL p)).1.mixes.length d1) (.slice B2 (bj y (bL p)).1.sent.length d2) (.slice B3 (bj y (bL p)).1.net.length d3) (.slice B4 (bj y (bL p)).1.got.length d4) (.int .i64 (bj y (bL p)).1.made) (.int .i64 (bj y (bL p)).1.lost) ea
    have hg9 := hH.row ER.out (by simp)
    have n9 := yD N5.out (c0 := .slice B1 (bj y (bL p)).1.mixes.length d1) (c1 := .slice B2 (bj y (bL p)).1.sent.length d2) (c2 := .slice B3 (bj y (bL p)).1.net.length d3) (c3 := .slice B4 (bj y (bL p)).1.got.length d4) (c4 := .int .i64 (bj y (bL p)).1.made) (c5 := .int .i64 (bj y (bL p)).1.lost)
    have H9 := hid hH; have EA := hid e9; have EG := hid hg9; have N9 := hid n9
    clear hH e9 hg9 n9 hbT ea hga3 hbC N5 h5l sa la HS ER DR
    generalize World.setCell (World.setCell (World.setCell (World.setCell (World.setCell (World.setCell _ _ _) _ _) _ _) _ _) _ _) _ _ = w9 at *
    obtain ⟨v0, v1, v2, v3, v4, v5, _⟩ := aC EA.out
    obtain ⟨k0, k1, k2, k3, k4, k5, kf⟩ := aC EG.out
    have kf0 := kf 0; have kf1 := kf 1; have kf2 := kf 2; have kf3 := kf 3; have kf4 := kf 4; have kf5 := kf 5
    have z9 := (zn EA.out)
    have z8 := (zn EG.out)
    have ts5 : t5.size ≤ 160 := by rw [← aB, ht5]; exact oG Hvy.out _
    have f3 : ¬ 9223372036854775807 < so.size + t5.size := by omega
    clear kf
    go_wp2_with fail
    go_roundw
    case rel =>
     refine ⟨k + 1, _, B1, d1, B2, d2, B3, d3, B4, d4, ⟨by omega, .inr (by omega)⟩, by go_num, rfl, ?_, ?_, ?_, ?_⟩
     ·rw [Hst.out, iH, Hso.out, ht5]; rfl
     ·rw [Hst.out]; exact eh _ _ _ _ _ _ EG.out
     ·rw [Hst.out]
      repeat (refine WdR.set ?_ (fun h => h rfl))
      exact N9.out.mono (fun b _ h => h.1)
     ·refine Ht.out.trans ?_
      repeat (refine Tch.setCell ?_ (.inl (by simp)) _)
      exact H9.out.mono (fun b h => by cases h)
    case measure => simp [intOf]; omega
  ·have Hf := hid (Hall.out hlt)
   have f2 : decide ((k : Int) + 1 < (ps.length : Int)) = false := decide_eq_false (by omega)
   have f2' : ¬ (k : Int) + 1 < (ps.length : Int) := by omega
   have f1 : IntKind.i64.wrap ((k : Int) + 1) = (k : Int) + 1 := IntWalk.i64_in _ ⟨by omega, by omega⟩
   go_wp2_with fail
   refine (r6 y _ _ DR.out.wdB Hvy.out).mono ?_
   rintro e w9 ⟨t9, rfl, ht9, hb9⟩
   have ts9 : t9.size ≤ 20000 := by rw [← aB, ht9]; exact oU Hvy.out
   have f3 : ¬ 9223372036854775807 < so.size + t9.size := by omega
   go_wp2_with fail
   go_ret
   refine ⟨_, rfl, ?_, ?_⟩
   ·rw [iH, hx.out, ← Hf.out, Hso.out, ht9]
   ·exact bt (Hb2.out.trans (Ht.out.below (by omega) (by simp; omega))) hb9
end Go.Proofs.YtfaeojmndaplcaaGreatDoor
