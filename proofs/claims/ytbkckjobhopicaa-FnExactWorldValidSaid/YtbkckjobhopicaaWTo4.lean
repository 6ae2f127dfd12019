/- A run in new memory. -/
import Derived.Test.YtbkckjobhopicaaWTo3
namespace Go.Proofs.Ytbkckjobhopicaa
open Go Go.RowKit
set_option maxHeartbeats 800000
def oLts : Ty (List Lt) := tLt.own 60
def oTrs : Ty (List Tr) := oTr.own 55
def oMxs : Ty (List Mx) := oMx.own 46
def oWd : Ty Wd := wdTy oMxs oLts oTrs
theorem le_oWd : oWd.le tWd := Ty.le_via (Ty.le_prod (Ty.le_own le_oMx _) (Ty.le_prod (Ty.le_own (Ty.le_refl _) _) (Ty.le_prod (Ty.le_own le_oTr _) (Ty.le_prod (Ty.le_own (Ty.le_refl _) _) (Ty.le_refl _)))))
theorem newA_wd {B C1 C2 C3 : Nat} {w : World} {x : Wd} {vm vs vn vg : Value} (h1 : NewIn oMxs B C1 w [vm] x.mixes) (h2 : NewIn oLts C1 C2 w [vs] x.sent) (h3 : NewIn oTrs C2 C3 w [vn] x.net) (h4 : NewA oLts C3 w [vg] x.got) (b1 : B ≤ C1) (b2 : C1 ≤ C2) (b3 : C2 ≤ C3) :
    NewA oWd B w [vm, vs, vn, vg, .int .i64 x.made, .int .i64 x.lost] x := by
  have h5 : NewA (oLts.prod (tInt.prod tInt)) C3 w ([vg] ++ ([.int .i64 x.made] ++ [.int .i64 x.lost])) (x.got, (x.made, x.lost)) := by
    obtain ⟨F, f1, f2, f3⟩ := h4
    exact ⟨F ++ ([] ++ []), ⟨[vg], _, F, _, rfl, rfl, f1, [_], [_], [], [], rfl, rfl, ⟨rfl, rfl⟩, ⟨rfl, rfl⟩⟩, by simpa using f2, by simpa using f3⟩
  exact newA_pair h1 (newA_pair h2 (newA_pair h3 h5 b3) b2) b1
theorem grow3 {n : Nat} {w w1 : World} (h0 : n < w.heap.size) (h1 : n + 1 < w.heap.size) (h2 : n + 1 + 1 < w.heap.size) (h : w.heap.size ≤ w1.heap.size) : n < w1.heap.size ∧ n + 1 < w1.heap.size ∧ n + 1 + 1 < w1.heap.size := ⟨by omega, by omega, by omega⟩
theorem newA_wdB {B : Nat} {w : World} {x : Wd} {vm vs vn vg a b : Value} (h : NewA oWd B w [vm, vs, vn, vg, a, b] x) : WdB w.heap.size w (.agg #[vm, vs, vn, vg, a, b]) x := by
  obtain ⟨F, h1, _, _⟩ := h
  obtain ⟨F', h2, hF⟩ := le_oWd.2 h1
  obtain ⟨vm', vs', vn', vg', Fm, Fs, Fn, Fg, e, e2, hm, hs, hn, hg⟩ := tWd_E.1 h2
  simp at e
  obtain ⟨rfl, rfl, rfl, rfl, rfl, rfl⟩ := e
  exact ⟨_, _, _, _, rfl, ⟨_, hm, hm.lt⟩, ⟨_, hs, hs.lt⟩, ⟨_, hn, hn.lt⟩, ⟨_, hg, hg.lt⟩⟩
theorem toWorld_c (x : Wd) (v : Value) (w : World) (h : WdB w.heap.size w v x) (hs : smWd x) :
    Calls Try.prog 16 #[v] w fun e w' => ∃ um us un ug, e = .returned (.agg #[um, us, un, ug, .int .i64 x.made, .int .i64 x.lost]) ∧ NewA oWd w.heap.size w' [um, us, un, ug, .int .i64 x.made, .int .i64 x.lost] x ∧ Below w.heap.size w w' := by
  obtain ⟨vm, vs, vn, vg, rfl, h1, h2, h3, h4⟩ := h
  have H2 := hid (fun (wx : World) (hb : Below w.heap.size w wx) => h2.go hb)
  have H3 := hid (fun (wx : World) (hb : Below w.heap.size w wx) => h3.go hb)
  have H4 := hid (fun (wx : World) (hb : Below w.heap.size w wx) => h4.go hb)
  obtain ⟨⟨s1, s2⟩, s3, ⟨s4, s5⟩, s6⟩ := hs
  have S2 := hid s2; have S5 := hid s5
  go_enter Try.func16, Try.ntmps16
  go_wp2_with fail
  refine (toMixS_c vm x.mixes _ (h1.go (by (repeat (first | exact Below.refl _ _ | refine below_drew1 ?_ | refine Below.alloc ?_ (by simp <;> omega) _)))) s1 S2.out).mono ?_
  rintro e w1 ⟨um, rfl, n1, hb1⟩
  obtain ⟨y0, y1, y2⟩ := size3 hb1.size
  have hc : Below w.heap.size w w1 := bt (by (repeat (first | exact Below.refl _ _ | refine below_drew1 ?_ | refine Below.alloc ?_ (by simp <;> omega) _))) hb1
  obtain ⟨hc1, hf1⟩ := bcell hb1
  obtain ⟨Am, cm, rfl, _, _, _⟩ := n1.slB.form
  have hi := hid ((newA_own n1).inn.set (p := ⟨w.heap.size + 1 + 1, 0, none⟩) (u := .slice Am x.mixes.length cm) (by simp))
  have hx : Below w.heap.size w (w1.setCell ⟨w.heap.size + 1 + 1, 0, none⟩ (.slice Am x.mixes.length cm)) := hc.setCell (by simp <;> omega) _
  have HX := hid hx
  clear h1 h2 h3 h4 hb1 n1 hc hx s2 s5
  go_wp2_with fail
  refine (toLetterS_c vs x.sent _ (H2.out _ HX.out) s3 (fun _ _ => trivial)).mono ?_
  rintro e w2 ⟨us, rfl, n2, hb2⟩
  have HZ := hid (show w1.heap.size ≤ w2.heap.size from by have := hb2.size; rwa [size_set] at this)
  obtain ⟨z0, z1, z2⟩ := grow3 y0 y1 y2 (by have := hb2.size; rwa [size_set] at this)
  have hc : Below w.heap.size w w2 := bt HX.out hb2
  obtain ⟨hc2, hf2⟩ := bcell hb2
  obtain ⟨As, cs, rfl, _, _, _⟩ := n2.slB.form
  have hi1 := hid (((hi.out.go hb2 (by rw [size_set]; exact Nat.le_refl _))).set (p := ⟨w.heap.size + 1 + 1, 1, none⟩) (u := .slice As x.sent.length cs) (by simp))
  have hi2 := hid ((newA_own (n2.base (Nat.le_of_eq (size_set _ _ _).symm))).inn.set (p := ⟨w.heap.size + 1 + 1, 1, none⟩) (u := .slice As x.sent.length cs) (by exact y2))
  have hx : Below w.heap.size w (w2.setCell ⟨w.heap.size + 1 + 1, 1, none⟩ (.slice As x.sent.length cs)) := hc.setCell (by simp <;> omega) _
  have HX := hid hx
  clear hi hb2 n2 hc hx
  go_wp2_with fail
  refine (toTransitS_c vn x.net _ (H3.out _ HX.out) s4 S5.out).mono ?_
  rintro e w3 ⟨un, rfl, n3, hb3⟩
  have HY := hid (show w2.heap.size ≤ w3.heap.size from by have := hb3.size; rwa [size_set] at this)
  obtain ⟨q0, q1, q2⟩ := grow3 z0 z1 z2 (by have := hb3.size; rwa [size_set] at this)
  have hc : Below w.heap.size w w3 := bt HX.out hb3
  obtain ⟨hc3, hf3⟩ := bcell hb3
  obtain ⟨An, cn, rfl, _, _, _⟩ := n3.slB.form
  have hj1 := hid (((hi1.out.go hb3 (by rw [size_set]; exact HZ.out))).set (p := ⟨w.heap.size + 1 + 1, 2, none⟩) (u := .slice An x.net.length cn) (by simp))
  have hj2 := hid (((hi2.out.go hb3 (by rw [size_set]; exact Nat.le_refl _))).set (p := ⟨w.heap.size + 1 + 1, 2, none⟩) (u := .slice An x.net.length cn) (by exact y2))
  have hj3 := hid ((newA_own (n3.base (Nat.le_of_eq (size_set _ _ _).symm))).inn.set (p := ⟨w.heap.size + 1 + 1, 2, none⟩) (u := .slice An x.net.length cn) (by exact z2))
  have hx : Below w.heap.size w (w3.setCell ⟨w.heap.size + 1 + 1, 2, none⟩ (.slice An x.net.length cn)) := hc.setCell (by simp <;> omega) _
  have HX := hid hx
  clear hi1 hi2 hb3 n3 hc hx
  go_wp2_with fail
  refine (toLetterS_c vg x.got _ (H4.out _ HX.out) s6 (fun _ _ => trivial)).mono ?_
  rintro e w4 ⟨ug, rfl, n4, hb4⟩
  obtain ⟨r0, r1, r2⟩ := grow3 q0 q1 q2 (by have := hb4.size; rwa [size_set] at this)
  have hc : Below w.heap.size w w4 := bt HX.out hb4
  obtain ⟨hc4, hf4⟩ := bcell hb4
  obtain ⟨Ag, cg, rfl, _, _, _⟩ := n4.slB.form
  have hk1 := hid ((hj1.out.go hb4 (by rw [size_set]; exact Nat.le_trans HZ.out HY.out)))
  have hk2 := hid ((hj2.out.go hb4 (by rw [size_set]; exact HY.out)))
  have hk3 := hid ((hj3.out.go hb4 (by rw [size_set]; exact Nat.le_refl _)))
  have hk4 := hid ((newA_own (n4.base (Nat.le_of_eq (size_set _ _ _).symm))))
  have HC := hid hc
  clear hj1 hj2 hj3 hb4 n4 hc
  go_wp2
  refine bodyPost_ret (v := .agg #[.slice Am x.mixes.length cm, .slice As x.sent.length cs, .slice An x.net.length cn, .slice Ag x.got.length cg, .int .i64 x.made, .int .i64 x.lost]) (by simp [results, go_sem, hc4, hc3, hc2, hc1, r0, r1, r2, q0, q1, q2, z0, z1, z2, y0, y1, y2]) rfl ⟨_, _, _, _, rfl, ?_, ?_⟩
  · refine NewA.base (B := w.heap.size + 1 + 1 + 1) ?_ (by omega)
    repeat (refine NewA.set ?_ (by dsimp only; omega))
    exact newA_wd (hk1.out.base (by simp)) hk2.out hk3.out hk4.out (by omega) HZ.out HY.out
  · repeat (refine Below.setCell ?_ (by dsimp only; omega) _)
    exact HC.out
end Go.Proofs.Ytbkckjobhopicaa
