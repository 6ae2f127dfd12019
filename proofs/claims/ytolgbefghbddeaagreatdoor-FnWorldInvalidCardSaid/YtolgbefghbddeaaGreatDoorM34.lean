/- Texts that the last file leans on (part 34). -/
import Derived.BigRegion
import Derived.Test.YtolgbefghbddeaaGreatDoorM33
set_option linter.unusedVariables false
set_option linter.unusedSimpArgs false
set_option maxHeartbeats 4000000
set_option maxRecDepth 100000
namespace Go.Proofs.YtolgbefghbddeaaGreatDoor
open Go Go.RowKit
set_option maxHeartbeats 40000000
def vo (w : World) (e : Ending) (w' : World) : Prop := ∃ (v : Value) (x : Wd), e = .returned v ∧ WdR (fun _ => True) w' v x ∧ x.got.length ≤ 1073741824 ∧ Below w.heap.size w w'
theorem oR {w W0 w1 w2 : World} (h0 : Below w.heap.size w W0) (h1 : Below W0.heap.size W0 w1) (ht : Tch [W0.heap.size] w1 w2) : Below w.heap.size w w2 :=
 (bt h0 h1).trans (ht.below (by have := h0.size; have := h1.size; omega) (by simp; exact h0.size))
theorem kh (v : Value) (xs : List Int) (w : World) (h : SlB cR w.heap.size w v xs) (hx : ∀ x ∈ xs, 0 ≤ x ∧ x ≤ 255) : Calls Tryz.prog 31 #[v] w (vo w) := by
 go_enter Tryz.func31, Tryz.ntmps31
 go_upto_region 1 with fail
 generalize hgw' : World.alloc w _ = W0
 obtain ⟨e0, hb0, s0⟩ := an hgw'
 have hs := h.go hb0
 have E0 := hid e0; have Hb0 := hid hb0
 clear hgw' e0 hb0 h
 go_wp2_with fail
 with_reducible refine (qF v xs _ hs hx).mono ?_
 rintro e w1 ⟨rfl, hr, hb1⟩
 have Hb1 := hid hb1; have E1 := hid (ab hb1 E0.out)
 clear hs hx hb1 E0
 go_wp2_with fail
 with_reducible refine (jc _ _ _ 0 hr (by omega)).mono ?_
 rintro e w2 ⟨v2, x, q, rfl, hgl, _, hr2, ht, hw⟩
 obtain ⟨A1, c1, A2, c2, A3, c3, A4, c4, rfl⟩ := hw.form
 have s1 := Hb1.out.size; have s0' := Hb0.out.size
 obtain ⟨z0, z1, z2, z3, z4, z5, zf⟩ := ai (ht.row E1.out (by simp; omega))
 have zf0 := zf 0; have zf1 := zf 1; have zf2 := zf 2; have zf3 := zf 3; have zf4 := zf 4; have zf5 := zf 5
 have zw : w.heap.size < w2.heap.size := by have := ht.size; omega
 have hB := hid (oR Hb0.out Hb1.out ht)
 have HW := hid hw; have Hgl := hid hgl
 clear zf ht hr hr2 hw hgl
 go_wp2_with fail
 refine bodyPost_ret (v := .agg #[.slice A1 x.mixes.length c1, .slice A2 x.sent.length c2, .slice A3 x.net.length c3, .slice A4 x.got.length c4, .int .i64 x.made, .int .i64 x.lost]) (by simp [results, Tryz.results31, go_sem, z0, z1, z2, z3, z4, z5]) rfl ⟨_, x, rfl, ?_, by have := Hgl.out; omega, ?_⟩
 ·refine WdR.mono (R := fun b => w1.heap.size ≤ b) ?_ (fun _ _ _ => trivial)
  repeat (refine WdR.set ?_ (by dsimp only; omega))
  exact HW.out
 ·repeat (refine Below.setCell ?_ (by dsimp only; omega) _)
  exact hB.out
theorem lg (v : Value) (xs : List Int) (w : World) (h : SlB cR w.heap.size w v xs) (hx : ∀ x ∈ xs, 0 ≤ x ∧ x ≤ 255) : Calls Tryz.prog 27 #[v] w (vo w) := by
 go_enter Tryz.func27, Tryz.ntmps27
 go_upto_region 1 with fail
 generalize hgw' : World.alloc w _ = W0
 obtain ⟨e0, hb0, s0⟩ := an hgw'
 have hs := h.go hb0
 have E0 := hid e0; have Hb0 := hid hb0
 clear hgw' e0 hb0 h
 go_wp2_with fail
 with_reducible refine (qF v xs _ hs hx).mono ?_
 rintro e w1 ⟨rfl, hr, hb1⟩
 have Hb1 := hid hb1; have E1 := hid (ab hb1 E0.out)
 have s1 := hb1.size; have s0' := Hb0.out.size
 clear hs hx hb1 E0
 go_wp2_with fail
 with_reducible refine (aI _ _ _ 0 _ hr (by omega)).mono ?_
 rintro e wp ⟨m, rfl, m0, m1, _, hrp, hg⟩
 have HTp := hid (cE hg)
 have s2 := hg.size
 clear hr hg
 by_cases hm : m = 0
 ·subst hm
  go_wp2_with fail
  with_reducible refine (jc _ _ _ _ hrp (by omega)).mono ?_
  rintro e w2 ⟨v2, x, q, rfl, hgl, _, hr2, ht, hw⟩
  obtain ⟨A1, c1, A2, c2, A3, c3, A4, c4, rfl⟩ := hw.form
  have ht := HTp.out.trans ht
  obtain ⟨z0, z1, z2, z3, z4, z5, zf⟩ := ai (ht.row E1.out (by simp; omega))
  have zf0 := zf 0; have zf1 := zf 1; have zf2 := zf 2; have zf3 := zf 3; have zf4 := zf 4; have zf5 := zf 5
  have zw : w.heap.size < w2.heap.size := by have := ht.size; omega
  have hB := hid (oR Hb0.out Hb1.out ht)
  have HW := hid hw; have Hgl := hid hgl
  clear zf ht hr2 hw hgl
  go_wp2_with fail
  refine bodyPost_ret (v := .agg #[.slice A1 x.mixes.length c1, .slice A2 x.sent.length c2, .slice A3 x.net.length c3, .slice A4 x.got.length c4, .int .i64 x.made, .int .i64 x.lost]) (by simp [results, Tryz.results27, go_sem, z0, z1, z2, z3, z4, z5]) rfl ⟨_, x, rfl, ?_, by have := Hgl.out; omega, ?_⟩
  ·refine WdR.mono (R := fun b => wp.heap.size ≤ b) ?_ (fun _ _ _ => trivial)
   repeat (refine WdR.set ?_ (by dsimp only; omega))
   exact HW.out
  ·repeat (refine Below.setCell ?_ (by dsimp only; omega) _)
   exact hB.out
 ·have hm : (m == 0) = false := by simpa using hm
  go_wp2_with fail
  with_reducible refine (jb _ _ _ _ hrp (by omega)).mono ?_
  rintro e w2 ⟨v2, x, q, rfl, hv, _, hr2, ht, hw⟩
  obtain ⟨A1, c1, A2, c2, A3, c3, A4, c4, rfl⟩ := hw.form
  have ht := HTp.out.trans ht
  obtain ⟨z0, z1, z2, z3, z4, z5, zf⟩ := ai (ht.row E1.out (by simp; omega))
  have zf0 := zf 0; have zf1 := zf 1; have zf2 := zf 2; have zf3 := zf 3; have zf4 := zf 4; have zf5 := zf 5
  have zw : w.heap.size < w2.heap.size := by have := ht.size; omega
  have hB := hid (oR Hb0.out Hb1.out ht)
  have HW := hid hw; have Hv := hid hv
  clear zf ht hr2 hw hv
  go_wp2_with fail
  refine bodyPost_ret (v := .agg #[.slice A1 x.mixes.length c1, .slice A2 x.sent.length c2, .slice A3 x.net.length c3, .slice A4 x.got.length c4, .int .i64 x.made, .int .i64 x.lost]) (by simp [results, Tryz.results27, go_sem, z0, z1, z2, z3, z4, z5]) rfl ⟨_, x, rfl, ?_, by have := Hv.out.gl; omega, ?_⟩
  ·refine WdR.mono (R := fun b => wp.heap.size ≤ b) ?_ (fun _ _ _ => trivial)
   repeat (refine WdR.set ?_ (by dsimp only; omega))
   exact HW.out
  ·repeat (refine Below.setCell ?_ (by dsimp only; omega) _)
   exact hB.out
end Go.Proofs.YtolgbefghbddeaaGreatDoor
