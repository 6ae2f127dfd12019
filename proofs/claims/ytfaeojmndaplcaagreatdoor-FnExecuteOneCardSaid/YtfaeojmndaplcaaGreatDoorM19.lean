/- Texts that the last file leans on (part 19). -/
import Derived.Test.YtfaeojmndaplcaaGreatDoorM10
import Derived.Test.YtfaeojmndaplcaaGreatDoorM12
import Derived.Test.YtfaeojmndaplcaaGreatDoorM15
import Derived.Test.YtfaeojmndaplcaaGreatDoorM2
import Derived.Test.YtfaeojmndaplcaaGreatDoorM4
import Derived.Test.YtfaeojmndaplcaaGreatDoorM7
set_option linter.unusedVariables false
set_option linter.unusedSimpArgs false
set_option maxHeartbeats 4000000
set_option maxRecDepth 100000
namespace Go.Proofs.YtfaeojmndaplcaaGreatDoor
open Go Go.RowKit
theorem uu (R : Nat → Prop) (x : Wd) (v : Value) (fr dst path : Int) (w : World) (hv : WdR R w v x) (hp : aL path = []) :
  Calls Tryz.prog 66 #[v, .int .i64 fr, .int .i64 dst, .int .i64 path] w (b6 w R x) := by
 have i1 : (((aL path).length : Int) == 0) = true := by rw [hp]; rfl
 clear hp
 obtain ⟨A1, c1, A2, c2, A3, c3, A4, c4, rfl⟩ := hv.form
 have HV := hid (fun (wx : World) (hb : Below w.heap.size w wx) => hv.off 2 hb)
 clear hv
 go_enter Tryz.func66, Tryz.ntmps66
 go_wp2_with fail
 refine (ly path _).mono ?_
 rintro e w1 ⟨vp, rfl, np, hb1⟩
 obtain ⟨e0, e1⟩ := dJ hb1
 have hc1 : Below w.heap.size w w1 := bt (by repeat (first | exact zm | apply ae | refine bA ?_ (by omega) | refine Below.setCell ?_ (by first | omega | simp <;> omega) _)) hb1
 obtain ⟨Ap, cp, rfl, _, _, _⟩ := np.form
 have z1 : w.heap.size + 1 < w1.heap.size := (zn e1)
 have z0 : w.heap.size < w1.heap.size := by omega
 have Np := hid np; have Hc1 := hid hc1
 clear hb1 np hc1
 go_upto_region 4 with fail
 have hW : Below w.heap.size w (w1.alloc (.cells #[.int .i64 fr, .int .i64 dst, .int .i64 x.sent.length] 56)) := Hc1.out.alloc (by omega) _
 have eL := heap_alloc_new w1 (.cells #[.int .i64 fr, .int .i64 dst, .int .i64 x.sent.length] 56)
 have e0' := ac (ab w1 (.cells #[.int .i64 fr, .int .i64 dst, .int .i64 x.sent.length] 56)) e0
 have e1' := ac (ab w1 (.cells #[.int .i64 fr, .int .i64 dst, .int .i64 x.sent.length] 56)) e1
 have Np' := hid (Np.out.go (ab w1 (.cells #[.int .i64 fr, .int .i64 dst, .int .i64 x.sent.length] 56)))
 have sW : (w1.alloc (.cells #[.int .i64 fr, .int .i64 dst, .int .i64 x.sent.length] 56)).heap.size = w1.heap.size + 1 := by simp
 clear e0 e1
 generalize hgL : w1.heap.size = nl at *
 generalize w1.alloc (.cells #[.int .i64 fr, .int .i64 dst, .int .i64 x.sent.length] 56) = W1 at *
 obtain ⟨k0, k1, k2, k3, k4, k5, kf⟩ := aC e0'
 obtain ⟨q0, q1, q2, q3, q4, q5, qf, qf0, qf1, qf2, qf3, qf4, qf5⟩ := bs e1'
 obtain ⟨l0, l1, l2, _⟩ := aN eL
 have y0 : w.heap.size < W1.heap.size := by omega
 have y1 : w.heap.size + 1 < W1.heap.size := by omega
 have yl : nl < W1.heap.size := by omega
 have E0 := hid e0'; have E1 := hid e1'; have EL := hid eL; have HW := hid hW
 clear e0' e1' eL hW kf qf hgL Hc1
 go_wp2_with fail
 refine bodyPost_ret (v := .agg #[.slice A1 x.mixes.length c1, .slice A2 x.sent.length c2, .slice A3 x.net.length c3, .slice A4 x.got.length c4, .int .i64 x.made, .int .i64 x.lost]) (by simp [results, Tryz.results66, go_sem, q0, q1, q2, q3, q4, q5]) rfl ⟨_, rfl, ?_, ?_⟩
 ·refine WdR.mono (R := be R w.heap.size (w.heap.size + 2)) ?_ (fun b _ h => h.1)
  repeat (refine WdR.set ?_ (aE (by dsimp only; omega) (by dsimp only; omega)))
  exact HV.out _ HW.out
 ·repeat (refine Below.setCell ?_ (by dsimp only; omega) _)
  exact HW.out
theorem ut (R : Nat → Prop) (x : Wd) (v : Value) (fr dst path : Int) (w : World) (hv : WdR R w v x) (hp : aL path ≠ []) (hn : 12 ≤ x.sent.length) :
  Calls Tryz.prog 66 #[v, .int .i64 fr, .int .i64 dst, .int .i64 path] w (b6 w R x) := by
 have i1 : (((aL path).length : Int) == 0) = false := by
  cases h : aL path with
  | nil => exact absurd h hp
  | cons a l => simp; omega
 have i2 : decide ((12 : Int) ≤ (x.sent.length : Int)) = true := decide_eq_true (by omega)
 clear hp
 obtain ⟨A1, c1, A2, c2, A3, c3, A4, c4, rfl⟩ := hv.form
 have HV := hid (fun (wx : World) (hb : Below w.heap.size w wx) => hv.off 2 hb)
 clear hv
 go_enter Tryz.func66, Tryz.ntmps66
 go_wp2_with fail
 refine (ly path _).mono ?_
 rintro e w1 ⟨vp, rfl, np, hb1⟩
 obtain ⟨e0, e1⟩ := dJ hb1
 have hc1 : Below w.heap.size w w1 := bt (by repeat (first | exact zm | apply ae | refine bA ?_ (by omega) | refine Below.setCell ?_ (by first | omega | simp <;> omega) _)) hb1
 obtain ⟨Ap, cp, rfl, _, _, _⟩ := np.form
 have z1 : w.heap.size + 1 < w1.heap.size := (zn e1)
 have z0 : w.heap.size < w1.heap.size := by omega
 have Np := hid np; have Hc1 := hid hc1
 clear hb1 np hc1
 go_upto_region 4 with fail
 have hW : Below w.heap.size w (w1.alloc (.cells #[.int .i64 fr, .int .i64 dst, .int .i64 x.sent.length] 56)) := Hc1.out.alloc (by omega) _
 have eL := heap_alloc_new w1 (.cells #[.int .i64 fr, .int .i64 dst, .int .i64 x.sent.length] 56)
 have e0' := ac (ab w1 (.cells #[.int .i64 fr, .int .i64 dst, .int .i64 x.sent.length] 56)) e0
 have e1' := ac (ab w1 (.cells #[.int .i64 fr, .int .i64 dst, .int .i64 x.sent.length] 56)) e1
 have Np' := hid (Np.out.go (ab w1 (.cells #[.int .i64 fr, .int .i64 dst, .int .i64 x.sent.length] 56)))
 have sW : (w1.alloc (.cells #[.int .i64 fr, .int .i64 dst, .int .i64 x.sent.length] 56)).heap.size = w1.heap.size + 1 := by simp
 clear e0 e1
 generalize hgL : w1.heap.size = nl at *
 generalize w1.alloc (.cells #[.int .i64 fr, .int .i64 dst, .int .i64 x.sent.length] 56) = W1 at *
 obtain ⟨k0, k1, k2, k3, k4, k5, kf⟩ := aC e0'
 obtain ⟨q0, q1, q2, q3, q4, q5, qf, qf0, qf1, qf2, qf3, qf4, qf5⟩ := bs e1'
 obtain ⟨l0, l1, l2, _⟩ := aN eL
 have y0 : w.heap.size < W1.heap.size := by omega
 have y1 : w.heap.size + 1 < W1.heap.size := by omega
 have yl : nl < W1.heap.size := by omega
 have E0 := hid e0'; have E1 := hid e1'; have EL := hid eL; have HW := hid hW
 clear e0' e1' eL hW kf qf hgL Hc1
 go_wp2_with fail
 refine bodyPost_ret (v := .agg #[.slice A1 x.mixes.length c1, .slice A2 x.sent.length c2, .slice A3 x.net.length c3, .slice A4 x.got.length c4, .int .i64 x.made, .int .i64 x.lost]) (by simp [results, Tryz.results66, go_sem, q0, q1, q2, q3, q4, q5]) rfl ⟨_, rfl, ?_, ?_⟩
 ·refine WdR.mono (R := be R w.heap.size (w.heap.size + 2)) ?_ (fun b _ h => h.1)
  repeat (refine WdR.set ?_ (aE (by dsimp only; omega) (by dsimp only; omega)))
  exact HV.out _ HW.out
 ·repeat (refine Below.setCell ?_ (by dsimp only; omega) _)
  exact HW.out
theorem uq (R : Nat → Prop) (x : Wd) (v : Value) (fr dst path : Int) (w : World) (hv : WdR R w v x) (hp : aL path ≠ []) (hn : ¬ 12 ≤ x.sent.length) (hl : ltB ⟨fr, dst, x.sent.length⟩ = false) :
  Calls Tryz.prog 66 #[v, .int .i64 fr, .int .i64 dst, .int .i64 path] w (b6 w R x) := by
 have i1 : (((aL path).length : Int) == 0) = false := by
  cases h : aL path with
  | nil => exact absurd h hp
  | cons a l => simp; omega
 have i2 : decide ((12 : Int) ≤ (x.sent.length : Int)) = false := decide_eq_false (by omega)
 have Hl := hid hl
 clear hp hl
 obtain ⟨A1, c1, A2, c2, A3, c3, A4, c4, rfl⟩ := hv.form
 have HV := hid (fun (wx : World) (hb : Below w.heap.size w wx) => hv.off 2 hb)
 clear hv
 go_enter Tryz.func66, Tryz.ntmps66
 go_wp2_with fail
 refine (ly path _).mono ?_
 rintro e w1 ⟨vp, rfl, np, hb1⟩
 obtain ⟨e0, e1⟩ := dJ hb1
 have hc1 : Below w.heap.size w w1 := bt (by repeat (first | exact zm | apply ae | refine bA ?_ (by omega) | refine Below.setCell ?_ (by first | omega | simp <;> omega) _)) hb1
 obtain ⟨Ap, cp, rfl, _, _, _⟩ := np.form
 have z1 : w.heap.size + 1 < w1.heap.size := (zn e1)
 have z0 : w.heap.size < w1.heap.size := by omega
 have Np := hid np; have Hc1 := hid hc1
 clear hb1 np hc1
 go_upto_region 4 with fail
 have hW : Below w.heap.size w (w1.alloc (.cells #[.int .i64 fr, .int .i64 dst, .int .i64 x.sent.length] 56)) := Hc1.out.alloc (by omega) _
 have eL := heap_alloc_new w1 (.cells #[.int .i64 fr, .int .i64 dst, .int .i64 x.sent.length] 56)
 have e0' := ac (ab w1 (.cells #[.int .i64 fr, .int .i64 dst, .int .i64 x.sent.length] 56)) e0
 have e1' := ac (ab w1 (.cells #[.int .i64 fr, .int .i64 dst, .int .i64 x.sent.length] 56)) e1
 have Np' := hid (Np.out.go (ab w1 (.cells #[.int .i64 fr, .int .i64 dst, .int .i64 x.sent.length] 56)))
 have sW : (w1.alloc (.cells #[.int .i64 fr, .int .i64 dst, .int .i64 x.sent.length] 56)).heap.size = w1.heap.size + 1 := by simp
 clear e0 e1
 generalize hgL : w1.heap.size = nl at *
 generalize w1.alloc (.cells #[.int .i64 fr, .int .i64 dst, .int .i64 x.sent.length] 56) = W1 at *
 obtain ⟨k0, k1, k2, k3, k4, k5, kf⟩ := aC e0'
 obtain ⟨q0, q1, q2, q3, q4, q5, qf, qf0, qf1, qf2, qf3, qf4, qf5⟩ := bs e1'
 obtain ⟨l0, l1, l2, _⟩ := aN eL
 have y0 : w.heap.size < W1.heap.size := by omega
 have y1 : w.heap.size + 1 < W1.heap.size := by omega
 have yl : nl < W1.heap.size := by omega
 have E0 := hid e0'; have E1 := hid e1'; have EL := hid eL; have HW := hid hW
 clear e0' e1' eL hW kf qf hgL Hc1
 go_wp2_with fail
 refine (ej ⟨fr, dst, x.sent.length⟩ _).mono ?_
 rw [Hl.out]
 rintro e w3 ⟨rfl, hb3⟩
 have hb := hid (bt HW.out hb3)
 have e0 := ac hb3 E0.out
 have e1 := ac hb3 E1.out
 clear k0 k1 k2 k3 k4 k5 q0 q1 q2 q3 q4 q5 qf0 qf1 qf2 qf3 qf4 qf5 l0 l1 l2
 obtain ⟨k0, k1, k2, k3, k4, k5, kf⟩ := aC e0
 obtain ⟨q0, q1, q2, q3, q4, q5, qf, qf0, qf1, qf2, qf3, qf4, qf5⟩ := bs e1
 have z0 : w.heap.size < w3.heap.size := by have := hb3.size; omega
 have z1 : w.heap.size + 1 < w3.heap.size := by have := hb3.size; omega
 clear e0 e1 kf qf hb3
 go_wp2_with fail
 refine bodyPost_ret (v := .agg #[.slice A1 x.mixes.length c1, .slice A2 x.sent.length c2, .slice A3 x.net.length c3, .slice A4 x.got.length c4, .int .i64 x.made, .int .i64 x.lost]) (by simp [results, Tryz.results66, go_sem, q0, q1, q2, q3, q4, q5]) rfl ⟨_, rfl, ?_, ?_⟩
 ·refine WdR.mono (R := be R w.heap.size (w.heap.size + 2)) ?_ (fun b _ h => h.1)
  repeat (refine WdR.set ?_ (aE (by dsimp only; omega) (by dsimp only; omega)))
  exact HV.out _ hb.out
 ·repeat (refine Below.setCell ?_ (by dsimp only; omega) _)
  exact hb.out
def yT (w : World) (p : Pk) (e : Ending) (w' : World) : Prop :=
 ∃ vh vb, e = .returned (.tuple #[.agg #[.int .i64 p.el, vh, .int .i64 p.tag, vb], .bool true]) ∧ Own af 3 w.heap.size w' vh p.hd [] ∧ Own af 3 w.heap.size w' vb p.bd [] ∧ Below w.heap.size w w'
theorem sz (s rcv : Int) (vp vn vl : Value) (ps ns l : List Int) (w : World) (hp : SlB af w.heap.size w vp ps) (hn : SlB af w.heap.size w vn ns) (hl : SlB af w.heap.size w vl l)
  (h1 : 1 ≤ ps.length) (h3 : ps.length ≤ 3) (hnl : ns.length = ps.length) (hs : win s 1 996 = true) (hpw : ∀ p ∈ ps, win p 1 996 = true) (hnw : ∀ n ∈ ns, win n 0 7 = true) (hr : win rcv 0 7 = true) (hll : l.length ≤ 4) (hln : aM l = true) :
  Calls Tryz.prog 112 #[.int .i64 s, vp, vn, .int .i64 rcv, vl] w (yT w (g8 s ps ns rcv l)) := by
 have HP := hid (fun (wx : World) (hb : Below w.heap.size w wx) => hp.go hb)
 have HN := hid (fun (wx : World) (hb : Below w.heap.size w wx) => hn.go hb)
 obtain ⟨Ap, cp, rfl, _, _, _⟩ := hp.form
 obtain ⟨An, cn, rfl, _, _, _⟩ := hn.form
 have Hpw := hid hpw; have Hnw := hid hnw; have Hln := hid hln; have Hnl := hid hnl
 have hneq : ((ns.length : Int) != (ps.length : Int)) = false := by simp [hnl]
 have hL := hl.go (ab w (.cells #[.int .i64 0, .slice none 0 0, .int .i64 0, .slice none 0 0] 72))
 clear hp hn hpw hnw hln hl hnl
 go_enter Tryz.func112, Tryz.ntmps112
 go_wp2_with fail
 refine (sB vl l _ hL hll Hln.out).mono ?_
 rintro e w1 ⟨v1, rfl, n1, hb1⟩
 have hc1 := hid (bt (ab w _) hb1)
 obtain ⟨y1, z1⟩ := pT hb1
 have s1 : w.heap.size < w1.heap.size := by have := hb1.size; simp at this; omega
 obtain ⟨G1, o1, _, _⟩ := n1
 obtain rfl := au aj o1
 have O1 := hid o1
 clear hb1 o1 hL
 go_wp2_with (first
  | (go_at_call 106; refine (dI _ _).mono ?_; rw [hs]; rintro e w' ⟨rfl, rfl⟩)
  | (go_at_call 157; refine (qv _ ps _ (HP.out _ hc1.out) Hpw.out h1 h3).mono ?_; rintro e w' ⟨rfl, rfl⟩)
  | (go_at_call 158; refine (uv _ ns _ (HN.out _ hc1.out) Hnw.out).mono ?_; rintro e w' ⟨rfl, rfl⟩)
  | (go_at_call 68; refine (aU _ _ _ _).mono ?_; rw [hr]; rintro e w' ⟨rfl, rfl⟩)
  | (go_at_call 159; refine (vW s _ ps _ (HP.out _ hc1.out) h3 hs Hpw.out).mono ?_; rintro e w2 ⟨vk, rfl, nk, hb2⟩))
 have Hk := hid (nk.slB (T := af))
 have hkl := fY s ps
 have hke := qk (x := s) (ps := ps) hs Hpw.out
 have hmk : g8 s ps ns rcv l = ⟨ao s 5, (hdT (cF (de s ps)) rcv (de s ps) ns).1, (hdT (cF (de s ps)) rcv (de s ps) ns).2, (de s ps).foldl onL (cU l)⟩ := rfl
 generalize hK : de s ps = keys at *
 obtain ⟨Ak, ck, rfl, _, _, _⟩ := Hk.out.form
 have hc2 := hid (bt hc1.out hb2)
 have s2 : w.heap.size < w2.heap.size := Nat.lt_of_lt_of_le s1 hb2.size
 have hz2 := hb2.size
 obtain ⟨y2, z2⟩ := pT hb2
 have O2 := hid ((O1.out.go hb2).base (B' := w.heap.size + 1) (by simp))
 have hfl : ∀ k, ((keys.take k).foldl onL (cU l)).length = 6 := fun k => by rw [fp]; exact jt hll
 have hfn : ∀ k, aM ((keys.take k).foldl onL (cU l)) = true := fun k => iN _ _ (kr hll Hln.out)
 have Hfl := hid hfl; have Hfn := hid hfn; have Hke := hid hke; have Hmk := hid hmk; have Hkl := hid hkl
 have Y2 := hid (fun (wx : World) (hb : Below w2.heap.size w2 wx) => And.intro hb (pT hb))
 clear hb2 nk hfl hfn hke hmk hkl O1
 go_loopw [12, 15] (fun bv iv wr => ∃ k : Nat, k ≤ keys.length ∧ iv = .int .i64 k ∧ Own af 3 (w.heap.size + 1) wr bv ((keys.take k).foldl onL (cU l)) [] ∧ Below w2.heap.size w2 wr) (fun _ iv _ => keys.length - (intOf iv).toNat)
 case atStart => exact ⟨0, by omega, rfl, O2.out, zm⟩
 case round =>
  obtain ⟨k, hk, rfl, ho, hb⟩ := hrel
  have hszr := hb.size
  have hszw := Nat.le_trans hz2 hszr
  obtain ⟨yr, zr⟩ := pT hb
  have Ho := hid ho; have Hb := hid hb
  by_cases hlt : k < keys.length
  ·obtain ⟨x, hx⟩ := ai hlt
   obtain ⟨bk, ok, rfl, hbk, _, hck⟩ := Hk.out.int hx
   have hcr := (hb.cell (p := ⟨bk, ok + k, none⟩) hbk).trans hck
   have hxw := Hke.out x (List.mem_of_getElem? hx)
   have Hs := hid (lL (b := cU l) hx)
   clear ho hb hcr hx
   go_wp2_with (go_at_call 160; refine (rR _ _ x _ (Ho.out.slB) (Hfn.out k) (by rw [Hfl.out k]; omega) hxw).mono ?_; rintro e w3 ⟨v3, rfl, n3, hb3⟩)
   obtain ⟨G3, o3, _, _⟩ := n3
   obtain rfl := au aj o3
   have HB := hid (bt Hb.out hb3)
   clear hb3
   go_roundw
   case rel => exact ⟨k + 1, by omega, by go_num, by rw [Hs.out]; exact o3.base (by omega), HB.out⟩
   case measure => simp [intOf]; omega
  ·have Ha := hid (aV hk hlt)
   obtain ⟨Ab, cb, rfl, _, _⟩ := ho.formN (Hfl.out k)
   have HH := hid (fun (wx : World) (hb : Below w2.heap.size w2 wx) => And.intro (Hk.out.go hb) (HN.out _ (bt hc2.out hb)))
   obtain ⟨q1, q2⟩ := HH.out _ Hb.out
   have Q1 := hid q1; have Q2 := hid q2
   have l1 : 1 ≤ keys.length := by rw [Hkl.out]; exact h1
   have l3 : keys.length ≤ 3 := by rw [Hkl.out]; exact h3
   clear ho hb q1 q2
   go_wp2_with (go_at_call 161; refine (rZ _ _ keys ns rcv _ Q1.out Q2.out l1 l3 (by rw [Hnl.out, Hkl.out]) Hke.out Hnw.out hr).mono ?_; rintro e w3 ⟨v3, rfl, n3, hb3⟩)
   obtain ⟨G3, o3, _, _⟩ := n3
   obtain rfl := au aj o3
   have s3 : w.heap.size < w3.heap.size := by have := hb3.size; omega
   obtain ⟨A3, c3, rfl, _, _, _⟩ := o3.form
   have O3 := hid (o3.base (B' := w.heap.size + 1) (by omega)); have O4 := hid (Ho.out.go hb3); have HB := hid (bt hc2.out (bt Hb.out hb3))
   obtain ⟨y3, z3⟩ := pT hb3
   have Hmk2 := hid (show (g8 s ps ns rcv l).bd = (keys.take k).foldl onL (cU l) from by rw [Hmk.out, Ha.out])
   rw [Hmk.out]
   clear hb3 o3
   have sr : w.heap.size < wr.heap.size := by omega
   go_wp2_with (go_at_call 111; refine (oT s _ hs).mono ?_; rintro e w' ⟨rfl, rfl⟩)
   refine bodyPost_ret (v := .tuple #[.agg #[.int .i64 (ao s 5), .slice A3 (hdT (cF keys) rcv keys ns).fst.length c3, .int .i64 (hdT (cF keys) rcv keys ns).snd, .slice Ab 6 cb], .bool true]) (by simp [results, Tryz.results112, go_sem, y3, yr, y2, y1, s3, sr, s2, s1]) rfl ?_
   rw [Hmk.out]
   refine ⟨_, _, rfl, ?_, ?_, ?_⟩
   ·exact (ax (ax (ax (ax O3.out (p := ⟨w.heap.size, 0, none⟩) (by dsimp only; omega)) (p := ⟨w.heap.size, 1, none⟩) (by dsimp only; omega)) (p := ⟨w.heap.size, 2, none⟩) (by dsimp only; omega)) (p := ⟨w.heap.size, 3, none⟩) (by dsimp only; omega)).base (by omega)
   ·have := (ax (ax (ax (ax O4.out (p := ⟨w.heap.size, 0, none⟩) (u := .int .i64 (ao s 5)) (by dsimp only; omega)) (p := ⟨w.heap.size, 1, none⟩) (u := .slice A3 (hdT (cF keys) rcv keys ns).fst.length c3) (by dsimp only; omega)) (p := ⟨w.heap.size, 2, none⟩) (u := .int .i64 (hdT (cF keys) rcv keys ns).snd) (by dsimp only; omega)) (p := ⟨w.heap.size, 3, none⟩) (u := .slice Ab 6 cb) (by dsimp only; omega)).base (B' := w.heap.size) (by omega)
    rw [Ha.out] at this
    exact this
   ·exact (((HB.out.setCell (by simp) _).setCell (by simp) _).setCell (by simp) _).setCell (by simp) _
theorem SlR.lit {R : Nat → Prop} {W : World} {b c : Nat} (hR : R b) {xs : List Int} (hc : xs.length ≤ c) (hm : c ≤ maxLen) (h : ∀ i x, xs[i]? = some x → W.cell? ⟨b, i, none⟩ = some (.int .i64 x)) : SlR R af W (.slice (some ⟨b, 0, none⟩) xs.length c) xs := by
 by_cases hx : xs = []
 ·subst hx
  exact .nil _ _ hm
 ·have h0 : 0 < xs.length := List.length_pos_iff.2 hx
  have hb : b < W.heap.size := World.block_lt_of_cell? W ⟨b, 0, none⟩ (h 0 xs[0] (List.getElem?_eq_getElem h0))
  refine ⟨[b], ⟨_, c, xs.flatMap (fun n => [.int .i64 n]), rfl, hc, hm, .inr ⟨b, 0, [], rfl, rfl, hx, hb, cG.2 ⟨rfl, rfl⟩, fun j u hj => ?_⟩⟩, fun b' hb' => by simp at hb'; subst hb'; exact hR⟩
  rw [aY, List.getElem?_map] at hj
  cases hxj : xs[j]? with
  | none => rw [hxj] at hj; cases hj
  | some x => rw [hxj] at hj; cases hj; rw [Nat.zero_add]; exact h j x hxj
def xW (W : World) (n : Nat) : Prop := ∀ i, i < 9 → ∃ v, W.cell? ⟨n + 9, i, none⟩ = some v ∧ SlR (fun b => n ≤ b) af W v (jR.getD i [])
theorem pX (w : World) : xW ((((((((((w.alloc (.cells #[.int .i64 0] 3)).alloc (.cells #[.int .i64 1] 3)).alloc (.cells #[.int .i64 2] 3)).alloc (.cells #[.int .i64 0, .int .i64 1] 3)).alloc (.cells #[.int .i64 1, .int .i64 2] 3)).alloc (.cells #[.int .i64 2, .int .i64 0] 3)).alloc (.cells #[.int .i64 0, .int .i64 1, .int .i64 2] 3)).alloc (.cells #[.int .i64 2, .int .i64 1, .int .i64 0] 3)).alloc (.cells #[.int .i64 1, .int .i64 0, .int .i64 2] 3)).alloc (.cells #[.slice (some ⟨w.heap.size, 0, none⟩) 1 1, .slice (some ⟨w.heap.size + 1, 0, none⟩) 1 1, .slice (some ⟨w.heap.size + 1 + 1, 0, none⟩) 1 1, .slice (some ⟨w.heap.size + 1 + 1 + 1, 0, none⟩) 2 2, .slice (some ⟨w.heap.size + 1 + 1 + 1 + 1, 0, none⟩) 2 2, .slice (some ⟨w.heap.size + 1 + 1 + 1 + 1 + 1, 0, none⟩) 2 2, .slice (some ⟨w.heap.size + 1 + 1 + 1 + 1 + 1 + 1, 0, none⟩) 3 3, .slice (some ⟨w.heap.size + 1 + 1 + 1 + 1 + 1 + 1 + 1, 0, none⟩) 3 3, .slice (some ⟨w.heap.size + 1 + 1 + 1 + 1 + 1 + 1 + 1 + 1, 0, none⟩) 3 3] 67)) w.heap.size := by
 intro i hi
 obtain rfl | rfl | rfl | rfl | rfl | rfl | rfl | rfl | rfl : i = 0 ∨ i = 1 ∨ i = 2 ∨ i = 3 ∨ i = 4 ∨ i = 5 ∨ i = 6 ∨ i = 7 ∨ i = 8 := by omega
 ·exact ⟨.slice (some ⟨w.heap.size, 0, none⟩) 1 1, (by simp (disch := (first | omega | (simp; done) | (simp; omega))) [World.cell?_alloc_at, World.cell?_alloc_past]), SlR.lit (R := fun b => w.heap.size ≤ b) (by omega) (xs := [0]) (by decide) (by decide) (fun j x hj => by rcases j with _ | _ | _ | j <;> simp at hj <;> subst hj <;> simp (disch := (first | omega | (simp; done) | (simp; omega))) [World.cell?_alloc_at, World.cell?_alloc_past])⟩
 ·exact ⟨.slice (some ⟨w.heap.size + 1, 0, none⟩) 1 1, (by simp (disch := (first | omega | (simp; done) | (simp; omega))) [World.cell?_alloc_at, World.cell?_alloc_past]), SlR.lit (R := fun b => w.heap.size ≤ b) (by omega) (xs := [1]) (by decide) (by decide) (fun j x hj => by rcases j with _ | _ | _ | j <;> simp at hj <;> subst hj <;> simp (disch := (first | omega | (simp; done) | (simp; omega))) [World.cell?_alloc_at, World.cell?_alloc_past])⟩
 ·exact ⟨.slice (some ⟨w.heap.size + 1 + 1, 0, none⟩) 1 1, (by simp (disch := (first | omega | (simp; done) | (simp; omega))) [World.cell?_alloc_at, World.cell?_alloc_past]), SlR.lit (R := fun b => w.heap.size ≤ b) (by omega) (xs := [2]) (by decide) (by decide) (fun j x hj => by rcases j with _ | _ | _ | j <;> simp at hj <;> subst hj <;> simp (disch := (first | omega | (simp; done) | (simp; omega))) [World.cell?_alloc_at, World.cell?_alloc_past])⟩
 ·exact ⟨.slice (some ⟨w.heap.size + 1 + 1 + 1, 0, none⟩) 2 2, (by simp (disch := (first | omega | (simp; done) | (simp; omega))) [World.cell?_alloc_at, World.cell?_alloc_past]), SlR.lit (R := fun b => w.heap.size ≤ b) (by omega) (xs := [0, 1]) (by decide) (by decide) (fun j x hj => by rcases j with _ | _ | _ | j <;> simp at hj <;> subst hj <;> simp (disch := (first | omega | (simp; done) | (simp; omega))) [World.cell?_alloc_at, World.cell?_alloc_past])⟩
 ·exact ⟨.slice (some ⟨w.heap.size + 1 + 1 + 1 + 1, 0, none⟩) 2 2, (by simp (disch := (first | omega | (simp; done) | (simp; omega))) [World.cell?_alloc_at, World.cell?_alloc_past]), SlR.lit (R := fun b => w.heap.size ≤ b) (by omega) (xs := [1, 2]) (by decide) (by decide) (fun j x hj => by rcases j with _ | _ | _ | j <;> simp at hj <;> subst hj <;> simp (disch := (first | omega | (simp; done) | (simp; omega))) [World.cell?_alloc_at, World.cell?_alloc_past])⟩
 ·exact ⟨.slice (some ⟨w.heap.size + 1 + 1 + 1 + 1 + 1, 0, none⟩) 2 2, (by simp (disch := (first | omega | (simp; done) | (simp; omega))) [World.cell?_alloc_at, World.cell?_alloc_past]), SlR.lit (R := fun b => w.heap.size ≤ b) (by omega) (xs := [2, 0]) (by decide) (by decide) (fun j x hj => by rcases j with _ | _ | _ | j <;> simp at hj <;> subst hj <;> simp (disch := (first | omega | (simp; done) | (simp; omega))) [World.cell?_alloc_at, World.cell?_alloc_past])⟩
 ·exact ⟨.slice (some ⟨w.heap.size + 1 + 1 + 1 + 1 + 1 + 1, 0, none⟩) 3 3, (by simp (disch := (first | omega | (simp; done) | (simp; omega))) [World.cell?_alloc_at, World.cell?_alloc_past]), SlR.lit (R := fun b => w.heap.size ≤ b) (by omega) (xs := [0, 1, 2]) (by decide) (by decide) (fun j x hj => by rcases j with _ | _ | _ | j <;> simp at hj <;> subst hj <;> simp (disch := (first | omega | (simp; done) | (simp; omega))) [World.cell?_alloc_at, World.cell?_alloc_past])⟩
 ·exact ⟨.slice (some ⟨w.heap.size + 1 + 1 + 1 + 1 + 1 + 1 + 1, 0, none⟩) 3 3, (by simp (disch := (first | omega | (simp; done) | (simp; omega))) [World.cell?_alloc_at, World.cell?_alloc_past]), SlR.lit (R := fun b => w.heap.size ≤ b) (by omega) (xs := [2, 1, 0]) (by decide) (by decide) (fun j x hj => by rcases j with _ | _ | _ | j <;> simp at hj <;> subst hj <;> simp (disch := (first | omega | (simp; done) | (simp; omega))) [World.cell?_alloc_at, World.cell?_alloc_past])⟩
 ·exact ⟨.slice (some ⟨w.heap.size + 1 + 1 + 1 + 1 + 1 + 1 + 1 + 1, 0, none⟩) 3 3, (by simp (disch := (first | omega | (simp; done) | (simp; omega))) [World.cell?_alloc_at, World.cell?_alloc_past]), SlR.lit (R := fun b => w.heap.size ≤ b) (by omega) (xs := [1, 0, 2]) (by decide) (by decide) (fun j x hj => by rcases j with _ | _ | _ | j <;> simp at hj <;> subst hj <;> simp (disch := (first | omega | (simp; done) | (simp; omega))) [World.cell?_alloc_at, World.cell?_alloc_past])⟩
theorem ss (k : Int) (w : World) : Calls Tryz.prog 109 #[.int .i64 k] w fun e w' => ∃ v', e = .returned v' ∧ SlR (fun b => w.heap.size ≤ b) af w' v' (aL k) ∧ Below w.heap.size w w' := by
 go_enter Tryz.func109, Tryz.ntmps109
 go_wp2_with fail
 refine (aU _ _ _ _).mono ?_
 rintro e W ⟨rfl, hw⟩
 have hb : Below w.heap.size w W := by rw [← hw]; exact iJ w
 have hL : xW W w.heap.size := by rw [← hw]; exact pX w
 clear hw
 by_cases hk : 0 ≤ k ∧ k ≤ 8
 ·have hw : win k 0 8 = true := by simp [win]; omega
  obtain ⟨i, rfl⟩ := Int.eq_ofNat_of_zero_le hk.1
  have hi : i < 9 := by omega
  obtain ⟨v, hv, hs⟩ := hL i hi
  have h0 : (0 : Int) ≤ (i : Int) := by omega
  have h9 : (i : Int) < 9 := by omega
  have Hk := hid hk
  clear hL hk
  go_wp2
  go_ret
  exact ⟨v, rfl, by rw [show aL i = jR.getD i [] from by simp [aL, Hk.out]]; exact hs, hb⟩
 ·have hw : win k 0 8 = false := by simp [win]; omega
  go_wp2
  go_ret
  exact ⟨_, rfl, by rw [show aL k = [] from if_neg hk]; exact SlR.nil _ _ (by decide), hb.alloc hb.size _⟩
theorem rX (R : Nat → Prop) (x : Wd) (v : Value) (fr dst path : Int) (w : World) (hR : ∀ b, w.heap.size ≤ b → R b) (hv : WdR R w v x) (hx : VD 0 x) (hm : x.made < 999) (hp : aL path ≠ []) (hn : ¬ 12 ≤ x.sent.length) (hl : ltB ⟨fr, dst, x.sent.length⟩ = true) :
  Calls Tryz.prog 66 #[v, .int .i64 fr, .int .i64 dst, .int .i64 path] w (b6 w R (ew ⟨x.mixes, x.sent ++ [⟨fr, dst, x.sent.length⟩], x.net, x.got, x.made + 1, x.lost⟩ ((aL path).getD 0 0) (qy x.sent.length fr dst path) false)) := by
 obtain ⟨j0, ji, jz0, jz1, jz2⟩ := info_parts bi
 obtain ⟨k00, li, lz0, lz1, lz2⟩ := info_parts lq
 have hwf : win fr 0 7 = true := by unfold ltB at hl; simp only [Bool.and_eq_true] at hl; exact hl.1
 have hwd : win dst 0 7 = true := by unfold ltB at hl; simp only [Bool.and_eq_true] at hl; exact hl.2.1
 have hpk : pkB (qy x.sent.length fr dst path) = true := px (by omega) hwf hp
 have HLim := hid (show Lim ⟨x.mixes, x.sent ++ [⟨fr, dst, x.sent.length⟩], x.net, x.got, x.made + 1, x.lost⟩ from by have := hx.lim; have h1 := hx.l0; have h2 := hx.l1; have h3 := hx.md; unfold Lim at *; dsimp only at *; omega)
 obtain ⟨m0, m1, _, _⟩ := hx.lim
 have hmd := hx.l0
 have hmd1 := hx.l1
 have iwm : IntKind.i64.wrap (x.made + 1) = x.made + 1 := a9 (by omega)
 have Hsm := hid (fG hpk).le
 have hmem := qR (k := path)
 have hlen := mZ path
 rw [show qy x.sent.length fr dst path = g8 (7 + 41 * (x.sent.length : Int)) (dM (aL path)) (aL path) dst [fr, (x.sent.length : Int)] from rfl] at hpk Hsm ⊢
 have hsb : ∀ y ∈ aL path, win (ao (100 + 37 * y) 5) 1 996 = true := fun y hy => by
  obtain ⟨h1, h2⟩ := hmem y hy
  exact bQ (aH.2 (by omega)) (by decide)
 obtain ⟨n0, hn0, hg0, hl1, i1⟩ : ∃ n0, (aL path).getD 0 0 = n0 ∧ (aL path)[0]? = some n0 ∧ 1 ≤ (aL path).length ∧ (((aL path).length : Int) == 0) = false := by
  cases h : aL path with
  | nil => exact absurd h hp
  | cons a l => exact ⟨a, rfl, rfl, by simp, by simp; omega⟩
 rw [hn0]
 have Hg0 := hid hg0
 have i2 : decide ((12 : Int) ≤ (x.sent.length : Int)) = false := decide_eq_false (by omega)
 clear hn0 hg0
 obtain ⟨A1, c1, A2, c2, A3, c3, A4, c4, rfl⟩ := hv.form
 have HV := hid (fun (wx : World) (hb : Below w.heap.size w wx) => hv.off 2 hb)
 have Hl := hid hl
 clear hv hl hx
 go_enter Tryz.func66, Tryz.ntmps66
 go_wp2_with fail
 refine (ss path _).mono ?_
 rintro e w1 ⟨vp, rfl, np, hb1⟩
 replace np := np.mono (R' := fun b => w.heap.size + 2 ≤ b) (fun b _ hb => by simpa using hb)
 generalize aL path = names at *
 obtain ⟨e0, e1⟩ := dJ hb1
 have hc1 : Below w.heap.size w w1 := bt (by repeat (first | exact zm | apply ae | refine bA ?_ (by omega) | refine Below.setCell ?_ (by first | omega | simp <;> omega) _)) hb1
 obtain ⟨Ap, cp, rfl, _, _, _⟩ := np.form
 have z1 : w.heap.size + 1 < w1.heap.size := (zn e1)
 have z0 : w.heap.size < w1.heap.size := by omega
 have Np := hid np; have Hc1 := hid hc1
 clear hb1 np hc1 hp
 go_upto_region 4 with fail
 have hW : Below w.heap.size w (w1.alloc (.cells #[.int .i64 fr, .int .i64 dst, .int .i64 x.sent.length] 56)) := Hc1.out.alloc (by omega) _
 have eL := heap_alloc_new w1 (.cells #[.int .i64 fr, .int .i64 dst, .int .i64 x.sent.length] 56)
 have e0' := ac (ab w1 (.cells #[.int .i64 fr, .int .i64 dst, .int .i64 x.sent.length] 56)) e0
 have e1' := ac (ab w1 (.cells #[.int .i64 fr, .int .i64 dst, .int .i64 x.sent.length] 56)) e1
 have Np' := hid (Np.out.go (ab w1 (.cells #[.int .i64 fr, .int .i64 dst, .int .i64 x.sent.length] 56)))
 have sW : (w1.alloc (.cells #[.int .i64 fr, .int .i64 dst, .int .i64 x.sent.length] 56)).heap.size = w1.heap.size + 1 := by simp
 clear e0 e1
 generalize hgL : w1.heap.size = nl at *
 generalize w1.alloc (.cells #[.int .i64 fr, .int .i64 dst, .int .i64 x.sent.length] 56) = W1 at *
 obtain ⟨k0, k1, k2, k3, k4, k5, kf⟩ := aC e0'
 obtain ⟨l0, l1, l2, _⟩ := aN eL
 have yl : nl < W1.heap.size := by omega
 have E0 := hid e0'; have E1 := hid e1'; have EL := hid eL; have HW := hid hW
 clear e0' e1' eL hW kf hgL Hc1
 go_wp2_with fail
 refine (ej ⟨fr, dst, x.sent.length⟩ _).mono ?_
 rw [Hl.out]
 rintro e w3 ⟨rfl, hb3⟩
 have Hc3 := hid (bt HW.out hb3)
 have Np3 := hid (Np'.out.go hb3)
 have e0 := hid (ac hb3 E0.out)
 have e1 := hid (ac hb3 E1.out)
 have eL := hid (ac hb3 EL.out)
 have sL := hb3.size
 clear k0 k1 k2 k3 k4 k5 l0 l1 l2 hb3 E0 E1 EL HW Np' Np
 go_wp2_with fail
 go_loopw [12, 13] (fun pv iv wr => ∃ j : Nat, j ≤ names.length ∧ iv = .int .i64 j ∧ Own af 3 w3.heap.size wr pv (dM (names.take j)) [] ∧ Below w3.heap.size w3 wr) (fun _ iv _ => names.length - (intOf iv).toNat)
 case atStart => exact ⟨0, by omega, rfl, cH (w := w3) (Nat.le_refl _), zm.alloc (Nat.le_refl _) _⟩
 case round =>
  obtain ⟨j, hj, rfl, ho, hb⟩ := hrel
  by_cases hlt : j < names.length
  ·obtain ⟨y, hy⟩ := ai hlt
   obtain ⟨y0, y1⟩ := hmem y (List.mem_of_getElem? hy)
   obtain ⟨ky, rfl⟩ := Int.eq_ofNat_of_zero_le y0
   have hky : ky < 3 := by omega
   obtain ⟨bb, ob, rfl, hbz, _, hcx⟩ := (Np3.out.go hb).slB.int hy
   have Ht := hid (show dM (names.take (j + 1)) = dM (names.take j) ++ [ao (cS ky) 5] from by rw [aK hy]; simp [dM, cS])
   have hpl : (dM (names.take j)).length = j := by rw [dp, List.length_take]; omega
   have Hpl := hid hpl
   have Hb := hid hb; have Ho := hid ho
   have hsz := hb.size
   clear hy hb ho hpl
   go_wp2_with (first
    | (go_at_call 60; refine (jw ky (by omega) _).mono ?_; rintro e w' ⟨rfl, rfl⟩)
    | (go_at_call 111; refine (oT _ _ (lY hky)).mono ?_; rintro e w' ⟨rfl, rfl⟩)
    | (at_builtin; go_loud (refine ay rfl (.tmp 45) (.tmp 52) 67 rfl af aj (B := w3.heap.size) Tryz.underlying67 ji jz0 jz1 jz2 rfl (by decide) (by decide) (v := u12) rfl (Ho.out.below (ab _ _) (Nat.le_refl _)) _ 1 1 rfl (Sl.box' (T := af) (x := ao (cS ky) 5) wr.heap.size rfl ⟨rfl, rfl⟩) ?_ ?_ ?_; (rw [Hpl.out]; simp; omega); (simp; omega); intro v2 w2 ho2 hg2 hv2; have hb2 : Below w3.heap.size w3 w2 := ((Hb.out.alloc hsz _)).grown hg2 (by simp; omega) (fun q hq => (Ho.out.top q hq).1))))
   go_roundw
   case rel => exact ⟨j + 1, by omega, by go_num, by rw [Ht.out]; exact ho2, hb2⟩
   case measure => simp [intOf]; omega
  ·have Ha := hid (aV hj hlt)
   rw [aV hj hlt] at ho
   obtain ⟨Aq, cq, rfl, _, _, _⟩ := ho.form
   have Ho := hid ho; have Hb := hid hb
   have npr := hid (Np3.out.go hb)
   have sz3 := hb.size
   clear ho hb
   go_wp2_with fail
   refine (sz (7 + 41 * (x.sent.length : Int)) dst _ _ _ (dM names) names [fr, (x.sent.length : Int)] _ (Ho.out.slB.go (ab _ _)) (npr.out.go (ab _ _)).slB (lV [fr, (x.sent.length : Int)] (Nat.zero_le _) (by simp [maxLen])).slB (by rw [dp]; exact hl1) (by rw [dp]; exact hlen) (by rw [dp]) (aH.2 (by omega)) (fun q hq => by
    unfold dM at hq
    obtain ⟨y, hy, rfl⟩ := List.mem_map.1 hq
    exact hsb y hy) (fun q hq => aH.2 (by have := hmem q hq; omega)) hwd (by simp) (bK.2 (fun q hq => by
    simp at hq
    rcases hq with rfl | rfl
    ·have := aH.1 hwf; omega
    ·omega))).mono ?_
   generalize g8 (7 + 41 * (x.sent.length : Int)) (dM names) names dst [fr, (x.sent.length : Int)] = p at *
   rintro e w5 ⟨vh, vb, rfl, ph, pb, hb5⟩
   obtain ⟨Ah, ch, rfl, _, _, _⟩ := ph.form
   obtain ⟨Ab, cb, rfl, _, _, _⟩ := pb.form
   replace ph := ph.base (B' := w.heap.size + 2) (by simp only [World.size_alloc]; omega)
   replace pb := pb.base (B' := w.heap.size + 2) (by simp only [World.size_alloc]; omega)
   have Hc5 := hid (bt (bt Hc3.out Hb.out) (bt (ab _ _) hb5))
   have e0 := ac hb5 (ac (ab _ _) (ac Hb.out e0.out))
   have e1 := ac hb5 (ac (ab _ _) (ac Hb.out e1.out))
   have eL := ac hb5 (ac (ab _ _) (ac Hb.out eL.out))
   have np5 := hid ((npr.out.go (ab _ _)).go hb5)
   have sz5 := hb5.size
   simp only [World.size_alloc] at sz5
   have Ph := hid ph; have Pb := hid pb; have E0 := hid e0; have E1 := hid e1; have EL := hid eL
   clear ph pb hb5 e0 e1 eL npr Ho Hb
   go_upto_region 12 with fail
   have hW6 : Below w.heap.size w (w5.alloc (.cells #[.int .i64 p.el, .slice Ah p.hd.length ch, .int .i64 p.tag, .slice Ab p.bd.length cb] 72)) := Hc5.out.alloc (by omega) _
   have eP := heap_alloc_new w5 (.cells #[.int .i64 p.el, .slice Ah p.hd.length ch, .int .i64 p.tag, .slice Ab p.bd.length cb] 72)
   have e0 := ac (ab w5 (.cells #[.int .i64 p.el, .slice Ah p.hd.length ch, .int .i64 p.tag, .slice Ab p.bd.length cb] 72)) E0.out
   have e1 := ac (ab w5 (.cells #[.int .i64 p.el, .slice Ah p.hd.length ch, .int .i64 p.tag, .slice Ab p.bd.length cb] 72)) E1.out
   have eL := ac (ab w5 (.cells #[.int .i64 p.el, .slice Ah p.hd.length ch, .int .i64 p.tag, .slice Ab p.bd.length cb] 72)) EL.out
   have ph := Ph.out.go (ab w5 (.cells #[.int .i64 p.el, .slice Ah p.hd.length ch, .int .i64 p.tag, .slice Ab p.bd.length cb] 72))
   have pb := Pb.out.go (ab w5 (.cells #[.int .i64 p.el, .slice Ah p.hd.length ch, .int .i64 p.tag, .slice Ab p.bd.length cb] 72))
   have np6 := np5.out.go (ab w5 (.cells #[.int .i64 p.el, .slice Ah p.hd.length ch, .int .i64 p.tag, .slice Ab p.bd.length cb] 72))
   have sW6 : (w5.alloc (.cells #[.int .i64 p.el, .slice Ah p.hd.length ch, .int .i64 p.tag, .slice Ab p.bd.length cb] 72)).heap.size = w5.heap.size + 1 := by simp
   clear Ph Pb E0 E1 EL np5 Hc5
   generalize hgP : w5.heap.size = nP at *
   generalize w5.alloc (.cells #[.int .i64 p.el, .slice Ah p.hd.length ch, .int .i64 p.tag, .slice Ab p.bd.length cb] 72) = W6 at *
   have HS3 := hid (fun (wx : World) (hT : Tch [] W6 wx) => And.intro (aC (hT.row e0 (by simp))) (And.intro (aN (hT.row eL (by simp))) (show w.heap.size < wx.heap.size by have := hT.size; omega)))
   have HSe := hid (fun (wx : World) (hb : Below W6.heap.size W6 wx) => (HV.out _ (bt hW6 hb)).un.2.1.slB)
   have HW6 := hid hW6; have E0 := hid e0; have E1 := hid e1; have EP := hid eP; have Ph := hid ph; have Pb := hid pb; have Np6 := hid np6
   have yn6 : nl < W6.heap.size := (zn eL)
   clear hW6 e0 e1 eP eL ph pb np6 hgP
   go_cut [] (fun W7 => ∃ (A10 : Option Addr) (c10 : Nat), W7.heap[w.heap.size]? = some (.cells #[.slice A1 x.mixes.length c1, .slice A10 (x.sent.length + 1) c10, .slice A3 x.net.length c3, .slice A4 x.got.length c4, .int .i64 x.made, .int .i64 x.lost] 33 (0, 0)) ∧ W7.heap[w.heap.size + 1]? = some (.cells #[.slice none 0 0, .slice none 0 0, .slice none 0 0, .slice none 0 0, .int .i64 0, .int .i64 0] 33 (0, 0)) ∧ W7.heap[nP]? = some (.cells #[.int .i64 p.el, .slice Ah p.hd.length ch, .int .i64 p.tag, .slice Ab p.bd.length cb] 72 (0, 0)) ∧ SlR (fun b => w.heap.size + 2 ≤ b) af W7 (.slice Ap names.length cp) names ∧ Own af 3 (w.heap.size + 2) W7 (.slice Ah p.hd.length ch) p.hd [] ∧ Own af 3 (w.heap.size + 2) W7 (.slice Ab p.bd.length cb) p.bd [] ∧ Below w.heap.size w W7 ∧ WdR (be R w.heap.size (w.heap.size + 2)) W7 (.agg #[.slice A1 x.mixes.length c1, .slice A10 (x.sent.length + 1) c10, .slice A3 x.net.length c3, .slice A4 x.got.length c4, .int .i64 (x.made + 1), .int .i64 x.lost]) ⟨x.mixes, x.sent ++ [⟨fr, dst, x.sent.length⟩], x.net, x.got, x.made + 1, x.lost⟩ ∧ W6.heap.size ≤ W7.heap.size)
   case first =>
    refine rgN [] 9 (by kernel_rfl) rfl (fun | none, _, _, _, _ => id | some _, _, _, _, _ => id) fun wf hH hbwf swf => ?_
    simp only [pw]
    refine ag [1, 2, 4] ?_
    iterate 3 (refine ra HS3.out rfl (by kernel_rfl) rfl (fun _ f => by go_simp; try with_reducible rfl) ?_; try simp only [pw])
    repeat' (first
     | (have t0 := hK0; clear t0; go_simp; (have la0 := hH.size; generalize hgw : World.alloc _ _ = wa0; obtain ⟨ea, hbC, sa0⟩ := aD hgw; clear hgw; (try replace ea5 := ac hbC ea5); have ea0 := ea; clear ea); refine hK0.out _ _ (hH.trans (Tch.of hbC)) (fun hH => ?_); clear hK0 K0; try simp only [pw])
     | (have t5 := hK5; clear t5; go_simp; (have la5 := hH.size; generalize hgw : World.alloc _ _ = wa5; obtain ⟨ea, hbC, sa5⟩ := aD hgw; clear hgw; (try replace ea0 := ac hbC ea0); (try replace hog := hog.go hbC); have ea5 := ea; clear ea); refine hK5.out _ _ (hH.trans (Tch.of hbC)) (fun hH => ?_); clear hK5 K5; try simp only [pw])
     | (have t3 := hK3; clear t3; (have lp3 := hH.size; refine cd rfl (.tmp 67) (.tmp 69) 30 rfl tLt dw (B := W6.heap.size) Tryz.underlying30 li lz0 lz1 lz2 rfl (by decide) (by decide) (v := .slice (some ⟨_, 0, none⟩) 0 0) (xs := []) rfl (eE ea0 la0) A2 x.sent.length c2 rfl (slE (HSe.out _ hH.nil)) (by simp; omega) (by omega) ?_; intro vg3 wg3 hog hgg3 hvg3; rw [List.nil_append] at hog; have hbP := hH.grow hgg3 (fun k hk hlt => by simp [Value.ownBlock] at hk; omega); have sg3 := hgg3.size; (try replace ea5 := aX hgg3 ea5 (by simp [Value.ownBlock]; omega)); clear hvg3); refine hK3.out _ _ (hbP) (fun hH => ?_); clear hK3 K3; try simp only [pw])
     | (have t6 := hK6; clear t6; (have lp6 := hH.size; refine cd rfl (.tmp 70) (.tmp 72) 30 rfl tLt dw (B := W6.heap.size) Tryz.underlying30 li lz0 lz1 lz2 rfl (by decide) (by decide) (v := vg3) rfl hog (some ⟨_, 0, none⟩) 1 1 rfl ⟨_, ez (cs := [.int .i64 fr, .int .i64 dst, .int .i64 x.sent.length]) (x := (⟨fr, dst, x.sent.length⟩ : Lt)) ea5 ⟨rfl, rfl⟩⟩ (by simp; omega) (by omega) ?_; intro vg6 wg6 hog6 hgg6 hvg6; have hbP := hH.grow hgg6 (fun k hk hlt => by have := (hog.top k hk).1; omega); obtain ⟨A10, c10, e10, _, _, _⟩ := hog6.form; rw [show (x.sent ++ [(⟨fr, dst, x.sent.length⟩ : Lt)]).length = x.sent.length + 1 from by simp] at e10; subst e10; clear hvg6); refine hK6.out _ _ (hbP) (fun hH => ?_); clear hK6 K6; try simp only [pw])
     | (refine tr 7 HS3.out rfl (by decide +kernel) rfl (fun _ f => by go_simp; try with_reducible rfl) ?_; try simp only [pw])
     | (refine rz 8 (by decide +kernel) rfl (fun K hK => ?_); have fC := HS3.out _ hH; go_simp; clear fC; refine hK.out _ _ ?_; clear hK K)
     | (refine rk (i := 0) [5] (by decide +kernel) (rc rfl (fun K0 hK0 => ?_) (rc rfl (fun K5 hK5 => ?_) rn)))
     | (refine rk (i := 3) [5] (by decide +kernel) (rc rfl (fun K3 hK3 => ?_) (rc rfl (fun K5 hK5 => ?_) rn)))
     | (refine rk (i := 0) [] (by decide +kernel) (rc rfl (fun K0 hK0 => ?_) rn))
     | (refine rk (i := 3) [] (by decide +kernel) (rc rfl (fun K3 hK3 => ?_) rn))
     | (refine rk (i := 5) [] (by decide +kernel) (rc rfl (fun K5 hK5 => ?_) rn))
     | (refine rk (i := 6) [] (by decide +kernel) (rc rfl (fun K6 hK6 => ?_) rn))
     | fail)
    all_goals
     have hF := hH.nil
     have hFs := hF.size
     have e0 : (wg6.setCell ⟨w.heap.size, 1, none⟩ (.slice A10 (x.sent.length + 1) c10)).heap[w.heap.size]? = some (.cells #[.slice A1 x.mixes.length c1, .slice A10 (x.sent.length + 1) c10, .slice A3 x.net.length c3, .slice A4 x.got.length c4, .int .i64 x.made, .int .i64 x.lost] 33 (0, 0)) := aI 1 _ (ac hF E0.out)
     have e1 : (wg6.setCell ⟨w.heap.size, 1, none⟩ (.slice A10 (x.sent.length + 1) c10)).heap[w.heap.size + 1]? = _ := (Below.heap_setCell _ _ _ _ (by dsimp only; omega)).trans (ac hF E1.out)
     have eP : (wg6.setCell ⟨w.heap.size, 1, none⟩ (.slice A10 (x.sent.length + 1) c10)).heap[nP]? = _ := (Below.heap_setCell _ _ _ _ (by dsimp only; omega)).trans (ac hF EP.out)
     have np7 := (Np6.out.go hF).set (p := ⟨w.heap.size, 1, none⟩) (u := .slice A10 (x.sent.length + 1) c10) (by dsimp only; omega)
     have ph7 := ax (Ph.out.go hF) (p := ⟨w.heap.size, 1, none⟩) (u := .slice A10 (x.sent.length + 1) c10) (by dsimp only; omega)
     have pb7 := ax (Pb.out.go hF) (p := ⟨w.heap.size, 1, none⟩) (u := .slice A10 (x.sent.length + 1) c10) (by dsimp only; omega)
     have hW7 := (bt HW6.out hF).setCell (p := ⟨w.heap.size, 1, none⟩) (by dsimp only; omega) (.slice A10 (x.sent.length + 1) c10)
     have hwd7 : WdR (be R w.heap.size (w.heap.size + 2)) (wg6.setCell ⟨w.heap.size, 1, none⟩ (.slice A10 (x.sent.length + 1) c10)) (.agg #[.slice A1 x.mixes.length c1, .slice A10 (x.sent.length + 1) c10, .slice A3 x.net.length c3, .slice A4 x.got.length c4, .int .i64 (x.made + 1), .int .i64 x.lost]) ⟨x.mixes, x.sent ++ [⟨fr, dst, x.sent.length⟩], x.net, x.got, x.made + 1, x.lost⟩ := by
      obtain ⟨m1, _, m3, m4⟩ := (HV.out _ (bt HW6.out hF)).un
      have hn := SlR.own2 (R := be R w.heap.size (w.heap.size + 2)) hog6 (fun b hb => ⟨hR b (by omega), .inr (by omega)⟩)
      refine WdR.set ?_ (aE (by dsimp only; omega) (by dsimp only; omega))
      exact ⟨_, _, _, _, rfl, m1, hn, m3, m4⟩
     have s7 : W6.heap.size ≤ (wg6.setCell ⟨w.heap.size, 1, none⟩ (.slice A10 (x.sent.length + 1) c10)).heap.size := by rw [al]; exact hFs
     clear hH hog hbC hbP hgg6 hgg3 ea0 ea5 sg3
     have HX := hid (show _ ∧ _ ∧ _ ∧ _ ∧ _ ∧ _ ∧ _ ∧ _ ∧ _ from ⟨e0, e1, eP, np7, ph7, pb7, hW7, hwd7, s7⟩)
     clear e0 e1 eP np7 ph7 pb7 hW7 hwd7 s7 hF hFs hog6
     go_wp2_with fail
     go_meet
     exact ⟨_, _, HX.out⟩
   case rest =>
    obtain ⟨A10, c10, e0, e1, eP, np7, ph7, pb7, hW7, hwd7, s7⟩ := hcut
    obtain ⟨W7, rfl⟩ : ∃ W7 : World, W7 = wc := ⟨_, rfl⟩
    obtain ⟨k0, k1, k2, k3, k4, k5, kf⟩ := aC e0
    have kf4 := kf 4
    have y7 : w.heap.size < W7.heap.size := by omega
    have E0 := hid e0; have E1 := hid e1; have EP := hid eP; have Ph7 := hid ph7; have Pb7 := hid pb7; have Np7 := hid np7; have HW7 := hid hW7; have HWd7 := hid hwd7
    clear e0 e1 eP ph7 pb7 np7 hW7 hwd7 kf
    go_upto_region 14 with fail
    have e0 : (W7.setCell ⟨w.heap.size, 4, none⟩ (.int .i64 (x.made + 1))).heap[w.heap.size]? = some (.cells #[.slice A1 x.mixes.length c1, .slice A10 (x.sent.length + 1) c10, .slice A3 x.net.length c3, .slice A4 x.got.length c4, .int .i64 (x.made + 1), .int .i64 x.lost] 33 (0, 0)) := aI 4 _ E0.out
    have e1 : (W7.setCell ⟨w.heap.size, 4, none⟩ (.int .i64 (x.made + 1))).heap[w.heap.size + 1]? = _ := (Below.heap_setCell _ _ _ _ (by dsimp only; omega)).trans E1.out
    have eP : (W7.setCell ⟨w.heap.size, 4, none⟩ (.int .i64 (x.made + 1))).heap[nP]? = _ := (Below.heap_setCell _ _ _ _ (by dsimp only; omega)).trans EP.out
    have np8 := Np7.out.set (p := ⟨w.heap.size, 4, none⟩) (u := .int .i64 (x.made + 1)) (by dsimp only; omega)
    have ph8 := ax Ph7.out (p := ⟨w.heap.size, 4, none⟩) (u := .int .i64 (x.made + 1)) (by dsimp only; omega)
    have pb8 := ax Pb7.out (p := ⟨w.heap.size, 4, none⟩) (u := .int .i64 (x.made + 1)) (by dsimp only; omega)
    have hW8 := HW7.out.setCell (p := ⟨w.heap.size, 4, none⟩) (by dsimp only; omega) (.int .i64 (x.made + 1))
    have hwd8 := HWd7.out.set (p := ⟨w.heap.size, 4, none⟩) (u := .int .i64 (x.made + 1)) (aE (by dsimp only; omega) (by dsimp only; omega))
    have s8 : W6.heap.size ≤ (W7.setCell ⟨w.heap.size, 4, none⟩ (.int .i64 (x.made + 1))).heap.size := by rw [al]; exact s7
    clear E0 E1 EP Ph7 Pb7 Np7 HW7 HWd7 k0 k1 k2 k3 k4 k5 kf4
    generalize W7.setCell ⟨w.heap.size, 4, none⟩ (.int .i64 (x.made + 1)) = W8 at *
    obtain ⟨bq, oq, rfl, _, hbq, hc0⟩ := np8.slB.int Hg0.out
    rw [Nat.add_zero] at hc0
    have HS4 := hid (fun (wx : World) (hT : Tch [] W8 wx) => And.intro (aC (hT.row e0 (by simp))) (And.intro (aC (hT.row e1 (by simp))) (And.intro (bh (hT.row eP (by simp))) (And.intro (hT.cell hc0 (by simp)) (show w.heap.size + 1 < wx.heap.size by have := hT.size; omega)))))
    have HPh := hid (fun (wx : World) (hb : Below W8.heap.size W8 wx) => (ph8.go hb).slB)
    have HPb := hid (fun (wx : World) (hb : Below W8.heap.size W8 wx) => (pb8.go hb).slB)
    have HWd := hid hwd8
    have HW8 := hid hW8
    clear e0 e1 eP np8 ph8 pb8 hW8 hwd8 hc0
    have hl0 : 0 < names.length := by omega
    refine rgN [] 7 (by kernel_rfl) rfl (fun | none, _, _, _, _ => id | some _, _, _, _, _ => id) fun wz hH hbwz swz => ?_
    simp only [pw]
    refine ag [0, 1, 2, 3, 4] ?_
    iterate 5 (refine ra HS4.out rfl (by kernel_rfl) rfl (fun _ f => by go_simp; try with_reducible rfl) ?_; try simp only [pw])
    refine rq 5 (by kernel_rfl) rfl fun K hK => ?_
    go_simp
    (go_at_call 113; refine (mF (be R w.heap.size (w.heap.size + 2)) ⟨x.mixes, x.sent ++ [⟨fr, dst, x.sent.length⟩], x.net, x.got, x.made + 1, x.lost⟩ _ n0 p _ _ _ _ false _ (fun b hb => ⟨hR b (by have := hH.size; omega), .inr (by have := hH.size; omega)⟩) (HWd.out.go hH.nil) HLim.out (HPh.out _ hH.nil) (HPb.out _ hH.nil) Hsm.out.1 Hsm.out.2).mono ?_; rintro e w9 ⟨v9, rfl, hw9, hbC⟩; obtain ⟨b1', f1, b2', f2, b3', f3, b4', f4, rfl⟩ := hw9.form; obtain ⟨_, ⟨q0, q1, q2, q3, q4, q5, qf⟩, _⟩ := HS4.out _ (hH.trans (Tch.of hbC)); have qf0 := qf 0; have qf1 := qf 1; have qf2 := qf 2; have qf3 := qf 3; have qf4 := qf 4; have qf5 := qf 5; have hb9 := hbC; have y19 : w.heap.size + 1 < w9.heap.size := (by have h1 := hH.size; have h2 := hbC.size; omega))
    refine hK.out _ _ (hH.trans (Tch.of hbC)) (fun hH => ?_)
    clear hK K
    refine rz 6 (by kernel_rfl) rfl fun K hK => ?_
    have fC := HS4.out _ hH
    go_simp
    clear fC
    refine hK.out _ _ ?_
    clear hK K
    have HF := hid (bt HW8.out (bt hbwz hb9))
    have HR := hid hw9
    clear hH hbC hw9 hb9 hbwz qf
    go_wp2_with fail
    refine bodyPost_ret (v := .agg #[.slice b1' (ew ⟨x.mixes, x.sent ++ [⟨fr, dst, x.sent.length⟩], x.net, x.got, x.made + 1, x.lost⟩ n0 p false).mixes.length f1, .slice b2' (ew ⟨x.mixes, x.sent ++ [⟨fr, dst, x.sent.length⟩], x.net, x.got, x.made + 1, x.lost⟩ n0 p false).sent.length f2, .slice b3' (ew ⟨x.mixes, x.sent ++ [⟨fr, dst, x.sent.length⟩], x.net, x.got, x.made + 1, x.lost⟩ n0 p false).net.length f3, .slice b4' (ew ⟨x.mixes, x.sent ++ [⟨fr, dst, x.sent.length⟩], x.net, x.got, x.made + 1, x.lost⟩ n0 p false).got.length f4, .int .i64 (ew ⟨x.mixes, x.sent ++ [⟨fr, dst, x.sent.length⟩], x.net, x.got, x.made + 1, x.lost⟩ n0 p false).made, .int .i64 (ew ⟨x.mixes, x.sent ++ [⟨fr, dst, x.sent.length⟩], x.net, x.got, x.made + 1, x.lost⟩ n0 p false).lost]) (by simp [results, Tryz.results66, go_sem, q0, q1, q2, q3, q4, q5]) rfl ⟨_, rfl, ?_, ?_⟩
    ·refine WdR.mono (R := be R w.heap.size (w.heap.size + 2)) ?_ (fun b _ h => h.1)
     repeat (refine WdR.set ?_ (aE (by dsimp only; omega) (by dsimp only; omega)))
     exact HR.out
    ·repeat (refine Below.setCell ?_ (by dsimp only; omega) _)
     exact HF.out
theorem uk (R : Nat → Prop) (x : Wd) (v : Value) (fr dst path : Int) (w : World) (hR : ∀ b, w.heap.size ≤ b → R b) (hv : WdR R w v x) (hx : VD 0 x) (hm : x.made < 999) :
  Calls Tryz.prog 66 #[v, .int .i64 fr, .int .i64 dst, .int .i64 path] w (b6 w R (dT x fr dst path)) := by
 by_cases hp : aL path = []
 ·rw [show dT x fr dst path = x from by unfold dT; rw [if_neg (fun h => h.2.2.1 hp)]]
  exact uu R x v fr dst path w hv hp
 ·by_cases hn : 12 ≤ x.sent.length
  ·rw [show dT x fr dst path = x from by unfold dT; rw [if_neg (fun h => by have := h.2.2.2.1; omega)]]
   exact ut R x v fr dst path w hv hp hn
  ·have hw : win (x.sent.length : Int) 0 11 = true := aH.2 (by omega)
   cases hl : ltB ⟨fr, dst, x.sent.length⟩ with
   | false =>
    rw [show dT x fr dst path = x from by
     unfold dT; rw [if_neg (fun h => by
      unfold ltB at hl; rw [h.1, h.2.1, hw] at hl; simp at hl)]]
    exact uq R x v fr dst path w hv hp hn hl
   | true =>
    have h1 : win fr 0 7 = true := by unfold ltB at hl; simp only [Bool.and_eq_true] at hl; exact hl.1
    have h2 : win dst 0 7 = true := by unfold ltB at hl; simp only [Bool.and_eq_true] at hl; exact hl.2.1
    rw [show dT x fr dst path = _ from by unfold dT; rw [if_pos ⟨h1, h2, hp, by omega, hm⟩]]
    exact rX R x v fr dst path w hR hv hx hm hp hn hl
theorem nQ (R : Nat → Prop) (x : Wd) (v : Value) (i : Nat) (k : Int) (w : World) (hv : WdR R w v x) (hw : win k 0 8 = false) :
  Calls Tryz.prog 114 #[v, .int .i64 i, .int .i64 k] w (b6 w R x) := by
 obtain ⟨A1, c1, A2, c2, A3, c3, A4, c4, rfl⟩ := hv.form
 have HV := hid (fun (wx : World) (hb : Below w.heap.size w wx) => hv.go hb)
 clear hv
 go_enter Tryz.func114, Tryz.ntmps114
 go_wp2_with (go_at_call 68; refine (aU _ _ _ _).mono ?_; rw [hw]; rintro e w' ⟨rfl, rfl⟩)
 refine bodyPost_ret (v := .agg #[.slice A1 x.mixes.length c1, .slice A2 x.sent.length c2, .slice A3 x.net.length c3, .slice A4 x.got.length c4, .int .i64 x.made, .int .i64 x.lost]) (by simp [results, Tryz.results114, go_sem]) rfl ⟨_, rfl, HV.out _ (by repeat (first | exact zm | apply ae | refine bA ?_ (by omega) | refine Below.setCell ?_ (by first | omega | simp <;> omega) _)), by repeat (first | exact zm | apply ae | refine bA ?_ (by omega) | refine Below.setCell ?_ (by first | omega | simp <;> omega) _)⟩
theorem nO (R : Nat → Prop) (x : Wd) (v : Value) (i : Nat) (t : Tr) (k : Int) (w : World) (hv : WdR R w v x) (hi : x.net[i]? = some t) (hw : win k 0 8 = true) (ht : t.ch = true) :
  Calls Tryz.prog 114 #[v, .int .i64 i, .int .i64 k] w (b6 w R x) := by
 obtain ⟨A1, c1, A2, c2, A3, c3, A4, c4, rfl⟩ := hv.form
 have hil := (List.getElem?_eq_some_iff.1 hi).1
 go_enter Tryz.func114, Tryz.ntmps114
 go_upto_region 1 with fail
 generalize hgw : World.alloc (World.alloc w _) _ = W0; obtain ⟨e0, e1, hW0, sW0⟩ := qB hgw; clear hgw
 have hv0 := hv.go hW0
 obtain ⟨gN, oN, vh, vb, rfl, _, hgW, _, _, t0, t1, t2, t3, t4, t5⟩ := hv0.un.2.2.1.slB.tr hi
 obtain ⟨k0, k1, k2, k3, k4, k5, kf⟩ := aC e0
 obtain ⟨q0, q1, q2, q3, q4, q5, qf, qf0, qf1, qf2, qf3, qf4, qf5⟩ := bs e1
 have kf0 := kf 0; have kf1 := kf 1; have kf2 := kf 2; have kf3 := kf 3; have kf4 := kf 4; have kf5 := kf 5
 have z0 : w.heap.size < W0.heap.size := by omega
 have z1 : w.heap.size + 1 < W0.heap.size := by omega
 rw [ht] at t5
 have Hv0 := hid (fun (wx : World) (hb : Below W0.heap.size W0 wx) => (hv.off 2 hW0).go hb)
 have HW0 := hid hW0
 clear hv hv0 hi ht e0 e1 hW0 kf qf
 go_wp2_with (go_at_call 68; refine (aU _ _ _ _).mono ?_; rw [hw]; rintro e w' ⟨rfl, rfl⟩)
 refine bodyPost_ret (v := .agg #[.slice A1 x.mixes.length c1, .slice A2 x.sent.length c2, .slice (some ⟨gN, oN, none⟩) x.net.length c3, .slice A4 x.got.length c4, .int .i64 x.made, .int .i64 x.lost]) (by simp [results, Tryz.results114, go_sem, q0, q1, q2, q3, q4, q5]) rfl ⟨_, rfl, ?_, ?_⟩
 ·refine WdR.mono (R := be R w.heap.size (w.heap.size + 2)) ?_ (fun b _ h => h.1)
  repeat (refine WdR.set ?_ (aE (by dsimp only; omega) (by dsimp only; omega)))
  exact Hv0.out _ (by repeat (first | exact zm | apply ae | refine bA ?_ (by omega) | refine Below.setCell ?_ (by first | omega | simp <;> omega) _))
 ·repeat (refine Below.setCell ?_ (by dsimp only; omega) _)
  exact HW0.out
theorem sN {x : Wd} {i : Nat} {t : Tr} {k : Nat} {nk : Int} (hk : win (k : Int) 0 8 = true) (ht : t.ch = false) (hn : t.pk.hd[k]? = some nk) : gI x i t (k : Int) = bS x (x.net.set i (chT t k ((nk + 1) % 991))) := by
 unfold gI; rw [if_pos ⟨hk, ht⟩]
 have : t.pk.hd.getD k 0 = nk := by rw [List.getD_eq_getElem?_getD, hn]; rfl
 simp only [Int.toNat_natCast, xk, chT, this]
theorem nN (R : Nat → Prop) (x : Wd) (v : Value) (i : Nat) (t : Tr) (k : Nat) (w : World) (hR : ∀ b, w.heap.size ≤ b → R b) (hv : WdR R w v x) (hx : VD 0 x) (hi : x.net[i]? = some t) (hw : win (k : Int) 0 8 = true) (ht : t.ch = false) :
  Calls Tryz.prog 114 #[v, .int .i64 i, .int .i64 k] w (b6 w R (gI x i t (k : Int))) := by
 have hk8 : k ≤ 8 := by have := aH.1 hw; omega
 obtain ⟨_, hpk⟩ := cL.1 (bR.1 hx.nt t (List.mem_of_getElem? hi))
 obtain ⟨_, ⟨hh9, hhn⟩, _, _⟩ := aA.1 hpk
 have hkl : k < t.pk.hd.length := by omega
 obtain ⟨nk, hnk⟩ := ai hkl
 obtain ⟨x0, x1⟩ := cD hhn hnk
 rw [sN hw ht hnk]
 have iwk : IntKind.i64.wrap (nk + 1) = nk + 1 := a9 (by omega)
 have hsm := hx.sm
 clear hx hpk hhn
 obtain ⟨A1, c1, A2, c2, A3, c3, A4, c4, rfl⟩ := hv.form
 have hil := (List.getElem?_eq_some_iff.1 hi).1
 go_enter Tryz.func114, Tryz.ntmps114
 go_upto_region 1 with fail
 generalize hgw : World.alloc (World.alloc w _) _ = W0; obtain ⟨e0, e1, hW0, sW0⟩ := qB hgw; clear hgw
 have hv0 := hv.go hW0
 obtain ⟨gN, oN, vh, vb, rfl, _, hgW, _, _, t0, t1, t2, t3, t4, t5⟩ := hv0.un.2.2.1.slB.tr hi
 obtain ⟨k0, k1, k2, k3, k4, k5, kf⟩ := aC e0
 obtain ⟨q0, q1, q2, q3, q4, q5, qf, qf0, qf1, qf2, qf3, qf4, qf5⟩ := bs e1
 have kf0 := kf 0; have kf1 := kf 1; have kf2 := kf 2; have kf3 := kf 3; have kf4 := kf 4; have kf5 := kf 5
 have z0 : w.heap.size < W0.heap.size := by omega
 have z1 : w.heap.size + 1 < W0.heap.size := by omega
 rw [ht] at t5
 have Hv0 := hid (fun (wx : World) (hb : Below W0.heap.size W0 wx) => (hv0.go hb).wdB)
 have HW0 := hid hW0; have E0 := hid e0; have E1 := hid e1; have Hi := hid hi; have Hnk := hid hnk; have Hsm := hid hsm; have Hh9 := hid hh9
 clear hv hv0 hi ht e0 e1 hW0 kf qf hnk hsm hh9
 go_upto_region 3 with (go_at_call 68; refine (aU _ _ _ _).mono ?_; rw [hw]; rintro e w' ⟨rfl, rfl⟩)
 go_wp2_with fail
 refine (fe x _ _ (Hv0.out _ (by repeat (first | exact zm | apply ae | refine bA ?_ (by omega) | refine Below.setCell ?_ (by first | omega | simp <;> omega) _))) Hsm.out).mono ?_
 rintro e w1 ⟨um, us, un, ug, rfl, n1, hb1⟩
 obtain ⟨B1, d1, B2, d2, B3, d3, B4, d4, rfl, rfl, rfl, rfl⟩ := cQ n1
 have hc1 : Below w.heap.size w w1 := bt HW0.out hb1
 have b0 := ac hb1 E0.out
 have b1 := ac hb1 E1.out
 have z1 : w.heap.size + 1 < w1.heap.size := (zn b1)
 have z0 : w.heap.size < w1.heap.size := by omega
 clear k0 k1 k2 k3 k4 k5 q0 q1 q2 q3 q4 q5 t0 t1 t2 t3 t4 t5 kf0 kf1 kf2 kf3 kf4 kf5 qf0 qf1 qf2 qf3 qf4 qf5
 obtain ⟨k0, k1, k2, k3, k4, k5, kf⟩ := aC b0
 have kf0 := kf 0; have kf1 := kf 1; have kf2 := kf 2; have kf3 := kf 3; have kf4 := kf 4; have kf5 := kf 5
 have N1 := hid (n1.base (B' := w.heap.size + 2) (by omega)); have Hc1 := hid hc1; have Eb0 := hid b0; have Eb1 := hid b1
 clear n1 hb1 hc1 b0 b1 kf E0 E1 HW0 Hv0
 go_upto_region 4 with fail
 have b0 := eh (.slice B1 x.mixes.length d1) (.slice B2 x.sent.length d2) (.slice B3 x.net.length d3) (.slice B4 x.got.length d4) (.int .i64 x.made) (.int .i64 x.lost) Eb0.out
 have b1 := (dt (w := w1) (g := w.heap.size) (b0 := .slice B1 x.mixes.length d1) (b1 := .slice B2 x.sent.length d2) (b2 := .slice B3 x.net.length d3) (b3 := .slice B4 x.got.length d4) (b4 := .int .i64 x.made) (b5 := .int .i64 x.lost) (w.heap.size + 1) (by omega)).trans Eb1.out
 have n2 := (((((N1.out.set (p := ⟨w.heap.size, 0, none⟩) (u := .slice B1 x.mixes.length d1) (by dsimp only; omega)).set (p := ⟨w.heap.size, 1, none⟩) (u := .slice B2 x.sent.length d2) (by dsimp only; omega)).set (p := ⟨w.heap.size, 2, none⟩) (u := .slice B3 x.net.length d3) (by dsimp only; omega)).set (p := ⟨w.heap.size, 3, none⟩) (u := .slice B4 x.got.length d4) (by dsimp only; omega)).set (p := ⟨w.heap.size, 4, none⟩) (u := .int .i64 x.made) (by dsimp only; omega)).set (p := ⟨w.heap.size, 5, none⟩) (u := .int .i64 x.lost) (by dsimp only; omega)
 have hc2 := (((((Hc1.out.setCell (p := ⟨w.heap.size, 0, none⟩) (by dsimp only; omega) (.slice B1 x.mixes.length d1)).setCell (p := ⟨w.heap.size, 1, none⟩) (by dsimp only; omega) (.slice B2 x.sent.length d2)).setCell (p := ⟨w.heap.size, 2, none⟩) (by dsimp only; omega) (.slice B3 x.net.length d3)).setCell (p := ⟨w.heap.size, 3, none⟩) (by dsimp only; omega) (.slice B4 x.got.length d4)).setCell (p := ⟨w.heap.size, 4, none⟩) (by dsimp only; omega) (.int .i64 x.made)).setCell (p := ⟨w.heap.size, 5, none⟩) (by dsimp only; omega) (.int .i64 x.lost)
 have sz2 : w.heap.size + 2 ≤ ((((((((w1).setCell ⟨w.heap.size, 0, none⟩ (.slice B1 x.mixes.length d1)).setCell ⟨w.heap.size, 1, none⟩ (.slice B2 x.sent.length d2)).setCell ⟨w.heap.size, 2, none⟩ (.slice B3 x.net.length d3)).setCell ⟨w.heap.size, 3, none⟩ (.slice B4 x.got.length d4)).setCell ⟨w.heap.size, 4, none⟩ (.int .i64 x.made)).setCell ⟨w.heap.size, 5, none⟩ (.int .i64 x.lost))).heap.size := by simp only [al]; omega
 clear k0 k1 k2 k3 k4 k5 kf0 kf1 kf2 kf3 kf4 kf5 N1 Hc1 Eb0 Eb1 z0 z1
 generalize (((((((w1).setCell ⟨w.heap.size, 0, none⟩ (.slice B1 x.mixes.length d1)).setCell ⟨w.heap.size, 1, none⟩ (.slice B2 x.sent.length d2)).setCell ⟨w.heap.size, 2, none⟩ (.slice B3 x.net.length d3)).setCell ⟨w.heap.size, 3, none⟩ (.slice B4 x.got.length d4)).setCell ⟨w.heap.size, 4, none⟩ (.int .i64 x.made)).setCell ⟨w.heap.size, 5, none⟩ (.int .i64 x.lost)) = W1 at *
 obtain ⟨Fm, Fs, Fn, Fg, hr, hlo⟩ := Run.ofNew (B0 := w.heap.size) n2 b0 (by omega) (Nat.le_refl _)
 obtain ⟨g, gh, cc, ub, rfl, hgm, hghm, hne, y0, y1, y2, y3, y4, y5, hck, fzh, fzg, hcc, hset⟩ := Run.chg hr Hi.out Hnk.out
 have hg2 : w.heap.size + 2 ≤ g := hlo g (by simp only [List.mem_append]; exact .inr (.inr (.inl hgm)))
 have hgh2 : w.heap.size + 2 ≤ gh := hlo gh (by simp only [List.mem_append]; exact .inr (.inr (.inl hghm)))
 obtain ⟨k0, k1, k2, k3, k4, k5, kf⟩ := aC b0
 have fzk := fzh k
 have fz5 := fzg (i * 6 + 5)
 have hgl := World.block_lt_of_cell? _ _ y5
 have hghl := World.block_lt_of_cell? _ _ hck
 dsimp only at hgl hghl
 have z0 : w.heap.size < W1.heap.size := by omega
 have Hset := hid (hset ((nk + 1) % 991)); have Hlo := hid hlo; have Hc2 := hid hc2; have Eb0 := hid b0; have Eb1 := hid b1; have Hh9' := Hh9
 clear hset hlo hc2 b0 b1 hr n2 kf fzh fzg hgm hghm
 go_upto_region 6 with fail
 have b0 : (W1.setCell ⟨gh, k, none⟩ (.int .i64 ((nk + 1) % 991))).heap[w.heap.size]? = _ := (Below.heap_setCell _ _ _ _ (by dsimp only; omega)).trans Eb0.out
 have b1 : (W1.setCell ⟨gh, k, none⟩ (.int .i64 ((nk + 1) % 991))).heap[w.heap.size + 1]? = _ := (Below.heap_setCell _ _ _ _ (by dsimp only; omega)).trans Eb1.out
 have fz5' : (W1.setCell ⟨gh, k, none⟩ (.int .i64 ((nk + 1) % 991))).frozen? ⟨g, i * 6 + 5, none⟩ = false := (di _ _ _ _).trans fz5
 have y5' : (W1.setCell ⟨gh, k, none⟩ (.int .i64 ((nk + 1) % 991))).cell? ⟨g, i * 6 + 5, none⟩ = some (.bool t.ch) := (World.cell?_setCell_other _ _ _ _ (fun e => hne (by injection e with e1; exact e1.symm))).trans y5
 have sW2 : (W1.setCell ⟨gh, k, none⟩ (.int .i64 ((nk + 1) % 991))).heap.size = W1.heap.size := al _ _ _
 have hc3 := Hc2.out.setCell (p := ⟨gh, k, none⟩) (by dsimp only; omega) (.int .i64 ((nk + 1) % 991))
 clear y0 y1 y2 y3 y4 y5 hck k0 k1 k2 k3 k4 k5 fzk fz5 Eb0 Eb1 Hc2
 generalize W1.setCell ⟨gh, k, none⟩ (.int .i64 ((nk + 1) % 991)) = W2 at *
 obtain ⟨k0, k1, k2, k3, k4, k5, kf⟩ := aC b0
 have hgl2 : g < W2.heap.size := by omega
 have z02 : w.heap.size < W2.heap.size := by omega
 have Eb0 := hid b0; have Eb1 := hid b1; have Hc3 := hid hc3
 clear b0 b1 hc3 kf
 go_upto_region 7 with fail
 have b0 : (W2.setCell ⟨g, i * 6 + 5, none⟩ (.bool true)).heap[w.heap.size]? = _ := (Below.heap_setCell _ _ _ _ (by dsimp only; omega)).trans Eb0.out
 have b1 : (W2.setCell ⟨g, i * 6 + 5, none⟩ (.bool true)).heap[w.heap.size + 1]? = _ := (Below.heap_setCell _ _ _ _ (by dsimp only; omega)).trans Eb1.out
 have sW3 : (W2.setCell ⟨g, i * 6 + 5, none⟩ (.bool true)).heap.size = W2.heap.size := al _ _ _
 have hc4 := Hc3.out.setCell (p := ⟨g, i * 6 + 5, none⟩) (by dsimp only; omega) (.bool true)
 clear k0 k1 k2 k3 k4 k5 Eb0 Eb1 Hc3 y5' fz5'
 generalize W2.setCell ⟨g, i * 6 + 5, none⟩ (.bool true) = W3 at *
 obtain ⟨k0, k1, k2, k3, k4, k5, kf⟩ := aC b0
 obtain ⟨q0, q1, q2, q3, q4, q5, qf, qf0, qf1, qf2, qf3, qf4, qf5⟩ := bs b1
 have z03 : w.heap.size < W3.heap.size := by omega
 have z13 : w.heap.size + 1 < W3.heap.size := by omega
 have Hc4 := hid hc4
 have hwr := Hset.out.wdR (P := be R w.heap.size (w.heap.size + 2)) (fun c hc => by have := Hlo.out c hc; exact ⟨hR c (by omega), .inr (by omega)⟩)
 rw [show (bS x (x.net.set i (chT t k ((nk + 1) % 991)))).made = x.made from rfl, show (bS x (x.net.set i (chT t k ((nk + 1) % 991)))).lost = x.lost from rfl] at hwr
 have Hwr := hid hwr
 clear b0 b1 kf qf hc4 hwr Hset Hlo
 go_wp2_with fail
 refine bodyPost_ret (v := .agg #[.slice B1 x.mixes.length d1, .slice B2 x.sent.length d2, .slice (some ⟨g, 0, none⟩) x.net.length d3, .slice B4 x.got.length d4, .int .i64 x.made, .int .i64 x.lost]) (by simp [results, Tryz.results114, go_sem, q0, q1, q2, q3, q4, q5]) rfl ⟨_, rfl, ?_, ?_⟩
 ·refine WdR.mono (R := be R w.heap.size (w.heap.size + 2)) ?_ (fun b _ h => h.1)
  repeat (refine WdR.set ?_ (aE (by dsimp only; omega) (by dsimp only; omega)))
  exact Hwr.out
 ·repeat (refine Below.setCell ?_ (by dsimp only; omega) _)
  exact Hc4.out
theorem qo (R : Nat → Prop) (x : Wd) (v : Value) (i : Nat) (t : Tr) (k : Int) (w : World) (hR : ∀ b, w.heap.size ≤ b → R b) (hv : WdR R w v x) (hx : VD 0 x) (hi : x.net[i]? = some t) :
  Calls Tryz.prog 114 #[v, .int .i64 i, .int .i64 k] w (b6 w R (gI x i t k)) := by
 cases hw : win k 0 8 with
 | false =>
  rw [show gI x i t k = x from by unfold gI; rw [if_neg (by rw [hw]; simp)]]
  exact nQ R x v i k w hv hw
 | true =>
  cases ht : t.ch with
  | true =>
   rw [show gI x i t k = x from by unfold gI; rw [if_neg (by rw [ht]; simp)]]
   exact nO R x v i t k w hv hi hw ht
  | false =>
   obtain ⟨k', rfl⟩ : ∃ k' : Nat, k = (k' : Int) := ⟨k.toNat, by have := aH.1 hw; omega⟩
   exact nN R x v i t k' w hR hv hx hi hw ht
end Go.Proofs.YtfaeojmndaplcaaGreatDoor
