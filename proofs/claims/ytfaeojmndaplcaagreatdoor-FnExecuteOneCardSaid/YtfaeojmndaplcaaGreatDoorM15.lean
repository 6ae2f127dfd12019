/- Texts that the last file leans on (part 15). -/
import Derived.Test.YtfaeojmndaplcaaGreatDoorM10
import Derived.Test.YtfaeojmndaplcaaGreatDoorM12
import Derived.Test.YtfaeojmndaplcaaGreatDoorM9
set_option linter.unusedVariables false
set_option linter.unusedSimpArgs false
set_option maxHeartbeats 4000000
set_option maxRecDepth 100000
namespace Go.Proofs.YtfaeojmndaplcaaGreatDoor
open Go Go.RowKit
theorem WdR.off {R : Nat → Prop} {w wx : World} {v : Value} {x : Wd} (k : Nat) (h : WdR R w v x) (hb : Below w.heap.size w wx) : WdR (be R w.heap.size (w.heap.size + k)) wx v x :=
 (h.mono (fun b hl hR => ⟨hR, .inl hl⟩)).go hb
section
variable {R : Nat → Prop} {w : World} {vm vs vn vg a b : Value} {x : Wd}
theorem WdR.un (h : WdR R w (.agg #[vm, vs, vn, vg, a, b]) x) : SlR R tMx w vm x.mixes ∧ SlR R tLt w vs x.sent ∧ SlR R tTr w vn x.net ∧ SlR R tLt w vg x.got := by
 obtain ⟨vm', vs', vn', vg', e, h1, h2, h3, h4⟩ := h
 simp at e
 obtain ⟨rfl, rfl, rfl, rfl, _, _⟩ := e
 exact ⟨h1, h2, h3, h4⟩
theorem WdR.los (h : WdR R w (.agg #[vm, vs, vn, vg, a, b]) x) : WdR R w (.agg #[vm, vs, vn, vg, .int .i64 x.made, .int .i64 (x.lost + 1)]) (dA x) := by
 obtain ⟨h1, h2, h3, h4⟩ := h.un
 exact ⟨_, _, _, _, rfl, h1, h2, h3, h4⟩
end
theorem yK {B : Nat} {w : World} {p : Pk} {uh ub : Value} {mix : Int} {cg : Bool} (h : aJ oPk B w [.int .i64 p.el, uh, .int .i64 p.tag, ub] p) :
  ∃ F, (∀ wx, Below w.heap.size w wx → tTr.E wx [.int .i64 mix, .int .i64 p.el, uh, .int .i64 p.tag, ub, .bool cg] ⟨mix, p, cg⟩ F) ∧ ∀ b ∈ F, B ≤ b ∧ b < w.heap.size := by
 obtain ⟨F, f1, f2, f3⟩ := kU (x := ⟨mix, p, cg⟩) h
 obtain ⟨F', g, hF⟩ := r8.2 f1
 exact ⟨F', fun wx hb => tTr.keep g (fun b hm => hb.block b (tTr.lt g b hm)), fun b hm => ⟨f3 b (hF b hm), tTr.lt g b hm⟩⟩
def Lim (x : Wd) : Prop := -1000000 ≤ x.lost ∧ x.lost ≤ 1000000 ∧ -1000000 ≤ x.made ∧ x.made ≤ 1000000
theorem qt (R : Nat → Prop) (x : Wd) (v : Value) (mix : Int) (p : Pk) (Ah Ab : Option Addr) (ch cb : Nat) (cg : Bool) (w : World) (hR : ∀ b, w.heap.size ≤ b → R b) (hv : WdR R w v x) (hl : Lim x) (hd : 10 ≤ x.net.length ∨ win mix 0 2 = false) :
  Calls Tryz.prog 113 #[v, .int .i64 mix, .agg #[.int .i64 p.el, .slice Ah p.hd.length ch, .int .i64 p.tag, .slice Ab p.bd.length cb], .bool cg] w (b6 w R (dA x)) := by
 obtain ⟨A1, c1, A2, c2, A3, c3, A4, c4, rfl⟩ := hv.form
 have HV := hid (fun (wx : World) (hb : Below w.heap.size w wx) => hv.go hb)
 obtain ⟨l1, l2, _, _⟩ := hl
 have iw : IntKind.i64.wrap (x.lost + 1) = x.lost + 1 := a9 (by omega)
 clear hv
 go_enter Tryz.func113, Tryz.ntmps113
 by_cases h10 : 10 ≤ x.net.length
 ·have i1 : decide ((10 : Int) ≤ (x.net.length : Int)) = true := decide_eq_true (by omega)
  clear hd h10
  go_wp2_with fail
  refine bodyPost_ret (v := .agg #[.slice A1 x.mixes.length c1, .slice A2 x.sent.length c2, .slice A3 x.net.length c3, .slice A4 x.got.length c4, .int .i64 x.made, .int .i64 (x.lost + 1)]) (by simp [results, Tryz.results113, go_sem]) rfl ⟨_, rfl, (HV.out _ (by repeat (first | exact zm | apply ae | refine bA ?_ (by omega) | refine Below.setCell ?_ (by first | omega | simp <;> omega) _))).los, by repeat (first | exact zm | apply ae | refine bA ?_ (by omega) | refine Below.setCell ?_ (by first | omega | simp <;> omega) _)⟩
 ·have i1 : decide ((10 : Int) ≤ (x.net.length : Int)) = false := decide_eq_false (by omega)
  have hw : win mix 0 2 = false := by rcases hd with h | h; exact absurd h h10; exact h
  clear hd h10
  go_wp2_with (go_at_call 68; refine (aU _ _ _ _).mono ?_; rw [hw]; rintro e w' ⟨rfl, rfl⟩)
  refine bodyPost_ret (v := .agg #[.slice A1 x.mixes.length c1, .slice A2 x.sent.length c2, .slice A3 x.net.length c3, .slice A4 x.got.length c4, .int .i64 x.made, .int .i64 (x.lost + 1)]) (by simp [results, Tryz.results113, go_sem]) rfl ⟨_, rfl, (HV.out _ (by repeat (first | exact zm | apply ae | refine bA ?_ (by omega) | refine Below.setCell ?_ (by first | omega | simp <;> omega) _))).los, by repeat (first | exact zm | apply ae | refine bA ?_ (by omega) | refine Below.setCell ?_ (by first | omega | simp <;> omega) _)⟩
theorem rW (R : Nat → Prop) (x : Wd) (v : Value) (mix : Int) (p : Pk) (Ah Ab : Option Addr) (ch cb : Nat) (cg : Bool) (w : World) (hR : ∀ b, w.heap.size ≤ b → R b) (hv : WdR R w v x) (h3 : SlB af w.heap.size w (.slice Ah p.hd.length ch) p.hd) (h4 : SlB af w.heap.size w (.slice Ab p.bd.length cb) p.bd) (hp1 : p.hd.length ≤ 1073741824) (hp2 : p.bd.length ≤ 1073741824) (hd : ¬ 10 ≤ x.net.length) (hw : win mix 0 2 = true) :
  Calls Tryz.prog 113 #[v, .int .i64 mix, .agg #[.int .i64 p.el, .slice Ah p.hd.length ch, .int .i64 p.tag, .slice Ab p.bd.length cb], .bool cg] w (b6 w R (bS x (x.net ++ [⟨mix, p, cg⟩]))) := by
 obtain ⟨i0, hi, hz0, hz1, hz2⟩ := info_parts lr
 obtain ⟨A1, c1, A2, c2, A3, c3, A4, c4, rfl⟩ := hv.form
 have i1 : decide ((10 : Int) ≤ (x.net.length : Int)) = false := decide_eq_false (by omega)
 go_enter Tryz.func113, Tryz.ntmps113
 go_wp2_with (go_at_call 68; refine (aU _ _ _ _).mono ?_; rw [hw]; rintro e w' ⟨rfl, rfl⟩)
 generalize hgw : World.alloc (World.alloc (World.alloc w _) _) _ = W0; obtain ⟨e0, e1, e2, hW0, sW0⟩ := mL hgw; clear hgw
 have HS := hid (fun (wx : World) (hT : Tch [] W0 wx) => And.intro (aC (ac hT.nil e0)) (And.intro (bh (ac hT.nil e1)) (And.intro (show w.heap.size < wx.heap.size by have := hT.size; omega) True.intro)))
 have HV := hid (fun (wx : World) (hb : Below W0.heap.size W0 wx) => hv.off 3 (bt hW0 hb))
 have HH := hid (fun (wx : World) (hb : Below W0.heap.size W0 wx) => h3.go (bt hW0 hb))
 have HB := hid (fun (wx : World) (hb : Below W0.heap.size W0 wx) => h4.go (bt hW0 hb))
 obtain ⟨FN, hsN0, hfN⟩ := hv.un.2.2.1
 have hsN := hsN0.below hW0 (fun b hm => hsN0.lt b hm)
 have hltN := hsN0.lt
 have E2 := hid e2
 clear hv h3 h4 hsN0 e2
 refine rgN [] 13 (by kernel_rfl) rfl (fun | none, _, _, _, _ => id | some _, _, _, _, _ => id) fun wd hH hbwd swd => ?_
 simp only [pw]
 refine ag [1, 2, 4, 5, 7] ?_
 iterate 5 (refine ra HS.out rfl (by kernel_rfl) rfl (fun _ f => by go_simp; try with_reducible rfl) ?_; try simp only [pw])
 refine rq 0 (by kernel_rfl) rfl fun K hK => ?_
 go_simp
 (generalize hgw : World.alloc _ _ = wa0; obtain ⟨ea0, hbC, sa0⟩ := aD hgw; have hb0 := hbC; clear hgw)
 refine hK.out _ _ (hH.trans (Tch.of hbC)) (fun hH => ?_)
 clear hK K
 refine rq 3 (by kernel_rfl) rfl fun K hK => ?_
 (refine aZ rfl (.tmp 23) (.tmp 25) 31 rfl tTr (B := w.heap.size + 3) Tryz.underlying31 hi hz0 hz1 hz2 rfl (by decide) (v := .slice (some ⟨_, 0, none⟩) 0 0) (xs := []) rfl (eE ea0 (by omega)) A3 x.net.length c3 rfl (hsN.below hH.nil (fun b hm => hsN.lt b hm)) (fun b hb hm => by have := hsN.lt b (List.mem_of_mem_tail hm); simp [Value.ownBlock] at hb; omega) (by simp; omega) (by simp [maxLen]; omega) (by omega) ?_; intro v3 w3 ho3 hg3 hv3; have hbP := hH.grow hg3 (fun k hk hlt => by simp [Value.ownBlock] at hk; omega); have sg3 := hg3.size)
 refine hK.out _ _ (hbP) (fun hH => ?_)
 clear hK K
 refine rq 6 (by kernel_rfl) rfl fun K hK => ?_
 go_simp
 (go_at_call 71; refine (iQ p _ _ _ (HH.out _ hH.nil) (HB.out _ hH.nil) hp1 hp2).mono ?_; rintro e w6 ⟨uh, ub, rfl, n6, hbC⟩; obtain ⟨A5, c5, A6, c6, rfl, rfl⟩ := eQ n6; obtain ⟨F6, hE6, hF6⟩ := yK (mix := mix) (cg := cg) n6; have hb6 := hbC; have sb6 := hbC.size)
 refine hK.out _ _ (hH.trans (Tch.of hbC)) (fun hH => ?_)
 clear hK K
 refine tr 8 HS.out rfl (by kernel_rfl) rfl (fun _ f => by go_simp; try with_reducible rfl) ?_
 try simp only [pw]
 refine rq 9 (by kernel_rfl) rfl fun K hK => ?_
 go_simp
 (generalize hgw : World.alloc _ _ = wa9; obtain ⟨ea9, hbC, sa9⟩ := aD hgw; have hb9 := hbC; clear hgw)
 refine hK.out _ _ (hH.trans (Tch.of hbC)) (fun hH => ?_)
 clear hK K
 refine rq 10 (by kernel_rfl) rfl fun K hK => ?_
 (refine aZ rfl (.tmp 26) (.tmp 32) 31 rfl tTr (B := w.heap.size + 3) Tryz.underlying31 hi hz0 hz1 hz2 rfl (by decide) (v := v3) rfl ((ho3.go hb6).go hb9) (some ⟨_, 0, none⟩) 1 1 rfl (ez (cs := [.int .i64 mix, .int .i64 p.el, .slice A5 p.hd.length c5, .int .i64 p.tag, .slice A6 p.bd.length c6, .bool cg]) ea9 (hE6 _ hb9)) (fun b hb hm => by have h1 := (ho3.top b hb).2; have h2 := (hF6 b hm).1; omega) (by simp; omega) (by simp [maxLen]; omega) (by omega) ?_; intro v10 w10 ho10 hg10 hv10; simp only [List.nil_append] at ho10; have hbP := hH.grow hg10 (fun k hk hlt => by rcases hv3 with e | e; (rw [e] at hk; simp [Value.ownBlock] at hk; omega); (rw [e] at hk; simp at hk; omega)); obtain ⟨A10, c10, e10, _, _, _⟩ := ho10.form; rw [show (x.net ++ [(⟨mix, p, cg⟩ : Tr)]).length = x.net.length + 1 from by simp] at e10; subst e10)
 refine hK.out _ _ (hbP) (fun hH => ?_)
 clear hK K
 refine tr 11 HS.out rfl (by kernel_rfl) rfl (fun _ f => by go_simp; try with_reducible rfl) ?_
 try simp only [pw]
 refine rz 12 (by kernel_rfl) rfl fun K hK => ?_
 have fC := HS.out _ hH
 go_simp
 clear fC
 refine hK.out _ _ ?_
 clear hK K
 have hF := hH.nil
 obtain ⟨⟨k0, k1, k2, k3, k4, k5, kf⟩, _, _⟩ := HS.out _ hH
 have hk0 : w.heap.size < w10.heap.size := by have := hF.size; omega
 have hk2 : w.heap.size + 1 + 1 < w10.heap.size := by have := hF.size; omega
 obtain ⟨q0, q1, q2, q3, q4, q5, qf⟩ := aC (ac hF E2.out)
 have kf0 := kf 0; have kf1 := kf 1; have kf2 := kf 2; have kf3 := kf 3; have kf4 := kf 4; have kf5 := kf 5
 have qf0 := qf 0; have qf1 := qf 1; have qf2 := qf 2; have qf3 := qf 3; have qf4 := qf 4; have qf5 := qf 5
 have hm := HV.out _ hF
 have hn := SlR.of_own (R := be R w.heap.size (w.heap.size + 3)) ho10 (fun b hb => ⟨hR b (by omega), .inr hb⟩) (fun b hb => by
  simp only [List.nil_append, List.mem_append, List.tail_cons] at hb
  rcases hb with hb | hb
  ·exact ⟨hfN b (List.mem_of_mem_tail hb), .inl (hltN b (List.mem_of_mem_tail hb))⟩
  ·have h1 := (hF6 b hb).1; have h2 := hH.size; exact ⟨hR b (by omega), .inr (by omega)⟩)
 have HM := hid hm; have HN := hid hn; have HF := hid (bt hW0 hF)
 clear hm hn hF hH ho10 hbC hbP hg10 hv10 ho3 hg3 hv3 qf kf
 go_wp2
 refine bodyPost_ret (v := .agg #[.slice A1 x.mixes.length c1, .slice A2 x.sent.length c2, .slice A10 (x.net.length + 1) c10, .slice A4 x.got.length c4, .int .i64 x.made, .int .i64 x.lost]) (by simp [results, Tryz.results113, go_sem, q0, q1, q2, q3, q4, q5]) rfl ⟨_, rfl, ?_, ?_⟩
 ·refine WdR.mono (R := be R w.heap.size (w.heap.size + 3)) ?_ (fun b _ h => h.1)
  repeat (refine WdR.set ?_ (aE (by dsimp only; omega) (by dsimp only; omega)))
  obtain ⟨m1, m2, _, m4⟩ := HM.out.un
  exact ⟨_, _, _, _, rfl, m1, m2, HN.out, m4⟩
 ·repeat (refine Below.setCell ?_ (by dsimp only; omega) _)
  exact HF.out
theorem mF (R : Nat → Prop) (x : Wd) (v : Value) (mix : Int) (p : Pk) (Ah Ab : Option Addr) (ch cb : Nat) (cg : Bool) (w : World) (hR : ∀ b, w.heap.size ≤ b → R b) (hv : WdR R w v x) (hl : Lim x) (h3 : SlB af w.heap.size w (.slice Ah p.hd.length ch) p.hd) (h4 : SlB af w.heap.size w (.slice Ab p.bd.length cb) p.bd) (hp1 : p.hd.length ≤ 1073741824) (hp2 : p.bd.length ≤ 1073741824) :
  Calls Tryz.prog 113 #[v, .int .i64 mix, .agg #[.int .i64 p.el, .slice Ah p.hd.length ch, .int .i64 p.tag, .slice Ab p.bd.length cb], .bool cg] w (b6 w R (ew x mix p cg)) := by
 by_cases hd : 10 ≤ x.net.length ∨ win mix 0 2 = false
 ·have hr : ew x mix p cg = dA x := by unfold ew; rw [if_pos hd]
  rw [hr]
  exact qt R x v mix p Ah Ab ch cb cg w hR hv hl hd
 ·have hr : ew x mix p cg = bS x (x.net ++ [⟨mix, p, cg⟩]) := by unfold ew; rw [if_neg hd]
  rw [hr]
  refine rW R x v mix p Ah Ab ch cb cg w hR hv h3 h4 hp1 hp2 (fun h => hd (.inl h)) ?_
  cases hw : win mix 0 2 with
  | true => rfl
  | false => exact absurd (.inr hw) hd
theorem VD.lim {d : Nat} {x : Wd} (h : VD d x) : Lim x := by
 have := h.l0; have := h.l1; have := h.md
 unfold Lim; omega
theorem SlR.own2 {α : Type} {R : Nat → Prop} {T : Ty α} {e B : Nat} {w : World} {v : Value} {xs : List α} (h : Own T e B w v xs []) (hB : ∀ b, B ≤ b → R b) : SlR R T w v xs := .of_own h hB (fun _ hm => by cases hm)
theorem mB (R : Nat → Prop) (x : Wd) (v : Value) (y : Pl) (Ah Ab : Option Addr) (nh ch cb : Nat) (w : World) (hR : ∀ b, w.heap.size ≤ b → R b) (hv : WdR R w v x) (hl : Lim x) (hg : x.got.length ≤ 1000000) (hbd : SlB af w.heap.size w (.slice Ab y.pk.bd.length cb) y.pk.bd) (hp : plB y = true) (ho : ef y.pk.bd = none) :
  Calls Tryz.prog 117 #[v, .agg #[.int .i64 y.kind, .int .i64 y.next, .int .i64 y.pk.el, .slice Ah nh ch, .int .i64 y.pk.tag, .slice Ab y.pk.bd.length cb]] w (b6 w R (dA x)) := by
 obtain ⟨A1, c1, A2, c2, A3, c3, A4, c4, rfl⟩ := hv.form
 obtain ⟨_, _, hk⟩ := bc.1 hp
 obtain ⟨_, _, ⟨hb6, hbn⟩, _⟩ := aA.1 hk
 obtain ⟨l1, l2, _, _⟩ := hl
 have iw : IntKind.i64.wrap (x.lost + 1) = x.lost + 1 := a9 (by omega)
 have HV := hid (fun (wx : World) (hb : Below w.heap.size w wx) => hv.off 3 hb)
 have HB := hid (fun (wx : World) (hb : Below w.heap.size w wx) => hbd.go hb)
 have Hb6 := hid hb6; have Hbn := hid hbn; have Ho := hid ho
 clear hv hbd hp hk hb6 hbn ho
 go_enter Tryz.func117, Tryz.ntmps117
 go_wp2_with fail
 refine (gT _ y.pk.bd _ (HB.out _ (by repeat (first | exact zm | apply ae | refine bA ?_ (by omega) | refine Below.setCell ?_ (by first | omega | simp <;> omega) _))) Hb6.out Hbn.out).mono ?_
 rw [Ho.out]
 rintro e w1 ⟨v1, rfl, n1, hb1⟩
 obtain ⟨e0, e1, e2⟩ := gH hb1
 have hc1 : Below w.heap.size w w1 := bt (by repeat (first | exact zm | apply ae | refine bA ?_ (by omega) | refine Below.setCell ?_ (by first | omega | simp <;> omega) _)) hb1
 have s1 : w.heap.size + 1 + 1 < w1.heap.size := (zn e2)
 have s1a : w.heap.size + 1 < w1.heap.size := by omega
 have s1b : w.heap.size < w1.heap.size := by omega
 obtain ⟨A5, c5, rfl, _, _, _⟩ := n1.slB.form
 obtain ⟨k0, k1, k2, k3, k4, k5, kf⟩ := aC e0
 obtain ⟨q0, q1, q2, q3, q4, q5, qf⟩ := aC e2
 have kf5 := kf 5
 have qf0 := qf 0; have qf1 := qf 1; have qf2 := qf 2; have qf3 := qf 3; have qf4 := qf 4; have qf5 := qf 5
 have Hc1 := hid hc1
 clear hc1 hb1 n1 e0 e1 e2 kf qf
 go_wp2_with fail
 refine bodyPost_ret (v := .agg #[.slice A1 x.mixes.length c1, .slice A2 x.sent.length c2, .slice A3 x.net.length c3, .slice A4 x.got.length c4, .int .i64 x.made, .int .i64 (x.lost + 1)]) (by simp [results, Tryz.results117, go_sem, q0, q1, q2, q3, q4, q5]) rfl ⟨_, rfl, ?_, ?_⟩
 ·refine WdR.mono (R := be R w.heap.size (w.heap.size + 3)) ?_ (fun b _ h => h.1)
  repeat (refine WdR.set ?_ (aE (by dsimp only; omega) (by dsimp only; omega)))
  exact (HV.out _ Hc1.out).los
 ·repeat (refine Below.setCell ?_ (by dsimp only; omega) _)
  exact Hc1.out
theorem nM (R : Nat → Prop) (x : Wd) (v : Value) (y : Pl) (Ah Ab : Option Addr) (nh ch cb : Nat) (w : World) (hR : ∀ b, w.heap.size ≤ b → R b) (hv : WdR R w v x) (hl : Lim x) (hg : x.got.length ≤ 1000000) (hbd : SlB af w.heap.size w (.slice Ab y.pk.bd.length cb) y.pk.bd) (hp : plB y = true) (l : List Int) (ho : ef y.pk.bd = some l) (hn : ¬ l.length = 2) :
  Calls Tryz.prog 117 #[v, .agg #[.int .i64 y.kind, .int .i64 y.next, .int .i64 y.pk.el, .slice Ah nh ch, .int .i64 y.pk.tag, .slice Ab y.pk.bd.length cb]] w (b6 w R (dA x)) := by
 obtain ⟨A1, c1, A2, c2, A3, c3, A4, c4, rfl⟩ := hv.form
 obtain ⟨_, _, hk⟩ := bc.1 hp
 obtain ⟨_, _, ⟨hb6, hbn⟩, _⟩ := aA.1 hk
 obtain ⟨l1, l2, _, _⟩ := hl
 have iw : IntKind.i64.wrap (x.lost + 1) = x.lost + 1 := a9 (by omega)
 have HV := hid (fun (wx : World) (hb : Below w.heap.size w wx) => hv.off 3 hb)
 have HB := hid (fun (wx : World) (hb : Below w.heap.size w wx) => hbd.go hb)
 have Hb6 := hid hb6; have Hbn := hid hbn; have Ho := hid ho
 clear hv hbd hp hk hb6 hbn ho
 go_enter Tryz.func117, Tryz.ntmps117
 go_wp2_with fail
 refine (gT _ y.pk.bd _ (HB.out _ (by repeat (first | exact zm | apply ae | refine bA ?_ (by omega) | refine Below.setCell ?_ (by first | omega | simp <;> omega) _))) Hb6.out Hbn.out).mono ?_
 rw [Ho.out]
 rintro e w1 ⟨v1, rfl, n1, hb1⟩
 simp only [Option.getD_some] at n1
 obtain ⟨e0, e1, e2⟩ := gH hb1
 have hc1 : Below w.heap.size w w1 := bt (by repeat (first | exact zm | apply ae | refine bA ?_ (by omega) | refine Below.setCell ?_ (by first | omega | simp <;> omega) _)) hb1
 have s1 : w.heap.size + 1 + 1 < w1.heap.size := (zn e2)
 have s1a : w.heap.size + 1 < w1.heap.size := by omega
 have s1b : w.heap.size < w1.heap.size := by omega
 obtain ⟨A5, c5, rfl, _, _, _⟩ := n1.slB.form
 have hnB : ((l.length : Int) != 2) = true := by simp; omega
 obtain ⟨k0, k1, k2, k3, k4, k5, kf⟩ := aC e0
 obtain ⟨q0, q1, q2, q3, q4, q5, qf⟩ := aC e2
 have kf5 := kf 5
 have qf0 := qf 0; have qf1 := qf 1; have qf2 := qf 2; have qf3 := qf 3; have qf4 := qf 4; have qf5 := qf 5
 have Hc1 := hid hc1
 clear hc1 hb1 n1 e0 e1 e2 kf qf
 go_wp2_with fail
 refine bodyPost_ret (v := .agg #[.slice A1 x.mixes.length c1, .slice A2 x.sent.length c2, .slice A3 x.net.length c3, .slice A4 x.got.length c4, .int .i64 x.made, .int .i64 (x.lost + 1)]) (by simp [results, Tryz.results117, go_sem, q0, q1, q2, q3, q4, q5]) rfl ⟨_, rfl, ?_, ?_⟩
 ·refine WdR.mono (R := be R w.heap.size (w.heap.size + 3)) ?_ (fun b _ h => h.1)
  repeat (refine WdR.set ?_ (aE (by dsimp only; omega) (by dsimp only; omega)))
  exact (HV.out _ Hc1.out).los
 ·repeat (refine Below.setCell ?_ (by dsimp only; omega) _)
  exact Hc1.out
theorem nK (R : Nat → Prop) (x : Wd) (v : Value) (y : Pl) (Ah Ab : Option Addr) (nh ch cb : Nat) (w : World) (hR : ∀ b, w.heap.size ≤ b → R b) (hv : WdR R w v x) (hl : Lim x) (hg : x.got.length ≤ 1000000) (hbd : SlB af w.heap.size w (.slice Ab y.pk.bd.length cb) y.pk.bd) (hp : plB y = true) (a b : Int) (ho : ef y.pk.bd = some [a, b]) (hn : ltB ⟨a, y.next, b⟩ = false) :
  Calls Tryz.prog 117 #[v, .agg #[.int .i64 y.kind, .int .i64 y.next, .int .i64 y.pk.el, .slice Ah nh ch, .int .i64 y.pk.tag, .slice Ab y.pk.bd.length cb]] w (b6 w R (dA x)) := by
 have Hn := hid hn
 clear hn
 obtain ⟨A1, c1, A2, c2, A3, c3, A4, c4, rfl⟩ := hv.form
 obtain ⟨_, _, hk⟩ := bc.1 hp
 obtain ⟨_, _, ⟨hb6, hbn⟩, _⟩ := aA.1 hk
 obtain ⟨l1, l2, _, _⟩ := hl
 have iw : IntKind.i64.wrap (x.lost + 1) = x.lost + 1 := a9 (by omega)
 have HV := hid (fun (wx : World) (hb : Below w.heap.size w wx) => hv.off 3 hb)
 have HB := hid (fun (wx : World) (hb : Below w.heap.size w wx) => hbd.go hb)
 have Hb6 := hid hb6; have Hbn := hid hbn; have Ho := hid ho
 clear hv hbd hp hk hb6 hbn ho
 go_enter Tryz.func117, Tryz.ntmps117
 go_wp2_with fail
 refine (gT _ y.pk.bd _ (HB.out _ (by repeat (first | exact zm | apply ae | refine bA ?_ (by omega) | refine Below.setCell ?_ (by first | omega | simp <;> omega) _))) Hb6.out Hbn.out).mono ?_
 rw [Ho.out]
 rintro e w1 ⟨v1, rfl, n1, hb1⟩
 simp only [Option.getD_some] at n1
 obtain ⟨e0, e1, e2⟩ := gH hb1
 have hc1 : Below w.heap.size w w1 := bt (by repeat (first | exact zm | apply ae | refine bA ?_ (by omega) | refine Below.setCell ?_ (by first | omega | simp <;> omega) _)) hb1
 have s1 : w.heap.size + 1 + 1 < w1.heap.size := (zn e2)
 have s1a : w.heap.size + 1 < w1.heap.size := by omega
 have s1b : w.heap.size < w1.heap.size := by omega
 obtain ⟨A5, c5, rfl, _, _, _⟩ := n1.slB.form
 have hnB : (((2 : Nat) : Int) != 2) = false := by simp
 obtain ⟨bb, ob, rfl, hbz, hbz', hc0⟩ := n1.slB.int (i := 0) (x := a) rfl
 obtain ⟨bb', ob', e', _, _, hcc1⟩ := n1.slB.int (i := 1) (x := b) rfl
 injection e' with e'; injection e' with ee1 ee2; subst ee1 ee2
 rw [Nat.add_zero] at hc0
 have HS := hid (fun (wx : World) (hT : Tch [] w1 wx) => And.intro (hT.cell hc0 (by simp)) (And.intro (hT.cell hcc1 (by simp)) (aC (hT.row e1 (by simp)))))
 have Hc1 := hid hc1; have E0 := hid e0; have E2 := hid e2
 clear hc1 hb1 n1 e0 e1 e2 hc0 hcc1
 go_wp2_with fail
 refine rgN [] 11 (by kernel_rfl) rfl (fun | none, _, _, _, _ => id | some _, _, _, _, _ => id) fun wd hH hbwd swd => ?_
 simp only [pw]
 refine ag [0, 1, 2, 3, 4, 5, 6, 7, 8] ?_
 iterate 9 (refine ra HS.out rfl (by kernel_rfl) rfl (fun _ f => by go_simp; try with_reducible rfl) ?_; try simp only [pw])
 refine rq 9 (by kernel_rfl) rfl fun K hK => ?_
 go_simp
 (generalize hgw : World.alloc _ _ = w9; obtain ⟨e9, hbC, s9⟩ := aD hgw; have hb9 := hbC; clear hgw; obtain ⟨z0, z1, z2, zf⟩ := aN e9; have zf0 := zf 0; have zf1 := zf 1; have zf2 := zf 2)
 refine hK.out _ _ (hH.trans (Tch.of hbC)) (fun hH => ?_)
 clear hK K
 refine rz 10 (by kernel_rfl) rfl fun K hK => ?_
 have fC := HS.out _ hH
 go_simp
 clear fC
 refine hK.out _ _ ?_
 clear hK K
 have e9' := aI 2 (.int .i64 b) (aI 1 (.int .i64 y.next) (aI 0 (.int .i64 a) e9))
 have hb2 := ((((Below.refl w1.heap.size w1).trans (hbwd.trans (hb9.mono (by omega)))).setCell (p := ⟨wd.heap.size, 0, none⟩) (by dsimp only; omega) (.int .i64 a)).setCell (p := ⟨wd.heap.size, 1, none⟩) (by dsimp only; omega) (.int .i64 y.next)).setCell (p := ⟨wd.heap.size, 2, none⟩) (by dsimp only; omega) (.int .i64 b)
 clear hH hbC hb9 e9 z0 z1 z2 zf zf0 zf1 zf2
 generalize ((w9.setCell ⟨wd.heap.size, 0, none⟩ (.int .i64 a)).setCell ⟨wd.heap.size, 1, none⟩ (.int .i64 y.next)).setCell ⟨wd.heap.size, 2, none⟩ (.int .i64 b) = w2 at *
 obtain ⟨t0, t1, t2, _⟩ := aN e9'
 go_wp2_with fail
 refine (ej ⟨a, y.next, b⟩ _).mono ?_
 rw [Hn.out]
 rintro e w3 ⟨rfl, hb3⟩
 have s3 := hb3.size
 have s2 := hb2.size
 have e0 := ac hb3 (ac hb2 E0.out)
 have e2 := ac hb3 (ac hb2 E2.out)
 have e9 := ac hb3 e9'
 have hc3 := bt (bt Hc1.out hb2) hb3
 have z3 : w.heap.size + 1 + 1 < w3.heap.size := by omega
 have z3a : w.heap.size + 1 < w3.heap.size := by omega
 have z3b : w.heap.size < w3.heap.size := by omega
 obtain ⟨k0, k1, k2, k3, k4, k5, kf⟩ := aC e0
 have kf5 := kf 5
 obtain ⟨q0, q1, q2, q3, q4, q5, qf, qf0, qf1, qf2, qf3, qf4, qf5⟩ := bs e2
 have Hc3 := hid hc3
 clear hc3 hb2 hb3 e9' e9 e0 e2 kf qf
 go_wp2_with fail
 refine bodyPost_ret (v := .agg #[.slice A1 x.mixes.length c1, .slice A2 x.sent.length c2, .slice A3 x.net.length c3, .slice A4 x.got.length c4, .int .i64 x.made, .int .i64 (x.lost + 1)]) (by simp [results, Tryz.results117, go_sem, q0, q1, q2, q3, q4, q5]) rfl ⟨_, rfl, ?_, ?_⟩
 ·refine WdR.mono (R := be R w.heap.size (w.heap.size + 3)) ?_ (fun b _ h => h.1)
  repeat (refine WdR.set ?_ (aE (by dsimp only; omega) (by dsimp only; omega)))
  exact (HV.out _ Hc3.out).los
 ·repeat (refine Below.setCell ?_ (by dsimp only; omega) _)
  exact Hc3.out
theorem nL (R : Nat → Prop) (x : Wd) (v : Value) (y : Pl) (Ah Ab : Option Addr) (nh ch cb : Nat) (w : World) (hR : ∀ b, w.heap.size ≤ b → R b) (hv : WdR R w v x) (hl : Lim x) (hg : x.got.length ≤ 1000000) (hbd : SlB af w.heap.size w (.slice Ab y.pk.bd.length cb) y.pk.bd) (hp : plB y = true) (a b : Int) (ho : ef y.pk.bd = some [a, b]) (hn : ltB ⟨a, y.next, b⟩ = true) :
  Calls Tryz.prog 117 #[v, .agg #[.int .i64 y.kind, .int .i64 y.next, .int .i64 y.pk.el, .slice Ah nh ch, .int .i64 y.pk.tag, .slice Ab y.pk.bd.length cb]] w (b6 w R ⟨x.mixes, x.sent, x.net, x.got ++ [⟨a, y.next, b⟩], x.made, x.lost⟩) := by
 obtain ⟨i0, hi, hz0, hz1, hz2⟩ := info_parts lq
 have Hn := hid hn
 clear hn
 obtain ⟨A1, c1, A2, c2, A3, c3, A4, c4, rfl⟩ := hv.form
 obtain ⟨_, _, hk⟩ := bc.1 hp
 obtain ⟨_, _, ⟨hb6, hbn⟩, _⟩ := aA.1 hk
 obtain ⟨l1, l2, _, _⟩ := hl
 have iw : IntKind.i64.wrap (x.lost + 1) = x.lost + 1 := a9 (by omega)
 have HV := hid (fun (wx : World) (hb : Below w.heap.size w wx) => hv.off 3 hb)
 have HB := hid (fun (wx : World) (hb : Below w.heap.size w wx) => hbd.go hb)
 have Hb6 := hid hb6; have Hbn := hid hbn; have Ho := hid ho
 clear hv hbd hp hk hb6 hbn ho
 go_enter Tryz.func117, Tryz.ntmps117
 go_wp2_with fail
 refine (gT _ y.pk.bd _ (HB.out _ (by repeat (first | exact zm | apply ae | refine bA ?_ (by omega) | refine Below.setCell ?_ (by first | omega | simp <;> omega) _))) Hb6.out Hbn.out).mono ?_
 rw [Ho.out]
 rintro e w1 ⟨v1, rfl, n1, hb1⟩
 simp only [Option.getD_some] at n1
 obtain ⟨e0, e1, e2⟩ := gH hb1
 have hc1 : Below w.heap.size w w1 := bt (by repeat (first | exact zm | apply ae | refine bA ?_ (by omega) | refine Below.setCell ?_ (by first | omega | simp <;> omega) _)) hb1
 have s1 : w.heap.size + 1 + 1 < w1.heap.size := (zn e2)
 have s1a : w.heap.size + 1 < w1.heap.size := by omega
 have s1b : w.heap.size < w1.heap.size := by omega
 obtain ⟨A5, c5, rfl, _, _, _⟩ := n1.slB.form
 have hnB : (((2 : Nat) : Int) != 2) = false := by simp
 obtain ⟨bb, ob, rfl, hbz, hbz', hc0⟩ := n1.slB.int (i := 0) (x := a) rfl
 obtain ⟨bb', ob', e', _, _, hcc1⟩ := n1.slB.int (i := 1) (x := b) rfl
 injection e' with e'; injection e' with ee1 ee2; subst ee1 ee2
 rw [Nat.add_zero] at hc0
 have HS := hid (fun (wx : World) (hT : Tch [] w1 wx) => And.intro (hT.cell hc0 (by simp)) (And.intro (hT.cell hcc1 (by simp)) (aC (hT.row e1 (by simp)))))
 have Hc1 := hid hc1; have E0 := hid e0; have E2 := hid e2
 clear hc1 hb1 n1 e0 e1 e2 hc0 hcc1
 go_wp2_with fail
 refine rgN [] 11 (by kernel_rfl) rfl (fun | none, _, _, _, _ => id | some _, _, _, _, _ => id) fun wd hH hbwd swd => ?_
 simp only [pw]
 refine ag [0, 1, 2, 3, 4, 5, 6, 7, 8] ?_
 iterate 9 (refine ra HS.out rfl (by kernel_rfl) rfl (fun _ f => by go_simp; try with_reducible rfl) ?_; try simp only [pw])
 refine rq 9 (by kernel_rfl) rfl fun K hK => ?_
 go_simp
 (generalize hgw : World.alloc _ _ = w9; obtain ⟨e9, hbC, s9⟩ := aD hgw; have hb9 := hbC; clear hgw; obtain ⟨z0, z1, z2, zf⟩ := aN e9; have zf0 := zf 0; have zf1 := zf 1; have zf2 := zf 2)
 refine hK.out _ _ (hH.trans (Tch.of hbC)) (fun hH => ?_)
 clear hK K
 refine rz 10 (by kernel_rfl) rfl fun K hK => ?_
 have fC := HS.out _ hH
 go_simp
 clear fC
 refine hK.out _ _ ?_
 clear hK K
 have e9' := aI 2 (.int .i64 b) (aI 1 (.int .i64 y.next) (aI 0 (.int .i64 a) e9))
 have hb2 := ((((Below.refl w1.heap.size w1).trans (hbwd.trans (hb9.mono (by omega)))).setCell (p := ⟨wd.heap.size, 0, none⟩) (by dsimp only; omega) (.int .i64 a)).setCell (p := ⟨wd.heap.size, 1, none⟩) (by dsimp only; omega) (.int .i64 y.next)).setCell (p := ⟨wd.heap.size, 2, none⟩) (by dsimp only; omega) (.int .i64 b)
 clear hH hbC hb9 e9 z0 z1 z2 zf zf0 zf1 zf2
 generalize ((w9.setCell ⟨wd.heap.size, 0, none⟩ (.int .i64 a)).setCell ⟨wd.heap.size, 1, none⟩ (.int .i64 y.next)).setCell ⟨wd.heap.size, 2, none⟩ (.int .i64 b) = w2 at *
 obtain ⟨t0, t1, t2, _⟩ := aN e9'
 go_wp2_with fail
 refine (ej ⟨a, y.next, b⟩ _).mono ?_
 rw [Hn.out]
 rintro e w3 ⟨rfl, hb3⟩
 have s3 := hb3.size
 have s2 := hb2.size
 have e0 := ac hb3 (ac hb2 E0.out)
 have e2 := ac hb3 (ac hb2 E2.out)
 have e9 := ac hb3 e9'
 have hc3 := bt (bt Hc1.out hb2) hb3
 have z3 : w.heap.size + 1 + 1 < w3.heap.size := by omega
 have z3a : w.heap.size + 1 < w3.heap.size := by omega
 have z3b : w.heap.size < w3.heap.size := by omega
 obtain ⟨k0, k1, k2, k3, k4, k5, kf⟩ := aC e0
 have kf5 := kf 5
 obtain ⟨q0, q1, q2, q3, q4, q5, qf, qf0, qf1, qf2, qf3, qf4, qf5⟩ := bs e2
 have HS3 := hid (fun (wx : World) (hT : Tch [] w3 wx) => And.intro (aC (hT.row e0 (by simp))) (And.intro (aN (hT.row e9 (by simp))) (show w.heap.size < wx.heap.size by have := hT.size; omega)))
 have HGo := hid (fun (wx : World) (hb : Below w3.heap.size w3 wx) => (HV.out _ (bt hc3 hb)).un.2.2.2.slB)
 have Hc3 := hid hc3; have E2 := hid e2
 clear hc3 hb2 hb3 e9' e9 e0 e2 kf qf
 go_wp2_with fail
 refine rgN [] 9 (by kernel_rfl) rfl (fun | none, _, _, _, _ => id | some _, _, _, _, _ => id) fun wf hH hbwf swf => ?_
 simp only [pw]
 refine ag [1, 2, 4] ?_
 iterate 3 (refine ra HS3.out rfl (by kernel_rfl) rfl (fun _ f => by go_simp; try with_reducible rfl) ?_; try simp only [pw])
 repeat' (first
  | (have t0 := hK0; clear t0; go_simp; (have la0 := hH.size; generalize hgw : World.alloc _ _ = wa0; obtain ⟨ea, hbC, sa0⟩ := aD hgw; clear hgw; (try replace ea5 := ac hbC ea5); have ea0 := ea; clear ea); refine hK0.out _ _ (hH.trans (Tch.of hbC)) (fun hH => ?_); clear hK0 K0; try simp only [pw])
  | (have t5 := hK5; clear t5; go_simp; (have la5 := hH.size; generalize hgw : World.alloc _ _ = wa5; obtain ⟨ea, hbC, sa5⟩ := aD hgw; clear hgw; (try replace ea0 := ac hbC ea0); (try replace hog := hog.go hbC); have ea5 := ea; clear ea); refine hK5.out _ _ (hH.trans (Tch.of hbC)) (fun hH => ?_); clear hK5 K5; try simp only [pw])
  | (have t3 := hK3; clear t3; (have lp3 := hH.size; refine cd rfl (.tmp 44) (.tmp 46) 30 rfl tLt dw (B := w3.heap.size) Tryz.underlying30 hi hz0 hz1 hz2 rfl (by decide) (by decide) (v := .slice (some ⟨_, 0, none⟩) 0 0) (xs := []) rfl (eE ea0 la0) A4 x.got.length c4 rfl (slE (HGo.out _ hH.nil)) (by simp; omega) (by omega) ?_; intro vg3 wg3 hog hgg3 hvg3; rw [List.nil_append] at hog; have hbP := hH.grow hgg3 (fun k hk hlt => by simp [Value.ownBlock] at hk; omega); have sg3 := hgg3.size; (try replace ea5 := aX hgg3 ea5 (by simp [Value.ownBlock]; omega)); clear hvg3); refine hK3.out _ _ (hbP) (fun hH => ?_); clear hK3 K3; try simp only [pw])
  | (have t6 := hK6; clear t6; (have lp6 := hH.size; refine cd rfl (.tmp 47) (.tmp 49) 30 rfl tLt dw (B := w3.heap.size) Tryz.underlying30 hi hz0 hz1 hz2 rfl (by decide) (by decide) (v := vg3) rfl hog (some ⟨_, 0, none⟩) 1 1 rfl ⟨_, ez (cs := [.int .i64 a, .int .i64 y.next, .int .i64 b]) (x := (⟨a, y.next, b⟩ : Lt)) ea5 ⟨rfl, rfl⟩⟩ (by simp; omega) (by omega) ?_; intro vg6 wg6 hog6 hgg6 hvg6; have hbP := hH.grow hgg6 (fun k hk hlt => by have := (hog.top k hk).1; omega); obtain ⟨A10, c10, e10, _, _, _⟩ := hog6.form; rw [show (x.got ++ [(⟨a, y.next, b⟩ : Lt)]).length = x.got.length + 1 from by simp] at e10; subst e10; clear hvg6); refine hK6.out _ _ (hbP) (fun hH => ?_); clear hK6 K6; try simp only [pw])
  | (refine tr 7 HS3.out rfl (by decide +kernel) rfl (fun _ f => by go_simp; try with_reducible rfl) ?_; try simp only [pw])
  | (refine rz 8 (by decide +kernel) rfl (fun K hK => ?_); have fC := HS3.out _ hH; go_simp; clear fC; refine hK.out _ _ ?_; clear hK K)
  | (refine rk (i := 0) [5] (by decide +kernel) (rc rfl (fun K0 hK0 => ?_) (rc rfl (fun K5 hK5 => ?_) rn)))
  | (refine rk (i := 3) [5] (by decide +kernel) (rc rfl (fun K3 hK3 => ?_) (rc rfl (fun K5 hK5 => ?_) rn)))
  | (refine rk (i := 0) [] (by decide +kernel) (rc rfl (fun K0 hK0 => ?_) rn))
  | (refine rk (i := 3) [] (by decide +kernel) (rc rfl (fun K3 hK3 => ?_) rn))
  | (refine rk (i := 5) [] (by decide +kernel) (rc rfl (fun K5 hK5 => ?_) rn))
  | (refine rk (i := 6) [] (by decide +kernel) (rc rfl (fun K6 hK6 => ?_) rn))
  | fail)
 all_goals
  have hF := hH.nil
  have hFs := hF.size
  obtain ⟨⟨k0, k1, k2, k3, k4, k5, kf⟩, _, _⟩ := HS3.out _ hH
  have hk0 : w.heap.size < wg6.heap.size := by omega
  have hk1 : w.heap.size + 1 < wg6.heap.size := by omega
  have hk2 : w.heap.size + 1 + 1 < wg6.heap.size := by omega
  obtain ⟨q0, q1, q2, q3, q4, q5, qf⟩ := aC (ac hF E2.out)
  have kf0 := kf 0; have kf1 := kf 1; have kf2 := kf 2; have kf3 := kf 3; have kf4 := kf 4; have kf5 := kf 5
  have qf0 := qf 0; have qf1 := qf 1; have qf2 := qf 2; have qf3 := qf 3; have qf4 := qf 4; have qf5 := qf 5
  have hn := SlR.own2 (R := be R w.heap.size (w.heap.size + 3)) hog6 (fun b hb => ⟨hR b (by omega), .inr (by omega)⟩)
  have HM := hid (HV.out _ (bt Hc3.out hF)); have HN := hid hn; have HF := hid (bt Hc3.out hF)
  clear hn hF hH hog6 hog hbC hbP hgg6 hgg3 qf kf
  go_wp2_with fail
  refine bodyPost_ret (v := .agg #[.slice A1 x.mixes.length c1, .slice A2 x.sent.length c2, .slice A3 x.net.length c3, .slice A10 (x.got.length + 1) c10, .int .i64 x.made, .int .i64 x.lost]) (by simp [results, Tryz.results117, go_sem, q0, q1, q2, q3, q4, q5]) rfl ⟨_, rfl, ?_, ?_⟩
  ·refine WdR.mono (R := be R w.heap.size (w.heap.size + 3)) ?_ (fun b _ h => h.1)
   repeat (refine WdR.set ?_ (aE (by dsimp only; omega) (by dsimp only; omega)))
   obtain ⟨m1, m2, m3, _⟩ := HM.out.un
   exact ⟨_, _, _, _, rfl, m1, m2, m3, HN.out⟩
  ·repeat (refine Below.setCell ?_ (by dsimp only; omega) _)
   exact HF.out
theorem qn (R : Nat → Prop) (x : Wd) (v : Value) (y : Pl) (Ah Ab : Option Addr) (nh ch cb : Nat) (w : World) (hR : ∀ b, w.heap.size ≤ b → R b) (hv : WdR R w v x) (hl : Lim x) (hg : x.got.length ≤ 1000000) (hbd : SlB af w.heap.size w (.slice Ab y.pk.bd.length cb) y.pk.bd) (hp : plB y = true) :
  Calls Tryz.prog 117 #[v, .agg #[.int .i64 y.kind, .int .i64 y.next, .int .i64 y.pk.el, .slice Ah nh ch, .int .i64 y.pk.tag, .slice Ab y.pk.bd.length cb]] w (b6 w R (fj x y)) := by
 cases ho : ef y.pk.bd with
 | none =>
  have hr : fj x y = dA x := by unfold fj lO; rw [ho]
  rw [hr]; exact mB R x v y Ah Ab nh ch cb w hR hv hl hg hbd hp ho
 | some l =>
  by_cases hl2 : l.length = 2
  ·obtain ⟨a, b, rfl⟩ : ∃ a b, l = [a, b] := by
    match l, hl2 with
    | [a, b], _ => exact ⟨a, b, rfl⟩
   cases hn : ltB ⟨a, y.next, b⟩ with
   | false =>
    have hr : fj x y = dA x := by unfold fj lO; rw [ho]; simp [hn]
    rw [hr]; exact nK R x v y Ah Ab nh ch cb w hR hv hl hg hbd hp a b ho hn
   | true =>
    have hr : fj x y = ⟨x.mixes, x.sent, x.net, x.got ++ [⟨a, y.next, b⟩], x.made, x.lost⟩ := by unfold fj lO; rw [ho]; simp [hn]
    rw [hr]; exact nL R x v y Ah Ab nh ch cb w hR hv hl hg hbd hp a b ho hn
  ·have hr : fj x y = dA x := by unfold fj lO; rw [ho]; simp [hl2]
   rw [hr]; exact nM R x v y Ah Ab nh ch cb w hR hv hl hg hbd hp l ho hl2
def FlR (n m : Nat) (R : Nat → Prop) (vl : Value) (list : List Pl) (w wr : World) (j : Nat) (y : Wd) : Prop :=
 ∃ a1 e1 a2 e2 a3 e3 a4 e4, wr.heap[n]? = some (.cells #[.slice a1 y.mixes.length e1, .slice a2 y.sent.length e2, .slice a3 y.net.length e3, .slice a4 y.got.length e4, .int .i64 y.made, .int .i64 y.lost] 33 (0, 0)) ∧ WdR R wr (.agg #[.slice a1 y.mixes.length e1, .slice a2 y.sent.length e2, .slice a3 y.net.length e3, .slice a4 y.got.length e4, .int .i64 y.made, .int .i64 y.lost]) y ∧ wr.heap[n + 1]? = some (.cells #[.slice none 0 0, .slice none 0 0, .slice none 0 0, .slice none 0 0, .int .i64 0, .int .i64 0] 33 (0, 0)) ∧ SlR (fun b => m ≤ b) tPl wr vl list ∧ Below w.heap.size w wr ∧ m ≤ wr.heap.size ∧ VD (list.length - j) y
theorem FlR.step {n m : Nat} {R : Nat → Prop} {vl : Value} {list : List Pl} {w wr w5 : World} {j : Nat} {y y' : Wd} {a1 a2 a3 a4 : Option Addr} {e1 e2 e3 e4 : Nat} (h : FlR n m R vl list w wr j y) (hb : Below wr.heap.size wr w5) (hn : w.heap.size = n) (hm : n + 2 ≤ m) (hR : ¬ R n) (h5 : WdR R w5 (.agg #[.slice a1 y'.mixes.length e1, .slice a2 y'.sent.length e2, .slice a3 y'.net.length e3, .slice a4 y'.got.length e4, .int .i64 y'.made, .int .i64 y'.lost]) y') (hv : VD (list.length - (j + 1)) y') :
  FlR n m R vl list w ((((((w5.setCell ⟨n, 0, none⟩ (.slice a1 y'.mixes.length e1)).setCell ⟨n, 1, none⟩ (.slice a2 y'.sent.length e2)).setCell ⟨n, 2, none⟩ (.slice a3 y'.net.length e3)).setCell ⟨n, 3, none⟩ (.slice a4 y'.got.length e4)).setCell ⟨n, 4, none⟩ (.int .i64 y'.made)).setCell ⟨n, 5, none⟩ (.int .i64 y'.lost)) (j + 1) y' := by
 obtain ⟨_, _, _, _, _, _, _, _, r0, _, r1, hl, hw, hs, _⟩ := h
 have hsz := hb.size
 have e := ac hb r0
 refine ⟨a1, e1, a2, e2, a3, e3, a4, e4, eh _ _ _ _ _ _ e, ?_, ?_, ?_, ?_, ?_, hv⟩
 ·repeat (refine WdR.set ?_ hR)
  exact h5
 ·rw [dt _ (by omega)]; exact ac hb r1
 ·repeat (refine SlR.set ?_ (by dsimp only; omega))
  exact hl.go hb
 ·repeat (refine Below.setCell ?_ (by dsimp only; omega) _)
  exact bt hw hb
 ·simp only [al]; omega
theorem mD (R : Nat → Prop) (x : Wd) (v : Value) (k : Nat) (all : Bool) (w : World) (hR : ∀ b, w.heap.size ≤ b → R b) (hv : WdR R w v x) (hx : VD 0 x) (hk : k < 3) :
  Calls Tryz.prog 69 #[v, .int .i64 k, .bool all] w (b6 w R (cJ x k all)) := by
 obtain ⟨m, hm1, hm2, hm3, hm4⟩ := js hx.mix hk
 have hml := cP hx.mix
 have hkl : k < x.mixes.length := by omega
 obtain ⟨m2, list, hrr⟩ : ∃ m2 list, dG m all = (m2, list) := ⟨_, _, rfl⟩
 have hok := mr hm3 all
 rw [hrr] at hok
 obtain ⟨o1, o2, o3, o4⟩ := hok
 dsimp only at o1 o2 o3 o4
 have hV := VD.set hx hk hm1 (m := m2) o1 (o2.trans hm4) (d' := list.length) (by omega)
 have Hfin := hid (show cJ x k all = list.foldl dE (cV x k m2) by unfold cJ; rw [hm2, hrr])
 have Hml := hid hml; have Hrr := hid hrr; have HV := hid hV; have O3 := hid o3
 obtain ⟨A1, c1, A2, c2, A3, c3, A4, c4, rfl⟩ := hv.form
 have HB := hid (fun (wx : World) (hb : Below w.heap.size w wx) => (hv.go hb).wdB)
 have HX := hid hx; have HM1 := hid hm1; have HM3 := hid hm3
 clear hv hx hm1 hm2 hm3 hm4 hml hrr o1 o2 o3 o4 hV
 go_enter Tryz.func69, Tryz.ntmps69
 go_wp2_with fail
 refine (fe x _ _ (HB.out _ (by repeat (first | exact zm | apply ae | refine bA ?_ (by omega) | refine Below.setCell ?_ (by first | omega | simp <;> omega) _))) HX.out.sm).mono ?_
 rintro e w1 ⟨um, us, un, ug, rfl, n1, hb1⟩
 obtain ⟨B1, d1, B2, d2, B3, d3, B4, d4, rfl, rfl, rfl, rfl⟩ := cQ n1
 obtain ⟨b0, b1⟩ := dJ hb1
 have hc1 : Below w.heap.size w w1 := bt (by repeat (first | exact zm | apply ae | refine bA ?_ (by omega) | refine Below.setCell ?_ (by first | omega | simp <;> omega) _)) hb1
 have z1 := (zn b1)
 have z0 : w.heap.size < w1.heap.size := by omega
 obtain ⟨k0, k1, k2, k3, k4, k5, kf⟩ := aC b0
 have kf0 := kf 0; have kf1 := kf 1; have kf2 := kf 2; have kf3 := kf 3; have kf4 := kf 4; have kf5 := kf 5
 have N1 := hid (n1.base (B' := w.heap.size + 2) (by simp)); have Hc1 := hid hc1; have Eb0 := hid b0; have Eb1 := hid b1
 clear n1 hb1 hc1 b0 b1 kf
 go_upto_region 2 with fail
 have b0 := eh (.slice B1 x.mixes.length d1) (.slice B2 x.sent.length d2) (.slice B3 x.net.length d3) (.slice B4 x.got.length d4) (.int .i64 x.made) (.int .i64 x.lost) Eb0.out
 have b1 := (dt (w := w1) (g := w.heap.size) (b0 := .slice B1 x.mixes.length d1) (b1 := .slice B2 x.sent.length d2) (b2 := .slice B3 x.net.length d3) (b3 := .slice B4 x.got.length d4) (b4 := .int .i64 x.made) (b5 := .int .i64 x.lost) (w.heap.size + 1) (by omega)).trans Eb1.out
 have n2 := (((((N1.out.set (p := ⟨w.heap.size, 0, none⟩) (u := .slice B1 x.mixes.length d1) (by dsimp only; omega)).set (p := ⟨w.heap.size, 1, none⟩) (u := .slice B2 x.sent.length d2) (by dsimp only; omega)).set (p := ⟨w.heap.size, 2, none⟩) (u := .slice B3 x.net.length d3) (by dsimp only; omega)).set (p := ⟨w.heap.size, 3, none⟩) (u := .slice B4 x.got.length d4) (by dsimp only; omega)).set (p := ⟨w.heap.size, 4, none⟩) (u := .int .i64 x.made) (by dsimp only; omega)).set (p := ⟨w.heap.size, 5, none⟩) (u := .int .i64 x.lost) (by dsimp only; omega)
 have hc2 := (((((Hc1.out.setCell (p := ⟨w.heap.size, 0, none⟩) (by dsimp only; omega) (.slice B1 x.mixes.length d1)).setCell (p := ⟨w.heap.size, 1, none⟩) (by dsimp only; omega) (.slice B2 x.sent.length d2)).setCell (p := ⟨w.heap.size, 2, none⟩) (by dsimp only; omega) (.slice B3 x.net.length d3)).setCell (p := ⟨w.heap.size, 3, none⟩) (by dsimp only; omega) (.slice B4 x.got.length d4)).setCell (p := ⟨w.heap.size, 4, none⟩) (by dsimp only; omega) (.int .i64 x.made)).setCell (p := ⟨w.heap.size, 5, none⟩) (by dsimp only; omega) (.int .i64 x.lost)
 have sz2 : w.heap.size + 2 ≤ ((((((w1.setCell ⟨w.heap.size, 0, none⟩ (.slice B1 x.mixes.length d1)).setCell ⟨w.heap.size, 1, none⟩ (.slice B2 x.sent.length d2)).setCell ⟨w.heap.size, 2, none⟩ (.slice B3 x.net.length d3)).setCell ⟨w.heap.size, 3, none⟩ (.slice B4 x.got.length d4)).setCell ⟨w.heap.size, 4, none⟩ (.int .i64 x.made)).setCell ⟨w.heap.size, 5, none⟩ (.int .i64 x.lost)).heap.size := by simp only [al]; omega
 clear k0 k1 k2 k3 k4 k5 kf0 kf1 kf2 kf3 kf4 kf5 N1 Hc1 Eb0 Eb1 z0 z1
 generalize ((((((w1.setCell ⟨w.heap.size, 0, none⟩ (.slice B1 x.mixes.length d1)).setCell ⟨w.heap.size, 1, none⟩ (.slice B2 x.sent.length d2)).setCell ⟨w.heap.size, 2, none⟩ (.slice B3 x.net.length d3)).setCell ⟨w.heap.size, 3, none⟩ (.slice B4 x.got.length d4)).setCell ⟨w.heap.size, 4, none⟩ (.int .i64 x.made)).setCell ⟨w.heap.size, 5, none⟩ (.int .i64 x.lost)) = W1 at *
 obtain ⟨Fm, Fs, Fn, Fg, hr, hlo⟩ := Run.ofNew (B0 := w.heap.size) n2 b0 (by omega) (Nat.le_refl _)
 obtain ⟨Gm, _, hO⟩ := aG hr.em
 obtain ⟨g, rfl⟩ := Own.addr hO (by omega)
 have hgW := (hO.top g rfl).2
 obtain ⟨bb, o, us, up, e, _, _, hvs, hvp, q0, q1, q2⟩ := ((hr.wdR hlo).un.1.slB).mx HM1.out
 injection e with e; injection e with e1 e2; subst e1 e2
 simp only [Nat.zero_add] at q0 q1 q2
 obtain ⟨As, cs, rfl, _, _, _⟩ := hvs.form
 obtain ⟨Ap, cp, rfl, _, _, _⟩ := hvp.form
 obtain ⟨k0, k1, k2, k3, k4, k5, kf⟩ := aC b0
 have Hvs := hid hvs; have Hvp := hid hvp; have Hr := hid hr; have Hlo := hid hlo; have Hc2 := hid hc2; have B0 := hid b0; have B1' := hid b1
 clear hvs hvp hr hlo hc2 b0 b1 n2 hO kf
 go_wp2_with fail
 refine (se m _ _ all _ Hvs.out Hvp.out HM3.out).mono ?_
 rw [Hrr.out]
 rintro e w2 ⟨us2, up2, vl, rfl, n3, hl3, hb3⟩
 obtain ⟨A5, c5, A6, c6, rfl, rfl⟩ := bo n3
 obtain ⟨Al, cl, rfl, _, _, _⟩ := hl3.form
 have hr2 := Hr.out.go hb3
 obtain ⟨Gm', _, hO⟩ := aG hr2.em
 have fz0 := hO.frozen (k * 3); have fz1 := hO.frozen (k * 3 + 1); have fz2 := hO.frozen (k * 3 + 2)
 obtain ⟨bb, o, us, up, e, _, _, _, _, y0, y1, y2⟩ := ((hr2.wdR Hlo.out).un.1.slB).mx HM1.out
 injection e with e; injection e with e1 e2; subst e1 e2
 simp only [Nat.zero_add] at y0 y1 y2
 have b0 := ac hb3 B0.out
 have b1 := ac hb3 B1'.out
 clear k0 k1 k2 k3 k4 k5 q0 q1 q2
 obtain ⟨k0, k1, k2, k3, k4, k5, kf⟩ := aC b0
 have s3 := hb3.size
 have hg2 : g < w2.heap.size := by omega
 have hn2 : w.heap.size < w2.heap.size := by omega
 have Hr2 := hid hr2; have N3 := hid n3; have HL3 := hid hl3; have Hc3 := hid (bt Hc2.out hb3); have B0 := hid b0; have B1 := hid b1; have Hb3 := hid hb3
 clear hr2 n3 hl3 hb3 b0 b1 hO kf
 go_upto_region 4 with fail
 obtain ⟨F', he, hnF, hlF⟩ := N3.out
 obtain ⟨g', F2, e, hgm, hr3, hF2⟩ := Run.setMix (m := m2) Hr2.out hkl he hnF (fun a ha => ⟨by have := hlF a ha; omega, fun hm => by have h1 := hlF a ha; have h2 := Hr.out.lt a hm; omega⟩)
 injection e with e; injection e with e1 e2; subst e1
 have hg2' : w.heap.size + 2 ≤ g := Hlo.out g (List.mem_append_left _ hgm)
 have hr4 := hr3.go (ab _ (.cells #[.int .i64 m2.sec, .slice A5 m2.seen.length c5, .slice A6 m2.pool.length c6] 70))
 have rw4 := hr4.wdR (P := be R w.heap.size (w.heap.size + 2)) (fun c hc => by
  have h2 : w.heap.size + 2 ≤ c := by
   rcases List.mem_append.1 hc with hc | hc
   ·rcases hF2 c hc with h | h
    ·exact Hlo.out c (List.mem_append_left _ h)
    ·have := hlF c h; omega
   ·exact Hlo.out c (List.mem_append_right _ hc)
  exact ⟨hR c (by omega), .inr h2⟩)
 have hne : w.heap.size ≠ g := by omega
 have hne1 : w.heap.size + 1 ≠ g := by omega
 have rn : (((w2.setCell ⟨g, k * 3, none⟩ (.int .i64 m2.sec)).setCell ⟨g, k * 3 + 1, none⟩ (.slice A5 m2.seen.length c5)).setCell ⟨g, k * 3 + 2, none⟩ (.slice A6 m2.pool.length c6)).heap[w.heap.size]? = _ := (Below.heap_setCell _ _ _ _ hne).trans ((Below.heap_setCell _ _ _ _ hne).trans ((Below.heap_setCell _ _ _ _ hne).trans B0.out))
 have rn1 : (((w2.setCell ⟨g, k * 3, none⟩ (.int .i64 m2.sec)).setCell ⟨g, k * 3 + 1, none⟩ (.slice A5 m2.seen.length c5)).setCell ⟨g, k * 3 + 2, none⟩ (.slice A6 m2.pool.length c6)).heap[w.heap.size + 1]? = _ := (Below.heap_setCell _ _ _ _ hne1).trans ((Below.heap_setCell _ _ _ _ hne1).trans ((Below.heap_setCell _ _ _ _ hne1).trans B1.out))
 have sl4 := ((((HL3.out.set (p := ⟨g, k * 3, none⟩) (u := .int .i64 m2.sec) (by dsimp only; omega)).set (p := ⟨g, k * 3 + 1, none⟩) (u := .slice A5 m2.seen.length c5) (by dsimp only; omega)).set (p := ⟨g, k * 3 + 2, none⟩) (u := .slice A6 m2.pool.length c6) (by dsimp only; omega))).go (ab _ (.cells #[.int .i64 m2.sec, .slice A5 m2.seen.length c5, .slice A6 m2.pool.length c6] 70))
 have hc4 := (((Hc3.out.setCell (p := ⟨g, k * 3, none⟩) (by dsimp only; omega) (.int .i64 m2.sec)).setCell (p := ⟨g, k * 3 + 1, none⟩) (by dsimp only; omega) (.slice A5 m2.seen.length c5)).setCell (p := ⟨g, k * 3 + 2, none⟩) (by dsimp only; omega) (.slice A6 m2.pool.length c6)).alloc (by simp only [al]; omega) (.cells #[.int .i64 m2.sec, .slice A5 m2.seen.length c5, .slice A6 m2.pool.length c6] 70)
 have HF := hid (show FlR w.heap.size W1.heap.size (be R w.heap.size (w.heap.size + 2)) (.slice Al list.length cl) list w _ 0 (cV x k m2) from
  ⟨_, _, _, _, _, _, _, _, ac (ab _ (.cells #[.int .i64 m2.sec, .slice A5 m2.seen.length c5, .slice A6 m2.pool.length c6] 70)) (by simpa [cV] using rn), by simpa [cV] using rw4, ac (ab _ _) rn1, sl4, hc4, by simp only [World.size_alloc, al]; omega, HV.out⟩)
 clear hr3 hr4 rw4 rn rn1 sl4 hc4 he hnF hlF hF2 hgm
 generalize World.alloc _ _ = W4 at *
 have hR2 : ∀ (wx : World), w.heap.size + 2 ≤ wx.heap.size → ∀ b, wx.heap.size ≤ b → be R w.heap.size (w.heap.size + 2) b := fun wx h b hb => ⟨hR b (by omega), .inr (by omega)⟩
 have nR : ¬ be R w.heap.size (w.heap.size + 2) w.heap.size := aE (Nat.le_refl _) (by omega)
 go_wp2_with fail
 go_loopw [9] (fun i wr => ∃ (j : Nat) (y : Wd), j ≤ list.length ∧ i = .int .i64 j ∧ (list.take j).foldl dE (cV x k m2) = y ∧ FlR w.heap.size W1.heap.size (be R w.heap.size (w.heap.size + 2)) (.slice Al list.length cl) list w wr j y) (fun i _ => list.length - (intOf i).toNat)
 case atStart => exact ⟨0, cV x k m2, by omega, rfl, rfl, HF.out⟩
 case round =>
  obtain ⟨j, y, hj, rfl, hy, hf⟩ := hrel
  have Hf := hid hf; have Hy := hid hy
  obtain ⟨a1, e1, a2, e2, a3, e3, a4, e4, r0, rw, r1, hl, hw, hs, hv⟩ := hf
  have Hrw := hid rw; have Hw := hid hw; have Hv := hid hv; have R1 := hid r1
  obtain ⟨g0, g1, g2, g3, g4, g5, gf⟩ := aC r0
  have hwn : w.heap.size < wr.heap.size := by omega
  have hwn1 : w.heap.size + 1 < wr.heap.size := by omega
  by_cases hlt : j < list.length
  ·obtain ⟨z, hz⟩ := ai hlt
   obtain ⟨b1, o1, vh, vb, rfl, hb1, hb1', s1, s2, t0, t1, t2, t3, t4, t5⟩ := (hl.slB).pl hz
   obtain ⟨Ah, ch, rfl, _, _, _⟩ := s1.form
   obtain ⟨Ab, cb, rfl, _, _, _⟩ := s2.form
   have hpz := O3.out z (List.mem_of_getElem? hz)
   have Hpz := hid hpz; have S1 := hid s1; have S2 := hid s2
   have hst : (list.take (j + 1)).foldl dE (cV x k m2) = dE y z := by rw [aK hz, List.foldl_append, hy]; rfl
   have Hst := hid hst
   have hvs := VD.pass (x := y) (d := list.length - (j + 1)) (by have := hv; rwa [show list.length - (j + 1) + 1 = list.length - j from by omega]) hpz
   have Hvs := hid hvs
   have HS := hid (fun (wx : World) (hT : Tch [] wr wx) => And.intro (aC (hT.row r0 (by simp))) (And.intro (ll hT.nil hb1' t0 t1 t2 t3 t4 t5) (show w.heap.size < wx.heap.size by have := hT.size; omega)))
   by_cases hkd : z.kind = 1
   ·have hp : dE y z = fj y z := by unfold dE; rw [if_pos hkd]
    have Hp := hid hp
    have i1 : (z.kind == 1) = true := by simp [hkd]
    have i2 : decide (z.kind = 1) = true := by simp [hkd]
    clear hz hst hvs hpz s1 s2 hl r0 rw r1 hw hv hy hp hkd
    go_wp2_with fail
    refine rgN [] 7 (by kernel_rfl) rfl (fun | none, _, _, _, _ => id | some _, _, _, _, _ => id) fun wd hH hbwd swd => ?_
    simp only [pw]
    refine ag [0, 1, 2, 3, 4] ?_
    iterate 5 (refine ra HS.out rfl (by kernel_rfl) rfl (fun _ f => by go_simp; try with_reducible rfl) ?_; try simp only [pw])
    refine rq 5 (by kernel_rfl) rfl fun K hK => ?_
    go_simp
    (go_at_call 117; refine (qn (be R w.heap.size (w.heap.size + 2)) y _ z _ _ _ _ _ _ (hR2 _ (by omega)) (Hrw.out.go hbwd) Hv.out.lim (by have := Hv.out.gl; omega) (S2.out.go hbwd) Hpz.out).mono ?_; rintro e w5 ⟨v5, rfl, hw5, hbC⟩; obtain ⟨b1', f1, b2', f2, b3', f3, b4', f4, rfl⟩ := hw5.form; have hb5 := hbC)
    refine hK.out _ _ (hH.trans (Tch.of hbC)) (fun hH => ?_)
    clear hK K
    refine rz 6 (by kernel_rfl) rfl fun K hK => ?_
    have fC := HS.out _ hH
    go_simp
    clear fC
    refine hK.out _ _ ?_
    clear hK K
    have hs5 := Hf.out.step (bt hbwd hb5) rfl (by omega) nR hw5 (by have := Hvs.out; rwa [Hp.out] at this)
    have HS5 := hid hs5
    clear hs5 hw5 hb5 hbC hH hbwd
    go_wp2_with fail
    go_roundw
    case rel => exact ⟨j + 1, _, by omega, by go_num, by rw [Hst.out, Hp.out], HS5.out⟩
    case measure => simp [intOf]; omega
   ·have hp : dE y z = ew y z.next z.pk false := by unfold dE; rw [if_neg hkd]
    have Hp := hid hp
    have i1 : (z.kind == 1) = false := by simp [hkd]
    have i2 : decide (z.kind = 1) = false := by simp [hkd]
    clear hz hst hvs hpz s1 s2 hl r0 rw r1 hw hv hy hp hkd
    go_wp2_with fail
    refine rgN [] 13 (by kernel_rfl) rfl (fun | none, _, _, _, _ => id | some _, _, _, _, _ => id) fun wd hH hbwd swd => ?_
    simp only [pw]
    refine ag [0, 1, 2, 3, 4, 5, 6, 7, 8, 9, 10] ?_
    iterate 11 (refine ra HS.out rfl (by kernel_rfl) rfl (fun _ f => by go_simp; try with_reducible rfl) ?_; try simp only [pw])
    refine rq 11 (by kernel_rfl) rfl fun K hK => ?_
    go_simp
    (go_at_call 113; refine (mF (be R w.heap.size (w.heap.size + 2)) y _ z.next z.pk _ _ _ _ false _ (hR2 _ (by omega)) (Hrw.out.go hbwd) Hv.out.lim (S1.out.go hbwd) (S2.out.go hbwd) (fG (bc.1 Hpz.out).2.2).le.1 (fG (bc.1 Hpz.out).2.2).le.2).mono ?_; rintro e w5 ⟨v5, rfl, hw5, hbC⟩; obtain ⟨b1', f1, b2', f2, b3', f3, b4', f4, rfl⟩ := hw5.form; have hb5 := hbC)
    refine hK.out _ _ (hH.trans (Tch.of hbC)) (fun hH => ?_)
    clear hK K
    refine rz 12 (by kernel_rfl) rfl fun K hK => ?_
    have fC := HS.out _ hH
    go_simp
    clear fC
    refine hK.out _ _ ?_
    clear hK K
    have hs5 := Hf.out.step (bt hbwd hb5) rfl (by omega) nR hw5 (by have := Hvs.out; rwa [Hp.out] at this)
    have HS5 := hid hs5
    clear hs5 hw5 hb5 hbC hH hbwd
    go_wp2_with fail
    go_roundw
    case rel => exact ⟨j + 1, _, by omega, by go_num, by rw [Hst.out, Hp.out], HS5.out⟩
    case measure => simp [intOf]; omega
  ·have hje : list.take j = list := List.take_of_length_le (by omega)
   have Hres := hid (show cJ x k all = y by rw [Hfin.out, ← hy, hje])
   obtain ⟨q0, q1, q2, q3, q4, q5, qf, qf0, qf1, qf2, qf3, qf4, qf5⟩ := bs r1
   clear hl r0 rw r1 hw hv hy hje qf
   go_wp2_with fail
   refine bodyPost_ret (v := (.agg #[.slice a1 y.mixes.length e1, .slice a2 y.sent.length e2, .slice a3 y.net.length e3, .slice a4 y.got.length e4, .int .i64 y.made, .int .i64 y.lost])) (by simp [results, Tryz.results69, go_sem, q0, q1, q2, q3, q4, q5]) rfl ?_
   rw [Hres.out]
   refine ⟨_, rfl, ?_, ?_⟩
   ·refine WdR.mono (R := be R w.heap.size (w.heap.size + 2)) ?_ (fun b _ h => h.1)
    repeat (refine WdR.set ?_ (aE (by dsimp only; omega) (by dsimp only; omega)))
    exact Hrw.out
   ·repeat (refine Below.setCell ?_ (by dsimp only; omega) _)
    exact Hw.out
end Go.Proofs.YtfaeojmndaplcaaGreatDoor
