/- Texts that the last file leans on (part 14). -/
import Derived.Deep.DeepCutAuto
import Derived.Test.YtfaeojmndaplcaaGreatDoorP12
import Derived.Test.YtfaeojmndaplcaaGreatDoorP6
set_option linter.unusedVariables false
set_option linter.unusedSimpArgs false
set_option maxHeartbeats 4000000
set_option maxRecDepth 100000
namespace Go.Proofs.YtfaeojmndaplcaaGreatDoor
open Go Go.RowKit
section
variable {α : Type} {T : Ty α} {P : Program} {w w0 w1 : World}
theorem qa {ops : Array Oper} {o : Oper} {a : Act} {K : Act → World → Prop} {Q : Exit → Act → World → Prop} {E : Prop} (hgd : o.guard = none) (s x : Operand) (t : TypeId)
  (ho : o.op = .call { callee := .builtin .append, args := #[s, x], argTypes := #[t, t] }) (T : Ty α)
  {e : TypeId} {i : TypeInfo} {z : Value} {bytes B : Nat} (ht : P.underlying t = some (.slice e)) (hi : P.info? e = some i) (hz : i.zero = some z)
  (hsize : i.size = T.k) (hby : i.bytes = bytes) (hzs : z.cells.size = T.k) (hk : 0 < T.k)
  {v : Value} {xs : List α} {y : α} (cx : List Value) (hs : a.eval s = v) (hown : bp T e B w0 v xs) (h01 : Below w0.heap.size w0 w1) (hy : aC T w0.heap.size w1 cx y) (h1w : Below w1.heap.size w1 w)
  (n : Nat) (hr : w.heap[n]? = some (.cells cx.toArray e (0, 0))) (hx : a.eval x = .slice (some ⟨n, 0, none⟩) 1 1) (hb : (xs.length + 1) * bytes ≤ 140737488355328) (hm : xs.length + 1 ≤ maxLen) (hB : B ≤ w0.heap.size)
  (h : ∀ v' w', bp T e B w' v' (xs ++ [y]) → w.grownBy w' v.ownBlock → K (a.put o.dst v') w') : if Region.wanted o (yielded ops a.tmps) = true then Oper.wp P o a w K Q else E := by
 obtain ⟨G, g1, g2, g3⟩ := hown
 obtain ⟨F, f1, f2, f3⟩ := hy
 have hsz := h01.size
 have hsz1 := h1w.size
 have f1' := T.keep f1 (fun b hb => h1w.block b (T.lt f1 b hb))
 have hsl := cz hr f1'
 have hoo := (g1.go h01).go h1w
 refine aT hgd s x t ho T ht hi hz hsize hby hzs hk hs hoo _ 1 1 hx hsl (fun b hb hm => ?_) (by simpa using hb) (by simpa using hm) (by omega) fun v' w' h2 h3 h4 => ?_
 ·have := (g1.top b hb).2; have := f3 b hm; omega
 ·refine h v' w' ⟨G ++ F, h2, ?_, fun b hb => ?_⟩ h3
  ·rw [List.nodup_append]
   exact ⟨g2, f2, fun a ha b hb e => by have := g1.lt a ha; have := f3 b hb; omega⟩
  ·rcases List.mem_append.1 hb with hb | hb
   ·exact g3 b hb
   ·have := f3 b hb; omega
end
theorem kA (v : Value) (xs : List Lt) (w : World) (h : SlB tLt w.heap.size w v xs) (hb : xs.length ≤ 1073741824) :
  Calls Tryz.prog 82 #[v] w fun e w' => ∃ v', e = .returned v' ∧ bp tLt 56 w.heap.size w' v' xs ∧ Below w.heap.size w w' := by
 obtain ⟨i0, hi, hz0, hz1, hz2⟩ := info_parts gY
 obtain ⟨A, c, rfl, h1, h2, h3⟩ := h.form
 obtain ⟨F, hsl, hF⟩ := h
 go_enter Tryz.func82, Tryz.ntmps82
 go_wp2_with (first
  | (at_make; refine gr rfl _ _ 30 rfl tLt (B := w.heap.size) Tryz.underlying30 hi hz0 hz1 xs.length rfl rfl rfl (by rw [hz2]; omega) (by unfold maxLen; omega) (Nat.le_refl _) ?_; intro w1 ho1 hg1; have hb1 : Below w.heap.size w w1 := (ah).grown hg1 (Nat.le_refl _) (by simp))
  | (at_builtin; refine aw rfl _ _ 30 rfl tLt bM (B := w.heap.size) Tryz.underlying30 hi hz0 hz1 hz2 rfl (by decide) (by decide) (v := .slice (some ⟨w.heap.size, 0, none⟩) 0 xs.length) (xs := []) rfl ho1 A xs.length c rfl ⟨F, hsl.below hb1 hF⟩ (by simp; omega) hb1.size ?_; intro v2 w2 ho2 hg2 hv2))
 go_ret
 exact ⟨v2, rfl, ⟨[], ho2, List.nodup_nil, fun b h => by cases h⟩, hb1.grown hg2 hb1.size (fun k hk => by simp [Value.ownBlock] at hk; omega)⟩
theorem eM (p : Pk) (vh vb : Value) (w : World) (h1 : SlB af w.heap.size w vh p.hd) (h2 : SlB af w.heap.size w vb p.bd) (l1 : p.hd.length ≤ 1073741824) (l2 : p.bd.length ≤ 1073741824) :
  Calls Tryz.prog 84 #[.agg #[.int .i64 p.el, vh, .int .i64 p.tag, vb]] w fun e w' => ∃ uh ub, e = .returned (.agg #[.int .i64 p.el, uh, .int .i64 p.tag, ub]) ∧ aC oPk w.heap.size w' [.int .i64 p.el, uh, .int .i64 p.tag, ub] p ∧ Below w.heap.size w w' := by
 obtain ⟨Ah, ch, rfl, _, _, _⟩ := h1.form
 obtain ⟨Ab, cb, rfl, _, _, _⟩ := h2.form
 go_enter Tryz.func84, Tryz.ntmps84
 go_upto_region 1 with fail
 generalize hgw : World.alloc (World.alloc w _) _ = W0; obtain ⟨e0, e1, hW0, sW0⟩ := iB hgw; clear hgw
 have HS := hid (fun (wx : World) (hT : Tch [] W0 wx) => And.intro (aN (hT.row e0 (by simp))) (show w.heap.size < wx.heap.size by have := hT.size; omega))
 have H1 := hid (fun (wx : World) (hT : Tch [] W0 wx) => h1.go (bt hW0 hT.nil))
 have H2 := hid (fun (wx : World) (hT : Tch [] W0 wx) => h2.go (bt hW0 hT.nil))
 have HW0 := hid hW0; have E1 := hid e1
 clear h1 h2 e0 e1 hW0
 refine rgN [] 12 (by kernel_rfl) rfl (fun | none, _, _, _, _ => id | some _, _, _, _, _ => id) fun wd hH hbwd swd => ?_
 simp only [pw]
 refine ag [0, 1, 2, 3, 5, 6, 7, 8] ?_
 iterate 8 (refine ra HS.out rfl (by kernel_rfl) rfl (fun _ f => by go_simp; try with_reducible rfl) ?_; try simp only [pw])
 refine rq 4 (by kernel_rfl) rfl fun K hK => ?_
 go_simp
 (go_at_call 129; refine (dw _ p.hd _ (H1.out _ hH) l1).mono ?_; rintro e w4 ⟨v4, rfl, n4, hbC⟩; obtain ⟨G4, o4, _, _⟩ := n4; obtain rfl := am ai o4; obtain ⟨A4, c4, rfl, _, _⟩ := o4.formN rfl; have s4 := hH.size)
 refine hK.out _ _ (hH.trans (Tch.of hbC)) (fun hH => ?_)
 clear hK K
 refine rq 9 (by kernel_rfl) rfl fun K hK => ?_
 go_simp
 (have t4 := o4.top; have s9 := hH.size; go_at_call 129; refine (dw _ p.bd _ (H2.out _ hH) l2).mono ?_; rintro e w9 ⟨v9, rfl, n9, hbC⟩; obtain ⟨G9, o9, _, _⟩ := n9; obtain rfl := am ai o9; obtain ⟨A9, c9, rfl, _, _⟩ := o9.formN rfl; replace o4 := o4.go hbC; have hb9 := hbC)
 refine hK.out _ _ (hH.trans (Tch.of hbC)) (fun hH => ?_)
 clear hK K
 refine tr 10 HS.out rfl (by kernel_rfl) rfl (fun _ f => by go_simp; try with_reducible rfl) ?_
 try simp only [pw]
 (obtain ⟨q0, q1, q2, q3, qf⟩ := aN (ac hH.nil E1.out); have qf0 := qf 0; have qf1 := qf 1; have qf2 := qf 2; have qf3 := qf 3; have z1 := World.block_lt_of_cell? _ _ q0; dsimp only at z1)
 refine rz 11 (by kernel_rfl) rfl fun K hK => ?_
 have fC := HS.out _ hH
 go_simp
 clear fC
 refine hK.out _ _ ?_
 clear hK K
 have hF := hH.nil
 have o4' := (((ap (o4.base (B' := w.heap.size + 2) (by omega)) (p := ⟨w.heap.size + 1, 0, none⟩) (u := .int .i64 p.el) (by dsimp only; omega)) |> fun h => ap h (p := ⟨w.heap.size + 1, 1, none⟩) (u := .slice A4 p.hd.length c4) (by dsimp only; omega)) |> fun h => ap h (p := ⟨w.heap.size + 1, 2, none⟩) (u := .int .i64 p.tag) (by dsimp only; omega)) |> fun h => ap h (p := ⟨w.heap.size + 1, 3, none⟩) (u := .slice A9 p.bd.length c9) (by dsimp only; omega)
 have o9' := (((ap (o9.base (B' := w.heap.size + 2) (by omega)) (p := ⟨w.heap.size + 1, 0, none⟩) (u := .int .i64 p.el) (by dsimp only; omega)) |> fun h => ap h (p := ⟨w.heap.size + 1, 1, none⟩) (u := .slice A4 p.hd.length c4) (by dsimp only; omega)) |> fun h => ap h (p := ⟨w.heap.size + 1, 2, none⟩) (u := .int .i64 p.tag) (by dsimp only; omega)) |> fun h => ap h (p := ⟨w.heap.size + 1, 3, none⟩) (u := .slice A9 p.bd.length c9) (by dsimp only; omega)
 have hbf := ((((bt HW0.out hF).setCell (p := ⟨w.heap.size + 1, 0, none⟩) (by simp) (.int .i64 p.el)).setCell (p := ⟨w.heap.size + 1, 1, none⟩) (by simp) (.slice A4 p.hd.length c4)).setCell (p := ⟨w.heap.size + 1, 2, none⟩) (by simp) (.int .i64 p.tag)).setCell (p := ⟨w.heap.size + 1, 3, none⟩) (by simp) (.slice A9 p.bd.length c9)
 have HX := hid (jp (p := p) (o4'.base (B' := w.heap.size) (by omega)) (o9'.base (B' := w.heap.size) (by omega)) (fun b h1 h2 => by have g1 := (t4 b h1).2; have g2 := (o9.top b h2).1; omega))
 have HBf := hid hbf
 clear o4' o9' hbf hH hF hbC o4 o9 t4 hb9 qf
 go_wp2_with fail
 refine bodyPost_ret (v := .agg #[.int .i64 p.el, .slice A4 p.hd.length c4, .int .i64 p.tag, .slice A9 p.bd.length c9]) (by simp [results, Tryz.results84, go_sem, q0, q1, q2, q3]) rfl ⟨_, _, rfl, HX.out, HBf.out⟩
theorem bp.form {α : Type} {T : Ty α} {e B : Nat} {w : World} {v : Value} {xs : List α} (h : bp T e B w v xs) : ∃ A c, v = .slice A xs.length c := by
 obtain ⟨G, h, _⟩ := h
 obtain ⟨A, c, h, _⟩ := h.form
 exact ⟨A, c, h⟩
theorem bp.top {α : Type} {T : Ty α} {e B : Nat} {w : World} {v : Value} {xs : List α} (h : bp T e B w v xs) : ∀ b, v.ownBlock = some b → B ≤ b ∧ b < w.heap.size := by
 obtain ⟨G, h, _⟩ := h
 exact h.top
theorem bp.go {α : Type} {T : Ty α} {e B : Nat} {w w' : World} {v : Value} {xs : List α} (h : bp T e B w v xs) (hb : Below w.heap.size w w') : bp T e B w' v xs := h.below hb (Nat.le_refl _)
theorem kV (v : Value) (xs : List Pl) (w : World) (h : SlB tPl w.heap.size w v xs) (hl : xs.length ≤ 1000000) (hs : ∀ x ∈ xs, x.pk.hd.length ≤ 1073741824 ∧ x.pk.bd.length ≤ 1073741824) :
  Calls Tryz.prog 130 #[v] w fun e w' => ∃ v', e = .returned v' ∧ bp oPl 144 w.heap.size w' v' xs ∧ Below w.heap.size w w' := by
 obtain ⟨i0, hi, hz0, hz1, hz2⟩ := info_parts iU
 obtain ⟨A, c, rfl, h1, h2, h3⟩ := h.form
 have H := hid (fun (wx : World) (hb : Below w.heap.size w wx) => h.below hb (Nat.le_refl _))
 have Hs := hid hs
 have iw : IntKind.i64.wrap ((xs.length : Int) + 1) = (xs.length : Int) + 1 := aX (by omega)
 clear h2 h hs
 go_enter Tryz.func130, Tryz.ntmps130
 go_wp2_with (at_make; refine gr rfl _ _ 68 rfl oPl (B := w.heap.size) Tryz.underlying68 hi hz0 hz1 (xs.length + 1) rfl rfl (by omega) (by rw [hz2]; omega) (by unfold maxLen; omega) (Nat.le_refl _) ?_; intro w1 ho1 hg1)
 have hb1 := hid (Below.of_grown hg1 (Nat.le_refl _) (fun k hk => by cases hk) : Below w.heap.size w w1)
 have Ho1 := hid (⟨[], ho1, List.nodup_nil, fun _ h => by cases h⟩ : bp oPl 144 w.heap.size w1 (.slice (some ⟨w.heap.size, 0, none⟩) 0 (xs.length + 1)) [])
 clear ho1 hg1
 go_wp2_with fail
 go_loopw [3, 12] (fun ov i wr => ∃ j : Nat, j ≤ xs.length ∧ i = .int .i64 j ∧ bp oPl 144 w.heap.size wr ov (xs.take j) ∧ Below w.heap.size w wr) (fun _ i _ => xs.length - (intOf i).toNat)
 case atStart => exact ⟨0, by omega, rfl, Ho1.out, hb1.out⟩
 case round =>
  obtain ⟨j, hj, rfl, ho, hb⟩ := hrel
  have hsz := hb.size
  by_cases hlt : j < xs.length
  ·obtain ⟨x, hx⟩ := ak hlt
   obtain ⟨bb, o, vh, vb, rfl, hbB, hbz, hvh, hvb, k0, k1, k2, k3, k4, k5⟩ := (H.out _ hb).pl hx
   have Hx := hid hx
   have hsx := Hs.out x (List.mem_of_getElem? hx)
   obtain ⟨Ah, ch, rfl, _, _, _⟩ := hvh.form
   obtain ⟨Ab, cb, rfl, _, _, _⟩ := hvb.form
   obtain ⟨Au, cu, eu⟩ := ho.form
   rw [show (xs.take j).length = j from by simp; omega] at eu
   subst eu
   have HO := hid ho; have Hb := hid hb
   have htop := ho.top
   have HVs0 := hid hvh; have HVb0 := hid hvb
   clear hx ho hb hvh hvb
   go_upto_region 5 with fail
   have e5 := heap_alloc_new wr (.cells #[.int .i64 x.kind, .int .i64 x.next, .int .i64 x.pk.el, .slice Ah x.pk.hd.length ch, .int .i64 x.pk.tag, .slice Ab x.pk.bd.length cb] 144)
   have sW : (wr.alloc (.cells #[.int .i64 x.kind, .int .i64 x.next, .int .i64 x.pk.el, .slice Ah x.pk.hd.length ch, .int .i64 x.pk.tag, .slice Ab x.pk.bd.length cb] 144)).heap.size = wr.heap.size + 1 := by simp
   have hvh := HVs0.out.below (ab wr (.cells #[.int .i64 x.kind, .int .i64 x.next, .int .i64 x.pk.el, .slice Ah x.pk.hd.length ch, .int .i64 x.pk.tag, .slice Ab x.pk.bd.length cb] 144)) hsz
   have hvb := HVb0.out.below (ab wr (.cells #[.int .i64 x.kind, .int .i64 x.next, .int .i64 x.pk.el, .slice Ah x.pk.hd.length ch, .int .i64 x.pk.tag, .slice Ab x.pk.bd.length cb] 144)) hsz
   have hW : Below wr.heap.size wr (wr.alloc (.cells #[.int .i64 x.kind, .int .i64 x.next, .int .i64 x.pk.el, .slice Ah x.pk.hd.length ch, .int .i64 x.pk.tag, .slice Ab x.pk.bd.length cb] 144)) := ab _ _
   have HLt := hid (fun b (hb : b ∈ (Value.slice Au j cu).ownBlock.toList) => htop b (aA.1 hb))
   have HO1 := hid (HO.out.go (ab wr (.cells #[.int .i64 x.kind, .int .i64 x.next, .int .i64 x.pk.el, .slice Ah x.pk.hd.length ch, .int .i64 x.pk.tag, .slice Ab x.pk.bd.length cb] 144)))
   have nm : wr.heap.size ∉ (Value.slice Au j cu).ownBlock.toList := fun hm => by have := (HLt.out _ hm).2; omega
   generalize hgn : wr.heap.size = nW at *
   generalize wr.alloc (.cells #[.int .i64 x.kind, .int .i64 x.next, .int .i64 x.pk.el, .slice Ah x.pk.hd.length ch, .int .i64 x.pk.tag, .slice Ab x.pk.bd.length cb] 144) = W at *
   have HVs := hid (fun (wx : World) (hT : Tch (Value.slice Au j cu).ownBlock.toList W wx) => hvh.tch hT (by omega) (fun b hb => (HLt.out b hb).1))
   have HVb := hid (fun (wx : World) (hT : Tch (Value.slice Au j cu).ownBlock.toList W wx) => hvb.tch hT (by omega) (fun b hb => (HLt.out b hb).1))
   have HS := hid (fun (wx : World) (hT : Tch (Value.slice Au j cu).ownBlock.toList W wx) => And.intro (az (hT.row e5 nm)) (show nW < wx.heap.size by have := hT.size; omega))
   have HbW := hid (Hb.out.trans (hW.mono (by omega)))
   clear e5 hvh hvb hW nm htop hgn HVs0 HVb0 k0 k1 k2 k3 k4 k5
   refine rgN ((Value.slice Au j cu).ownBlock.toList) 12 (by kernel_rfl) rfl (fun | none, _, _, _, _ => id | some _, _, _, _, _ => id) fun wd hH hbwd swd => ?_
   simp only [pw]
   refine ag [0, 1, 2, 3, 4, 5, 6] ?_
   iterate 7 (refine ra HS.out rfl (by kernel_rfl) rfl (fun _ f => by go_simp; try with_reducible rfl) ?_; try simp only [pw])
   refine rq 7 (by kernel_rfl) rfl fun K hK => ?_
   go_simp
   (go_at_call 84; refine (eM x.pk _ _ _ (HVs.out _ hH) (HVb.out _ hH) hsx.1 hsx.2).mono ?_; rintro e w7 ⟨u7, u7b, rfl, n7, hbC⟩; obtain ⟨A7, c7, A8, c8, rfl, rfl⟩ := cQ n7; have hb7 := hbC; have sb7 := hbC.size)
   refine hK.out _ _ (hH.trans (Tch.of hbC)) (fun hH => ?_)
   clear hK K
   refine tr 8 HS.out rfl (by kernel_rfl) rfl (fun _ f => by go_simp; try with_reducible rfl) ?_
   try simp only [pw]
   refine rq 9 (by kernel_rfl) rfl fun K hK => ?_
   go_simp
   (generalize hgw : World.alloc _ _ = w9; obtain ⟨e9, hbC, s9⟩ := al hgw; have hb9 := hbC; clear hgw)
   refine hK.out _ _ (hH.trans (Tch.of hbC)) (fun hH => ?_)
   clear hK K
   refine rq 10 (by kernel_rfl) rfl fun K hK => ?_
   (refine qa rfl (.tmp 16) (.tmp 25) 68 rfl oPl (B := w.heap.size) Tryz.underlying68 hi hz0 hz1 hz2 rfl (by decide) [.int .i64 x.kind, .int .i64 x.next, .int .i64 x.pk.el, .slice A7 x.pk.hd.length c7, .int .i64 x.pk.tag, .slice A8 x.pk.bd.length c8] (v := .slice Au j cu) rfl (HO1.out.go hbwd) hb7 (gG n7) hb9 _ e9 rfl ?_ ?_ (by omega) ?_; (simp; omega); (simp [maxLen]; omega); intro v10 w10 n10 hg10; have hbP := hH.grow hg10 (fun k hk hlt => aA.2 hk); have sg10 := hg10.size)
   refine hK.out _ _ (hbP) (fun hH => ?_)
   clear hK K
   refine tr 11 HS.out rfl (by kernel_rfl) rfl (fun _ f => by go_simp; try with_reducible rfl) ?_
   try simp only [pw]
   refine dm (by kernel_rfl) ?_
   have hbf := HbW.out.trans (hH.below (B := w.heap.size) (by omega) (fun b hb => (HLt.out b hb).1))
   have N10 := hid n10; have HBf := hid hbf
   clear n10 hbf hH hbC hbP hg10 hb7 hb9 n7 e9 hbwd
   go_wp2_with fail
   go_roundw
   case rel => exact ⟨j + 1, by omega, by go_num, by rw [aP Hx.out]; exact N10.out, HBf.out⟩
   case measure => simp [intOf]; omega
  ·have Ha := hid (aR hj hlt)
   have Ho := hid ho; have Hb := hid hb
   clear ho hb
   go_wp2_with fail
   go_ret
   exact ⟨_, rfl, by rw [← Ha.out]; exact Ho.out, Hb.out⟩
theorem ct (m : Mx) (vs vp : Value) (w : World) (h1 : SlB af w.heap.size w vs m.seen) (h2 : SlB tPl w.heap.size w vp m.pool) (l1 : m.seen.length ≤ 1000000) (l2 : m.pool.length ≤ 1000000) (hs : ∀ x ∈ m.pool, x.pk.hd.length ≤ 1073741824 ∧ x.pk.bd.length ≤ 1073741824) :
  Calls Tryz.prog 83 #[.agg #[.int .i64 m.sec, vs, vp]] w fun e w' => ∃ us up, e = .returned (.agg #[.int .i64 m.sec, us, up]) ∧ aC oMx w.heap.size w' [.int .i64 m.sec, us, up] m ∧ Below w.heap.size w w' := by
 obtain ⟨As, cs, rfl, _, _, _⟩ := h1.form
 obtain ⟨Ap, cp, rfl, _, _, _⟩ := h2.form
 have Hs := hid hs
 go_enter Tryz.func83, Tryz.ntmps83
 go_upto_region 1 with fail
 generalize hgw : World.alloc (World.alloc w _) _ = W0; obtain ⟨e0, e1, hW0, sW0⟩ := iB hgw; clear hgw
 have HS := hid (fun (wx : World) (hT : Tch [] W0 wx) => And.intro (aE (hT.row e0 (by simp))) (show w.heap.size < wx.heap.size by have := hT.size; omega))
 have H1 := hid (fun (wx : World) (hT : Tch [] W0 wx) => h1.go (bt hW0 hT.nil))
 have H2 := hid (fun (wx : World) (hT : Tch [] W0 wx) => h2.go (bt hW0 hT.nil))
 have HW0 := hid hW0; have E1 := hid e1
 clear h1 h2 e0 e1 hW0 hs
 refine rgN [] 10 (by kernel_rfl) rfl (fun | none, _, _, _, _ => id | some _, _, _, _, _ => id) fun wd hH hbwd swd => ?_
 simp only [pw]
 refine ag [0, 1, 2, 3, 5, 6] ?_
 iterate 6 (refine ra HS.out rfl (by kernel_rfl) rfl (fun _ f => by go_simp; try with_reducible rfl) ?_; try simp only [pw])
 refine rq 4 (by kernel_rfl) rfl fun K hK => ?_
 go_simp
 (have s4 := hH.size; go_at_call 129; refine (dw _ m.seen _ (H1.out _ hH) (by omega)).mono ?_; rintro e w4 ⟨v4, rfl, n4, hbC⟩; obtain ⟨A4, c4, rfl⟩ := n4.form; have i4 := (mw n4).inn)
 refine hK.out _ _ (hH.trans (Tch.of hbC)) (fun hH => ?_)
 clear hK K
 refine rq 7 (by kernel_rfl) rfl fun K hK => ?_
 go_simp
 (have s7 := hH.size; go_at_call 130; refine (kV _ m.pool _ (H2.out _ hH) (by omega) Hs.out).mono ?_; rintro e w7 ⟨v7, rfl, n7, hbC⟩; obtain ⟨A7, c7, rfl⟩ := n7.form; replace i4 := i4.go hbC (Nat.le_refl _); have i7 := my n7)
 refine hK.out _ _ (hH.trans (Tch.of hbC)) (fun hH => ?_)
 clear hK K
 refine tr 8 HS.out rfl (by kernel_rfl) rfl (fun _ f => by go_simp; try with_reducible rfl) ?_
 try simp only [pw]
 (obtain ⟨q0, q1, q2, qf⟩ := aE (ac hH.nil E1.out); have qf0 := qf 0; have qf1 := qf 1; have qf2 := qf 2; have z1 := World.block_lt_of_cell? _ _ q0; dsimp only at z1)
 refine rz 9 (by kernel_rfl) rfl fun K hK => ?_
 have fC := HS.out _ hH
 go_simp
 clear fC
 refine hK.out _ _ ?_
 clear hK K
 have hF := hH.nil
 have j4 := (((i4.base (B' := w.heap.size + 2) (by omega)).set (p := ⟨w.heap.size + 1, 0, none⟩) (u := .int .i64 m.sec) (by dsimp only; omega)).set (p := ⟨w.heap.size + 1, 1, none⟩) (u := .slice A4 m.seen.length c4) (by dsimp only; omega)).set (p := ⟨w.heap.size + 1, 2, none⟩) (u := .slice A7 m.pool.length c7) (by dsimp only; omega)
 have j7 := ((i7.set (p := ⟨w.heap.size + 1, 0, none⟩) (u := .int .i64 m.sec) (by dsimp only; omega)).set (p := ⟨w.heap.size + 1, 1, none⟩) (u := .slice A4 m.seen.length c4) (by dsimp only; omega)).set (p := ⟨w.heap.size + 1, 2, none⟩) (u := .slice A7 m.pool.length c7) (by dsimp only; omega)
 have hbf := (((bt HW0.out hF).setCell (p := ⟨w.heap.size + 1, 0, none⟩) (by simp) (.int .i64 m.sec)).setCell (p := ⟨w.heap.size + 1, 1, none⟩) (by simp) (.slice A4 m.seen.length c4)).setCell (p := ⟨w.heap.size + 1, 2, none⟩) (by simp) (.slice A7 m.pool.length c7)
 have HX := hid ((oQ (m := m) j4 j7 (by omega)).base (B' := w.heap.size) (by omega))
 have HBf := hid hbf
 clear j4 j7 hbf hH hF hbC i4 i7 n4 n7 qf
 go_wp2_with fail
 refine bodyPost_ret (v := .agg #[.int .i64 m.sec, .slice A4 m.seen.length c4, .slice A7 m.pool.length c7]) (by simp [results, Tryz.results83, go_sem, q0, q1, q2]) rfl ⟨_, _, rfl, HX.out, HBf.out⟩
theorem dy (s : Int) (p : Pk) (y : Pl) (vh vb : Value) (w : World) (h1 : SlB af w.heap.size w vh p.hd) (h2 : SlB af w.heap.size w vb p.bd) (hs : win s 1 996 = true) (hp : pkB p = true) (hy : aW s p = some y) :
  Calls Tryz.prog 233 #[.int .i64 s, .agg #[.int .i64 p.el, vh, .int .i64 p.tag, vb]] w fun e w' => ∃ uh ub, e = .returned (.tuple #[.agg #[.int .i64 y.kind, .int .i64 y.next, .int .i64 y.pk.el, uh, .int .i64 y.pk.tag, ub], .bool true]) ∧ aC oPl w.heap.size w' [.int .i64 y.kind, .int .i64 y.next, .int .i64 y.pk.el, uh, .int .i64 y.pk.tag, ub] y ∧ Below w.heap.size w w' := by
 have := iS s p vh vb w h1 h2 hs hp
 rw [hy] at this
 exact this
theorem jN (s : Int) (p : Pk) (vh vb : Value) (w : World) (h1 : SlB af w.heap.size w vh p.hd) (h2 : SlB af w.heap.size w vb p.bd) (hs : win s 1 996 = true) (hp : pkB p = true) (hy : aW s p = none) :
  Calls Tryz.prog 233 #[.int .i64 s, .agg #[.int .i64 p.el, vh, .int .i64 p.tag, vb]] w fun e w' => ∃ A c A' c', e = .returned (.tuple #[.agg #[.int .i64 0, .int .i64 0, .int .i64 0, .slice A 0 c, .int .i64 0, .slice A' 0 c'], .bool false]) ∧ Below w.heap.size w w' := by
 have := iS s p vh vb w h1 h2 hs hp
 rw [hy] at this
 refine this.mono fun e w' ⟨uh, ub, he, hn, hb⟩ => ?_
 obtain ⟨A, c, A', c', rfl, rfl⟩ := cj hn
 exact ⟨A, c, A', c', he, hb⟩
theorem lE (m : Mx) (vs vp : Value) (p : Pk) (vh vb : Value) (w : World) (h1 : SlB af w.heap.size w vs m.seen) (h2 : SlB tPl w.heap.size w vp m.pool) (h3 : SlB af w.heap.size w vh p.hd) (h4 : SlB af w.heap.size w vb p.bd) (hm : mxB m = true) (hp : pkB p = true) (hr : aW m.sec p = none) :
  Calls Tryz.prog 188 #[.agg #[.int .i64 m.sec, vs, vp], .agg #[.int .i64 p.el, vh, .int .i64 p.tag, vb]] w (dX w (bB m p)) := by
 obtain ⟨m1, m2, m3, m4, m5⟩ := bh.1 hm
 have Hpool := hid (fun (x : Pl) (hx : x ∈ m.pool) => show x.pk.hd.length ≤ 1073741824 ∧ x.pk.bd.length ≤ 1073741824 by
  obtain ⟨_, _, hk⟩ := aV.1 (m5 x hx)
  obtain ⟨_, ⟨a, _⟩, ⟨b, _⟩, _⟩ := aD.1 hk
  omega)
 have p1 := (aD.1 hp).1
 have H1 := hid (fun (wx : World) (hb : Below w.heap.size w wx) => h1.go hb)
 have H2 := hid (fun (wx : World) (hb : Below w.heap.size w wx) => h2.go hb)
 have H3 := hid (fun (wx : World) (hb : Below w.heap.size w wx) => h3.go hb)
 have H4 := hid (fun (wx : World) (hb : Below w.heap.size w wx) => h4.go hb)
 obtain ⟨As, cs, rfl, _, _, _⟩ := h1.form
 obtain ⟨Ap, cp, rfl, _, _, _⟩ := h2.form
 obtain ⟨Ah, ch, rfl, _, _, _⟩ := h3.form
 obtain ⟨Ab, cb, rfl, _, _, _⟩ := h4.form
 have Hp := hid hp; have Hm := hid hm
 clear h1 h2 h3 h4 hm m4 m5 hp
 have hkw := bu m1 p1
 rw [pc hr]
 have Hr := hid hr
 clear hr
 go_enter Tryz.func188, Tryz.ntmps188
 go_wp2_with fail
 refine (ci m _ _ _ (H1.out _ (by repeat (first | exact ah | apply ae | refine bA ?_ (by omega) | refine Below.setCell ?_ (by first | omega | simp <;> omega) _))) (H2.out _ (by repeat (first | exact ah | apply ae | refine bA ?_ (by omega) | refine Below.setCell ?_ (by first | omega | simp <;> omega) _)))).mono ?_
 rw [Hm.out]
 rintro e wa ⟨rfl, hba⟩
 obtain ⟨a0, a1, a2⟩ := eJ hba
 have hca := hid (bt (by repeat (first | exact ah | apply ae | refine bA ?_ (by omega) | refine Below.setCell ?_ (by first | omega | simp <;> omega) _)) hba : Below w.heap.size w wa)
 have sa : w.heap.size + 1 + 1 < wa.heap.size := (aL a2)
 have sa0 : w.heap.size < wa.heap.size := by omega
 have sa1 : w.heap.size + 1 < wa.heap.size := by omega
 obtain ⟨k0, k1, k2, _⟩ := aE a0
 obtain ⟨l0, l1, l2, l3, _⟩ := aN a1
 have EA0 := hid a0; have EA1 := hid a1; have EA2 := hid a2
 clear hba a0 a1 a2
 go_wp2_with fail
 refine (bJ p _ _ _ (H3.out _ hca.out) (H4.out _ hca.out)).mono ?_
 rw [Hp.out]
 rintro e wb ⟨rfl, hbb⟩
 have hcb := hid (bt hca.out hbb)
 have EB0 := hid (ac hbb EA0.out); have EB1 := hid (ac hbb EA1.out); have EB2 := hid (ac hbb EA2.out)
 have sb := hbb.size
 have sb0 : w.heap.size < wb.heap.size := by omega
 clear k0 k1 k2 l0 l1 l2 l3 hbb
 obtain ⟨k0, k1, k2, _⟩ := aE EB0.out
 go_wp2_with fail
 refine (ct m _ _ _ (H1.out _ hcb.out) (H2.out _ hcb.out) (by omega) (by omega) Hpool.out).mono ?_
 rintro e w1 ⟨us, up, rfl, n1, hb1⟩
 obtain ⟨A1, c1, A2, c2, rfl, rfl⟩ := aQ n1
 have b0 := ac hb1 EB0.out
 have b1 := ac hb1 EB1.out
 have b2 := ac hb1 EB2.out
 have hc1 : Below w.heap.size w w1 := bt hcb.out hb1
 have s1 : w.heap.size + 1 + 1 < w1.heap.size := (aL b2)
 have s1a : w.heap.size < w1.heap.size := by omega
 have s1b : w.heap.size + 1 < w1.heap.size := by omega
 clear k0 k1 k2
 obtain ⟨k0, k1, k2, _⟩ := aE b0
 obtain ⟨l0, l1, l2, l3, _⟩ := aN b1
 have N1 := hid (n1.base (B' := w.heap.size + 1 + 1 + 1) (by omega)); have Hc1 := hid hc1; have E0 := hid b0; have E1 := hid b1; have E2 := hid b2
 clear n1 hb1 hc1 b0 b1 b2 EA0 EA1 EA2 EB0 EB1 EB2 sa sa0 sa1 sb sb0
 go_wp2_with fail
 refine (jN m.sec p _ _ _ (H3.out _ (bt Hc1.out (ab _ _))) (H4.out _ (bt Hc1.out (ab _ _))) m1 Hp.out Hr.out).mono ?_
 rintro e w2 ⟨A3, c3, A4, c4, rfl, hb2⟩
 have hb2' := bt (ab w1 _) hb2
 clear k0 k1 k2 l0 l1 l2 l3
 obtain ⟨k0, k1, k2, _⟩ := aE (ac hb2' E0.out)
 obtain ⟨l0, l1, l2, l3, _⟩ := aN (ac hb2' E1.out)
 obtain ⟨q0, q1, q2, qf⟩ := aE (ac hb2' E2.out)
 obtain ⟨o0, o1, o2, of⟩ := aE (ac hb2 (heap_alloc_new w1 _))
 have qf0 := qf 0; have qf1 := qf 1; have qf2 := qf 2
 have of0 := of 0; have of1 := of 1; have of2 := of 2
 have s2 : w1.heap.size < w2.heap.size := (Array.getElem?_eq_some_iff.1 (ac hb2 (heap_alloc_new w1 _))).1
 have s2a : w.heap.size < w2.heap.size := by omega
 have s2b : w.heap.size + 1 + 1 < w2.heap.size := by omega
 have s2c : w.heap.size + 1 < w2.heap.size := by omega
 have Hc2 := hid (bt Hc1.out hb2')
 have N2 := hid (N1.out.go hb2' (Nat.le_refl _))
 have S2 := hid (ej (H1.out _ Hc1.out) hb2')
 have Hq := hid hb2
 clear hb2 hb2' qf of
 go_wp2_with (go_at_call 224; refine (cS _ _ _ m1 p1).mono ?_; rintro e w' ⟨rfl, rfl⟩)
 refine bodyPost_ret (v := .tuple #[.agg #[.int .i64 m.sec, .slice A1 m.seen.length c1, .slice A2 m.pool.length c2], .int .i64 2]) (by simp [results, Tryz.results188, go_sem, q0, q1, q2, s2b]) rfl ⟨_, _, rfl, ?_, ?_⟩
 ·refine aC.base (B := w.heap.size + 1 + 1 + 1) ?_ (by omega)
  repeat (first | refine aC.set ?_ (by dsimp only; omega) | refine aC.go ?_ (ab _ _) (Nat.le_refl _))
  exact N2.out
 ·repeat (first | refine Below.setCell ?_ (by dsimp only; omega) _ | refine Below.alloc ?_ (by simp only [World.size_alloc, ao]; omega) _)
  exact Hc2.out
theorem mv (m : Mx) (vs vp : Value) (p : Pk) (vh vb : Value) (w : World) (h1 : SlB af w.heap.size w vs m.seen) (h2 : SlB tPl w.heap.size w vp m.pool) (h3 : SlB af w.heap.size w vh p.hd) (h4 : SlB af w.heap.size w vb p.bd) (hm : mxB m = true) (hp : pkB p = true) (y : Pl) (hr : aW m.sec p = some y) (hin : aq m.sec p.el ∈ m.seen) :
  Calls Tryz.prog 188 #[.agg #[.int .i64 m.sec, vs, vp], .agg #[.int .i64 p.el, vh, .int .i64 p.tag, vb]] w (dX w (bB m p)) := by
 obtain ⟨m1, m2, m3, m4, m5⟩ := bh.1 hm
 have Hpool := hid (fun (x : Pl) (hx : x ∈ m.pool) => show x.pk.hd.length ≤ 1073741824 ∧ x.pk.bd.length ≤ 1073741824 by
  obtain ⟨_, _, hk⟩ := aV.1 (m5 x hx)
  obtain ⟨_, ⟨a, _⟩, ⟨b, _⟩, _⟩ := aD.1 hk
  omega)
 have p1 := (aD.1 hp).1
 have H1 := hid (fun (wx : World) (hb : Below w.heap.size w wx) => h1.go hb)
 have H2 := hid (fun (wx : World) (hb : Below w.heap.size w wx) => h2.go hb)
 have H3 := hid (fun (wx : World) (hb : Below w.heap.size w wx) => h3.go hb)
 have H4 := hid (fun (wx : World) (hb : Below w.heap.size w wx) => h4.go hb)
 obtain ⟨As, cs, rfl, _, _, _⟩ := h1.form
 obtain ⟨Ap, cp, rfl, _, _, _⟩ := h2.form
 obtain ⟨Ah, ch, rfl, _, _, _⟩ := h3.form
 obtain ⟨Ab, cb, rfl, _, _, _⟩ := h4.form
 have Hp := hid hp; have Hm := hid hm
 clear h1 h2 h3 h4 hm m4 m5 hp
 have hkw := bu m1 p1
 rw [qY hr hin]
 have Hr := hid hr
 have hdin : decide (aq m.sec p.el ∈ m.seen) = true := decide_eq_true hin
 clear hr hin
 go_enter Tryz.func188, Tryz.ntmps188
 go_wp2_with fail
 refine (ci m _ _ _ (H1.out _ (by repeat (first | exact ah | apply ae | refine bA ?_ (by omega) | refine Below.setCell ?_ (by first | omega | simp <;> omega) _))) (H2.out _ (by repeat (first | exact ah | apply ae | refine bA ?_ (by omega) | refine Below.setCell ?_ (by first | omega | simp <;> omega) _)))).mono ?_
 rw [Hm.out]
 rintro e wa ⟨rfl, hba⟩
 obtain ⟨a0, a1, a2⟩ := eJ hba
 have hca := hid (bt (by repeat (first | exact ah | apply ae | refine bA ?_ (by omega) | refine Below.setCell ?_ (by first | omega | simp <;> omega) _)) hba : Below w.heap.size w wa)
 have sa : w.heap.size + 1 + 1 < wa.heap.size := (aL a2)
 have sa0 : w.heap.size < wa.heap.size := by omega
 have sa1 : w.heap.size + 1 < wa.heap.size := by omega
 obtain ⟨k0, k1, k2, _⟩ := aE a0
 obtain ⟨l0, l1, l2, l3, _⟩ := aN a1
 have EA0 := hid a0; have EA1 := hid a1; have EA2 := hid a2
 clear hba a0 a1 a2
 go_wp2_with fail
 refine (bJ p _ _ _ (H3.out _ hca.out) (H4.out _ hca.out)).mono ?_
 rw [Hp.out]
 rintro e wb ⟨rfl, hbb⟩
 have hcb := hid (bt hca.out hbb)
 have EB0 := hid (ac hbb EA0.out); have EB1 := hid (ac hbb EA1.out); have EB2 := hid (ac hbb EA2.out)
 have sb := hbb.size
 have sb0 : w.heap.size < wb.heap.size := by omega
 clear k0 k1 k2 l0 l1 l2 l3 hbb
 obtain ⟨k0, k1, k2, _⟩ := aE EB0.out
 go_wp2_with fail
 refine (ct m _ _ _ (H1.out _ hcb.out) (H2.out _ hcb.out) (by omega) (by omega) Hpool.out).mono ?_
 rintro e w1 ⟨us, up, rfl, n1, hb1⟩
 obtain ⟨A1, c1, A2, c2, rfl, rfl⟩ := aQ n1
 have b0 := ac hb1 EB0.out
 have b1 := ac hb1 EB1.out
 have b2 := ac hb1 EB2.out
 have hc1 : Below w.heap.size w w1 := bt hcb.out hb1
 have s1 : w.heap.size + 1 + 1 < w1.heap.size := (aL b2)
 have s1a : w.heap.size < w1.heap.size := by omega
 have s1b : w.heap.size + 1 < w1.heap.size := by omega
 clear k0 k1 k2
 obtain ⟨k0, k1, k2, _⟩ := aE b0
 obtain ⟨l0, l1, l2, l3, _⟩ := aN b1
 have N1 := hid (n1.base (B' := w.heap.size + 1 + 1 + 1) (by omega)); have Hc1 := hid hc1; have E0 := hid b0; have E1 := hid b1; have E2 := hid b2
 clear n1 hb1 hc1 b0 b1 b2 EA0 EA1 EA2 EB0 EB1 EB2 sa sa0 sa1 sb sb0
 go_wp2_with fail
 refine (dy m.sec p y _ _ _ (H3.out _ (bt Hc1.out (ab _ _))) (H4.out _ (bt Hc1.out (ab _ _))) m1 Hp.out Hr.out).mono ?_
 rintro e w2 ⟨uh, ub, rfl, n2, hb2⟩
 obtain ⟨A3, c3, A4, c4, rfl, rfl⟩ := cj n2
 have hb2' := bt (ab w1 _) hb2
 clear k0 k1 k2 l0 l1 l2 l3
 obtain ⟨k0, k1, k2, _⟩ := aE (ac hb2' E0.out)
 obtain ⟨l0, l1, l2, l3, _⟩ := aN (ac hb2' E1.out)
 obtain ⟨q0, q1, q2, qf⟩ := aE (ac hb2' E2.out)
 obtain ⟨o0, o1, o2, of⟩ := aE (ac hb2 (heap_alloc_new w1 _))
 have qf0 := qf 0; have qf1 := qf 1; have qf2 := qf 2
 have of0 := of 0; have of1 := of 1; have of2 := of 2
 have s2 : w1.heap.size < w2.heap.size := (Array.getElem?_eq_some_iff.1 (ac hb2 (heap_alloc_new w1 _))).1
 have s2a : w.heap.size < w2.heap.size := by omega
 have s2b : w.heap.size + 1 + 1 < w2.heap.size := by omega
 have s2c : w.heap.size + 1 < w2.heap.size := by omega
 have Hc2 := hid (bt Hc1.out hb2')
 have N2 := hid (N1.out.go hb2' (Nat.le_refl _))
 have S2 := hid (ej (H1.out _ Hc1.out) hb2')
 have Hq := hid hb2
 clear hb2 hb2' qf of n2
 go_wp2_with (first | (go_at_call 224; refine (cS _ _ _ m1 p1).mono ?_; rintro e w' ⟨rfl, rfl⟩) | (go_at_call 166; refine (dl _ m.seen _ _ (S2.out.go (ab _ _))).mono ?_; rw [hdin]; rintro e w' ⟨rfl, rfl⟩))
 refine bodyPost_ret (v := .tuple #[.agg #[.int .i64 m.sec, .slice A1 m.seen.length c1, .slice A2 m.pool.length c2], .int .i64 1]) (by simp [results, Tryz.results188, go_sem, q0, q1, q2, s2b]) rfl ⟨_, _, rfl, ?_, ?_⟩
 ·refine aC.base (B := w.heap.size + 1 + 1 + 1) ?_ (by omega)
  repeat (first | refine aC.set ?_ (by dsimp only; omega) | refine aC.go ?_ (ab _ _) (Nat.le_refl _))
  exact N2.out
 ·repeat (first | refine Below.setCell ?_ (by dsimp only; omega) _ | refine Below.alloc ?_ (by simp only [World.size_alloc, ao]; omega) _)
  exact Hc2.out
theorem j8 (m : Mx) (vs vp : Value) (p : Pk) (vh vb : Value) (w : World) (h1 : SlB af w.heap.size w vs m.seen) (h2 : SlB tPl w.heap.size w vp m.pool) (h3 : SlB af w.heap.size w vh p.hd) (h4 : SlB af w.heap.size w vb p.bd) (hm : mxB m = true) (hp : pkB p = true) (y : Pl) (hr : aW m.sec p = some y) (hin : aq m.sec p.el ∉ m.seen) (hf : 12 ≤ m.seen.length) :
  Calls Tryz.prog 188 #[.agg #[.int .i64 m.sec, vs, vp], .agg #[.int .i64 p.el, vh, .int .i64 p.tag, vb]] w (dX w (bB m p)) := by
 obtain ⟨m1, m2, m3, m4, m5⟩ := bh.1 hm
 have Hpool := hid (fun (x : Pl) (hx : x ∈ m.pool) => show x.pk.hd.length ≤ 1073741824 ∧ x.pk.bd.length ≤ 1073741824 by
  obtain ⟨_, _, hk⟩ := aV.1 (m5 x hx)
  obtain ⟨_, ⟨a, _⟩, ⟨b, _⟩, _⟩ := aD.1 hk
  omega)
 have p1 := (aD.1 hp).1
 have H1 := hid (fun (wx : World) (hb : Below w.heap.size w wx) => h1.go hb)
 have H2 := hid (fun (wx : World) (hb : Below w.heap.size w wx) => h2.go hb)
 have H3 := hid (fun (wx : World) (hb : Below w.heap.size w wx) => h3.go hb)
 have H4 := hid (fun (wx : World) (hb : Below w.heap.size w wx) => h4.go hb)
 obtain ⟨As, cs, rfl, _, _, _⟩ := h1.form
 obtain ⟨Ap, cp, rfl, _, _, _⟩ := h2.form
 obtain ⟨Ah, ch, rfl, _, _, _⟩ := h3.form
 obtain ⟨Ab, cb, rfl, _, _, _⟩ := h4.form
 have Hp := hid hp; have Hm := hid hm
 clear h1 h2 h3 h4 hm m4 m5 hp
 have hkw := bu m1 p1
 rw [iI hr hin (by omega)]
 have Hr := hid hr
 have hdin : decide (aq m.sec p.el ∈ m.seen) = false := decide_eq_false hin
 have i1 : ((m.seen.length : Int) == 12) = true := by simp; omega
 clear hr hin
 go_enter Tryz.func188, Tryz.ntmps188
 go_wp2_with fail
 refine (ci m _ _ _ (H1.out _ (by repeat (first | exact ah | apply ae | refine bA ?_ (by omega) | refine Below.setCell ?_ (by first | omega | simp <;> omega) _))) (H2.out _ (by repeat (first | exact ah | apply ae | refine bA ?_ (by omega) | refine Below.setCell ?_ (by first | omega | simp <;> omega) _)))).mono ?_
 rw [Hm.out]
 rintro e wa ⟨rfl, hba⟩
 obtain ⟨a0, a1, a2⟩ := eJ hba
 have hca := hid (bt (by repeat (first | exact ah | apply ae | refine bA ?_ (by omega) | refine Below.setCell ?_ (by first | omega | simp <;> omega) _)) hba : Below w.heap.size w wa)
 have sa : w.heap.size + 1 + 1 < wa.heap.size := (aL a2)
 have sa0 : w.heap.size < wa.heap.size := by omega
 have sa1 : w.heap.size + 1 < wa.heap.size := by omega
 obtain ⟨k0, k1, k2, _⟩ := aE a0
 obtain ⟨l0, l1, l2, l3, _⟩ := aN a1
 have EA0 := hid a0; have EA1 := hid a1; have EA2 := hid a2
 clear hba a0 a1 a2
 go_wp2_with fail
 refine (bJ p _ _ _ (H3.out _ hca.out) (H4.out _ hca.out)).mono ?_
 rw [Hp.out]
 rintro e wb ⟨rfl, hbb⟩
 have hcb := hid (bt hca.out hbb)
 have EB0 := hid (ac hbb EA0.out); have EB1 := hid (ac hbb EA1.out); have EB2 := hid (ac hbb EA2.out)
 have sb := hbb.size
 have sb0 : w.heap.size < wb.heap.size := by omega
 clear k0 k1 k2 l0 l1 l2 l3 hbb
 obtain ⟨k0, k1, k2, _⟩ := aE EB0.out
 go_wp2_with fail
 refine (ct m _ _ _ (H1.out _ hcb.out) (H2.out _ hcb.out) (by omega) (by omega) Hpool.out).mono ?_
 rintro e w1 ⟨us, up, rfl, n1, hb1⟩
 obtain ⟨A1, c1, A2, c2, rfl, rfl⟩ := aQ n1
 have b0 := ac hb1 EB0.out
 have b1 := ac hb1 EB1.out
 have b2 := ac hb1 EB2.out
 have hc1 : Below w.heap.size w w1 := bt hcb.out hb1
 have s1 : w.heap.size + 1 + 1 < w1.heap.size := (aL b2)
 have s1a : w.heap.size < w1.heap.size := by omega
 have s1b : w.heap.size + 1 < w1.heap.size := by omega
 clear k0 k1 k2
 obtain ⟨k0, k1, k2, _⟩ := aE b0
 obtain ⟨l0, l1, l2, l3, _⟩ := aN b1
 have N1 := hid (n1.base (B' := w.heap.size + 1 + 1 + 1) (by omega)); have Hc1 := hid hc1; have E0 := hid b0; have E1 := hid b1; have E2 := hid b2
 clear n1 hb1 hc1 b0 b1 b2 EA0 EA1 EA2 EB0 EB1 EB2 sa sa0 sa1 sb sb0
 go_wp2_with fail
 refine (dy m.sec p y _ _ _ (H3.out _ (bt Hc1.out (ab _ _))) (H4.out _ (bt Hc1.out (ab _ _))) m1 Hp.out Hr.out).mono ?_
 rintro e w2 ⟨uh, ub, rfl, n2, hb2⟩
 obtain ⟨A3, c3, A4, c4, rfl, rfl⟩ := cj n2
 have hb2' := bt (ab w1 _) hb2
 clear k0 k1 k2 l0 l1 l2 l3
 obtain ⟨k0, k1, k2, _⟩ := aE (ac hb2' E0.out)
 obtain ⟨l0, l1, l2, l3, _⟩ := aN (ac hb2' E1.out)
 obtain ⟨q0, q1, q2, qf⟩ := aE (ac hb2' E2.out)
 obtain ⟨o0, o1, o2, of⟩ := aE (ac hb2 (heap_alloc_new w1 _))
 have qf0 := qf 0; have qf1 := qf 1; have qf2 := qf 2
 have of0 := of 0; have of1 := of 1; have of2 := of 2
 have s2 : w1.heap.size < w2.heap.size := (Array.getElem?_eq_some_iff.1 (ac hb2 (heap_alloc_new w1 _))).1
 have s2a : w.heap.size < w2.heap.size := by omega
 have s2b : w.heap.size + 1 + 1 < w2.heap.size := by omega
 have s2c : w.heap.size + 1 < w2.heap.size := by omega
 have Hc2 := hid (bt Hc1.out hb2')
 have N2 := hid (N1.out.go hb2' (Nat.le_refl _))
 have S2 := hid (ej (H1.out _ Hc1.out) hb2')
 have Hq := hid hb2
 clear hb2 hb2' qf of n2
 go_wp2_with (first | (go_at_call 224; refine (cS _ _ _ m1 p1).mono ?_; rintro e w' ⟨rfl, rfl⟩) | (go_at_call 166; refine (dl _ m.seen _ _ (S2.out.go (ab _ _))).mono ?_; rw [hdin]; rintro e w' ⟨rfl, rfl⟩))
 refine bodyPost_ret (v := .tuple #[.agg #[.int .i64 m.sec, .slice A1 m.seen.length c1, .slice A2 m.pool.length c2], .int .i64 3]) (by simp [results, Tryz.results188, go_sem, q0, q1, q2, s2b]) rfl ⟨_, _, rfl, ?_, ?_⟩
 ·refine aC.base (B := w.heap.size + 1 + 1 + 1) ?_ (by omega)
  repeat (first | refine aC.set ?_ (by dsimp only; omega) | refine aC.go ?_ (ab _ _) (Nat.le_refl _))
  exact N2.out
 ·repeat (first | refine Below.setCell ?_ (by dsimp only; omega) _ | refine Below.alloc ?_ (by simp only [World.size_alloc, ao]; omega) _)
  exact Hc2.out
theorem j9 (m : Mx) (vs vp : Value) (p : Pk) (vh vb : Value) (w : World) (h1 : SlB af w.heap.size w vs m.seen) (h2 : SlB tPl w.heap.size w vp m.pool) (h3 : SlB af w.heap.size w vh p.hd) (h4 : SlB af w.heap.size w vb p.bd) (hm : mxB m = true) (hp : pkB p = true) (y : Pl) (hr : aW m.sec p = some y) (hin : aq m.sec p.el ∉ m.seen) (hf : ¬ 12 ≤ m.seen.length) (hf2 : 5 ≤ m.pool.length) :
  Calls Tryz.prog 188 #[.agg #[.int .i64 m.sec, vs, vp], .agg #[.int .i64 p.el, vh, .int .i64 p.tag, vb]] w (dX w (bB m p)) := by
 obtain ⟨m1, m2, m3, m4, m5⟩ := bh.1 hm
 have Hpool := hid (fun (x : Pl) (hx : x ∈ m.pool) => show x.pk.hd.length ≤ 1073741824 ∧ x.pk.bd.length ≤ 1073741824 by
  obtain ⟨_, _, hk⟩ := aV.1 (m5 x hx)
  obtain ⟨_, ⟨a, _⟩, ⟨b, _⟩, _⟩ := aD.1 hk
  omega)
 have p1 := (aD.1 hp).1
 have H1 := hid (fun (wx : World) (hb : Below w.heap.size w wx) => h1.go hb)
 have H2 := hid (fun (wx : World) (hb : Below w.heap.size w wx) => h2.go hb)
 have H3 := hid (fun (wx : World) (hb : Below w.heap.size w wx) => h3.go hb)
 have H4 := hid (fun (wx : World) (hb : Below w.heap.size w wx) => h4.go hb)
 obtain ⟨As, cs, rfl, _, _, _⟩ := h1.form
 obtain ⟨Ap, cp, rfl, _, _, _⟩ := h2.form
 obtain ⟨Ah, ch, rfl, _, _, _⟩ := h3.form
 obtain ⟨Ab, cb, rfl, _, _, _⟩ := h4.form
 have Hp := hid hp; have Hm := hid hm
 clear h1 h2 h3 h4 hm m4 m5 hp
 have hkw := bu m1 p1
 rw [iI hr hin (by omega)]
 have Hr := hid hr
 have hdin : decide (aq m.sec p.el ∈ m.seen) = false := decide_eq_false hin
 have i1 : ((m.seen.length : Int) == 12) = false := by simp; omega
 have i2 : ((m.pool.length : Int) == 5) = true := by simp; omega
 clear hr hin
 go_enter Tryz.func188, Tryz.ntmps188
 go_wp2_with fail
 refine (ci m _ _ _ (H1.out _ (by repeat (first | exact ah | apply ae | refine bA ?_ (by omega) | refine Below.setCell ?_ (by first | omega | simp <;> omega) _))) (H2.out _ (by repeat (first | exact ah | apply ae | refine bA ?_ (by omega) | refine Below.setCell ?_ (by first | omega | simp <;> omega) _)))).mono ?_
 rw [Hm.out]
 rintro e wa ⟨rfl, hba⟩
 obtain ⟨a0, a1, a2⟩ := eJ hba
 have hca := hid (bt (by repeat (first | exact ah | apply ae | refine bA ?_ (by omega) | refine Below.setCell ?_ (by first | omega | simp <;> omega) _)) hba : Below w.heap.size w wa)
 have sa : w.heap.size + 1 + 1 < wa.heap.size := (aL a2)
 have sa0 : w.heap.size < wa.heap.size := by omega
 have sa1 : w.heap.size + 1 < wa.heap.size := by omega
 obtain ⟨k0, k1, k2, _⟩ := aE a0
 obtain ⟨l0, l1, l2, l3, _⟩ := aN a1
 have EA0 := hid a0; have EA1 := hid a1; have EA2 := hid a2
 clear hba a0 a1 a2
 go_wp2_with fail
 refine (bJ p _ _ _ (H3.out _ hca.out) (H4.out _ hca.out)).mono ?_
 rw [Hp.out]
 rintro e wb ⟨rfl, hbb⟩
 have hcb := hid (bt hca.out hbb)
 have EB0 := hid (ac hbb EA0.out); have EB1 := hid (ac hbb EA1.out); have EB2 := hid (ac hbb EA2.out)
 have sb := hbb.size
 have sb0 : w.heap.size < wb.heap.size := by omega
 clear k0 k1 k2 l0 l1 l2 l3 hbb
 obtain ⟨k0, k1, k2, _⟩ := aE EB0.out
 go_wp2_with fail
 refine (ct m _ _ _ (H1.out _ hcb.out) (H2.out _ hcb.out) (by omega) (by omega) Hpool.out).mono ?_
 rintro e w1 ⟨us, up, rfl, n1, hb1⟩
 obtain ⟨A1, c1, A2, c2, rfl, rfl⟩ := aQ n1
 have b0 := ac hb1 EB0.out
 have b1 := ac hb1 EB1.out
 have b2 := ac hb1 EB2.out
 have hc1 : Below w.heap.size w w1 := bt hcb.out hb1
 have s1 : w.heap.size + 1 + 1 < w1.heap.size := (aL b2)
 have s1a : w.heap.size < w1.heap.size := by omega
 have s1b : w.heap.size + 1 < w1.heap.size := by omega
 clear k0 k1 k2
 obtain ⟨k0, k1, k2, _⟩ := aE b0
 obtain ⟨l0, l1, l2, l3, _⟩ := aN b1
 have N1 := hid (n1.base (B' := w.heap.size + 1 + 1 + 1) (by omega)); have Hc1 := hid hc1; have E0 := hid b0; have E1 := hid b1; have E2 := hid b2
 clear n1 hb1 hc1 b0 b1 b2 EA0 EA1 EA2 EB0 EB1 EB2 sa sa0 sa1 sb sb0
 go_wp2_with fail
 refine (dy m.sec p y _ _ _ (H3.out _ (bt Hc1.out (ab _ _))) (H4.out _ (bt Hc1.out (ab _ _))) m1 Hp.out Hr.out).mono ?_
 rintro e w2 ⟨uh, ub, rfl, n2, hb2⟩
 obtain ⟨A3, c3, A4, c4, rfl, rfl⟩ := cj n2
 have hb2' := bt (ab w1 _) hb2
 clear k0 k1 k2 l0 l1 l2 l3
 obtain ⟨k0, k1, k2, _⟩ := aE (ac hb2' E0.out)
 obtain ⟨l0, l1, l2, l3, _⟩ := aN (ac hb2' E1.out)
 obtain ⟨q0, q1, q2, qf⟩ := aE (ac hb2' E2.out)
 obtain ⟨o0, o1, o2, of⟩ := aE (ac hb2 (heap_alloc_new w1 _))
 have qf0 := qf 0; have qf1 := qf 1; have qf2 := qf 2
 have of0 := of 0; have of1 := of 1; have of2 := of 2
 have s2 : w1.heap.size < w2.heap.size := (Array.getElem?_eq_some_iff.1 (ac hb2 (heap_alloc_new w1 _))).1
 have s2a : w.heap.size < w2.heap.size := by omega
 have s2b : w.heap.size + 1 + 1 < w2.heap.size := by omega
 have s2c : w.heap.size + 1 < w2.heap.size := by omega
 have Hc2 := hid (bt Hc1.out hb2')
 have N2 := hid (N1.out.go hb2' (Nat.le_refl _))
 have S2 := hid (ej (H1.out _ Hc1.out) hb2')
 have Hq := hid hb2
 clear hb2 hb2' qf of n2
 go_wp2_with (first | (go_at_call 224; refine (cS _ _ _ m1 p1).mono ?_; rintro e w' ⟨rfl, rfl⟩) | (go_at_call 166; refine (dl _ m.seen _ _ (S2.out.go (ab _ _))).mono ?_; rw [hdin]; rintro e w' ⟨rfl, rfl⟩))
 refine bodyPost_ret (v := .tuple #[.agg #[.int .i64 m.sec, .slice A1 m.seen.length c1, .slice A2 m.pool.length c2], .int .i64 3]) (by simp [results, Tryz.results188, go_sem, q0, q1, q2, s2b]) rfl ⟨_, _, rfl, ?_, ?_⟩
 ·refine aC.base (B := w.heap.size + 1 + 1 + 1) ?_ (by omega)
  repeat (first | refine aC.set ?_ (by dsimp only; omega) | refine aC.go ?_ (ab _ _) (Nat.le_refl _))
  exact N2.out
 ·repeat (first | refine Below.setCell ?_ (by dsimp only; omega) _ | refine Below.alloc ?_ (by simp only [World.size_alloc, ao]; omega) _)
  exact Hc2.out
end Go.Proofs.YtfaeojmndaplcaaGreatDoor
