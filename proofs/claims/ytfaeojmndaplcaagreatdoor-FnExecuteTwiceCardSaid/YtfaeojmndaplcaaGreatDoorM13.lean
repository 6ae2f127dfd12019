/- Texts that the last file leans on (part 13). -/
import Derived.Test.YtfaeojmndaplcaaGreatDoorM11
set_option linter.unusedVariables false
set_option linter.unusedSimpArgs false
set_option maxHeartbeats 4000000
set_option maxRecDepth 100000
namespace Go.Proofs.YtfaeojmndaplcaaGreatDoor
open Go Go.RowKit
theorem mS {B : Nat} {w : World} {p : Pk} {uh ub : Value} (h1 : Own af 3 B w uh p.hd []) (h2 : Own af 3 B w ub p.bd []) (hd : ∀ b, uh.ownBlock = some b → ub.ownBlock ≠ some b) : aJ oPk B w [.int .i64 p.el, uh, .int .i64 p.tag, ub] p := by
 refine ⟨uh.ownBlock.toList ++ ub.ownBlock.toList, ⟨[_], _, [], _, rfl, rfl, ⟨rfl, rfl⟩, [uh], _, uh.ownBlock.toList, ub.ownBlock.toList, rfl, rfl, ⟨uh, [], rfl, h1.base (Nat.zero_le _), by simp⟩, [_], [ub], [], ub.ownBlock.toList, rfl, rfl, ⟨rfl, rfl⟩, ⟨ub, [], rfl, h2.base (Nat.zero_le _), by simp⟩⟩, ?_, fun b hb => ?_⟩
 ·rw [List.nodup_append]
  refine ⟨dD _, dD _, fun a ha b hb e => ?_⟩
  subst e
  exact hd a (aW.1 ha) (aW.1 hb)
 ·rcases List.mem_append.1 hb with hb | hb
  ·exact (h1.top b (aW.1 hb)).1
  ·exact (h2.top b (aW.1 hb)).1
def yS (w : World) (p : Pk) (e : Ending) (w' : World) : Prop :=
 ∃ vh vb, e = .returned (.tuple #[.agg #[.int .i64 p.el, vh, .int .i64 p.tag, vb], .bool true]) ∧ aJ oPk w.heap.size w' [.int .i64 p.el, vh, .int .i64 p.tag, vb] p ∧ Below w.heap.size w w'
theorem rN (s rcv : Int) (vp vn vl : Value) (ps ns l : List Int) (w : World) (hp : SlB af w.heap.size w vp ps) (hn : SlB af w.heap.size w vn ns) (hl : SlB af w.heap.size w vl l)
  (h1 : 1 ≤ ps.length) (h3 : ps.length ≤ 3) (hnl : ns.length = ps.length) (hs : win s 1 996 = true) (hpw : ∀ p ∈ ps, win p 1 996 = true) (hnw : ∀ n ∈ ns, win n 0 7 = true) (hr : win rcv 0 7 = true) (hll : l.length ≤ 4) (hln : aM l = true) :
  Calls Tryz.prog 135 #[.int .i64 s, vp, vn, .int .i64 rcv, vl] w (yS w (g8 s ps ns rcv l)) := by
 obtain ⟨y, hy⟩ : ∃ y, y = g8 s ps ns rcv l := ⟨_, rfl⟩
 rw [← hy]
 have Hy := hid hy
 have HP := hid (fun (wx : World) (hb : Below w.heap.size w wx) => hp.go hb)
 have HN := hid (fun (wx : World) (hb : Below w.heap.size w wx) => hn.go hb)
 have HL := hid (fun (wx : World) (hb : Below w.heap.size w wx) => hl.go hb)
 obtain ⟨Ap, cp, rfl, _, _, _⟩ := hp.form
 obtain ⟨An, cn, rfl, _, _, _⟩ := hn.form
 have Hpw := hid hpw; have Hnw := hid hnw; have Hln := hid hln; have Hnl := hid hnl
 have hneq : ((ns.length : Int) != (ps.length : Int)) = false := by simp [hnl]
 have hkl := fY s ps
 have hkw := qk hs hpw
 obtain ⟨keys, hke⟩ : ∃ keys, de s ps = keys := ⟨_, rfl⟩
 rw [hke] at hkl hkw
 have Hke := hid hke; have Hkl := hid hkl; have Hkw := hid hkw
 have hk1 : 1 ≤ keys.length := by omega
 have hk3 : keys.length ≤ 3 := by omega
 clear hp hn hl hpw hnw hln hnl hke hkl hkw hy
 go_enter Tryz.func135, Tryz.ntmps135
 go_upto_region 2 with (go_at_call 178; refine (sq s _ ps _ (HP.out _ (ab _ _)) h1 h3 hs Hpw.out).mono ?_; rw [Hke.out]; rintro e w1 ⟨vk, rfl, nk, hb1⟩; obtain ⟨G, ok, _, _⟩ := nk; obtain rfl := au aj ok; obtain ⟨Ak, ck, rfl, _, _⟩ := ok.formN rfl)
 have Ok := hid ok; have Hb1 := hid hb1; have hc1 := hid (bt (ab w _) hb1)
 have R0 := hid (yA hb1)
 have s1 := hb1.size
 simp only [World.size_alloc] at s1
 clear ok hb1
 go_upto_region 3 with (go_at_call 179; refine (ms vl l _ (HL.out _ hc1.out) hll Hln.out).mono ?_; rintro e w2 ⟨vb0, rfl, nb, hb2⟩; obtain ⟨G, ob, _, _⟩ := nb; obtain rfl := au aj ob; obtain ⟨Ab0, cb0, rfl, _, _⟩ := ob.formN (n := 6) (jt hll))
 have hc2 := hid (bt hc1.out hb2)
 have R0 := hid (ac hb2 R0.out)
 have Ok := hid (Ok.out.go hb2); have Ob := hid ob
 have s2 := hb2.size
 clear ob hb2
 go_upto_region 6 with (first
  | (go_at_call 180; refine (rj _ ns _ (HN.out _ hc2.out) Hnw.out).mono ?_; rintro e w' ⟨rfl, rfl⟩)
  | (go_at_call 126; refine (bP _ _).mono ?_; rw [hr]; rintro e w' ⟨rfl, rfl⟩))
 have Hpn := hid (kr hll Hln.out)
 have Hpl := hid (jt hll)
 go_loopw [14, 56] (fun bv iv wr => ∃ k : Nat, k ≤ keys.length ∧ iv = .int .i64 k ∧ Own af 3 (w.heap.size + 1) wr bv ((keys.take k).foldl onL (cU l)) [] ∧ Below w2.heap.size w2 wr) (fun _ iv _ => keys.length - (intOf iv).toNat)
 case atStart => exact ⟨0, by omega, rfl, Ob.out.base (by omega), zm⟩
 case round =>
  obtain ⟨k, hk, rfl, ho, hb⟩ := hrel
  have szr := hb.size
  by_cases hlt : k < keys.length
  ·obtain ⟨key, hkey⟩ := ai hlt
   have hkw := Hkw.out key (List.mem_of_getElem? hkey)
   obtain ⟨bq, oq, rfl, _, _, hcq⟩ := (Ok.out.go hb).slB.int hkey
   have Hfs := hid (lL (b := cU l) hkey)
   obtain ⟨Ab, cb, rfl, _, _⟩ := ho.formN (n := 6) (by rw [fp]; exact Hpl.out)
   have Ho := hid ho; have Hb := hid hb
   clear ho hb hkey
   go_wp2_with (go_at_call 181; refine (mM _ ((keys.take k).foldl onL (cU l)) key _ Ho.out.slB (iN _ _ Hpn.out) (by rw [fp, Hpl.out]; omega) hkw).mono ?_; rw [← Hfs.out]; rintro e w3 ⟨v3, rfl, n3, hb3⟩)
   obtain ⟨G3, o3, _, _⟩ := n3
   obtain rfl := au aj o3
   have O3 := hid (o3.base (B' := w.heap.size + 1) (by omega)); have HB := hid (bt Hb.out hb3)
   clear o3 hb3
   go_roundw
   case rel => exact ⟨k + 1, by omega, by go_num, O3.out, HB.out⟩
   case measure => simp [intOf]; omega
  ·rw [aV hk hlt] at ho
   obtain ⟨Ab, cb, rfl, _, _⟩ := ho.formN (n := 6) (by rw [fp]; exact Hpl.out)
   have Ho := hid ho; have hcr := hid (bt hc2.out hb); have Okr := hid (Ok.out.go hb)
   have R0r := hid (ac hb R0.out)
   obtain ⟨k0, hk0⟩ := ai (xs := keys) (k := 0) (by omega)
   have hk0w := Hkw.out k0 (List.mem_of_getElem? hk0)
   have Hnl2 := hid (show ns.length = keys.length by rw [Hnl.out, Hkl.out])
   have hok := ln (cF keys) (by rw [jq]; omega) (cN _ _ rfl) rcv keys ns (fun e => by rw [e] at hk1; simp at hk1) Hnl2.out.symm
   have Htg0 := hid (show dy k0 (hdT (cF keys) rcv keys ns).1 = (hdT (cF keys) rcv keys ns).2 from (vQ (m := 0) (f := cF keys) (rcv := rcv) (names := ns) hk0 Hnl2.out).symm)
   have Hyr := hid (show y = ⟨ao s 5, (hdT (cF keys) rcv keys ns).1, (hdT (cF keys) rcv keys ns).2, keys.foldl onL (cU l)⟩ by rw [Hy.out, ← Hke.out]; rfl)
   have Hk0 := hid hk0
   clear ho hb hk0
   go_upto_region 11 with (go_at_call 182; refine (rK _ _ keys ns rcv _ Okr.out.slB (HN.out _ hcr.out) hk1 hk3 Hnl2.out Hkw.out Hnw.out hr).mono ?_; generalize hdT (cF keys) rcv keys ns = R at *; rintro e w3 ⟨v3, rfl, n3, hb3⟩; obtain ⟨G3, o3, _, _⟩ := n3; obtain rfl := au aj o3)
   obtain ⟨hd, tg⟩ := R
   obtain ⟨o1, o2, o3'⟩ := hok
   dsimp only at o1 o2 o3' Htg0 Hyr o3
   obtain ⟨A6, c6, rfl, _, _⟩ := o3.formN o1
   have Htg := Htg0
   have HoN := hid o2
   have hlh : hd.length ≤ 24 := by omega
   have s3 := hb3.size
   have R0 := hid (ac hb3 R0r.out)
   obtain ⟨gk, rfl, hgk, hgkw, hcq, _⟩ := (Okr.out.go hb3).int Hk0.out
   simp only [World.size_alloc] at hgk
   have HS := hid (fun (wx : World) (hT : Tch [w.heap.size] w3 wx) => hT.cell hcq (by simp; omega))
   have HH := hid (fun (wx : World) (hT : Tch [w.heap.size] w3 wx) => (o3.keep (fun b hb => hT.block b (o3.top b hb).2 (by simp; have := (o3.top b hb).1; omega)) (fun _ h => by cases h)).slB)
   have Oh := hid o3; have Hb3 := hid hb3
   have hk0l : 0 < keys.length := by omega
   clear o3 hcq hb3 o1 o2 o3' Okr Htg0
   refine rgN [w.heap.size] 12 (by kernel_rfl) rfl (fun | none, _, _, _, _ => id | some _, _, _, _, _ => id) fun wd hH hbwd swd => ?_
   simp only [pw]
   refine ag [0, 2, 3, 4, 5, 6, 8] ?_
   iterate 7 (refine ra HS.out rfl (by kernel_rfl) rfl (fun _ f => by go_simp; try with_reducible rfl) ?_; try simp only [pw])
   refine rq 1 (by kernel_rfl) rfl fun K hK => ?_
   go_simp
   (go_at_call 134; refine (oA s _ hs).mono ?_; rintro e w' ⟨rfl, rfl⟩; have hbC := Below.refl (World.heap wd).size wd)
   refine hK.out _ _ (hH.trans (Tch.of hbC)) (fun hH => ?_)
   clear hK K
   refine rq 7 (by kernel_rfl) rfl fun K hK => ?_
   go_simp
   (go_at_call 183; refine (lZ k0 _ hd _ (HH.out _ hH) HoN.out hlh hk0w).mono ?_; rw [Htg.out]; rintro e w' ⟨rfl, rfl⟩; have hbC := Below.refl (World.heap wd).size wd)
   refine hK.out _ _ (hH.trans (Tch.of hbC)) (fun hH => ?_)
   clear hK K
   refine tr 9 HS.out rfl (by kernel_rfl) rfl (fun _ f => by go_simp; try with_reducible rfl) ?_
   try simp only [pw]
   (obtain ⟨q0, q1, q2, q3, qf⟩ := bh (ac hbwd R0.out); have qf0 := qf 0; have qf1 := qf 1; have qf2 := qf 2; have qf3 := qf 3; have z0 := World.block_lt_of_cell? _ _ q0; dsimp only at z0)
   refine rq 10 (by kernel_rfl) rfl fun K hK => ?_
   have fC := HS.out _ hH
   go_simp
   clear fC
   (have hbT := (((hH.put (p := ⟨w.heap.size, 0, none⟩) (.inl (by simp)) (.int .i64 (ao s 5))).put (p := ⟨w.heap.size, 1, none⟩) (.inl (by simp)) (.slice A6 9 c6)).put (p := ⟨w.heap.size, 2, none⟩) (.inl (by simp)) (.int .i64 tg)).put (p := ⟨w.heap.size, 3, none⟩) (.inl (by simp)) (.slice Ab 6 cb))
   refine hK.out _ _ (hbT) (fun hH => ?_)
   clear hK K
   refine tr 11 HS.out rfl (by kernel_rfl) rfl (fun _ f => by go_simp; try with_reducible rfl) ?_
   try simp only [pw]
   refine dm (by kernel_rfl) ?_
   have hF := hbwd
   have Oh4 := Oh.out.go hbwd
   have Ob4 := (Ho.out.go Hb3.out).go hbwd
   have hh5 := (((ax Oh4 (p := ⟨w.heap.size, 0, none⟩) (u := .int .i64 (ao s 5)) (by dsimp only; omega)) |> fun h => ax h (p := ⟨w.heap.size, 1, none⟩) (u := .slice A6 9 c6) (by dsimp only; omega)) |> fun h => ax h (p := ⟨w.heap.size, 2, none⟩) (u := .int .i64 tg) (by dsimp only; omega)) |> fun h => ax h (p := ⟨w.heap.size, 3, none⟩) (u := .slice Ab 6 cb) (by dsimp only; omega)
   have hb5 := (((ax Ob4 (p := ⟨w.heap.size, 0, none⟩) (u := .int .i64 (ao s 5)) (by dsimp only; omega)) |> fun h => ax h (p := ⟨w.heap.size, 1, none⟩) (u := .slice A6 9 c6) (by dsimp only; omega)) |> fun h => ax h (p := ⟨w.heap.size, 2, none⟩) (u := .int .i64 tg) (by dsimp only; omega)) |> fun h => ax h (p := ⟨w.heap.size, 3, none⟩) (u := .slice Ab 6 cb) (by dsimp only; omega)
   have hdis : ∀ b, (Value.slice A6 9 c6).ownBlock = some b → (Value.slice Ab 6 cb).ownBlock ≠ some b := fun b h1 h2 => by
    have g1 := (Oh.out.top b h1).1; have g2 := (Ho.out.top b h2).2; omega
   have hbf := ((((bt (bt hcr.out Hb3.out) hbwd).setCell (p := ⟨w.heap.size, 0, none⟩) (Nat.le_refl _) (.int .i64 (ao s 5))).setCell (p := ⟨w.heap.size, 1, none⟩) (Nat.le_refl _) (.slice A6 9 c6)).setCell (p := ⟨w.heap.size, 2, none⟩) (Nat.le_refl _) (.int .i64 tg)).setCell (p := ⟨w.heap.size, 3, none⟩) (Nat.le_refl _) (.slice Ab 6 cb)
   have HX := hid (mS (p := ⟨ao s 5, hd, tg, keys.foldl onL (cU l)⟩) (hh5.base (B' := w.heap.size) (by omega)) (hb5.base (B' := w.heap.size) (by omega)) hdis)
   have HBf := hid hbf
   obtain rfl := Hyr.out
   clear hh5 hb5 hdis hbf Oh4 Ob4 hF hH hbT hbC qf Hyr Hy
   go_wp2_with fail
   refine bodyPost_ret (v := .tuple #[.agg #[.int .i64 (ao s 5), .slice A6 9 c6, .int .i64 tg, .slice Ab 6 cb], .bool true]) (by simp [results, Tryz.results135, go_sem, q0, q1, q2, q3]) rfl ⟨_, _, rfl, HX.out, HBf.out⟩
end Go.Proofs.YtfaeojmndaplcaaGreatDoor
