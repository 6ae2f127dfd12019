/- Texts that the last file leans on (part 35). -/
import Derived.Laws.BytesArg
import Derived.Test.YtfaeojmndaplcaaGreatDoorM28
import Derived.Test.YtfaeojmndaplcaaGreatDoorM34
import Derived.Test.YtfaeojmndaplcaaGreatDoorM8
set_option linter.unusedVariables false
set_option linter.unusedSimpArgs false
set_option maxHeartbeats 4000000
set_option maxRecDepth 100000
namespace Go.Proofs.YtfaeojmndaplcaaGreatDoor
open Go Go.RowKit
theorem vH {e B b c : Nat} {w : World} {l : List UInt8} (h : eU e B w (.slice (some ⟨b, 0, none⟩) l.length c) l) : Sem.run Tryz.prog (convert 22 9 (.slice (some ⟨b, 0, none⟩) l.length c)) w = .ok (.string (strOfNums (kN l))) w :=
 run_convert_bytes_arg w 22 5 (by kernel_rfl) (by kernel_rfl) b 0 l.length c (kN l) (by simp) (fun i hi => by
  obtain ⟨x, hx⟩ := ai (xs := kN l) (k := i) (by simpa using hi)
  obtain ⟨b', o', e', _, _, hc⟩ := SlB.byte (Own.slB h) hx
  cases e'
  rw [hc, List.getD, hx]
  rfl) 9 (by kernel_rfl)
theorem xh (l : List UInt8) : bL (strOfNums (kN l)) = l := by
 show (List.map (fun n : Int => UInt8.ofNat n.toNat) (kN l)) = l
 rw [List.map_map]
 conv => rhs; rw [← List.map_id l]
 exact List.map_congr_left fun b _ => by simp
theorem mv {a b c d : ByteArray} (ha : a.size ≤ 8) (hb : b.size ≤ 8) (hc : c.size ≤ 8) (hd : d.size ≤ 8) : (Lib.join ([a, b, c, d].map bL) [32]).length ≤ 100000000 := by
 simp only [List.map_cons, List.map_nil, Lib.join_cons, Lib.joinTail, List.flatten_cons, List.flatten_nil, List.length_append, List.length_cons, List.length_nil, aB]
 omega
theorem aS (B : Nat) (s : ByteArray) (w : World) (hG : bx w) (hL : LbW B w) (hB : B ≤ w.heap.size) (h0 : 0 < w.heap.size) : Calls Tryz.prog 16 #[.string s] w (pR w (ce (bL s))) := by
 by_cases hs : 600 < s.size
 ·have hx := hid (show ce (bL s) = sK by unfold ce; rw [aB, if_pos hs])
  go_enter Tryz.func16, Tryz.ntmps16
  go_wp2
  go_ret
  exact ⟨_, rfl, hx.out.symm, zm⟩
 have hx := hid (show ce (bL s) = (bY (aP 10 (bL s)).dropLast).2 ++ fP (bY (aP 10 (bL s)).dropLast).1 by unfold ce; rw [aB, if_neg hs])
 have HG := hid hG; have HL0 := hid hL
 clear hG hL
 go_enter Tryz.func16, Tryz.ntmps16
 go_wp2_with fail
 refine (tZ _).mono ?_
 rintro e w1 ⟨vm, rfl, hn, hb1⟩
 obtain ⟨Am, cm, rfl, _, _, _⟩ := hn.slB.form
 have Hr := hid (yz hn).wdB
 have Hb1 := hid hb1
 have hgs : w.heap.size ≤ w1.heap.size := hb1.size
 clear hn hb1
 go_upto_region 4 with fail
 generalize hgw : World.alloc w1 _ = w2
 obtain ⟨e2, hb2, s2⟩ := dK hgw
 have E2 := hid e2
 have Hb2 := hid (bt Hb1.out hb2)
 have HV2 := hid ((WdR.of_wdB (R := fun b => b ≠ w1.heap.size) Hr.out (fun b hb => by omega)).go hb2)
 clear hgw e2 hb2 Hr Hb1
 go_wp2_with fail
 refine (tt B s 10 _ (HL0.out.on (Hb2.out.mono hB)) (by omega)).mono ?_
 rintro e w3 ⟨v3, ps, rfl, hcut, hown, hb3⟩
 have hpl : ps.length ≤ 601 := by
  have h1 := iK 10 (bL s)
  rw [← hcut, List.length_map, aB] at h1
  omega
 have hne : 0 < ps.length := by
  rcases Nat.eq_zero_or_pos ps.length with h | h
  ·exact absurd (by rw [← hcut, List.length_eq_zero_iff.1 h]; rfl) (kI 10 (bL s))
  ·exact h
 obtain ⟨A3, c3, rfl, hc3, hc3m, _⟩ := hown.form
 obtain ⟨bl, rfl⟩ := Own.addr hown hne
 have hbl := hown.top bl rfl
 obtain ⟨n, hn⟩ : ∃ n, ps.length = n + 1 := ⟨ps.length - 1, by omega⟩
 have Hps := hid (fun (k : Nat) (p : ByteArray) (hp : ps[k]? = some p) => show w3.cell? ⟨bl, k, none⟩ = some (.string p) by
  obtain ⟨b', o', e', _, _, hc⟩ := hown.slB.str hp
  cases e'
  simpa using hc)
 have hgm : w1.heap.size < w3.heap.size := by have := hb3.size; omega
 have HG3 := hid (show bx w3 from (Hb2.out.cell (p := ⟨0, 0, none⟩) h0 |> fun h => (hb3.cell (p := ⟨0, 0, none⟩) (by show 0 < w2.heap.size; omega)).trans (h.trans HG.out)))
 have HL3 := hid ((HL0.out.on (Hb2.out.mono hB)).on (hb3.mono (by omega)))
 have Hb3 := hid (bt Hb2.out hb3)
 have Hcv3 := hid (show dF w1.heap.size w3.heap.size w3 (.slice Am (bB 3).length cm) (.slice none 0 0) (.slice none 0 0) (.slice none 0 0) nz [] from
  ⟨.slice none 0 0, ac hb3 E2.out, Own.nil _ _, (HV2.out.go hb3).mono (fun b _ hb => ⟨hb, by simp [Value.ownBlock]⟩), hgm, Nat.le_refl _⟩)
 have hGg : 0 < w1.heap.size := by omega
 have hBg : B ≤ w1.heap.size := by omega
 have Hcut := hid hcut; have Hn := hid hn
 have hbg : bl ≠ w1.heap.size := by omega
 have hbm : bl < w3.heap.size := by omega
 obtain ⟨L, hL⟩ : ∃ L, ps.length = L := ⟨_, rfl⟩
 have hLn : L = n + 1 := by omega
 have HpL := hid hL
 rw [hL] at hc3 hpl
 rw [hL]
 have HLn := hid hLn
 have f1 : IntKind.i64.wrap ((L : Int) - 1) = (n : Int) := by rw [IntWalk.i64_in _ ⟨by omega, by omega⟩]; omega
 have f2 : n ≤ c3 := by omega
 have f3 : ¬ c3 = n := by omega
 have f4 : (n : Int) ≤ (c3 : Int) := by omega
 have hn6 : n ≤ 600 := by omega
 clear E2 HV2 hb3 hcut hown hn hLn hL hbl hc3 hc3m hpl hne
 generalize w1.heap.size = g at *
 generalize hm : w3.heap.size = m at *
 clear hm
 go_wp2_with fail
 go_loopw [23] (fun iv wr => ∃ (k : Nat) (vm vs vn vg : Value), k ≤ n ∧ iv = .int .i64 k ∧ dF g m wr vm vs vn vg (stL (bL s) k).1 (stL (bL s) k).2 ∧ FrO g m w3 wr) (fun iv _ => n - (intOf iv).toNat)
 case atStart => exact ⟨0, _, _, _, _, by omega, rfl, by rw [jg]; exact Hcv3.out, FrO.refl _ _ _⟩
 case round =>
  obtain ⟨k, um, us, un, ug, hk, rfl, hcv, hfr⟩ := hrel
  have hol : (stL (bL s) k).2.length ≤ 80000000 := by have := lh (bL s) k; omega
  have hvy := sC (bL s) k
  have HGl := hid (hfr.glob HG3.out hGg hgm); have HLb := hid (HL3.out.on (hfr.low hBg hgm))
  by_cases hlt : k < n
  ·obtain ⟨p, hp⟩ := ai (xs := ps) (k := k) (by rw [HpL.out, HLn.out]; omega)
   have Hst := hid (show stL (bL s) (k + 1) = jh (stL (bL s) k) (bL p) from nr (by rw [← Hcut.out, List.getElem?_map, hp]; rfl) (by rw [← Hcut.out, List.length_map, HpL.out, HLn.out]; omega))
   have hpz : p.size ≤ 1000000 := by
    have h := fU (c := 10) (l := bL s) (p := bL p) (by rw [← Hcut.out]; exact List.mem_map_of_mem (List.mem_of_getElem? hp))
    rw [aB, aB] at h; omega
   obtain ⟨st, hst⟩ : ∃ st, stL (bL s) k = st := ⟨_, rfl⟩
   rw [hst] at hol hvy hcv Hst
   clear hst
   obtain ⟨y, o⟩ := st
   dsimp only at hcv hvy hol
   have ql : wr.cell? ⟨bl, k, none⟩ = some (.string p) := (World.cell?_of_block (w := w3) (hfr.block bl hbm hbg)).trans (Hps.out k p hp)
   have HC := hid hcv; have Hvy := hid hvy; have Hfr := hid hfr
   clear hp hcv hvy hfr
   go_wp2_with (go_at_call 32; refine (yw g m B um us un ug y o p _ HC.out Hvy.out HGl.out HLb.out hBg hGg hpz hol).mono ?_; rintro e w5 ⟨rfl, ⟨um2, us2, un2, ug2, hcv5⟩, hfr5⟩)
   go_roundw
   case rel => exact ⟨k + 1, _, _, _, _, by omega, by go_num, by rw [Hst.out]; exact hcv5, Hfr.out.trans hfr5⟩
   case measure => simp [intOf]; omega
  ·obtain ⟨wo, rfl⟩ : ∃ wo : World, wo = wr := ⟨_, rfl⟩
   have Hxx := hid (show ce (bL s) = (stL (bL s) k).2 ++ fP (stL (bL s) k).1 by rw [hx.out, lg (by rw [← Hcut.out, List.length_map, HpL.out, HLn.out]; omega)])
   obtain ⟨st, hst⟩ : ∃ st, stL (bL s) k = st := ⟨_, rfl⟩
   rw [hst] at hol hvy hcv Hxx
   clear hst
   obtain ⟨y, o⟩ := st
   dsimp only at hcv hvy hol Hxx
   have HC := hid hcv
   obtain ⟨vo, h1, h2, h3, h4, h5⟩ := hcv
   obtain ⟨A1, a1, A2, a2, A3, a3, A4, a4, ev⟩ := h3.form
   injection ev with ev
   simp only [Array.mk.injEq, List.cons.injEq] at ev
   obtain ⟨rfl, rfl, rfl, rfl, _⟩ := ev
   obtain ⟨k0, k1, k2, k3, k4, k5, k6, kf, ks⟩ := oa h1
   have hgl := hvy.gl; have hmd := hvy.md; have hl0 := hvy.l0; have hl1 := hvy.l1
   have Hgt := hid (show ∀ l ∈ y.got, ltB l = true by have h := hvy.gt; unfold nE at h; exact List.all_eq_true.1 h)
   have Hfo := hid hfr
   clear h1 h2 h3 hfr kf hvy
   go_wp2_with fail
   clear k0 k1 k2 k3 k4 k5 k6 ks
   go_loopw [37] (fun iv wr => ∃ (j : Nat), j ≤ y.got.length ∧ iv = .int .i64 j ∧ dF g m wr (.slice A1 y.mixes.length a1) (.slice A2 y.sent.length a2) (.slice A3 y.net.length a3) (.slice A4 y.got.length a4) y (o ++ fq y j) ∧ FrO g m wo wr) (fun iv _ => y.got.length - (intOf iv).toNat)
   case atStart => exact ⟨0, by omega, rfl, by simpa [fq] using HC.out, FrO.refl _ _ _⟩
   case round =>
    obtain ⟨j, hj, rfl, hcv, hfr⟩ := hrel
    have HLr := hid (HL3.out.on ((Hfo.out.trans hfr).low hBg hgm))
    have Hfr := hid (Hfo.out.trans hfr)
    have Hfr1 := hid hfr
    clear hfr HC
    by_cases hlt : j < y.got.length
    ·obtain ⟨l, hl⟩ := ai hlt
     have HC := hid hcv
     obtain ⟨vo2, e1, e2, e3, e4, e5⟩ := hcv
     obtain ⟨_, dn⟩ := e3.wdB.two'
     obtain ⟨b, ob, rfl, _, m2, p0, p1, p2⟩ := dn.lt3 hl
     have hlb := Hgt.out l (List.mem_of_getElem? hl)
     obtain ⟨q1, q2, q3⟩ := wE hlb
     have Ht := hid hl
     clear e1 e2 e3 dn hlb hl
     go_wp2_with fail
     clear p0 p1 p2
     generalize hwa : World.alloc wr _ = wa
     obtain ⟨ea, ba, sa⟩ := dK hwa
     have HL := hid (HLr.out.on (ba.mono (by omega)))
     have Hfa := hid (Hfr1.out.trans (FrO.of ba e5))
     have HC := hid (HC.out.go ba)
     have HS := hid (fun (wx : World) (hT : Tch [] wa wx) => And.intro (aN (hT.row ea (by simp))) (show wr.heap.size < wx.heap.size by have := hT.size; omega))
     clear hwa ea ba
     refine rgN [] 12 (by kernel_rfl) rfl (fun | none, _, _, _, _ => id | some _, _, _, _, _ => id) fun wd hH hbwd swd => ?_
     simp only [pw]
     refine ag [0, 1, 2, 4, 5, 7, 8] ?_
     iterate 7 (refine ra HS.out rfl (by kernel_rfl) rfl (fun _ f => by go_simp; try with_reducible rfl) ?_; try simp only [pw])
     refine rq 3 (by kernel_rfl) rfl fun K hK => ?_
     go_simp
     (go_at_call 34; refine (gO B l.fr _ (HL.out.on (hH.nil.mono (by omega))) (by omega) (by omega)).mono ?_; rintro e w11 ⟨s1, rfl, hs1, hbC⟩; have zs1 := bO hs1)
     refine hK.out _ _ (hH.trans (Tch.of hbC)) (fun hH => ?_)
     clear hK K
     refine rq 6 (by kernel_rfl) rfl fun K hK => ?_
     go_simp
     (go_at_call 34; refine (gO B l.to _ (HL.out.on (hH.nil.mono (by omega))) (by omega) (by omega)).mono ?_; rintro e w12 ⟨s2, rfl, hs2, hbC⟩; have zs2 := bO hs2)
     refine hK.out _ _ (hH.trans (Tch.of hbC)) (fun hH => ?_)
     clear hK K
     refine rq 9 (by kernel_rfl) rfl fun K hK => ?_
     go_simp
     (go_at_call 34; refine (gO B l.num _ (HL.out.on (hH.nil.mono (by omega))) (by omega) (by omega)).mono ?_; rintro e w13 ⟨s3, rfl, hs3, hbC⟩; have zs3 := bO hs3)
     refine hK.out _ _ (hH.trans (Tch.of hbC)) (fun hH => ?_)
     clear hK K
     refine rq 10 (by kernel_rfl) rfl fun K hK => ?_
     go_simp
     refine hK.out _ _ (hH.trans (Tch.of (ab _ _))) (fun hH => ?_)
     clear hK K
     refine rz 11 (by kernel_rfl) rfl fun K hK => ?_
     go_simp
     (go_at_call 33; have hF := hH.nil; refine (lX g m _ _ _ _ y (o ++ fq y j) _ [⟨#[103, 111, 116]⟩, s1, s2, s3] _ (HC.out.go hF) (lG w13 [⟨#[103, 111, 116]⟩, s1, s2, s3] 9 (by simp) (by simp [maxLen])) (by simp) (mv (by first | decide | omega) (by omega) (by first | decide | omega) (by omega)) (by simp) (by rw [List.length_append]; have := fd y j; omega)).mono ?_; rintro e w9 ⟨rfl, hcv9, hfr9⟩)
     refine hK.out _ _ ?_
     clear hK K
     go_wp2_with fail
     go_roundw
     case rel =>
      refine ⟨j + 1, by omega, by go_num, ?_, (Hfa.out.trans (FrO.of hF (by omega))).trans hfr9⟩
      rw [ka Ht.out, ← List.append_assoc]
      simpa [jQ, hs1, hs2, hs3, xg] using hcv9
     case measure => simp [intOf]; omega
    ·have HC := hid hcv
     have Hall := hid (fW (x := y) (k := j) (by omega))
     obtain ⟨vo2, e1, e2, e3, e4, e5⟩ := hcv
     have HL := HLr
     have HS := hid (fun (wx : World) (hT : Tch [] wr wx) => And.intro (oa (hT.row e1 (by simp))) (show g < wx.heap.size by have := hT.size; omega))
     clear e1 e2 e3 HLr
     go_wp2_with fail
     refine rgN [] 15 (by kernel_rfl) rfl (fun | none, _, _, _, _ => id | some _, _, _, _, _ => id) fun wd hH hbwd swd => ?_
     simp only [pw]
     refine ag [0, 1, 2, 3, 4, 5, 7, 8, 9, 10, 11] ?_
     iterate 11 (refine ra HS.out rfl (by kernel_rfl) rfl (fun _ f => by go_simp; try with_reducible rfl) ?_; try simp only [pw])
     refine rq 6 (by kernel_rfl) rfl fun K hK => ?_
     go_simp
     (go_at_call 34; refine (gO B y.made _ (HL.out.on (hH.nil.mono (by omega))) (by omega) (by omega)).mono ?_; rintro e w11 ⟨s1, rfl, hs1, hbC⟩; have zs1 := bO hs1)
     refine hK.out _ _ (hH.trans (Tch.of hbC)) (fun hH => ?_)
     clear hK K
     refine rq 12 (by kernel_rfl) rfl fun K hK => ?_
     go_simp
     (go_at_call 34; refine (gO B y.lost _ (HL.out.on (hH.nil.mono (by omega))) (by omega) (by omega)).mono ?_; rintro e w12 ⟨s2, rfl, hs2, hbC⟩; have zs2 := bO hs2)
     refine hK.out _ _ (hH.trans (Tch.of hbC)) (fun hH => ?_)
     clear hK K
     refine rq 13 (by kernel_rfl) rfl fun K hK => ?_
     go_simp
     refine hK.out _ _ (hH.trans (Tch.of (ab _ _))) (fun hH => ?_)
     clear hK K
     refine rz 14 (by kernel_rfl) rfl fun K hK => ?_
     go_simp
     (go_at_call 33; have hF := hH.nil; refine (lX g m _ _ _ _ y (o ++ fq y j) _ [⟨#[109, 97, 100, 101]⟩, s1, ⟨#[108, 111, 115, 116]⟩, s2] _ (HC.out.go hF) (lG w12 [⟨#[109, 97, 100, 101]⟩, s1, ⟨#[108, 111, 115, 116]⟩, s2] 9 (by simp) (by simp [maxLen])) (by simp) (mv (by first | decide | omega) (by omega) (by first | decide | omega) (by omega)) (by simp) (by rw [List.length_append]; have := fd y j; omega)).mono ?_; rintro e w9 ⟨rfl, hcv9, hfr9⟩)
     refine hK.out _ _ ?_
     clear hK K
     have Hfz := hid ((Hfr.out.trans (FrO.of hF e5)).trans hfr9)
     obtain ⟨vz, z1, z2, z3, z4, z5⟩ := hcv9
     have hlz : 0 < (o ++ fq y j ++ cC (List.map bL [⟨#[109, 97, 100, 101]⟩, s1, ⟨#[108, 111, 115, 116]⟩, s2])).length := by
      simp [cC]; omega
     have Hz := hid (show o ++ fq y j ++ cC (List.map bL [⟨#[109, 97, 100, 101]⟩, s1, ⟨#[108, 111, 115, 116]⟩, s2]) = ce (bL s) by
      rw [Hxx.out, Hall.out]
      simp [fP, hs1, hs2, ox, ou])
     generalize o ++ fq y j ++ cC (List.map bL [⟨#[109, 97, 100, 101]⟩, s1, ⟨#[108, 111, 115, 116]⟩, s2]) = lz at *
     obtain ⟨Az, cz, rfl⟩ := z2.formB
     obtain ⟨bz, rfl⟩ := Own.addr z2.own (by simpa using hlz)
     obtain ⟨k0, k1, k2, k3, k4, k5, k6, kf, ks⟩ := oa z1
     have kc := vH z2
     clear z1 z2 z3 kf
     go_wp2_with fail
     go_ret
     exact ⟨_, rfl, (xh _).trans Hz.out, Hb3.out.trans (Hfz.out.low (by omega) hgm)⟩
end Go.Proofs.YtfaeojmndaplcaaGreatDoor
