/- Texts that the last file leans on (part 12). -/
import Derived.Test.YtfaeojmndaplcaaGreatDoorP10
import Derived.Test.YtfaeojmndaplcaaGreatDoorP5
set_option linter.unusedVariables false
set_option linter.unusedSimpArgs false
set_option maxHeartbeats 4000000
set_option maxRecDepth 100000
namespace Go.Proofs.YtfaeojmndaplcaaGreatDoor
open Go Go.RowKit
theorem jp {B : Nat} {w : World} {p : Pk} {uh ub : Value} (h1 : Own af 3 B w uh p.hd []) (h2 : Own af 3 B w ub p.bd []) (hd : ∀ b, uh.ownBlock = some b → ub.ownBlock ≠ some b) : aC oPk B w [.int .i64 p.el, uh, .int .i64 p.tag, ub] p := by
 refine ⟨uh.ownBlock.toList ++ ub.ownBlock.toList, ⟨[_], _, [], _, rfl, rfl, ⟨rfl, rfl⟩, [uh], _, uh.ownBlock.toList, ub.ownBlock.toList, rfl, rfl, ⟨uh, [], rfl, h1.base (Nat.zero_le _), by simp⟩, [_], [ub], [], ub.ownBlock.toList, rfl, rfl, ⟨rfl, rfl⟩, ⟨ub, [], rfl, h2.base (Nat.zero_le _), by simp⟩⟩, ?_, fun b hb => ?_⟩
 ·rw [List.nodup_append]
  refine ⟨bQ _, bQ _, fun a ha b hb e => ?_⟩
  subst e
  exact hd a (aA.1 ha) (aA.1 hb)
 ·rcases List.mem_append.1 hb with hb | hb
  ·exact (h1.top b (aA.1 hb)).1
  ·exact (h2.top b (aA.1 hb)).1
def tl (w : World) (p : Pk) (e : Ending) (w' : World) : Prop :=
 ∃ vh vb, e = .returned (.tuple #[.agg #[.int .i64 p.el, vh, .int .i64 p.tag, vb], .bool true]) ∧ aC oPk w.heap.size w' [.int .i64 p.el, vh, .int .i64 p.tag, vb] p ∧ Below w.heap.size w w'
theorem nB (s rcv : Int) (vp vn vl : Value) (ps ns l : List Int) (w : World) (hp : SlB af w.heap.size w vp ps) (hn : SlB af w.heap.size w vn ns) (hl : SlB af w.heap.size w vl l)
  (h1 : 1 ≤ ps.length) (h3 : ps.length ≤ 3) (hnl : ns.length = ps.length) (hs : win s 1 996 = true) (hpw : ∀ p ∈ ps, win p 1 996 = true) (hnw : ∀ n ∈ ns, win n 0 7 = true) (hr : win rcv 0 7 = true) (hll : l.length ≤ 4) (hln : aH l = true) :
  Calls Tryz.prog 135 #[.int .i64 s, vp, vn, .int .i64 rcv, vl] w (tl w (dH s ps ns rcv l)) := by
 obtain ⟨y, hy⟩ : ∃ y, y = dH s ps ns rcv l := ⟨_, rfl⟩
 rw [← hy]
 have Hy := hid hy
 have HP := hid (fun (wx : World) (hb : Below w.heap.size w wx) => hp.go hb)
 have HN := hid (fun (wx : World) (hb : Below w.heap.size w wx) => hn.go hb)
 have HL := hid (fun (wx : World) (hb : Below w.heap.size w wx) => hl.go hb)
 obtain ⟨Ap, cp, rfl, _, _, _⟩ := hp.form
 obtain ⟨An, cn, rfl, _, _, _⟩ := hn.form
 have Hpw := hid hpw; have Hnw := hid hnw; have Hln := hid hln; have Hnl := hid hnl
 have hneq : ((ns.length : Int) != (ps.length : Int)) = false := by simp [hnl]
 have hkl := dI s ps
 have hkw := iW hs hpw
 obtain ⟨keys, hke⟩ : ∃ keys, bO s ps = keys := ⟨_, rfl⟩
 rw [hke] at hkl hkw
 have Hke := hid hke; have Hkl := hid hkl; have Hkw := hid hkw
 have hk1 : 1 ≤ keys.length := by omega
 have hk3 : keys.length ≤ 3 := by omega
 clear hp hn hl hpw hnw hln hnl hke hkl hkw hy
 go_enter Tryz.func135, Tryz.ntmps135
 go_upto_region 2 with (go_at_call 178; refine (oa s _ ps _ (HP.out _ (ab _ _)) h1 h3 hs Hpw.out).mono ?_; rw [Hke.out]; rintro e w1 ⟨vk, rfl, nk, hb1⟩; obtain ⟨G, ok, _, _⟩ := nk; obtain rfl := am ai ok; obtain ⟨Ak, ck, rfl, _, _⟩ := ok.formN rfl)
 have Ok := hid ok; have Hb1 := hid hb1; have hc1 := hid (bt (ab w _) hb1)
 have R0 := hid (sR hb1)
 have s1 := hb1.size
 simp only [World.size_alloc] at s1
 clear ok hb1
 go_upto_region 3 with (go_at_call 179; refine (iR vl l _ (HL.out _ hc1.out) hll Hln.out).mono ?_; rintro e w2 ⟨vb0, rfl, nb, hb2⟩; obtain ⟨G, ob, _, _⟩ := nb; obtain rfl := am ai ob; obtain ⟨Ab0, cb0, rfl, _, _⟩ := ob.formN (n := 6) (eH hll))
 have hc2 := hid (bt hc1.out hb2)
 have R0 := hid (ac hb2 R0.out)
 have Ok := hid (Ok.out.go hb2); have Ob := hid ob
 have s2 := hb2.size
 clear ob hb2
 go_upto_region 6 with (first
  | (go_at_call 180; refine (mX _ ns _ (HN.out _ hc2.out) Hnw.out).mono ?_; rintro e w' ⟨rfl, rfl⟩)
  | (go_at_call 126; refine (bz _ _).mono ?_; rw [hr]; rintro e w' ⟨rfl, rfl⟩))
 have Hpn := hid (eX hll Hln.out)
 have Hpl := hid (eH hll)
 go_loopw [14, 56] (fun bv iv wr => ∃ k : Nat, k ≤ keys.length ∧ iv = .int .i64 k ∧ Own af 3 (w.heap.size + 1) wr bv ((keys.take k).foldl onL (bI l)) [] ∧ Below w2.heap.size w2 wr) (fun _ iv _ => keys.length - (intOf iv).toNat)
 case atStart => exact ⟨0, by omega, rfl, Ob.out.base (by omega), ah⟩
 case round =>
  obtain ⟨k, hk, rfl, ho, hb⟩ := hrel
  have szr := hb.size
  by_cases hlt : k < keys.length
  ·obtain ⟨key, hkey⟩ := ak hlt
   have hkw := Hkw.out key (List.mem_of_getElem? hkey)
   obtain ⟨bq, oq, rfl, _, _, hcq⟩ := (Ok.out.go hb).slB.int hkey
   have Hfs := hid (ff (b := bI l) hkey)
   obtain ⟨Ab, cb, rfl, _, _⟩ := ho.formN (n := 6) (by rw [dp]; exact Hpl.out)
   have Ho := hid ho; have Hb := hid hb
   clear ho hb hkey
   go_wp2_with (go_at_call 181; refine (je _ ((keys.take k).foldl onL (bI l)) key _ Ho.out.slB (dY _ _ Hpn.out) (by rw [dp, Hpl.out]; omega) hkw).mono ?_; rw [← Hfs.out]; rintro e w3 ⟨v3, rfl, n3, hb3⟩)
   obtain ⟨G3, o3, _, _⟩ := n3
   obtain rfl := am ai o3
   have O3 := hid (o3.base (B' := w.heap.size + 1) (by omega)); have HB := hid (bt Hb.out hb3)
   clear o3 hb3
   go_roundw
   case rel => exact ⟨k + 1, by omega, by go_num, O3.out, HB.out⟩
   case measure => simp [intOf]; omega
  ·rw [aR hk hlt] at ho
   obtain ⟨Ab, cb, rfl, _, _⟩ := ho.formN (n := 6) (by rw [dp]; exact Hpl.out)
   have Ho := hid ho; have hcr := hid (bt hc2.out hb); have Okr := hid (Ok.out.go hb)
   have R0r := hid (ac hb R0.out)
   obtain ⟨k0, hk0⟩ := ak (xs := keys) (k := 0) (by omega)
   have hk0w := Hkw.out k0 (List.mem_of_getElem? hk0)
   have Hnl2 := hid (show ns.length = keys.length by rw [Hnl.out, Hkl.out])
   have hok := gX (bw keys) (by rw [fG]; omega) (bV _ _ rfl) rcv keys ns (fun e => by rw [e] at hk1; simp at hk1) Hnl2.out.symm
   have Htg0 := hid (show cJ k0 (hdT (bw keys) rcv keys ns).1 = (hdT (bw keys) rcv keys ns).2 from (qw (m := 0) (f := bw keys) (rcv := rcv) (names := ns) hk0 Hnl2.out).symm)
   have Hyr := hid (show y = ⟨aq s 5, (hdT (bw keys) rcv keys ns).1, (hdT (bw keys) rcv keys ns).2, keys.foldl onL (bI l)⟩ by rw [Hy.out, ← Hke.out]; rfl)
   have Hk0 := hid hk0
   clear ho hb hk0
   go_upto_region 11 with (go_at_call 182; refine (nA _ _ keys ns rcv _ Okr.out.slB (HN.out _ hcr.out) hk1 hk3 Hnl2.out Hkw.out Hnw.out hr).mono ?_; generalize hdT (bw keys) rcv keys ns = R at *; rintro e w3 ⟨v3, rfl, n3, hb3⟩; obtain ⟨G3, o3, _, _⟩ := n3; obtain rfl := am ai o3)
   obtain ⟨hd, tg⟩ := R
   obtain ⟨o1, o2, o3'⟩ := hok
   dsimp only at o1 o2 o3' Htg0 Hyr o3
   obtain ⟨A6, c6, rfl, _, _⟩ := o3.formN o1
   have Htg := Htg0
   have HoN := hid o2
   have hlh : hd.length ≤ 24 := by omega
   have s3 := hb3.size
   have R0 := hid (ac hb3 R0r.out)
   obtain ⟨gk, rfl, hgk, hgkw, hcq, _⟩ := (Okr.out.go hb3).int Hk0.out
   simp only [World.size_alloc] at hgk
   have HS := hid (fun (wx : World) (hT : Tch [w.heap.size] w3 wx) => hT.cell hcq (by simp; omega))
   have HH := hid (fun (wx : World) (hT : Tch [w.heap.size] w3 wx) => (o3.keep (fun b hb => hT.block b (o3.top b hb).2 (by simp; have := (o3.top b hb).1; omega)) (fun _ h => by cases h)).slB)
   have Oh := hid o3; have Hb3 := hid hb3
   have hk0l : 0 < keys.length := by omega
   clear o3 hcq hb3 o1 o2 o3' Okr Htg0
   refine rgN [w.heap.size] 12 (by kernel_rfl) rfl (fun | none, _, _, _, _ => id | some _, _, _, _, _ => id) fun wd hH hbwd swd => ?_
   simp only [pw]
   refine ag [0, 2, 3, 4, 5, 6, 8] ?_
   iterate 7 (refine ra HS.out rfl (by kernel_rfl) rfl (fun _ f => by go_simp; try with_reducible rfl) ?_; try simp only [pw])
   refine rq 1 (by kernel_rfl) rfl fun K hK => ?_
   go_simp
   (go_at_call 134; refine (kC s _ hs).mono ?_; rintro e w' ⟨rfl, rfl⟩; have hbC := Below.refl (World.heap wd).size wd)
   refine hK.out _ _ (hH.trans (Tch.of hbC)) (fun hH => ?_)
   clear hK K
   refine rq 7 (by kernel_rfl) rfl fun K hK => ?_
   go_simp
   (go_at_call 183; refine (iH k0 _ hd _ (HH.out _ hH) HoN.out hlh hk0w).mono ?_; rw [Htg.out]; rintro e w' ⟨rfl, rfl⟩; have hbC := Below.refl (World.heap wd).size wd)
   refine hK.out _ _ (hH.trans (Tch.of hbC)) (fun hH => ?_)
   clear hK K
   refine tr 9 HS.out rfl (by kernel_rfl) rfl (fun _ f => by go_simp; try with_reducible rfl) ?_
   try simp only [pw]
   (obtain ⟨q0, q1, q2, q3, qf⟩ := aN (ac hbwd R0.out); have qf0 := qf 0; have qf1 := qf 1; have qf2 := qf 2; have qf3 := qf 3; have z0 := World.block_lt_of_cell? _ _ q0; dsimp only at z0)
   refine rq 10 (by kernel_rfl) rfl fun K hK => ?_
   have fC := HS.out _ hH
   go_simp
   clear fC
   (have hbT := (((hH.put (p := ⟨w.heap.size, 0, none⟩) (.inl (by simp)) (.int .i64 (aq s 5))).put (p := ⟨w.heap.size, 1, none⟩) (.inl (by simp)) (.slice A6 9 c6)).put (p := ⟨w.heap.size, 2, none⟩) (.inl (by simp)) (.int .i64 tg)).put (p := ⟨w.heap.size, 3, none⟩) (.inl (by simp)) (.slice Ab 6 cb))
   refine hK.out _ _ (hbT) (fun hH => ?_)
   clear hK K
   refine tr 11 HS.out rfl (by kernel_rfl) rfl (fun _ f => by go_simp; try with_reducible rfl) ?_
   try simp only [pw]
   refine dm (by kernel_rfl) ?_
   have hF := hbwd
   have Oh4 := Oh.out.go hbwd
   have Ob4 := (Ho.out.go Hb3.out).go hbwd
   have hh5 := (((ap Oh4 (p := ⟨w.heap.size, 0, none⟩) (u := .int .i64 (aq s 5)) (by dsimp only; omega)) |> fun h => ap h (p := ⟨w.heap.size, 1, none⟩) (u := .slice A6 9 c6) (by dsimp only; omega)) |> fun h => ap h (p := ⟨w.heap.size, 2, none⟩) (u := .int .i64 tg) (by dsimp only; omega)) |> fun h => ap h (p := ⟨w.heap.size, 3, none⟩) (u := .slice Ab 6 cb) (by dsimp only; omega)
   have hb5 := (((ap Ob4 (p := ⟨w.heap.size, 0, none⟩) (u := .int .i64 (aq s 5)) (by dsimp only; omega)) |> fun h => ap h (p := ⟨w.heap.size, 1, none⟩) (u := .slice A6 9 c6) (by dsimp only; omega)) |> fun h => ap h (p := ⟨w.heap.size, 2, none⟩) (u := .int .i64 tg) (by dsimp only; omega)) |> fun h => ap h (p := ⟨w.heap.size, 3, none⟩) (u := .slice Ab 6 cb) (by dsimp only; omega)
   have hdis : ∀ b, (Value.slice A6 9 c6).ownBlock = some b → (Value.slice Ab 6 cb).ownBlock ≠ some b := fun b h1 h2 => by
    have g1 := (Oh.out.top b h1).1; have g2 := (Ho.out.top b h2).2; omega
   have hbf := ((((bt (bt hcr.out Hb3.out) hbwd).setCell (p := ⟨w.heap.size, 0, none⟩) (Nat.le_refl _) (.int .i64 (aq s 5))).setCell (p := ⟨w.heap.size, 1, none⟩) (Nat.le_refl _) (.slice A6 9 c6)).setCell (p := ⟨w.heap.size, 2, none⟩) (Nat.le_refl _) (.int .i64 tg)).setCell (p := ⟨w.heap.size, 3, none⟩) (Nat.le_refl _) (.slice Ab 6 cb)
   have HX := hid (jp (p := ⟨aq s 5, hd, tg, keys.foldl onL (bI l)⟩) (hh5.base (B' := w.heap.size) (by omega)) (hb5.base (B' := w.heap.size) (by omega)) hdis)
   have HBf := hid hbf
   obtain rfl := Hyr.out
   clear hh5 hb5 hdis hbf Oh4 Ob4 hF hH hbT hbC qf Hyr Hy
   go_wp2_with fail
   refine bodyPost_ret (v := .tuple #[.agg #[.int .i64 (aq s 5), .slice A6 9 c6, .int .i64 tg, .slice Ab 6 cb], .bool true]) (by simp [results, Tryz.results135, go_sem, q0, q1, q2, q3]) rfl ⟨_, _, rfl, HX.out, HBf.out⟩
theorem lh (s : Int) (p : Pk) (vh vb : Value) (w : World) (h1 : SlB af w.heap.size w vh p.hd) (h2 : SlB af w.heap.size w vb p.bd) (hs : win s 1 996 = true) (hp : pkB p = true) (ht : decide (cJ (aq s p.el) p.hd = p.tag) = false) :
  Calls Tryz.prog 233 #[.int .i64 s, .agg #[.int .i64 p.el, vh, .int .i64 p.tag, vb]] w (gx w (aW s p)) := by
 have Ht := hid ht
 clear ht
 obtain ⟨i0, hi, hz0, hz1, hz2⟩ := info_parts aY
 obtain ⟨p1, ⟨p2, p3⟩, ⟨p4, p5⟩, p6⟩ := aD.1 hp
 have hk := bu hs p1
 have H1 := hid (fun (wx : World) (hb : Below w.heap.size w wx) => h1.go hb)
 have H2 := hid (fun (wx : World) (hb : Below w.heap.size w wx) => h2.go hb)
 obtain ⟨Ah, ch, rfl, _, _, _⟩ := h1.form
 obtain ⟨Ab, cb, rfl, _, _, _⟩ := h2.form
 have hpl : (aM (aq s p.el) p).length = 12 := by rw [dt, p2]
 have hpn : aH (aM (aq s p.el) p) = true := cH _ _
 have hpd : bY (p.hd ++ List.replicate 3 0) (aq s p.el) = aM (aq s p.el) p := rfl
 obtain ⟨key, hkey⟩ : ∃ key, aq s p.el = key := ⟨_, rfl⟩
 have Hkey := hid hkey
 rw [hkey] at hpl hpn hpd hk
 obtain ⟨pl, hpe⟩ : ∃ pl, aM key p = pl := ⟨_, rfl⟩
 rw [hpe] at hpl hpn hpd
 obtain ⟨a0, ha0⟩ := ak (xs := pl) (k := 0) (by omega)
 obtain ⟨a1, ha1⟩ := ak (xs := pl) (k := 1) (by omega)
 obtain ⟨a2, ha2⟩ := ak (xs := pl) (k := 2) (by omega)
 have g0 : pl.getD 0 0 = a0 := by rw [List.getD_eq_getElem?_getD, ha0]; rfl
 have g1 : pl.getD 1 0 = a1 := by rw [List.getD_eq_getElem?_getD, ha1]; rfl
 have g2 : pl.getD 2 0 = a2 := by rw [List.getD_eq_getElem?_getD, ha2]; rfl
 have Hpe := hid hpe; have G0 := hid g0; have G1 := hid g1
 have hno := gJ (s := s) (p := p)
 have hyes := fy (s := s) (p := p)
 rw [hkey, hpe, g0, g1] at hno hyes
 rw [g2] at hyes
 obtain ⟨y, hy⟩ : ∃ y, y = aW s p := ⟨_, rfl⟩
 rw [← hy]
 have Hy := hid hy; have Hno := hid hno; have Hyes := hid hyes; have Hpd := hid hpd; have Hpn := hid hpn; have Hpl := hid hpl
 have Ha0 := hid ha0; have Ha1 := hid ha1; have Ha2 := hid ha2
 have Hn9 := hid p3; have Hl9 := hid p2; have Hl6 := hid p4; have Hn6 := hid p5; have Hp := hid hp
 have ht0 : 0 ≤ p.tag := (aK.1 p6).1
 rw [p2] at h1 H1 ⊢
 rw [p4] at h2 H2 ⊢
 clear h1 h2 hno hyes hpl hpn hpd hkey hpe ha0 ha1 ha2 g0 g1 g2 hy p2 p3 p4 p5 p6 hp
 go_enter Tryz.func233, Tryz.ntmps233
 go_upto_region 3 with (first
  | (go_at_call 90; refine (aF _ _).mono ?_; rw [hs]; rintro e w' ⟨rfl, rfl⟩)
  | (go_at_call 81; go_loud (refine (bJ p (.slice Ah 9 ch) (.slice Ab 6 cb) _ (H1.out _ (by repeat (first | exact ah | apply ae | refine bA ?_ (by omega) | refine Below.setCell ?_ (by first | omega | simp <;> omega) _))) (H2.out _ (by repeat (first | exact ah | apply ae | refine bA ?_ (by omega) | refine Below.setCell ?_ (by first | omega | simp <;> omega) _)))).mono ?_); rw [Hp.out]; rintro e w1 ⟨rfl, hb1⟩))
 obtain ⟨e0, e1⟩ := di hb1
 have hc1 : Below w.heap.size w w1 := bt (by repeat (first | exact ah | apply ae | refine bA ?_ (by omega) | refine Below.setCell ?_ (by first | omega | simp <;> omega) _)) hb1
 obtain ⟨k0, k1, k2, k3, _⟩ := aN e0
 have z1 : w.heap.size + 1 < w1.heap.size := (aL e1)
 have z0 : w.heap.size < w1.heap.size := by omega
 have Hc1 := hid hc1; have E0 := hid e0; have E1 := hid e1
 clear hb1 hc1 e0 e1
 go_upto_region 5 with (first
  | (go_at_call 224; refine (cS s p.el _ hs p1).mono ?_; rw [Hkey.out]; rintro e w' ⟨rfl, rfl⟩)
  | (go_at_call 129; refine (dw _ p.hd _ (by have h0 := H1.out _ Hc1.out; exact h0) (by rw [Hl9.out]; omega)).mono ?_; rintro e w2 ⟨v2, rfl, n2, hb2⟩; obtain ⟨G2, o2, _, _⟩ := n2; obtain rfl := am ai o2; obtain ⟨A2, c2, rfl, _, _⟩ := o2.formN (n := 9) Hl9.out; have s2 := hb2.size)
  | (at_builtin; go_loud (refine dj (o := ⟨some 25, _, _, _, _, _⟩) rfl (.tmp 24) (.const (.int .i64 3)) 67 3 rfl (B := w1.heap.size) Tryz.underlying67 Tryz.underlying3 hi hz0 hz1 hz2 (v := .slice A2 9 c2) rfl o2 3 rfl (by omega) (by rw [Hl9.out]; omega) s2 ?_; intro v3 w3 ho3 hg3 hv3; obtain ⟨A3, c3, rfl, n3, _⟩ := ho3.formN (n := 12) (by simp [Hl9.out]); have hb3 : Below w1.heap.size w1 w3 := hb2.grown hg3 s2 (fun q hq => (o2.top q hq).1); have s3 := hb3.size))
  | (go_at_call 243; refine (eF _ (p.hd ++ List.replicate 3 0) key _ ho3.slB (bi Hn9.out (show aH [0, 0, 0] = true from rfl)) (by simp [Hl9.out]) hk).mono ?_; rw [Hpd.out]; rintro e w4 ⟨v4, rfl, n4, hb4⟩; obtain ⟨G4, o4, _, _⟩ := n4; obtain rfl := am ai o4; obtain ⟨A4, c4, rfl, n4c, _⟩ := o4.formN (n := 12) Hpl.out; obtain ⟨g4, rfl⟩ := Own.addr o4 (by rw [Hpl.out]; omega); have s4 := hb4.size))
 have hc4 : Below w1.heap.size w1 w4 := hb3.trans (hb4.mono s3)
 have e0 := ac hc4 E0.out
 have e1 := ac hc4 E1.out
 clear k0 k1 k2 k3
 obtain ⟨k0, k1, k2, k3, _⟩ := aN e0
 obtain ⟨q0, q1, q2, q3, q4, q5, qf, qf0, qf1, qf2, qf3, qf4, qf5⟩ := bj e1
 have y1 : w.heap.size + 1 < w4.heap.size := by omega
 have y0 : w.heap.size < w4.heap.size := by omega
 obtain ⟨gg, eg, hg4, hg4w, ca0, _⟩ := o4.int Ha0.out
 injection eg with eg; injection eg with eg; subst eg
 obtain ⟨gg, eg, _, _, ca1, _⟩ := o4.int Ha1.out
 injection eg with eg; injection eg with eg; subst eg
 obtain ⟨gg, eg, _, _, ca2, _⟩ := o4.int Ha2.out
 injection eg with eg; injection eg with eg; subst eg
 have Hc4 := hid (bt Hc1.out hc4); have O4 := hid o4; have E0' := hid e0; have E1' := hid e1
 have Hh1 := hid (show SlB af w4.heap.size w4 (.slice Ah 9 ch) p.hd from H1.out _ (bt Hc1.out hc4))
 clear hc4 hb4 ho3 hg3 hv3 hb3 o2 hb2 o4 e0 e1 qf
 have ht := Ht.out
 rw [Hkey.out] at ht
 obtain rfl := Hy.out.trans (Hno.out (fun h => by have := of_decide_eq_false ht; exact this h.1))
 clear Hy
 go_wp2_with (go_at_call 244; refine (eZ key p.tag _ p.hd _ Hh1.out Hn9.out (by rw [Hl9.out]; omega) hk ht0).mono ?_; rw [ht]; rintro e w' ⟨rfl, rfl⟩)
 refine bodyPost_ret (v := .tuple #[.agg #[.int .i64 0, .int .i64 0, .int .i64 0, .slice none 0 0, .int .i64 0, .slice none 0 0], .bool false]) (by simp [results, Tryz.results233, go_sem, q0, q1, q2, q3, q4, q5]) rfl (dr ?_)
 repeat (refine Below.setCell ?_ (by dsimp only; omega) _)
 exact Hc4.out
theorem jL (s : Int) (p : Pk) (vh vb : Value) (w : World) (h1 : SlB af w.heap.size w vh p.hd) (h2 : SlB af w.heap.size w vb p.bd) (hs : win s 1 996 = true) (hp : pkB p = true) (ht : decide (cJ (aq s p.el) p.hd = p.tag) = true) (h0 : win ((aM (aq s p.el) p).getD 0 0) 0 1 = false) :
  Calls Tryz.prog 233 #[.int .i64 s, .agg #[.int .i64 p.el, vh, .int .i64 p.tag, vb]] w (gx w (aW s p)) := by
 have Ht := hid ht; have H0 := hid h0
 clear ht h0
 obtain ⟨i0, hi, hz0, hz1, hz2⟩ := info_parts aY
 obtain ⟨p1, ⟨p2, p3⟩, ⟨p4, p5⟩, p6⟩ := aD.1 hp
 have hk := bu hs p1
 have H1 := hid (fun (wx : World) (hb : Below w.heap.size w wx) => h1.go hb)
 have H2 := hid (fun (wx : World) (hb : Below w.heap.size w wx) => h2.go hb)
 obtain ⟨Ah, ch, rfl, _, _, _⟩ := h1.form
 obtain ⟨Ab, cb, rfl, _, _, _⟩ := h2.form
 have hpl : (aM (aq s p.el) p).length = 12 := by rw [dt, p2]
 have hpn : aH (aM (aq s p.el) p) = true := cH _ _
 have hpd : bY (p.hd ++ List.replicate 3 0) (aq s p.el) = aM (aq s p.el) p := rfl
 obtain ⟨key, hkey⟩ : ∃ key, aq s p.el = key := ⟨_, rfl⟩
 have Hkey := hid hkey
 rw [hkey] at hpl hpn hpd hk
 obtain ⟨pl, hpe⟩ : ∃ pl, aM key p = pl := ⟨_, rfl⟩
 rw [hpe] at hpl hpn hpd
 obtain ⟨a0, ha0⟩ := ak (xs := pl) (k := 0) (by omega)
 obtain ⟨a1, ha1⟩ := ak (xs := pl) (k := 1) (by omega)
 obtain ⟨a2, ha2⟩ := ak (xs := pl) (k := 2) (by omega)
 have g0 : pl.getD 0 0 = a0 := by rw [List.getD_eq_getElem?_getD, ha0]; rfl
 have g1 : pl.getD 1 0 = a1 := by rw [List.getD_eq_getElem?_getD, ha1]; rfl
 have g2 : pl.getD 2 0 = a2 := by rw [List.getD_eq_getElem?_getD, ha2]; rfl
 have Hpe := hid hpe; have G0 := hid g0; have G1 := hid g1
 have hno := gJ (s := s) (p := p)
 have hyes := fy (s := s) (p := p)
 rw [hkey, hpe, g0, g1] at hno hyes
 rw [g2] at hyes
 obtain ⟨y, hy⟩ : ∃ y, y = aW s p := ⟨_, rfl⟩
 rw [← hy]
 have Hy := hid hy; have Hno := hid hno; have Hyes := hid hyes; have Hpd := hid hpd; have Hpn := hid hpn; have Hpl := hid hpl
 have Ha0 := hid ha0; have Ha1 := hid ha1; have Ha2 := hid ha2
 have Hn9 := hid p3; have Hl9 := hid p2; have Hl6 := hid p4; have Hn6 := hid p5; have Hp := hid hp
 have ht0 : 0 ≤ p.tag := (aK.1 p6).1
 rw [p2] at h1 H1 ⊢
 rw [p4] at h2 H2 ⊢
 clear h1 h2 hno hyes hpl hpn hpd hkey hpe ha0 ha1 ha2 g0 g1 g2 hy p2 p3 p4 p5 p6 hp
 go_enter Tryz.func233, Tryz.ntmps233
 go_upto_region 3 with (first
  | (go_at_call 90; refine (aF _ _).mono ?_; rw [hs]; rintro e w' ⟨rfl, rfl⟩)
  | (go_at_call 81; go_loud (refine (bJ p (.slice Ah 9 ch) (.slice Ab 6 cb) _ (H1.out _ (by repeat (first | exact ah | apply ae | refine bA ?_ (by omega) | refine Below.setCell ?_ (by first | omega | simp <;> omega) _))) (H2.out _ (by repeat (first | exact ah | apply ae | refine bA ?_ (by omega) | refine Below.setCell ?_ (by first | omega | simp <;> omega) _)))).mono ?_); rw [Hp.out]; rintro e w1 ⟨rfl, hb1⟩))
 obtain ⟨e0, e1⟩ := di hb1
 have hc1 : Below w.heap.size w w1 := bt (by repeat (first | exact ah | apply ae | refine bA ?_ (by omega) | refine Below.setCell ?_ (by first | omega | simp <;> omega) _)) hb1
 obtain ⟨k0, k1, k2, k3, _⟩ := aN e0
 have z1 : w.heap.size + 1 < w1.heap.size := (aL e1)
 have z0 : w.heap.size < w1.heap.size := by omega
 have Hc1 := hid hc1; have E0 := hid e0; have E1 := hid e1
 clear hb1 hc1 e0 e1
 go_upto_region 5 with (first
  | (go_at_call 224; refine (cS s p.el _ hs p1).mono ?_; rw [Hkey.out]; rintro e w' ⟨rfl, rfl⟩)
  | (go_at_call 129; refine (dw _ p.hd _ (by have h0 := H1.out _ Hc1.out; exact h0) (by rw [Hl9.out]; omega)).mono ?_; rintro e w2 ⟨v2, rfl, n2, hb2⟩; obtain ⟨G2, o2, _, _⟩ := n2; obtain rfl := am ai o2; obtain ⟨A2, c2, rfl, _, _⟩ := o2.formN (n := 9) Hl9.out; have s2 := hb2.size)
  | (at_builtin; go_loud (refine dj (o := ⟨some 25, _, _, _, _, _⟩) rfl (.tmp 24) (.const (.int .i64 3)) 67 3 rfl (B := w1.heap.size) Tryz.underlying67 Tryz.underlying3 hi hz0 hz1 hz2 (v := .slice A2 9 c2) rfl o2 3 rfl (by omega) (by rw [Hl9.out]; omega) s2 ?_; intro v3 w3 ho3 hg3 hv3; obtain ⟨A3, c3, rfl, n3, _⟩ := ho3.formN (n := 12) (by simp [Hl9.out]); have hb3 : Below w1.heap.size w1 w3 := hb2.grown hg3 s2 (fun q hq => (o2.top q hq).1); have s3 := hb3.size))
  | (go_at_call 243; refine (eF _ (p.hd ++ List.replicate 3 0) key _ ho3.slB (bi Hn9.out (show aH [0, 0, 0] = true from rfl)) (by simp [Hl9.out]) hk).mono ?_; rw [Hpd.out]; rintro e w4 ⟨v4, rfl, n4, hb4⟩; obtain ⟨G4, o4, _, _⟩ := n4; obtain rfl := am ai o4; obtain ⟨A4, c4, rfl, n4c, _⟩ := o4.formN (n := 12) Hpl.out; obtain ⟨g4, rfl⟩ := Own.addr o4 (by rw [Hpl.out]; omega); have s4 := hb4.size))
 have hc4 : Below w1.heap.size w1 w4 := hb3.trans (hb4.mono s3)
 have e0 := ac hc4 E0.out
 have e1 := ac hc4 E1.out
 clear k0 k1 k2 k3
 obtain ⟨k0, k1, k2, k3, _⟩ := aN e0
 obtain ⟨q0, q1, q2, q3, q4, q5, qf, qf0, qf1, qf2, qf3, qf4, qf5⟩ := bj e1
 have y1 : w.heap.size + 1 < w4.heap.size := by omega
 have y0 : w.heap.size < w4.heap.size := by omega
 obtain ⟨gg, eg, hg4, hg4w, ca0, _⟩ := o4.int Ha0.out
 injection eg with eg; injection eg with eg; subst eg
 obtain ⟨gg, eg, _, _, ca1, _⟩ := o4.int Ha1.out
 injection eg with eg; injection eg with eg; subst eg
 obtain ⟨gg, eg, _, _, ca2, _⟩ := o4.int Ha2.out
 injection eg with eg; injection eg with eg; subst eg
 have Hc4 := hid (bt Hc1.out hc4); have O4 := hid o4; have E0' := hid e0; have E1' := hid e1
 have Hh1 := hid (show SlB af w4.heap.size w4 (.slice Ah 9 ch) p.hd from H1.out _ (bt Hc1.out hc4))
 clear hc4 hb4 ho3 hg3 hv3 hb3 o2 hb2 o4 e0 e1 qf
 have ht := Ht.out; have h0 := H0.out
 rw [Hkey.out] at ht h0
 rw [Hpe.out, G0.out] at h0
 obtain rfl := Hy.out.trans (Hno.out (fun h => by rw [h0] at h; cases h.2.1))
 clear Hy
 go_wp2_with (first | (go_at_call 244; refine (eZ key p.tag _ p.hd _ Hh1.out Hn9.out (by rw [Hl9.out]; omega) hk ht0).mono ?_; rw [ht]; rintro e w' ⟨rfl, rfl⟩) | (go_at_call 78; refine (a9 _ _ _ _).mono ?_; rw [h0]; rintro e w' ⟨rfl, rfl⟩))
 refine bodyPost_ret (v := .tuple #[.agg #[.int .i64 0, .int .i64 0, .int .i64 0, .slice none 0 0, .int .i64 0, .slice none 0 0], .bool false]) (by simp [results, Tryz.results233, go_sem, q0, q1, q2, q3, q4, q5]) rfl (dr ?_)
 repeat (refine Below.setCell ?_ (by dsimp only; omega) _)
 exact Hc4.out
theorem jM (s : Int) (p : Pk) (vh vb : Value) (w : World) (h1 : SlB af w.heap.size w vh p.hd) (h2 : SlB af w.heap.size w vb p.bd) (hs : win s 1 996 = true) (hp : pkB p = true) (ht : decide (cJ (aq s p.el) p.hd = p.tag) = true) (h0 : win ((aM (aq s p.el) p).getD 0 0) 0 1 = true) (hn1 : win ((aM (aq s p.el) p).getD 1 0) 0 7 = false) :
  Calls Tryz.prog 233 #[.int .i64 s, .agg #[.int .i64 p.el, vh, .int .i64 p.tag, vb]] w (gx w (aW s p)) := by
 have Ht := hid ht; have H0 := hid h0; have HN1 := hid hn1
 clear ht h0 hn1
 obtain ⟨i0, hi, hz0, hz1, hz2⟩ := info_parts aY
 obtain ⟨p1, ⟨p2, p3⟩, ⟨p4, p5⟩, p6⟩ := aD.1 hp
 have hk := bu hs p1
 have H1 := hid (fun (wx : World) (hb : Below w.heap.size w wx) => h1.go hb)
 have H2 := hid (fun (wx : World) (hb : Below w.heap.size w wx) => h2.go hb)
 obtain ⟨Ah, ch, rfl, _, _, _⟩ := h1.form
 obtain ⟨Ab, cb, rfl, _, _, _⟩ := h2.form
 have hpl : (aM (aq s p.el) p).length = 12 := by rw [dt, p2]
 have hpn : aH (aM (aq s p.el) p) = true := cH _ _
 have hpd : bY (p.hd ++ List.replicate 3 0) (aq s p.el) = aM (aq s p.el) p := rfl
 obtain ⟨key, hkey⟩ : ∃ key, aq s p.el = key := ⟨_, rfl⟩
 have Hkey := hid hkey
 rw [hkey] at hpl hpn hpd hk
 obtain ⟨pl, hpe⟩ : ∃ pl, aM key p = pl := ⟨_, rfl⟩
 rw [hpe] at hpl hpn hpd
 obtain ⟨a0, ha0⟩ := ak (xs := pl) (k := 0) (by omega)
 obtain ⟨a1, ha1⟩ := ak (xs := pl) (k := 1) (by omega)
 obtain ⟨a2, ha2⟩ := ak (xs := pl) (k := 2) (by omega)
 have g0 : pl.getD 0 0 = a0 := by rw [List.getD_eq_getElem?_getD, ha0]; rfl
 have g1 : pl.getD 1 0 = a1 := by rw [List.getD_eq_getElem?_getD, ha1]; rfl
 have g2 : pl.getD 2 0 = a2 := by rw [List.getD_eq_getElem?_getD, ha2]; rfl
 have Hpe := hid hpe; have G0 := hid g0; have G1 := hid g1
 have hno := gJ (s := s) (p := p)
 have hyes := fy (s := s) (p := p)
 rw [hkey, hpe, g0, g1] at hno hyes
 rw [g2] at hyes
 obtain ⟨y, hy⟩ : ∃ y, y = aW s p := ⟨_, rfl⟩
 rw [← hy]
 have Hy := hid hy; have Hno := hid hno; have Hyes := hid hyes; have Hpd := hid hpd; have Hpn := hid hpn; have Hpl := hid hpl
 have Ha0 := hid ha0; have Ha1 := hid ha1; have Ha2 := hid ha2
 have Hn9 := hid p3; have Hl9 := hid p2; have Hl6 := hid p4; have Hn6 := hid p5; have Hp := hid hp
 have ht0 : 0 ≤ p.tag := (aK.1 p6).1
 rw [p2] at h1 H1 ⊢
 rw [p4] at h2 H2 ⊢
 clear h1 h2 hno hyes hpl hpn hpd hkey hpe ha0 ha1 ha2 g0 g1 g2 hy p2 p3 p4 p5 p6 hp
 go_enter Tryz.func233, Tryz.ntmps233
 go_upto_region 3 with (first
  | (go_at_call 90; refine (aF _ _).mono ?_; rw [hs]; rintro e w' ⟨rfl, rfl⟩)
  | (go_at_call 81; go_loud (refine (bJ p (.slice Ah 9 ch) (.slice Ab 6 cb) _ (H1.out _ (by repeat (first | exact ah | apply ae | refine bA ?_ (by omega) | refine Below.setCell ?_ (by first | omega | simp <;> omega) _))) (H2.out _ (by repeat (first | exact ah | apply ae | refine bA ?_ (by omega) | refine Below.setCell ?_ (by first | omega | simp <;> omega) _)))).mono ?_); rw [Hp.out]; rintro e w1 ⟨rfl, hb1⟩))
 obtain ⟨e0, e1⟩ := di hb1
 have hc1 : Below w.heap.size w w1 := bt (by repeat (first | exact ah | apply ae | refine bA ?_ (by omega) | refine Below.setCell ?_ (by first | omega | simp <;> omega) _)) hb1
 obtain ⟨k0, k1, k2, k3, _⟩ := aN e0
 have z1 : w.heap.size + 1 < w1.heap.size := (aL e1)
 have z0 : w.heap.size < w1.heap.size := by omega
 have Hc1 := hid hc1; have E0 := hid e0; have E1 := hid e1
 clear hb1 hc1 e0 e1
 go_upto_region 5 with (first
  | (go_at_call 224; refine (cS s p.el _ hs p1).mono ?_; rw [Hkey.out]; rintro e w' ⟨rfl, rfl⟩)
  | (go_at_call 129; refine (dw _ p.hd _ (by have h0 := H1.out _ Hc1.out; exact h0) (by rw [Hl9.out]; omega)).mono ?_; rintro e w2 ⟨v2, rfl, n2, hb2⟩; obtain ⟨G2, o2, _, _⟩ := n2; obtain rfl := am ai o2; obtain ⟨A2, c2, rfl, _, _⟩ := o2.formN (n := 9) Hl9.out; have s2 := hb2.size)
  | (at_builtin; go_loud (refine dj (o := ⟨some 25, _, _, _, _, _⟩) rfl (.tmp 24) (.const (.int .i64 3)) 67 3 rfl (B := w1.heap.size) Tryz.underlying67 Tryz.underlying3 hi hz0 hz1 hz2 (v := .slice A2 9 c2) rfl o2 3 rfl (by omega) (by rw [Hl9.out]; omega) s2 ?_; intro v3 w3 ho3 hg3 hv3; obtain ⟨A3, c3, rfl, n3, _⟩ := ho3.formN (n := 12) (by simp [Hl9.out]); have hb3 : Below w1.heap.size w1 w3 := hb2.grown hg3 s2 (fun q hq => (o2.top q hq).1); have s3 := hb3.size))
  | (go_at_call 243; refine (eF _ (p.hd ++ List.replicate 3 0) key _ ho3.slB (bi Hn9.out (show aH [0, 0, 0] = true from rfl)) (by simp [Hl9.out]) hk).mono ?_; rw [Hpd.out]; rintro e w4 ⟨v4, rfl, n4, hb4⟩; obtain ⟨G4, o4, _, _⟩ := n4; obtain rfl := am ai o4; obtain ⟨A4, c4, rfl, n4c, _⟩ := o4.formN (n := 12) Hpl.out; obtain ⟨g4, rfl⟩ := Own.addr o4 (by rw [Hpl.out]; omega); have s4 := hb4.size))
 have hc4 : Below w1.heap.size w1 w4 := hb3.trans (hb4.mono s3)
 have e0 := ac hc4 E0.out
 have e1 := ac hc4 E1.out
 clear k0 k1 k2 k3
 obtain ⟨k0, k1, k2, k3, _⟩ := aN e0
 obtain ⟨q0, q1, q2, q3, q4, q5, qf, qf0, qf1, qf2, qf3, qf4, qf5⟩ := bj e1
 have y1 : w.heap.size + 1 < w4.heap.size := by omega
 have y0 : w.heap.size < w4.heap.size := by omega
 obtain ⟨gg, eg, hg4, hg4w, ca0, _⟩ := o4.int Ha0.out
 injection eg with eg; injection eg with eg; subst eg
 obtain ⟨gg, eg, _, _, ca1, _⟩ := o4.int Ha1.out
 injection eg with eg; injection eg with eg; subst eg
 obtain ⟨gg, eg, _, _, ca2, _⟩ := o4.int Ha2.out
 injection eg with eg; injection eg with eg; subst eg
 have Hc4 := hid (bt Hc1.out hc4); have O4 := hid o4; have E0' := hid e0; have E1' := hid e1
 have Hh1 := hid (show SlB af w4.heap.size w4 (.slice Ah 9 ch) p.hd from H1.out _ (bt Hc1.out hc4))
 clear hc4 hb4 ho3 hg3 hv3 hb3 o2 hb2 o4 e0 e1 qf
 have ht := Ht.out; have h0 := H0.out; have h1 := HN1.out
 rw [Hkey.out] at ht h0 h1
 rw [Hpe.out, G0.out] at h0
 rw [Hpe.out, G1.out] at h1
 obtain rfl := Hy.out.trans (Hno.out (fun h => by rw [h1] at h; cases h.2.2))
 clear Hy
 go_wp2_with (first | (go_at_call 244; refine (eZ key p.tag _ p.hd _ Hh1.out Hn9.out (by rw [Hl9.out]; omega) hk ht0).mono ?_; rw [ht]; rintro e w' ⟨rfl, rfl⟩) | (go_at_call 78; refine (a9 _ _ _ _).mono ?_; rw [h0]; rintro e w' ⟨rfl, rfl⟩) | (go_at_call 126; refine (bz _ _).mono ?_; rw [h1]; rintro e w' ⟨rfl, rfl⟩))
 refine bodyPost_ret (v := .tuple #[.agg #[.int .i64 0, .int .i64 0, .int .i64 0, .slice none 0 0, .int .i64 0, .slice none 0 0], .bool false]) (by simp [results, Tryz.results233, go_sem, q0, q1, q2, q3, q4, q5]) rfl (dr ?_)
 repeat (refine Below.setCell ?_ (by dsimp only; omega) _)
 exact Hc4.out
theorem fx {w : World} {v : Value} {xs : List Int} {e B g i : Nat} {u : Value} (h : Own af e B w v xs []) (hm : ∀ b, v.ownBlock = some b → b ≠ g) : Own af e B (w.setCell ⟨g, i, none⟩ u) v xs [] :=
 h.keep (fun b hb => Below.heap_setCell _ _ _ _ (hm b hb)) (fun _ h => by cases h)
theorem lj (s : Int) (p : Pk) (vh vb : Value) (w : World) (h1 : SlB af w.heap.size w vh p.hd) (h2 : SlB af w.heap.size w vb p.bd) (hs : win s 1 996 = true) (hp : pkB p = true) (ht : decide (cJ (aq s p.el) p.hd = p.tag) = true) (h0 : win ((aM (aq s p.el) p).getD 0 0) 0 1 = true) (hn1 : win ((aM (aq s p.el) p).getD 1 0) 0 7 = true) :
  Calls Tryz.prog 233 #[.int .i64 s, .agg #[.int .i64 p.el, vh, .int .i64 p.tag, vb]] w (gx w (aW s p)) := by
 have Ht := hid ht; have H0 := hid h0; have HN1 := hid hn1
 clear ht h0 hn1
 obtain ⟨i0, hi, hz0, hz1, hz2⟩ := info_parts aY
 obtain ⟨p1, ⟨p2, p3⟩, ⟨p4, p5⟩, p6⟩ := aD.1 hp
 have hk := bu hs p1
 have H1 := hid (fun (wx : World) (hb : Below w.heap.size w wx) => h1.go hb)
 have H2 := hid (fun (wx : World) (hb : Below w.heap.size w wx) => h2.go hb)
 obtain ⟨Ah, ch, rfl, _, _, _⟩ := h1.form
 obtain ⟨Ab, cb, rfl, _, _, _⟩ := h2.form
 have hpl : (aM (aq s p.el) p).length = 12 := by rw [dt, p2]
 have hpn : aH (aM (aq s p.el) p) = true := cH _ _
 have hpd : bY (p.hd ++ List.replicate 3 0) (aq s p.el) = aM (aq s p.el) p := rfl
 obtain ⟨key, hkey⟩ : ∃ key, aq s p.el = key := ⟨_, rfl⟩
 have Hkey := hid hkey
 rw [hkey] at hpl hpn hpd hk
 obtain ⟨pl, hpe⟩ : ∃ pl, aM key p = pl := ⟨_, rfl⟩
 rw [hpe] at hpl hpn hpd
 obtain ⟨a0, ha0⟩ := ak (xs := pl) (k := 0) (by omega)
 obtain ⟨a1, ha1⟩ := ak (xs := pl) (k := 1) (by omega)
 obtain ⟨a2, ha2⟩ := ak (xs := pl) (k := 2) (by omega)
 have g0 : pl.getD 0 0 = a0 := by rw [List.getD_eq_getElem?_getD, ha0]; rfl
 have g1 : pl.getD 1 0 = a1 := by rw [List.getD_eq_getElem?_getD, ha1]; rfl
 have g2 : pl.getD 2 0 = a2 := by rw [List.getD_eq_getElem?_getD, ha2]; rfl
 have Hpe := hid hpe; have G0 := hid g0; have G1 := hid g1
 have hno := gJ (s := s) (p := p)
 have hyes := fy (s := s) (p := p)
 rw [hkey, hpe, g0, g1] at hno hyes
 rw [g2] at hyes
 obtain ⟨y, hy⟩ : ∃ y, y = aW s p := ⟨_, rfl⟩
 rw [← hy]
 have Hy := hid hy; have Hno := hid hno; have Hyes := hid hyes; have Hpd := hid hpd; have Hpn := hid hpn; have Hpl := hid hpl
 have Ha0 := hid ha0; have Ha1 := hid ha1; have Ha2 := hid ha2
 have Hn9 := hid p3; have Hl9 := hid p2; have Hl6 := hid p4; have Hn6 := hid p5; have Hp := hid hp
 have ht0 : 0 ≤ p.tag := (aK.1 p6).1
 rw [p2] at h1 H1 ⊢
 rw [p4] at h2 H2 ⊢
 clear h1 h2 hno hyes hpl hpn hpd hkey hpe ha0 ha1 ha2 g0 g1 g2 hy p2 p3 p4 p5 p6 hp
 go_enter Tryz.func233, Tryz.ntmps233
 go_upto_region 3 with (first
  | (go_at_call 90; refine (aF _ _).mono ?_; rw [hs]; rintro e w' ⟨rfl, rfl⟩)
  | (go_at_call 81; go_loud (refine (bJ p (.slice Ah 9 ch) (.slice Ab 6 cb) _ (H1.out _ (by repeat (first | exact ah | apply ae | refine bA ?_ (by omega) | refine Below.setCell ?_ (by first | omega | simp <;> omega) _))) (H2.out _ (by repeat (first | exact ah | apply ae | refine bA ?_ (by omega) | refine Below.setCell ?_ (by first | omega | simp <;> omega) _)))).mono ?_); rw [Hp.out]; rintro e w1 ⟨rfl, hb1⟩))
 obtain ⟨e0, e1⟩ := di hb1
 have hc1 : Below w.heap.size w w1 := bt (by repeat (first | exact ah | apply ae | refine bA ?_ (by omega) | refine Below.setCell ?_ (by first | omega | simp <;> omega) _)) hb1
 obtain ⟨k0, k1, k2, k3, _⟩ := aN e0
 have z1 : w.heap.size + 1 < w1.heap.size := (aL e1)
 have z0 : w.heap.size < w1.heap.size := by omega
 have Hc1 := hid hc1; have E0 := hid e0; have E1 := hid e1
 clear hb1 hc1 e0 e1
 go_upto_region 5 with (first
  | (go_at_call 224; refine (cS s p.el _ hs p1).mono ?_; rw [Hkey.out]; rintro e w' ⟨rfl, rfl⟩)
  | (go_at_call 129; refine (dw _ p.hd _ (by have h0 := H1.out _ Hc1.out; exact h0) (by rw [Hl9.out]; omega)).mono ?_; rintro e w2 ⟨v2, rfl, n2, hb2⟩; obtain ⟨G2, o2, _, _⟩ := n2; obtain rfl := am ai o2; obtain ⟨A2, c2, rfl, _, _⟩ := o2.formN (n := 9) Hl9.out; have s2 := hb2.size)
  | (at_builtin; go_loud (refine dj (o := ⟨some 25, _, _, _, _, _⟩) rfl (.tmp 24) (.const (.int .i64 3)) 67 3 rfl (B := w1.heap.size) Tryz.underlying67 Tryz.underlying3 hi hz0 hz1 hz2 (v := .slice A2 9 c2) rfl o2 3 rfl (by omega) (by rw [Hl9.out]; omega) s2 ?_; intro v3 w3 ho3 hg3 hv3; obtain ⟨A3, c3, rfl, n3, _⟩ := ho3.formN (n := 12) (by simp [Hl9.out]); have hb3 : Below w1.heap.size w1 w3 := hb2.grown hg3 s2 (fun q hq => (o2.top q hq).1); have s3 := hb3.size))
  | (go_at_call 243; refine (eF _ (p.hd ++ List.replicate 3 0) key _ ho3.slB (bi Hn9.out (show aH [0, 0, 0] = true from rfl)) (by simp [Hl9.out]) hk).mono ?_; rw [Hpd.out]; rintro e w4 ⟨v4, rfl, n4, hb4⟩; obtain ⟨G4, o4, _, _⟩ := n4; obtain rfl := am ai o4; obtain ⟨A4, c4, rfl, n4c, _⟩ := o4.formN (n := 12) Hpl.out; obtain ⟨g4, rfl⟩ := Own.addr o4 (by rw [Hpl.out]; omega); have s4 := hb4.size))
 have hc4 : Below w1.heap.size w1 w4 := hb3.trans (hb4.mono s3)
 have e0 := ac hc4 E0.out
 have e1 := ac hc4 E1.out
 clear k0 k1 k2 k3
 obtain ⟨k0, k1, k2, k3, _⟩ := aN e0
 obtain ⟨q0, q1, q2, q3, q4, q5, qf, qf0, qf1, qf2, qf3, qf4, qf5⟩ := bj e1
 have y1 : w.heap.size + 1 < w4.heap.size := by omega
 have y0 : w.heap.size < w4.heap.size := by omega
 obtain ⟨gg, eg, hg4, hg4w, ca0, _⟩ := o4.int Ha0.out
 injection eg with eg; injection eg with eg; subst eg
 obtain ⟨gg, eg, _, _, ca1, _⟩ := o4.int Ha1.out
 injection eg with eg; injection eg with eg; subst eg
 obtain ⟨gg, eg, _, _, ca2, _⟩ := o4.int Ha2.out
 injection eg with eg; injection eg with eg; subst eg
 have Hc4 := hid (bt Hc1.out hc4); have O4 := hid o4; have E0' := hid e0; have E1' := hid e1
 have Hh1 := hid (show SlB af w4.heap.size w4 (.slice Ah 9 ch) p.hd from H1.out _ (bt Hc1.out hc4))
 clear hc4 hb4 ho3 hg3 hv3 hb3 o2 hb2 o4 e0 e1 qf
 have ht := Ht.out; have h0 := H0.out; have h1 := HN1.out
 rw [Hkey.out] at ht h0 h1
 rw [Hpe.out, G0.out] at h0
 rw [Hpe.out, G1.out] at h1
 obtain rfl := Hy.out.trans (Hyes.out ⟨of_decide_eq_true ht, h0, h1⟩)
 clear Hy
 go_upto_region 7 with (first | (go_at_call 244; refine (eZ key p.tag _ p.hd _ Hh1.out Hn9.out (by rw [Hl9.out]; omega) hk ht0).mono ?_; rw [ht]; rintro e w' ⟨rfl, rfl⟩) | (go_at_call 78; refine (a9 _ _ _ _).mono ?_; rw [h0]; rintro e w' ⟨rfl, rfl⟩) | (go_at_call 126; refine (bz _ _).mono ?_; rw [h1]; rintro e w' ⟨rfl, rfl⟩))
 have Hd9 := hid (show (pl.drop 3).length = 9 by have := Hpl.out; simp; omega)
 have q6 : ¬ c4 = 3 := by omega
 have q7 : 3 ≤ c4 := by omega
 have Hd := hid (show SlB af w4.heap.size w4 (.slice (some ⟨g4, 3, none⟩) 9 (c4 - 3)) (pl.drop 3) by
  have h0 := SlB.drop O4.out.slB 3 (by omega)
  exact h0)
 have HS := hid (fun (wx : World) (hT : Tch [] w4 wx) => And.intro (aN (hT.row E0'.out (by simp))) (And.intro (hT.cell ca2 (by simp)) (show w.heap.size < wx.heap.size by have := hT.size; omega)))
 have HD := hid (fun (wx : World) (hT : Tch [] w4 wx) => Hd.out.go hT.nil)
 have HBd := hid (fun (wx : World) (hT : Tch [] w4 wx) => show SlB af wx.heap.size wx (.slice Ab 6 cb) p.bd from H2.out _ (bt Hc4.out hT.nil))
 have Ca0 := hid ca0; have Ca1 := hid ca1
 clear k0 k1 k2 k3 q0 q1 q2 q3 q4 q5 qf0 qf1 qf2 qf3 qf4 qf5 ca0 ca1 ca2
 go_cut [8] (fun s8 wx => ∃ (ga : Nat) (A5 A6 : Option Addr) (c5 c6 : Nat), s8 = .pointer (some ⟨ga, 0, none⟩) ∧ wx.heap[ga]? = some (.cells #[.int .i64 (aq p.el (dn key)), .slice A5 9 c5, .int .i64 a2, .slice A6 6 c6] 72 (0, 0)) ∧ Own af 3 w4.heap.size wx (.slice A5 9 c5) (pl.drop 3) [] ∧ Own af 3 w4.heap.size wx (.slice A6 6 c6) (bY p.bd key) [] ∧ (∀ b, (Value.slice A5 9 c5).ownBlock = some b → (Value.slice A6 6 c6).ownBlock ≠ some b) ∧ Below w4.heap.size w4 wx ∧ w4.heap.size ≤ ga)
 case first =>
  refine rgN [] 18 (by kernel_rfl) rfl (fun | none, _, _, _, _ => id | some _, _, _, _, _ => id) fun wd hH hbwd swd => ?_
  simp only [pw]
  refine ag [0, 1, 2, 5, 6, 8, 9, 10, 11, 12, 13] ?_
  iterate 11 (refine ra HS.out rfl (by kernel_rfl) rfl (fun _ f => by go_simp; try with_reducible rfl) ?_; try simp only [pw])
  repeat' (first
   | (have t3 := hK3; clear t3; go_simp; (go_at_call 226; refine (lX key _ hk).mono ?_; rintro e w' ⟨rfl, rfl⟩; have hbC := fun {x : World} => Below.refl x.heap.size x); refine hK3.out _ _ (hH.trans (Tch.of hbC)) (fun hH => ?_); clear hK3 K3; try simp only [pw])
   | (have t4 := hK4; clear t4; go_simp; (go_at_call 225; refine (oB p.el (dn key) _ p1 (fd key)).mono ?_; rintro e w' ⟨rfl, rfl⟩; have hbC := fun {x : World} => Below.refl x.heap.size x); refine hK4.out _ _ (hH.trans (Tch.of hbC)) (fun hH => ?_); clear hK4 K4; try simp only [pw])
   | (have t7 := hK7; clear t7; go_simp; (have l5 := hH.size; (try have g5 := (aL ea)); go_at_call 129; refine (dw _ (pl.drop 3) _ (HD.out _ hH) (by rw [Hd9.out]; omega)).mono ?_; rintro e w5 ⟨v5, rfl, n5, hbC⟩; obtain ⟨G5, o5, _, _⟩ := n5; obtain rfl := am ai o5; obtain ⟨A5, c5, rfl, _, _⟩ := o5.formN (n := 9) Hd9.out; (try replace ea := ac hbC ea); (try have m5 : ∀ b, (Value.slice A5 9 c5).ownBlock = some b → b ≠ ga := fun b hb => by have := (o5.top b hb).1; omega)); refine hK7.out _ _ (hH.trans (Tch.of hbC)) (fun hH => ?_); clear hK7 K7; try simp only [pw])
   | (have t14 := hK14; clear t14; go_simp; (have l6 := hH.size; (try have g6 := (aL ea)); go_at_call 243; refine (eF _ p.bd key _ (HBd.out _ hH) Hn6.out (by rw [Hl6.out]; omega) hk).mono ?_; rintro e w6 ⟨v6, rfl, n6, hbC⟩; obtain ⟨G6, o6, _, _⟩ := n6; obtain rfl := am ai o6; obtain ⟨A6, c6, rfl, _, _⟩ := o6.formN (n := 6) (by rw [ju]; exact Hl6.out); (try replace ea := ac hbC ea); (try have m6 : ∀ b, (Value.slice A6 6 c6).ownBlock = some b → b ≠ ga := fun b hb => by have := (o6.top b hb).1; omega); have m56 : ∀ b, (Value.slice A5 9 c5).ownBlock = some b → (Value.slice A6 6 c6).ownBlock ≠ some b := fun b h1 h2 => (by have g1 := (o5.top b h1).2; have g2 := (o6.top b h2).1; omega); replace o5 := o5.go hbC); refine hK14.out _ _ (hH.trans (Tch.of hbC)) (fun hH => ?_); clear hK14 K14; try simp only [pw])
   | (have t16 := hK16; clear t16; go_simp; (have la := hH.size; generalize hgw : World.alloc _ _ = wa; obtain ⟨ea, hbC, sa⟩ := al hgw; clear hgw; (first | (generalize hga : w6.heap.size = ga at ea ⊢) | (generalize hga : w5.heap.size = ga at ea ⊢) | (generalize hga : wd.heap.size = ga at ea ⊢)); (try have m5 : ∀ b, (Value.slice A5 9 c5).ownBlock = some b → b ≠ ga := fun b hb => by have := (o5.top b hb).2; omega); (try have m6 : ∀ b, (Value.slice A6 6 c6).ownBlock = some b → b ≠ ga := fun b hb => by have := (o6.top b hb).2; omega); (try replace o5 := o5.go hbC); (try replace o6 := o6.go hbC); have hga1 : w4.heap.size ≤ ga := (by omega); have hga2 : ga < wa.heap.size := (by omega); clear hga); refine hK16.out _ _ (hH.trans (Tch.of hbC)) (fun hH => ?_); clear hK16 K16; try simp only [pw])
   | (refine tr 15 HS.out rfl (by decide +kernel) rfl (fun _ f => by go_simp; try with_reducible rfl) ?_; try simp only [pw])
   | (refine rz 17 (by decide +kernel) rfl (fun K hK => ?_); (obtain ⟨r0, r1, r2, r3, rf⟩ := aN ea; have rf0 := rf 0; have rf1 := rf 1; have rf2 := rf 2; have rf3 := rf 3; have hga3 := World.block_lt_of_cell? _ _ r0; dsimp only at hga3); have fC := HS.out _ hH; go_simp; clear fC; refine hK.out _ _ ?_; clear hK K)
   | (refine rk (i := 3) [16] (by decide +kernel) (rc rfl (fun K3 hK3 => ?_) (rc rfl (fun K16 hK16 => ?_) rn)))
   | (refine rk (i := 4) [16] (by decide +kernel) (rc rfl (fun K4 hK4 => ?_) (rc rfl (fun K16 hK16 => ?_) rn)))
   | (refine rk (i := 7) [16] (by decide +kernel) (rc rfl (fun K7 hK7 => ?_) (rc rfl (fun K16 hK16 => ?_) rn)))
   | (refine rk (i := 14) [16] (by decide +kernel) (rc rfl (fun K14 hK14 => ?_) (rc rfl (fun K16 hK16 => ?_) rn)))
   | (refine rk (i := 3) [] (by decide +kernel) (rc rfl (fun K3 hK3 => ?_) rn))
   | (refine rk (i := 4) [] (by decide +kernel) (rc rfl (fun K4 hK4 => ?_) rn))
   | (refine rk (i := 7) [] (by decide +kernel) (rc rfl (fun K7 hK7 => ?_) rn))
   | (refine rk (i := 14) [] (by decide +kernel) (rc rfl (fun K14 hK14 => ?_) rn))
   | (refine rk (i := 16) [] (by decide +kernel) (rc rfl (fun K16 hK16 => ?_) rn))
   | fail)
  all_goals
   have e9 := aB 3 (.slice A6 6 c6) (aB 2 (.int .i64 a2) (aB 1 (.slice A5 9 c5) (aB 0 (.int .i64 (aq p.el (dn key))) ea)))
   have hF := hH.nil
   have o5' := fx (g := ga) (i := 3) (u := .slice A6 6 c6) (fx (g := ga) (i := 2) (u := .int .i64 a2) (fx (g := ga) (i := 1) (u := .slice A5 9 c5) (fx (g := ga) (i := 0) (u := .int .i64 (aq p.el (dn key))) (o5.base (B' := w4.heap.size) (by omega)) m5) m5) m5) m5
   have o6' := fx (g := ga) (i := 3) (u := .slice A6 6 c6) (fx (g := ga) (i := 2) (u := .int .i64 a2) (fx (g := ga) (i := 1) (u := .slice A5 9 c5) (fx (g := ga) (i := 0) (u := .int .i64 (aq p.el (dn key))) (o6.base (B' := w4.heap.size) (by omega)) m6) m6) m6) m6
   have hF' := (((hF.setCell (p := ⟨ga, 0, none⟩) hga1 (.int .i64 (aq p.el (dn key)))).setCell (p := ⟨ga, 1, none⟩) hga1 (.slice A5 9 c5)).setCell (p := ⟨ga, 2, none⟩) hga1 (.int .i64 a2)).setCell (p := ⟨ga, 3, none⟩) hga1 (.slice A6 6 c6)
   have HX := hid (show _ ∧ _ ∧ _ ∧ _ ∧ _ from ⟨e9, o5', o6', m56, hF'⟩)
   clear e9 o5' o6' m56 hF' hF hH o5 o6 ea m5 m6 r0 r1 r2 r3 rf rf0 rf1 rf2 rf3 hbC
   go_wp2_with fail
   go_meet
   exact ⟨_, _, _, _, _, rfl, HX.out.1, HX.out.2.1, HX.out.2.2.1, HX.out.2.2.2.1, HX.out.2.2.2.2, hga1⟩
 case rest =>
  obtain ⟨ga, A5, A6, c5, c6, rfl, e9, o5, o6, m56, hF, hga1⟩ := hcut
  obtain ⟨W7, rfl⟩ : ∃ W7 : World, W7 = wc := ⟨_, rfl⟩
  have cb0 := (hF.cell (p := ⟨g4, 0, none⟩) hg4w).trans Ca0.out
  have cb1 := (hF.cell (p := ⟨g4, 1, none⟩) hg4w).trans Ca1.out
  have R1 := hid (ac hF E1'.out)
  have sF := hF.size
  have hg4n : g4 ≠ w.heap.size + 1 := by omega
  have HS2 := hid (fun (wx : World) (hT : Tch [w.heap.size + 1] W7 wx) => And.intro (hT.cell cb0 (by simp; omega)) (And.intro (hT.cell cb1 (by simp; omega)) (And.intro (aN (hT.row e9 (by simp; omega))) (show w.heap.size + 1 < wx.heap.size by have := hT.size; omega))))
  have O5 := hid o5; have O6 := hid o6; have HF := hid (bt Hc4.out hF); have M56 := hid m56
  clear e9 cb0 cb1 o5 o6 hF m56
  go_upto_region 8 with fail
  refine rgN [w.heap.size + 1] 10 (by kernel_rfl) rfl (fun | none, _, _, _, _ => id | some _, _, _, _, _ => id) fun we hH hbwe swe => ?_
  simp only [pw]
  refine ag [0, 1, 2, 3, 4, 5, 6, 7] ?_
  iterate 8 (refine ra HS2.out rfl (by kernel_rfl) rfl (fun _ f => by go_simp; try with_reducible rfl) ?_; try simp only [pw])
  (obtain ⟨q0, q1, q2, q3, q4, q5, qf, qf0, qf1, qf2, qf3, qf4, qf5⟩ := bj (ac hbwe R1.out); have z1 := World.block_lt_of_cell? _ _ q0; dsimp only at z1)
  refine rq 8 (by kernel_rfl) rfl fun K hK => ?_
  have fC := HS2.out _ hH
  go_simp
  clear fC
  (have hbT := (((((hH.put (p := ⟨w.heap.size + 1, 0, none⟩) (.inl (by simp)) (.int .i64 a0)).put (p := ⟨w.heap.size + 1, 1, none⟩) (.inl (by simp)) (.int .i64 a1)).put (p := ⟨w.heap.size + 1, 2, none⟩) (.inl (by simp)) (.int .i64 (aq p.el (dn key)))).put (p := ⟨w.heap.size + 1, 3, none⟩) (.inl (by simp)) (.slice A5 9 c5)).put (p := ⟨w.heap.size + 1, 4, none⟩) (.inl (by simp)) (.int .i64 a2)).put (p := ⟨w.heap.size + 1, 5, none⟩) (.inl (by simp)) (.slice A6 6 c6))
  refine hK.out _ _ (hbT) (fun hH => ?_)
  clear hK K
  refine tr 9 HS2.out rfl (by kernel_rfl) rfl (fun _ f => by go_simp; try with_reducible rfl) ?_
  try simp only [pw]
  refine dm (by kernel_rfl) ?_
  have o5' := (((((ap ((O5.out.go hbwe).base (B' := w.heap.size + 2) (by omega)) (p := ⟨w.heap.size + 1, 0, none⟩) (u := .int .i64 a0) (by dsimp only; omega)) |> fun h => ap h (p := ⟨w.heap.size + 1, 1, none⟩) (u := .int .i64 a1) (by dsimp only; omega)) |> fun h => ap h (p := ⟨w.heap.size + 1, 2, none⟩) (u := .int .i64 (aq p.el (dn key))) (by dsimp only; omega)) |> fun h => ap h (p := ⟨w.heap.size + 1, 3, none⟩) (u := .slice A5 9 c5) (by dsimp only; omega)) |> fun h => ap h (p := ⟨w.heap.size + 1, 4, none⟩) (u := .int .i64 a2) (by dsimp only; omega)) |> fun h => ap h (p := ⟨w.heap.size + 1, 5, none⟩) (u := .slice A6 6 c6) (by dsimp only; omega)
  have o6' := (((((ap ((O6.out.go hbwe).base (B' := w.heap.size + 2) (by omega)) (p := ⟨w.heap.size + 1, 0, none⟩) (u := .int .i64 a0) (by dsimp only; omega)) |> fun h => ap h (p := ⟨w.heap.size + 1, 1, none⟩) (u := .int .i64 a1) (by dsimp only; omega)) |> fun h => ap h (p := ⟨w.heap.size + 1, 2, none⟩) (u := .int .i64 (aq p.el (dn key))) (by dsimp only; omega)) |> fun h => ap h (p := ⟨w.heap.size + 1, 3, none⟩) (u := .slice A5 9 c5) (by dsimp only; omega)) |> fun h => ap h (p := ⟨w.heap.size + 1, 4, none⟩) (u := .int .i64 a2) (by dsimp only; omega)) |> fun h => ap h (p := ⟨w.heap.size + 1, 5, none⟩) (u := .slice A6 6 c6) (by dsimp only; omega)
  have hbf := (((((bt HF.out hbwe).setCell (p := ⟨w.heap.size + 1, 0, none⟩) (by simp) (.int .i64 a0)).setCell (p := ⟨w.heap.size + 1, 1, none⟩) (by simp) (.int .i64 a1)).setCell (p := ⟨w.heap.size + 1, 2, none⟩) (by simp) (.int .i64 (aq p.el (dn key)))).setCell (p := ⟨w.heap.size + 1, 3, none⟩) (by simp) (.slice A5 9 c5)).setCell (p := ⟨w.heap.size + 1, 4, none⟩) (by simp) (.int .i64 a2) |>.setCell (p := ⟨w.heap.size + 1, 5, none⟩) (by simp) (.slice A6 6 c6)
  have HX := hid (gG (x := ⟨a0, a1, ⟨aq p.el (dn key), pl.drop 3, a2, bY p.bd key⟩⟩) (jp (p := ⟨aq p.el (dn key), pl.drop 3, a2, bY p.bd key⟩) (o5'.base (B' := w.heap.size) (by omega)) (o6'.base (B' := w.heap.size) (by omega)) M56.out))
  have HBf := hid hbf
  clear o5' o6' hbf hH hbT hbwe qf
  go_wp2_with fail
  refine bodyPost_ret (v := .tuple #[.agg #[.int .i64 a0, .int .i64 a1, .int .i64 (aq p.el (dn key)), .slice A5 9 c5, .int .i64 a2, .slice A6 6 c6], .bool true]) (by simp [results, Tryz.results233, go_sem, q0, q1, q2, q3, q4, q5]) rfl ⟨_, _, rfl, HX.out, HBf.out⟩
theorem iS (s : Int) (p : Pk) (vh vb : Value) (w : World) (h1 : SlB af w.heap.size w vh p.hd) (h2 : SlB af w.heap.size w vb p.bd) (hs : win s 1 996 = true) (hp : pkB p = true) :
  Calls Tryz.prog 233 #[.int .i64 s, .agg #[.int .i64 p.el, vh, .int .i64 p.tag, vb]] w (gx w (aW s p)) := by
 cases ht : decide (cJ (aq s p.el) p.hd = p.tag) with
 | false => exact lh s p vh vb w h1 h2 hs hp ht
 | true =>
  cases h0 : win ((aM (aq s p.el) p).getD 0 0) 0 1 with
  | false => exact jL s p vh vb w h1 h2 hs hp ht h0
  | true =>
   cases hn1 : win ((aM (aq s p.el) p).getD 1 0) 0 7 with
   | false => exact jM s p vh vb w h1 h2 hs hp ht h0 hn1
   | true => exact lj s p vh vb w h1 h2 hs hp ht h0 hn1
end Go.Proofs.YtfaeojmndaplcaaGreatDoor
