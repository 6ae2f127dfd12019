/- Texts that the last file leans on (part 8). -/
import Derived.Test.YtfaeojmndaplcaaGreatDoorP6
set_option linter.unusedVariables false
set_option linter.unusedSimpArgs false
set_option maxHeartbeats 4000000
set_option maxRecDepth 100000
namespace Go.Proofs.YtfaeojmndaplcaaGreatDoor
open Go Go.RowKit
theorem fH {x : Pl} {out : List Pl} {q : Nat} (h : ∀ i y, i < q → out[i]? = some y → bS x y = false) (hq : q ≤ out.length) (hl : ∀ y, out[q]? = some y → bS x y = true) : fX x out = out.take q ++ x :: out.drop q := by
 induction out generalizing q with
 | nil => simp at hq; subst hq; rfl
 | cons y ys ih =>
  cases q with
  | zero => have := hl y rfl; simp [fX, this]
  | succ q =>
   have h0 := h 0 y (by omega) rfl
   rw [fX, if_neg (by rw [h0]; simp), ih (q := q) (fun i z hi hz => h (i + 1) z (by omega) (by simpa using hz)) (by simpa using hq) (fun z hz => hl z (by simpa using hz))]; simp
theorem ik {xs : List Pl} {j : Nat} {x : Pl} (h : xs[j]? = some x) : br (xs.take (j + 1)) = fX x (br (xs.take j)) := by
 unfold br
 rw [aP h, List.foldl_append]; rfl
theorem qP {α : Type} {T : Ty α} {e B : Nat} {w : World} (n : Nat) (hn : n = w.heap.size) (hB : B ≤ n) : Own T e B (w.alloc (.cells #[] e)) (.slice (some ⟨n, 0, none⟩) 0 0) [] [] := by
 subst hn
 exact ⟨[], World.ownsRow_made w #[] 0 hB (by simp [maxLen]) (by simp), ⟨rfl, rfl⟩, fun _ _ h => by cases h⟩
theorem kD (a b : Pl) (A B C D : Option Addr) (n1 n2 n3 n4 c1 c2 c3 c4 : Nat) (w : World) :
  Calls Tryz.prog 213 #[.agg #[.int .i64 a.kind, .int .i64 a.next, .int .i64 a.pk.el, .slice A n1 c1, .int .i64 a.pk.tag, .slice B n2 c2], .agg #[.int .i64 b.kind, .int .i64 b.next, .int .i64 b.pk.el, .slice C n3 c3, .int .i64 b.pk.tag, .slice D n4 c4]] w (ok (bS a b) w.heap.size w) := by
 go_enter Tryz.func213, Tryz.ntmps213
 go_wp2
 all_goals
  go_ret
  exact ⟨aj (by unfold bS; simp_all), by repeat (first | exact ah | apply ae | refine bA ?_ (by omega) | refine Below.setCell ?_ (by first | omega | simp <;> omega) _)⟩
theorem bU {α : Type} {T : Ty α} {e B n : Nat} {w : World} (h : w.heap[n]? = some (.cells #[] e (0, 0))) (hB : B ≤ n) : Own T e B w (.slice (some ⟨n, 0, none⟩) 0 0) [] [] :=
 ⟨[], ⟨by simp, .inr ⟨n, 0, #[], rfl, hB, h, Nat.le_refl _, by simp [maxLen], by simp, by simp⟩⟩, ⟨rfl, rfl⟩, fun _ _ h => by cases h⟩
theorem cz {α : Type} {T : Ty α} {e n : Nat} {w : World} {cs : List Value} {x : α} {G : List Nat} (h : w.heap[n]? = some (.cells cs.toArray e (0, 0))) (hE : T.E w cs x G) : Sl T w (.slice (some ⟨n, 0, none⟩) 1 1) [x] (n :: G) := by
 refine ⟨_, 1, cs, rfl, Nat.le_refl _, by simp [maxLen], .inr ⟨n, 0, G, rfl, rfl, by simp, (aL h), ⟨cs, [], G, [], by simp, by simp, hE, rfl, rfl⟩, fun j u hj => ?_⟩⟩
 rw [Nat.zero_add, cell_of_row w n j _ _ _ h]
 simpa using hj
theorem Own.slTake {α : Type} {T : Ty α} {e B g n c : Nat} {w : World} {xs : List α} {G : List Nat} (h : Own T e B w (.slice (some ⟨g, 0, none⟩) n c) xs G) (q : Nat) (hq : q ≤ xs.length) : ∃ F, Sl T w (.slice (some ⟨g, 0, none⟩) q c) (xs.take q) F ∧ ∀ b ∈ F.tail, b ∈ G := by
 have hc := h.form
 obtain ⟨A0, c0, e0, hc1, hc2, _⟩ := hc
 injection e0 with e1 e2 e3; subst e2 e3
 obtain ⟨cs, h1, h2, h3⟩ := h
 have hlen : (xs.take q).length = q := by simp; omega
 by_cases h0 : xs.take q = []
 ·exact ⟨[], ⟨_, c, [], by rw [hlen], by omega, hc2, .inl ⟨h0, rfl⟩⟩, fun b hb => by cases hb⟩
 ·obtain ⟨c1, G1, hE, hG, hcc⟩ := Ty.els_take h2 q
  refine ⟨g :: G1, ⟨_, c, c1, by rw [hlen], by omega, hc2, .inr ⟨g, 0, G1, rfl, rfl, h0, (h1.lt g rfl).2, hE, fun j u hj => ?_⟩⟩, fun b hb => hG b hb⟩
  have hl := (List.getElem?_eq_some_iff.1 (hcc j u hj)).1
  rw [Nat.zero_add, h1.cellAt j (by rw [h1.1] at hl; exact hl)]
  exact hcc j u hj
theorem Own.slDrop {α : Type} {T : Ty α} {e B g n c : Nat} {w : World} {xs : List α} {G : List Nat} (h : Own T e B w (.slice (some ⟨g, 0, none⟩) n c) xs G) (q : Nat) (hq : q ≤ xs.length) (A : Option Addr) (hA : q < xs.length → A = some ⟨g, q * T.k, none⟩) (cc : Nat) (hcc : xs.length - q ≤ cc) (hcm : cc ≤ maxLen) : ∃ F, Sl T w (.slice A (xs.length - q) cc) (xs.drop q) F ∧ ∀ b ∈ F.tail, b ∈ G := by
 obtain ⟨A0, c0, e0, hc1, hc2, _⟩ := h.form
 injection e0 with e1 e2 e3; subst e2 e3
 obtain ⟨cs, h1, h2, h3⟩ := h
 have hlen : (xs.drop q).length = xs.length - q := by simp
 by_cases h0 : xs.length ≤ q
 ·exact ⟨[], ⟨_, cc, [], by rw [hlen], by omega, hcm, .inl ⟨List.drop_eq_nil_of_le h0, rfl⟩⟩, fun b hb => by cases hb⟩
 ·obtain rfl := hA (by omega)
  obtain ⟨c1, c2, F1, F2, rfl, rfl, hl, k1, k2⟩ := Ty.els_cut h2 q hq
  refine ⟨g :: F2, ⟨_, cc, c2, by rw [hlen], by omega, hcm, .inr ⟨g, q * T.k, F2, rfl, rfl, fun e => h0 (by simpa using e), (h1.lt g rfl).2, k2, fun j u hj => ?_⟩⟩, fun b hb => List.mem_append_right _ hb⟩
  have hj' : (c1 ++ c2)[c1.length + j]? = some u := by rw [List.getElem?_append_right (by omega), Nat.add_sub_cancel_left]; exact hj
  have hl' := (List.getElem?_eq_some_iff.1 hj').1
  rw [← hl, h1.cellAt (c1.length + j) (by rw [h1.1] at hl'; exact hl')]
  exact hj'
theorem al {w wa : World} {cs : Array Value} {e : Nat} (h : w.alloc (.cells cs e) = wa) : wa.heap[w.heap.size]? = some (.cells cs e (0, 0)) ∧ Below w.heap.size w wa ∧ w.heap.size < wa.heap.size := by
 subst h
 exact ⟨heap_alloc_new w _, ab w _, by simp⟩
theorem gW {W wx : World} {b o : Nat} {a0 a1 a2 a3 a4 a5 : Value} (hb : Below W.heap.size W wx) (hl : b < W.heap.size) (k0 : W.cell? ⟨b, o, none⟩ = some a0) (k1 : W.cell? ⟨b, o + 1, none⟩ = some a1) (k2 : W.cell? ⟨b, o + 2, none⟩ = some a2) (k3 : W.cell? ⟨b, o + 3, none⟩ = some a3) (k4 : W.cell? ⟨b, o + 4, none⟩ = some a4) (k5 : W.cell? ⟨b, o + 5, none⟩ = some a5) :
  wx.cell? ⟨b, o, none⟩ = some a0 ∧ wx.cell? ⟨b, o + 1, none⟩ = some a1 ∧ wx.cell? ⟨b, o + 2, none⟩ = some a2 ∧ wx.cell? ⟨b, o + 3, none⟩ = some a3 ∧ wx.cell? ⟨b, o + 4, none⟩ = some a4 ∧ wx.cell? ⟨b, o + 5, none⟩ = some a5 :=
 ⟨(hb.cell (p := ⟨b, o, none⟩) hl).trans k0, (hb.cell (p := ⟨b, o + 1, none⟩) hl).trans k1, (hb.cell (p := ⟨b, o + 2, none⟩) hl).trans k2, (hb.cell (p := ⟨b, o + 3, none⟩) hl).trans k3, (hb.cell (p := ⟨b, o + 4, none⟩) hl).trans k4, (hb.cell (p := ⟨b, o + 5, none⟩) hl).trans k5⟩
theorem kF (v : Value) (xs : List Pl) (w : World) (h : SlB tPl w.heap.size w v xs) (hl : xs.length ≤ 5) (hs : ∀ x ∈ xs, x.pk.hd.length ≤ 1073741824 ∧ x.pk.bd.length ≤ 1073741824) :
  Calls Tryz.prog 162 #[v] w fun e w' => ∃ v', e = .returned v' ∧ bp oPl 144 w.heap.size w' v' (br xs) ∧ Below w.heap.size w w' := by
 obtain ⟨i0, hi, hz0, hz1, hz2⟩ := info_parts iU
 obtain ⟨A, c, rfl, h1, h2, h3⟩ := h.form
 have H := hid (fun (wx : World) (hb : Below w.heap.size w wx) => h.below hb (Nat.le_refl _))
 have Hs := hid hs
 clear h2 h hs
 go_enter Tryz.func162, Tryz.ntmps162
 go_wp2_with fail
 go_loopw [3, 4] (fun ov i wr => ∃ j : Nat, j ≤ xs.length ∧ i = .int .i64 j ∧ (∃ g c G, ov = .slice (some ⟨g, 0, none⟩) (br (xs.take j)).length c ∧ Own tPl 144 w.heap.size wr ov (br (xs.take j)) G ∧ ∀ b ∈ G, b < w.heap.size) ∧ Below w.heap.size w wr) (fun _ i _ => xs.length - (intOf i).toNat)
 case atStart => exact ⟨0, by omega, rfl, ⟨_, _, [], rfl, qP _ rfl (Nat.le_refl _), fun _ h => by cases h⟩, ab _ _⟩
 case round =>
  obtain ⟨j, hj, rfl, ⟨g, co, G, rfl, ho, hG⟩, hb⟩ := hrel
  have hsz := hb.size
  by_cases hlt : j < xs.length
  ·obtain ⟨x, hx⟩ := ak hlt
   have hol : (br (xs.take j)).length = j := by rw [gP]; simp; omega
   have Hsn := hid (ik hx)
   generalize br (xs.take j) = out at *
   have hco := ho.form
   obtain ⟨A0, c0, eo, hco1, hco2, _⟩ := hco
   injection eo with eo1 eo2 eo3; subst eo1 eo3; clear eo2
   have Ho := hid ho; have Hb := hid hb; have Hx := hid hx; have HG := hid hG
   have hol5 : out.length ≤ 4 := by omega
   have Hol := hid hol
   clear ho hb hx hG hol
   go_wp2_with fail
   obtain ⟨wo, rfl⟩ : ∃ wo : World, wo = wr := ⟨_, rfl⟩
   go_loopw [5] (fun k wy => ∃ q : Nat, q ≤ out.length ∧ k = .int .i64 q ∧ (∀ i y, i < q → out[i]? = some y → bS x y = false) ∧ Below wo.heap.size wo wy) (fun k _ => out.length - (intOf k).toNat)
   case atStart => exact ⟨0, by omega, rfl, fun i y hi => by omega, ah⟩
   case round =>
    obtain ⟨q, hq, rfl, hall, hby⟩ := hrel
    have Hall := hid hall
    have hsy := hby.size
    have Hby := hid hby
    clear hall hby
    obtain ⟨b1, o1, vh1, vb1, e1, hl1, hz1', s1, s2, k0, k1, k2, k3, k4, k5⟩ := (H.out _ (Hb.out.trans (Hby.out.mono hsz))).pl Hx.out
    subst e1
    obtain ⟨A1, c1, rfl, _, _, _⟩ := s1.form
    obtain ⟨A2, c2, rfl, _, _, _⟩ := s2.form
    obtain ⟨Fh, hsh, hfh⟩ := s1
    obtain ⟨Fb, hsb, hfb⟩ := s2
    have hEx := hid (fun (wx : World) (hT : Below wr.heap.size wr wx) => (se.2 ⟨_, rfl, oZ.2 ⟨_, _, Fh, Fb, rfl, rfl, hsh.below hT (fun b hm => hsh.lt b hm), hsb.below hT (fun b hm => hsb.lt b hm)⟩⟩ : tPl.E wx [.int .i64 x.kind, .int .i64 x.next, .int .i64 x.pk.el, .slice A1 x.pk.hd.length c1, .int .i64 x.pk.tag, .slice A2 x.pk.bd.length c2] x (Fh ++ Fb)))
    have hFx : ∀ b ∈ Fh ++ Fb, b < w.heap.size := fun b hm => by
     rcases List.mem_append.1 hm with hm | hm
     ·exact hfh b hm
     ·exact hfb b hm
    by_cases hlq : q < out.length
    ·obtain ⟨y, hy⟩ := ak hlq
     obtain ⟨b2, o2, vh2, vb2, e2, hl2, hz2', s3, s4, l0, l1, l2, l3, l4, l5⟩ := (SlB.pl (Ho.out.go Hby.out).slB) hy
     injection e2 with e2; injection e2 with e2 e2'; subst e2 e2'
     obtain ⟨A3, c3, rfl, _, _, _⟩ := s3.form
     obtain ⟨A4, c4, rfl, _, _, _⟩ := s4.form
     simp only [Nat.zero_add] at l0 l1 l2 l3 l4 l5
     have HS := hid (fun (wx : World) (hT : Tch [] wr wx) => And.intro (gW hT.nil hz1' k0 k1 k2 k3 k4 k5) (gW hT.nil hz2' l0 l1 l2 l3 l4 l5))
     have Hy := hid hy
     clear k0 k1 k2 k3 k4 k5 l0 l1 l2 l3 l4 l5 s3 s4 hy
     cases hle : bS x y with
     | false =>
      have Hle := hid hle
      clear hle
      go_wp2_with fail
      refine rgD [] 16 (by kernel_rfl) rfl (fun | none, _, _, _, _ => id | some _, _, _, _, _ => id) fun hH => ?_
      simp only [pw]
      refine ag [0, 1, 2, 3, 4, 5, 6, 7, 8, 9, 10, 11, 12] ?_
      iterate 13 (refine ra HS.out rfl (by kernel_rfl) rfl (fun _ f => by go_simp; try with_reducible rfl) ?_; try simp only [pw])
      refine rq 13 (by kernel_rfl) rfl fun K hK => ?_
      go_simp
      (go_at_call 213; refine (kD x y _ _ _ _ _ _ _ _ _ _ _ _ _).mono ?_; rw [Hle.out]; rintro e wl ⟨rfl, hbC⟩; have HbC := hid hbC)
      refine hK.out _ _ (hH.trans (Tch.of hbC)) (fun hH => ?_)
      clear hK K
      refine ag [14, 15] ?_
      iterate 2 (refine ra HS.out rfl (by kernel_rfl) rfl (fun _ f => by go_simp; try with_reducible rfl) ?_; try simp only [pw])
      refine dm (by kernel_rfl) ?_
      have hz := hH.nil
      have HZ := hid hz
      clear hz HbC
      go_wp2_with fail
      go_roundw
      case rel => exact ⟨q + 1, by omega, by go_num, fun i z hi hz => by
       rcases Nat.lt_or_ge i q with h | h
       ·exact Hall.out i z h hz
       ·obtain rfl : i = q := by omega
        rw [Hy.out] at hz; injection hz with hz; rw [← hz]; exact Hle.out, bt Hby.out HZ.out⟩
      case measure => simp [intOf]; omega
     | true =>
      have Hle := hid hle
      have Hlt := hid (fun z (hz : out[q]? = some z) => show bS x z = true by rw [Hy.out] at hz; injection hz with hz; rw [← hz]; exact hle)
      have HNew := hid (show br (xs.take (j + 1)) = out.take q ++ ([x] ++ out.drop q) by rw [Hsn.out, fH Hall.out hq (fun z hz => Hlt.out z hz)]; rfl)
      clear hle
      go_wp2_with fail
      refine rgD [] 16 (by kernel_rfl) rfl (fun | none, _, _, _, _ => id | some _, _, _, _, _ => id) fun hH => ?_
      simp only [pw]
      refine ag [0, 1, 2, 3, 4, 5, 6, 7, 8, 9, 10, 11, 12] ?_
      iterate 13 (refine ra HS.out rfl (by kernel_rfl) rfl (fun _ f => by go_simp; try with_reducible rfl) ?_; try simp only [pw])
      refine rq 13 (by kernel_rfl) rfl fun K hK => ?_
      go_simp
      (go_at_call 213; refine (kD x y _ _ _ _ _ _ _ _ _ _ _ _ _).mono ?_; rw [Hle.out]; rintro e wl ⟨rfl, hbC⟩; have HbC := hid hbC)
      refine hK.out _ _ (hH.trans (Tch.of hbC)) (fun hH => ?_)
      clear hK K
      refine ag [14, 15] ?_
      iterate 2 (refine ra HS.out rfl (by kernel_rfl) rfl (fun _ f => by go_simp; try with_reducible rfl) ?_; try simp only [pw])
      refine dm (by kernel_rfl) ?_
      have hz := hH.nil
      obtain ⟨wz, rfl⟩ : ∃ wz : World, wz = wl := ⟨_, rfl⟩
      have szz := hz.size
      have ow := (Ho.out.go Hby.out).go hz
      obtain ⟨FT, hsT, hfT⟩ := ow.slTake q (by omega)
      have hcq : ¬ co = q := by omega
      have hqc : q ≤ co := by omega
      obtain ⟨FD, hsD, hfD⟩ := ow.slDrop q (by omega) (some ⟨g, q * 6, none⟩) (fun _ => rfl) (co - q) (by omega) (by omega)
      have HS2 := hid (fun (wx : World) (hT : Tch [] wz wx) => And.intro (HS.out _ (Tch.of (bt hz hT.nil))).1 True.intro)
      have hX := hid (fun (wx : World) (hT : Below wz.heap.size wz wx) => hEx.out _ (bt hz hT))
      clear ow HbC
      go_wp2_with fail
      refine rgN [] 16 (by kernel_rfl) rfl (fun | none, _, _, _, _ => id | some _, _, _, _, _ => id) fun wd hH hbwd swd => ?_
      simp only [pw]
      refine ag [1, 2, 3, 5, 6, 7, 8, 11, 12, 13] ?_
      iterate 10 (refine ra HS2.out rfl (by kernel_rfl) rfl (fun _ f => by go_simp; try with_reducible rfl) ?_; try simp only [pw])
      repeat' (first
       | (have t0 := hK0; clear t0; go_simp; (generalize hgw : World.alloc _ _ = wa0; obtain ⟨ea0, hbC, sa0⟩ := al hgw; have hb0 := hbC; clear hgw); refine hK0.out _ _ (hH.trans (Tch.of hbC)) (fun hH => ?_); clear hK0 K0; try simp only [pw])
       | (have t9 := hK9; clear t9; go_simp; (generalize hgw : World.alloc _ _ = wa9; obtain ⟨ea9, hbC, sa9⟩ := al hgw; have hb9 := hbC; clear hgw); refine hK9.out _ _ (hH.trans (Tch.of hbC)) (fun hH => ?_); clear hK9 K9; try simp only [pw])
       | (have t4 := hK4; clear t4; (refine aT rfl (.tmp 31) (.tmp 34) 68 rfl tPl (B := w.heap.size) Tryz.underlying68 hi hz0 hz1 hz2 rfl (by decide) (v := .slice (some ⟨_, 0, none⟩) 0 0) (xs := []) rfl (bU (by first | exact ea0 | exact ac hb9 ea0) (by have := hH.size; omega)) (some ⟨g, 0, none⟩) q co rfl (hsT.below hH.nil (fun b hm => hsT.lt b hm)) (fun b hb hm => by have := HG.out b (hfT b hm); have := hH.size; simp [Value.ownBlock] at hb; omega) (by simp; omega) (by simp [maxLen]; omega) (by have := hH.size; omega) ?_; intro v4 w4 ho4 hg4 hv4; have hbP := hH.grow hg4 (fun k hk hlt => by simp [Value.ownBlock] at hk; omega); have hg9 := hg4; have sg4 := hg4.size); refine hK4.out _ _ (hbP) (fun hH => ?_); clear hK4 K4; try simp only [pw])
       | (have t10 := hK10; clear t10; (refine aT rfl (.tmp 35) (.tmp 40) 68 rfl tPl (B := w.heap.size) Tryz.underlying68 hi hz0 hz1 hz2 rfl (by decide) (v := v4) rfl (by first | exact ho4 | exact ho4.go hb9) (some ⟨_, 0, none⟩) 1 1 rfl (cz (cs := [.int .i64 x.kind, .int .i64 x.next, .int .i64 x.pk.el, .slice A1 x.pk.hd.length c1, .int .i64 x.pk.tag, .slice A2 x.pk.bd.length c2]) (by first | exact ea9 | exact au hg9 ea9 (by simp [Value.ownBlock]; omega) | exact au hg9 (ac hb0 ea9) (by simp [Value.ownBlock]; omega)) (hX.out _ hH.nil)) (fun b hb hm => by have h1 := (ho4.top b hb).1; have h2 := hFx b hm; omega) (by simp; omega) (by simp [maxLen]; omega) (by have := hH.size; omega) ?_; intro v10 w10 ho10 hg10 hv10; have hbP := hH.grow hg10 (fun k hk hlt => by rcases hv4 with e | e; (rw [e] at hk; simp [Value.ownBlock] at hk; omega); (rw [e] at hk; simp at hk; have := hH.size; omega))); refine hK10.out _ _ (hbP) (fun hH => ?_); clear hK10 K10; try simp only [pw])
       | (have t14 := hK14; clear t14; (refine aT rfl (.tmp 41) (.tmp 44) 68 rfl tPl (B := w.heap.size) Tryz.underlying68 hi hz0 hz1 hz2 rfl (by decide) (v := v10) rfl ho10 (some ⟨g, q * 6, none⟩) (out.length - q) (co - q) rfl (hsD.below hH.nil (fun b hm => hsD.lt b hm)) (fun b hb hm => by have h1 := (ho10.top b hb).1; have h2 := HG.out b (hfD b hm); omega) (by simp; omega) (by simp [maxLen]; omega) (by have := hH.size; omega) ?_; intro v14 w14 ho14 hg14 hv14; have hbP := hH.grow hg14 (fun k hk hlt => by rcases hv10 with e | e; (rw [e] at hk; rcases hv4 with e | e; (rw [e] at hk; simp [Value.ownBlock] at hk; omega); (rw [e] at hk; simp at hk; omega)); (rw [e] at hk; simp at hk; omega))); refine hK14.out _ _ (hbP) (fun hH => ?_); clear hK14 K14; try simp only [pw])
       | (refine rk (i := 0) [9] (by decide +kernel) (rc rfl (fun K0 hK0 => ?_) (rc rfl (fun K9 hK9 => ?_) rn)))
       | (refine rk (i := 4) [9] (by decide +kernel) (rc rfl (fun K4 hK4 => ?_) (rc rfl (fun K9 hK9 => ?_) rn)))
       | (refine rk (i := 0) [] (by decide +kernel) (rc rfl (fun K0 hK0 => ?_) rn))
       | (refine rk (i := 4) [] (by decide +kernel) (rc rfl (fun K4 hK4 => ?_) rn))
       | (refine rk (i := 9) [] (by decide +kernel) (rc rfl (fun K9 hK9 => ?_) rn))
       | (refine rk (i := 10) [] (by decide +kernel) (rc rfl (fun K10 hK10 => ?_) rn))
       | (refine rk (i := 14) [] (by decide +kernel) (rc rfl (fun K14 hK14 => ?_) rn))
       | fail)
      all_goals refine tr 15 HS2.out rfl (by decide +kernel) rfl (fun _ f => by go_simp; try with_reducible rfl) ?_; try simp only [pw]
      all_goals refine dm (by kernel_rfl) ?_
      all_goals
       have hF := hH.nil
       simp only [List.nil_append, List.append_assoc] at ho14
       obtain ⟨A14, c14, rfl, _, _, _⟩ := ho14.form
       have e14 := Own.addr ho14 (by simp; omega)
       obtain ⟨g14, rfl⟩ := e14
       have O14 := hid ho14; have HF := hid (bt hz hF)
       clear ho14 hF
       go_wp2_with fail
       go_roundw
       case rel => exact ⟨j + 1, by omega, by go_num, ⟨g14, c14, _, by rw [HNew.out], by rw [HNew.out]; exact O14.out, fun b hm => by
        rcases List.mem_append.1 hm with hm | hm
        ·exact HG.out b (hfT b hm)
        ·rcases List.mem_append.1 hm with hm | hm
         ·exact hFx b hm
         ·exact HG.out b (hfD b hm)⟩, Hb.out.trans ((bt Hby.out HF.out).mono hsz)⟩
       case measure => simp [intOf]; omega
    ·have hqe : q = out.length := by omega
     have HNew := hid (show br (xs.take (j + 1)) = out.take q ++ ([x] ++ out.drop q) by rw [Hsn.out, fH Hall.out hq (fun z hz => by rw [List.getElem?_eq_none (by omega)] at hz; cases hz)]; rfl)
     have HS := hid (fun (wx : World) (hT : Tch [] wr wx) => And.intro (gW hT.nil hz1' k0 k1 k2 k3 k4 k5) True.intro)
     clear k0 k1 k2 k3 k4 k5
     rcases Nat.lt_or_ge q co with hcap | hcap
     ·have hcq : ¬ co = q := by omega
      have Hqe := hid hqe
      have nlt : ¬ q < out.length := by omega
      clear hqe
      go_wp2_with fail
      refine rgN [] 16 (by kernel_rfl) rfl (fun | none, _, _, _, _ => id | some _, _, _, _, _ => id) fun wz hH hbwz swz => ?_
      simp only [pw]
      refine ag [0, 1, 2, 3, 4] ?_
      iterate 5 (refine ra HS.out rfl (by kernel_rfl) rfl (fun _ f => by go_simp; try with_reducible rfl) ?_; try simp only [pw])
      refine tu 5 rfl (by kernel_rfl) rfl ?_
      try simp only [pw]
      refine tu 6 rfl (by kernel_rfl) rfl ?_
      refine tu 7 rfl (by kernel_rfl) rfl ?_
      refine tu 8 rfl (by kernel_rfl) rfl ?_
      try simp only [pw]
      refine tu 9 rfl (by kernel_rfl) rfl ?_
      refine tu 10 rfl (by kernel_rfl) rfl ?_
      refine tu 11 rfl (by kernel_rfl) rfl ?_
      try simp only [pw]
      refine tu 12 rfl (by kernel_rfl) rfl ?_
      refine tu 13 rfl (by kernel_rfl) rfl ?_
      refine tu 14 rfl (by kernel_rfl) rfl ?_
      try simp only [pw]
      refine tr 15 HS.out rfl (by kernel_rfl) rfl (fun _ f => by go_simp; try with_reducible rfl) ?_
      try simp only [pw]
      refine dm (by kernel_rfl) ?_
      have hz := hH.nil
      have szz := hz.size
      have ow := (Ho.out.go Hby.out).go hz
      obtain ⟨FT, hsT, hfT⟩ := ow.slTake q (by have := Hqe.out; omega)
      have hqc : q ≤ co := by have := Hqe.out; omega
      obtain ⟨FD, hsD, hfD⟩ := ow.slDrop q (by have := Hqe.out; omega) (some ⟨g, q * 6, none⟩) (fun h => by have := Hqe.out; omega) (co - q) (by have := Hqe.out; omega) (by omega)
      have HS2 := hid (fun (wx : World) (hT : Tch [] wz wx) => And.intro (HS.out _ (Tch.of (bt hz hT.nil))).1 True.intro)
      have hX := hid (fun (wx : World) (hT : Below wz.heap.size wz wx) => hEx.out _ (bt hz hT))
      clear ow
      go_wp2_with fail
      refine rgN [] 16 (by kernel_rfl) rfl (fun | none, _, _, _, _ => id | some _, _, _, _, _ => id) fun wd hH hbwd swd => ?_
      simp only [pw]
      refine ag [1, 2, 3, 5, 6, 7, 8, 11, 12, 13] ?_
      iterate 10 (refine ra HS2.out rfl (by kernel_rfl) rfl (fun _ f => by go_simp; try with_reducible rfl) ?_; try simp only [pw])
      repeat' (first
       | (have t0 := hK0; clear t0; go_simp; (generalize hgw : World.alloc _ _ = wa0; obtain ⟨ea0, hbC, sa0⟩ := al hgw; have hb0 := hbC; clear hgw); refine hK0.out _ _ (hH.trans (Tch.of hbC)) (fun hH => ?_); clear hK0 K0; try simp only [pw])
       | (have t9 := hK9; clear t9; go_simp; (generalize hgw : World.alloc _ _ = wa9; obtain ⟨ea9, hbC, sa9⟩ := al hgw; have hb9 := hbC; clear hgw); refine hK9.out _ _ (hH.trans (Tch.of hbC)) (fun hH => ?_); clear hK9 K9; try simp only [pw])
       | (have t4 := hK4; clear t4; (refine aT rfl (.tmp 31) (.tmp 34) 68 rfl tPl (B := w.heap.size) Tryz.underlying68 hi hz0 hz1 hz2 rfl (by decide) (v := .slice (some ⟨_, 0, none⟩) 0 0) (xs := []) rfl (bU (by first | exact ea0 | exact ac hb9 ea0) (by have := hH.size; omega)) (some ⟨g, 0, none⟩) q co rfl (hsT.below hH.nil (fun b hm => hsT.lt b hm)) (fun b hb hm => by have := HG.out b (hfT b hm); have := hH.size; simp [Value.ownBlock] at hb; omega) (by simp; omega) (by simp [maxLen]; omega) (by have := hH.size; omega) ?_; intro v4 w4 ho4 hg4 hv4; have hbP := hH.grow hg4 (fun k hk hlt => by simp [Value.ownBlock] at hk; omega); have hg9 := hg4; have sg4 := hg4.size); refine hK4.out _ _ (hbP) (fun hH => ?_); clear hK4 K4; try simp only [pw])
       | (have t10 := hK10; clear t10; (refine aT rfl (.tmp 35) (.tmp 40) 68 rfl tPl (B := w.heap.size) Tryz.underlying68 hi hz0 hz1 hz2 rfl (by decide) (v := v4) rfl (by first | exact ho4 | exact ho4.go hb9) (some ⟨_, 0, none⟩) 1 1 rfl (cz (cs := [.int .i64 x.kind, .int .i64 x.next, .int .i64 x.pk.el, .slice A1 x.pk.hd.length c1, .int .i64 x.pk.tag, .slice A2 x.pk.bd.length c2]) (by first | exact ea9 | exact au hg9 ea9 (by simp [Value.ownBlock]; omega) | exact au hg9 (ac hb0 ea9) (by simp [Value.ownBlock]; omega)) (hX.out _ hH.nil)) (fun b hb hm => by have h1 := (ho4.top b hb).1; have h2 := hFx b hm; omega) (by simp; omega) (by simp [maxLen]; omega) (by have := hH.size; omega) ?_; intro v10 w10 ho10 hg10 hv10; have hbP := hH.grow hg10 (fun k hk hlt => by rcases hv4 with e | e; (rw [e] at hk; simp [Value.ownBlock] at hk; omega); (rw [e] at hk; simp at hk; have := hH.size; omega))); refine hK10.out _ _ (hbP) (fun hH => ?_); clear hK10 K10; try simp only [pw])
       | (have t14 := hK14; clear t14; (refine aT rfl (.tmp 41) (.tmp 44) 68 rfl tPl (B := w.heap.size) Tryz.underlying68 hi hz0 hz1 hz2 rfl (by decide) (v := v10) rfl ho10 (some ⟨g, q * 6, none⟩) (out.length - q) (co - q) rfl (hsD.below hH.nil (fun b hm => hsD.lt b hm)) (fun b hb hm => by have h1 := (ho10.top b hb).1; have h2 := HG.out b (hfD b hm); omega) (by simp; omega) (by simp [maxLen]; omega) (by have := hH.size; omega) ?_; intro v14 w14 ho14 hg14 hv14; have hbP := hH.grow hg14 (fun k hk hlt => by rcases hv10 with e | e; (rw [e] at hk; rcases hv4 with e | e; (rw [e] at hk; simp [Value.ownBlock] at hk; omega); (rw [e] at hk; simp at hk; omega)); (rw [e] at hk; simp at hk; omega))); refine hK14.out _ _ (hbP) (fun hH => ?_); clear hK14 K14; try simp only [pw])
       | (refine rk (i := 0) [9] (by decide +kernel) (rc rfl (fun K0 hK0 => ?_) (rc rfl (fun K9 hK9 => ?_) rn)))
       | (refine rk (i := 4) [9] (by decide +kernel) (rc rfl (fun K4 hK4 => ?_) (rc rfl (fun K9 hK9 => ?_) rn)))
       | (refine rk (i := 0) [] (by decide +kernel) (rc rfl (fun K0 hK0 => ?_) rn))
       | (refine rk (i := 4) [] (by decide +kernel) (rc rfl (fun K4 hK4 => ?_) rn))
       | (refine rk (i := 9) [] (by decide +kernel) (rc rfl (fun K9 hK9 => ?_) rn))
       | (refine rk (i := 10) [] (by decide +kernel) (rc rfl (fun K10 hK10 => ?_) rn))
       | (refine rk (i := 14) [] (by decide +kernel) (rc rfl (fun K14 hK14 => ?_) rn))
       | fail)
      all_goals refine tr 15 HS2.out rfl (by decide +kernel) rfl (fun _ f => by go_simp; try with_reducible rfl) ?_; try simp only [pw]
      all_goals refine dm (by kernel_rfl) ?_
      all_goals
       have hF := hH.nil
       simp only [List.nil_append, List.append_assoc] at ho14
       obtain ⟨A14, c14, rfl, _, _, _⟩ := ho14.form
       have e14 := Own.addr ho14 (by simp; omega)
       obtain ⟨g14, rfl⟩ := e14
       have O14 := hid ho14; have HF := hid (bt hz hF)
       clear ho14 hF
       go_wp2_with fail
       go_roundw
       case rel => exact ⟨j + 1, by omega, by go_num, ⟨g14, c14, _, by rw [HNew.out], by rw [HNew.out]; exact O14.out, fun b hm => by
        rcases List.mem_append.1 hm with hm | hm
        ·exact HG.out b (hfT b hm)
        ·rcases List.mem_append.1 hm with hm | hm
         ·exact hFx b hm
         ·exact HG.out b (hfD b hm)⟩, Hb.out.trans ((bt Hby.out HF.out).mono hsz)⟩
       case measure => simp [intOf]; omega
     ·obtain rfl : q = co := by omega
      have Hqe := hid hqe
      have nlt : ¬ q < out.length := by omega
      clear hqe
      go_wp2_with fail
      refine rgN [] 16 (by kernel_rfl) rfl (fun | none, _, _, _, _ => id | some _, _, _, _, _ => id) fun wz hH hbwz swz => ?_
      simp only [pw]
      refine ag [0, 1, 2, 3, 4] ?_
      iterate 5 (refine ra HS.out rfl (by kernel_rfl) rfl (fun _ f => by go_simp; try with_reducible rfl) ?_; try simp only [pw])
      refine tu 5 rfl (by kernel_rfl) rfl ?_
      try simp only [pw]
      refine tu 6 rfl (by kernel_rfl) rfl ?_
      refine tu 7 rfl (by kernel_rfl) rfl ?_
      refine tu 8 rfl (by kernel_rfl) rfl ?_
      try simp only [pw]
      refine tu 9 rfl (by kernel_rfl) rfl ?_
      refine tu 10 rfl (by kernel_rfl) rfl ?_
      refine tu 11 rfl (by kernel_rfl) rfl ?_
      try simp only [pw]
      refine tu 12 rfl (by kernel_rfl) rfl ?_
      refine tu 13 rfl (by kernel_rfl) rfl ?_
      refine tu 14 rfl (by kernel_rfl) rfl ?_
      try simp only [pw]
      refine tr 15 HS.out rfl (by kernel_rfl) rfl (fun _ f => by go_simp; try with_reducible rfl) ?_
      try simp only [pw]
      refine dm (by kernel_rfl) ?_
      have hz := hH.nil
      have szz := hz.size
      have ow := (Ho.out.go Hby.out).go hz
      obtain ⟨FT, hsT, hfT⟩ := ow.slTake q (by have := Hqe.out; omega)
      obtain ⟨FD, hsD, hfD⟩ := ow.slDrop q (by have := Hqe.out; omega) (some ⟨g, 0, none⟩) (fun h => by have := Hqe.out; omega) 0 (by have := Hqe.out; omega) (by omega)
      have hsD0 : Sl tPl wz (.slice (some ⟨g, 0, none⟩) 0 0) (out.drop q) FD := by have h0 := hsD; rwa [show out.length - q = 0 from by have := Hqe.out; omega] at h0
      have HS2 := hid (fun (wx : World) (hT : Tch [] wz wx) => And.intro (HS.out _ (Tch.of (bt hz hT.nil))).1 True.intro)
      have hX := hid (fun (wx : World) (hT : Below wz.heap.size wz wx) => hEx.out _ (bt hz hT))
      clear ow
      go_wp2_with fail
      refine rgN [] 16 (by kernel_rfl) rfl (fun | none, _, _, _, _ => id | some _, _, _, _, _ => id) fun wd hH hbwd swd => ?_
      simp only [pw]
      refine ag [1, 2, 3, 5, 6, 7, 8, 11, 12, 13] ?_
      iterate 10 (refine ra HS2.out rfl (by kernel_rfl) rfl (fun _ f => by go_simp; try with_reducible rfl) ?_; try simp only [pw])
      repeat' (first
       | (have t0 := hK0; clear t0; go_simp; (generalize hgw : World.alloc _ _ = wa0; obtain ⟨ea0, hbC, sa0⟩ := al hgw; have hb0 := hbC; clear hgw); refine hK0.out _ _ (hH.trans (Tch.of hbC)) (fun hH => ?_); clear hK0 K0; try simp only [pw])
       | (have t9 := hK9; clear t9; go_simp; (generalize hgw : World.alloc _ _ = wa9; obtain ⟨ea9, hbC, sa9⟩ := al hgw; have hb9 := hbC; clear hgw); refine hK9.out _ _ (hH.trans (Tch.of hbC)) (fun hH => ?_); clear hK9 K9; try simp only [pw])
       | (have t4 := hK4; clear t4; (refine aT rfl (.tmp 31) (.tmp 34) 68 rfl tPl (B := w.heap.size) Tryz.underlying68 hi hz0 hz1 hz2 rfl (by decide) (v := .slice (some ⟨_, 0, none⟩) 0 0) (xs := []) rfl (bU (by first | exact ea0 | exact ac hb9 ea0) (by have := hH.size; omega)) (some ⟨g, 0, none⟩) q q rfl (hsT.below hH.nil (fun b hm => hsT.lt b hm)) (fun b hb hm => by have := HG.out b (hfT b hm); have := hH.size; simp [Value.ownBlock] at hb; omega) (by simp; omega) (by simp [maxLen]; omega) (by have := hH.size; omega) ?_; intro v4 w4 ho4 hg4 hv4; have hbP := hH.grow hg4 (fun k hk hlt => by simp [Value.ownBlock] at hk; omega); have hg9 := hg4; have sg4 := hg4.size); refine hK4.out _ _ (hbP) (fun hH => ?_); clear hK4 K4; try simp only [pw])
       | (have t10 := hK10; clear t10; (refine aT rfl (.tmp 35) (.tmp 40) 68 rfl tPl (B := w.heap.size) Tryz.underlying68 hi hz0 hz1 hz2 rfl (by decide) (v := v4) rfl (by first | exact ho4 | exact ho4.go hb9) (some ⟨_, 0, none⟩) 1 1 rfl (cz (cs := [.int .i64 x.kind, .int .i64 x.next, .int .i64 x.pk.el, .slice A1 x.pk.hd.length c1, .int .i64 x.pk.tag, .slice A2 x.pk.bd.length c2]) (by first | exact ea9 | exact au hg9 ea9 (by simp [Value.ownBlock]; omega) | exact au hg9 (ac hb0 ea9) (by simp [Value.ownBlock]; omega)) (hX.out _ hH.nil)) (fun b hb hm => by have h1 := (ho4.top b hb).1; have h2 := hFx b hm; omega) (by simp; omega) (by simp [maxLen]; omega) (by have := hH.size; omega) ?_; intro v10 w10 ho10 hg10 hv10; have hbP := hH.grow hg10 (fun k hk hlt => by rcases hv4 with e | e; (rw [e] at hk; simp [Value.ownBlock] at hk; omega); (rw [e] at hk; simp at hk; have := hH.size; omega))); refine hK10.out _ _ (hbP) (fun hH => ?_); clear hK10 K10; try simp only [pw])
       | (have t14 := hK14; clear t14; (refine aT rfl (.tmp 41) (.tmp 44) 68 rfl tPl (B := w.heap.size) Tryz.underlying68 hi hz0 hz1 hz2 rfl (by decide) (v := v10) rfl ho10 (some ⟨g, 0, none⟩) 0 0 rfl (hsD0.below hH.nil (fun b hm => hsD0.lt b hm)) (fun b hb hm => by have h1 := (ho10.top b hb).1; have h2 := HG.out b (hfD b hm); omega) (by simp; omega) (by simp [maxLen]; omega) (by have := hH.size; omega) ?_; intro v14 w14 ho14 hg14 hv14; have hbP := hH.grow hg14 (fun k hk hlt => by rcases hv10 with e | e; (rw [e] at hk; rcases hv4 with e | e; (rw [e] at hk; simp [Value.ownBlock] at hk; omega); (rw [e] at hk; simp at hk; omega)); (rw [e] at hk; simp at hk; omega))); refine hK14.out _ _ (hbP) (fun hH => ?_); clear hK14 K14; try simp only [pw])
       | (refine rk (i := 0) [9] (by decide +kernel) (rc rfl (fun K0 hK0 => ?_) (rc rfl (fun K9 hK9 => ?_) rn)))
       | (refine rk (i := 4) [9] (by decide +kernel) (rc rfl (fun K4 hK4 => ?_) (rc rfl (fun K9 hK9 => ?_) rn)))
       | (refine rk (i := 0) [] (by decide +kernel) (rc rfl (fun K0 hK0 => ?_) rn))
       | (refine rk (i := 4) [] (by decide +kernel) (rc rfl (fun K4 hK4 => ?_) rn))
       | (refine rk (i := 9) [] (by decide +kernel) (rc rfl (fun K9 hK9 => ?_) rn))
       | (refine rk (i := 10) [] (by decide +kernel) (rc rfl (fun K10 hK10 => ?_) rn))
       | (refine rk (i := 14) [] (by decide +kernel) (rc rfl (fun K14 hK14 => ?_) rn))
       | fail)
      all_goals refine tr 15 HS2.out rfl (by decide +kernel) rfl (fun _ f => by go_simp; try with_reducible rfl) ?_; try simp only [pw]
      all_goals refine dm (by kernel_rfl) ?_
      all_goals
       have hF := hH.nil
       simp only [List.nil_append, List.append_assoc] at ho14
       obtain ⟨A14, c14, rfl, _, _, _⟩ := ho14.form
       have e14 := Own.addr ho14 (by simp; omega)
       obtain ⟨g14, rfl⟩ := e14
       have O14 := hid ho14; have HF := hid (bt hz hF)
       clear ho14 hF
       go_wp2_with fail
       go_roundw
       case rel => exact ⟨j + 1, by omega, by go_num, ⟨g14, c14, _, by rw [HNew.out], by rw [HNew.out]; exact O14.out, fun b hm => by
        rcases List.mem_append.1 hm with hm | hm
        ·exact HG.out b (hfT b hm)
        ·rcases List.mem_append.1 hm with hm | hm
         ·exact hFx b hm
         ·exact HG.out b (hfD b hm)⟩, Hb.out.trans ((bt Hby.out HF.out).mono hsz)⟩
       case measure => simp [intOf]; omega
  ·have hj2 : j = xs.length := by omega
   subst hj2
   rw [List.take_length] at ho
   simp only [List.take_length]
   have Ho := hid ho; have Hb := hid hb
   clear ho hb hG
   go_wp2_with fail
   refine (kE _ (br xs) _ Ho.out.slB (by rw [gP]; omega) (fun x hx => Hs.out x ((mN _ _).1 hx))).mono ?_
   rintro e w5 ⟨v5, rfl, n5, hb5⟩
   have N5 := hid n5; have Hb5 := hid (bt Hb.out hb5)
   clear n5 hb5
   go_wp2
   go_ret
   exact ⟨_, rfl, N5.out.base hsz, Hb5.out⟩
theorem sR {w w' : World} {a : Obj} (hb : Below (w.alloc a).heap.size (w.alloc a) w') : w'.heap[w.heap.size]? = some a := ac hb (heap_alloc_new w a)
theorem di {w w' : World} {a b : Obj} (hb : Below ((w.alloc a).alloc b).heap.size ((w.alloc a).alloc b) w') : w'.heap[w.heap.size]? = some a ∧ w'.heap[w.heap.size + 1]? = some b :=
 ⟨ac hb (ac (ab _ b) (heap_alloc_new w a)), ac hb (by have := heap_alloc_new (w.alloc a) b; rwa [World.size_alloc] at this)⟩
theorem World.heap_set_ne (w : World) (n b : Nat) (hb : b ≠ n) (u0 u1 u2 : Value) : (((w.setCell ⟨n, 0, none⟩ u0).setCell ⟨n, 1, none⟩ u1).setCell ⟨n, 2, none⟩ u2).heap[b]? = w.heap[b]? := by
 repeat rw [Below.heap_setCell _ _ _ _ hb]
def rW (w : World) (r : Mx × List Pl) (e : Ending) (w' : World) : Prop :=
 ∃ us up vl, e = .returned (.tuple #[.agg #[.int .i64 r.1.sec, us, up], vl]) ∧ aC oMx w.heap.size w' [.int .i64 r.1.sec, us, up] r.1 ∧ SlR (fun b => w.heap.size ≤ b) tPl w' vl r.2 ∧ Below w.heap.size w w'
theorem jj (m : Mx) (vs vp : Value) (all : Bool) (w : World) (h1 : SlB af w.heap.size w vs m.seen) (h2 : SlB tPl w.heap.size w vp m.pool) (hm : mxB m = true) :
  Calls Tryz.prog 116 #[.agg #[.int .i64 m.sec, vs, vp], .bool all] w (rW w (cF m all)) := by
 obtain ⟨m1, m2, m3, m4, m5⟩ := bh.1 hm
 have Hpool := hid (fun (x : Pl) (hx : x ∈ m.pool) => show x.pk.hd.length ≤ 1073741824 ∧ x.pk.bd.length ≤ 1073741824 by
  obtain ⟨_, _, hk⟩ := aV.1 (m5 x hx)
  obtain ⟨_, ⟨a, _⟩, ⟨b, _⟩, _⟩ := aD.1 hk
  omega)
 have H1 := hid (fun (wx : World) (hb : Below w.heap.size w wx) => h1.go hb)
 have H2 := hid (fun (wx : World) (hb : Below w.heap.size w wx) => h2.go hb)
 obtain ⟨As, cs, rfl, _, _, _⟩ := h1.form
 obtain ⟨Ap, cp, rfl, _, _, _⟩ := h2.form
 have Hm := hid hm
 clear h1 h2 hm m4 m5
 go_enter Tryz.func116, Tryz.ntmps116
 go_wp2_with fail
 refine (qW m _ _ _ (H1.out _ (by repeat (first | exact ah | apply ae | refine bA ?_ (by omega) | refine Below.setCell ?_ (by first | omega | simp <;> omega) _))) (H2.out _ (by repeat (first | exact ah | apply ae | refine bA ?_ (by omega) | refine Below.setCell ?_ (by first | omega | simp <;> omega) _)))).mono ?_
 rw [Hm.out]
 rintro e w1 ⟨rfl, hb1⟩
 obtain ⟨b0, b1⟩ := di hb1
 have hc1 : Below w.heap.size w w1 := bt (by repeat (first | exact ah | apply ae | refine bA ?_ (by omega) | refine Below.setCell ?_ (by first | omega | simp <;> omega) _)) hb1
 have s1 : w.heap.size + 1 < w1.heap.size := (aL b1)
 have s1a : w.heap.size < w1.heap.size := by omega
 obtain ⟨k0, k1, k2, _⟩ := aE b0
 have Hc1 := hid hc1; have E0 := hid b0; have E1 := hid b1
 clear hb1 hc1 b0 b1
 go_wp2_with fail
 refine (dq m _ _ _ (H1.out _ Hc1.out) (H2.out _ Hc1.out) (by omega) (by omega) Hpool.out).mono ?_
 rintro e w2 ⟨us, up, rfl, n2, hb2⟩
 obtain ⟨A1, c1, A2, c2, rfl, rfl⟩ := aQ n2
 have e0 := ac hb2 E0.out
 have e1 := ac hb2 E1.out
 have s2 : w.heap.size + 1 < w2.heap.size := (aL e1)
 have s2a : w.heap.size < w2.heap.size := by omega
 clear k0 k1 k2
 obtain ⟨k0, k1, k2, _⟩ := aE e0
 obtain ⟨q0, q1, q2, qf⟩ := aE e1
 have qf0 := qf 0; have qf1 := qf 1; have qf2 := qf 2
 have N2 := hid n2; have Hc2 := hid (bt Hc1.out hb2); have E0 := hid e0; have E1 := hid e1
 clear n2 hb2 e0 e1 qf
 by_cases hf : m.pool.length < 2 ∧ all = false
 ·obtain ⟨hp2, rfl⟩ := hf
  have i1 : decide ((m.pool.length : Int) < 2) = true := decide_eq_true (by omega)
  have hr : cF m false = (m, []) := by unfold cF; rw [if_pos ⟨hp2, rfl⟩]
  have Hr := hid hr
  clear hr
  go_wp2_with fail
  have er := ac (ab _ (.cells #[] 144)) (ac (ab _ (.cells #[.int .i64 m.sec, .slice A1 m.seen.length c1, .slice A2 m.pool.length c2] 70)) (aB 2 (.slice A2 m.pool.length c2) (aB 1 (.slice A1 m.seen.length c1) (aB 0 (.int .i64 m.sec) E1.out))))
  have NF := (((((N2.out.base (B' := w.heap.size + 1 + 1) (by omega)).set (p := ⟨w.heap.size + 1, 0, none⟩) (u := .int .i64 m.sec) (by simp)).set (p := ⟨w.heap.size + 1, 1, none⟩) (u := .slice A1 m.seen.length c1) (by simp)).set (p := ⟨w.heap.size + 1, 2, none⟩) (u := .slice A2 m.pool.length c2) (by simp)).go (ab _ (.cells #[.int .i64 m.sec, .slice A1 m.seen.length c1, .slice A2 m.pool.length c2] 70)) (Nat.le_refl _)).go (ab _ (.cells #[] 144)) (Nat.le_refl _)
  have HF := ((((Hc2.out.setCell (p := ⟨w.heap.size + 1, 0, none⟩) (by simp) (.int .i64 m.sec)).setCell (p := ⟨w.heap.size + 1, 1, none⟩) (by simp) (.slice A1 m.seen.length c1)).setCell (p := ⟨w.heap.size + 1, 2, none⟩) (by simp) (.slice A2 m.pool.length c2)).alloc (by simp [ao]; omega) (.cells #[.int .i64 m.sec, .slice A1 m.seen.length c1, .slice A2 m.pool.length c2] 70)).alloc (by simp [ao]; omega) (.cells #[] 144)
  generalize World.alloc (World.alloc _ _) _ = WF at *
  obtain ⟨r0, r1, r2, _⟩ := aE er
  refine bodyPost_ret (v := .tuple #[.agg #[.int .i64 m.sec, .slice A1 m.seen.length c1, .slice A2 m.pool.length c2], .slice (some ⟨w2.heap.size + 1, 0, none⟩) 0 0]) (by simp [results, Tryz.results116, go_sem, r0, r1, r2]) rfl (by rw [Hr.out]; exact ⟨_, _, _, rfl, NF.base (B' := w.heap.size) (by omega), SlR.nil 0 _ (by simp [maxLen]), HF⟩)
 ·have hr : cF m all = (⟨m.sec, m.seen, []⟩, br m.pool) := by unfold cF; rw [if_neg hf]
  have Hr := hid hr
  clear hr
  by_cases hp2 : m.pool.length < 2
  ·obtain rfl : all = true := by cases all <;> simp_all
   have i1 : decide ((m.pool.length : Int) < 2) = true := decide_eq_true (by omega)
   go_wp2_with fail
   clear i1
   have hW : Below w.heap.size w ((w2.alloc (.cells #[.int .i64 m.sec, .slice A1 m.seen.length c1, .slice (some ⟨w2.heap.size + 1, 0, none⟩) 0 0] 70)).alloc (.cells #[] 144)) := (Hc2.out.alloc (by omega) _).alloc (by simp; omega) _
   have em := ac (ab _ (.cells #[] 144)) (heap_alloc_new w2 (.cells #[.int .i64 m.sec, .slice A1 m.seen.length c1, .slice (some ⟨w2.heap.size + 1, 0, none⟩) 0 0] 70))
   have en := ac (ab _ (.cells #[] 144)) (ac (ab w2 (.cells #[.int .i64 m.sec, .slice A1 m.seen.length c1, .slice (some ⟨w2.heap.size + 1, 0, none⟩) 0 0] 70)) E0.out)
   have en1 := ac (ab _ (.cells #[] 144)) (ac (ab w2 (.cells #[.int .i64 m.sec, .slice A1 m.seen.length c1, .slice (some ⟨w2.heap.size + 1, 0, none⟩) 0 0] 70)) E1.out)
   have ep : ((w2.alloc (.cells #[.int .i64 m.sec, .slice A1 m.seen.length c1, .slice (some ⟨w2.heap.size + 1, 0, none⟩) 0 0] 70)).alloc (.cells #[] 144)).heap[w2.heap.size + 1]? = some (.cells #[] 144 (0, 0)) := by have := heap_alloc_new (w2.alloc (.cells #[.int .i64 m.sec, .slice A1 m.seen.length c1, .slice (some ⟨w2.heap.size + 1, 0, none⟩) 0 0] 70)) (.cells #[] 144); rwa [World.size_alloc] at this
   have N3 := hid ((N2.out.go (ab _ (.cells #[.int .i64 m.sec, .slice A1 m.seen.length c1, .slice (some ⟨w2.heap.size + 1, 0, none⟩) 0 0] 70)) (Nat.le_refl _)).go (ab _ (.cells #[] 144)) (Nat.le_refl _))
   have sW : ((w2.alloc (.cells #[.int .i64 m.sec, .slice A1 m.seen.length c1, .slice (some ⟨w2.heap.size + 1, 0, none⟩) 0 0] 70)).alloc (.cells #[] 144)).heap.size = w2.heap.size + 2 := by simp
   generalize ((w2.alloc (.cells #[.int .i64 m.sec, .slice A1 m.seen.length c1, .slice (some ⟨w2.heap.size + 1, 0, none⟩) 0 0] 70)).alloc (.cells #[] 144)) = W at *
   have HS := hid (fun (wx : World) (hT : Tch [w.heap.size + 1] W wx) => And.intro (aE (hT.row em (by simp; omega))) (And.intro (aE (hT.row en (by simp))) (show w.heap.size + 1 < wx.heap.size by have := hT.size; omega)))
   have HW := hid hW; have E1b := hid en1; have Ep := hid ep
   clear em en en1 ep hW
   refine rgN [w.heap.size + 1] 6 (by kernel_rfl) rfl (fun | none, _, _, _, _ => id | some _, _, _, _, _ => id) fun wd hH hbwd swd => ?_
   simp only [pw]
   refine ag [0, 1, 2] ?_
   iterate 3 (refine ra HS.out rfl (by kernel_rfl) rfl (fun _ f => by go_simp; try with_reducible rfl) ?_; try simp only [pw])
   refine rq 3 (by kernel_rfl) rfl fun K hK => ?_
   go_simp
   (go_at_call 162; refine (kF _ m.pool _ (H2.out _ (HW.out.trans (hH.bel (by omega) (by simp)))) (by omega) Hpool.out).mono ?_; rintro e w5 ⟨v5, rfl, n5, hbC⟩; obtain ⟨A5, c5, rfl, _, _, _⟩ := n5.slB.form; have hb5 := hbC; obtain ⟨r0, r1, r2, rf⟩ := aE (ac hbC (ac hbwd E1b.out)); have rf0 := rf 0; have rf1 := rf 1; have rf2 := rf 2)
   refine hK.out _ _ (hH.trans (Tch.of hbC)) (fun hH => ?_)
   clear hK K
   refine rq 4 (by kernel_rfl) rfl fun K hK => ?_
   have fC := HS.out _ hH
   go_simp
   clear fC
   (have hbT := ((hH.put (p := ⟨w.heap.size + 1, 0, none⟩) (.inl (by simp)) (.int .i64 m.sec)).put (p := ⟨w.heap.size + 1, 1, none⟩) (.inl (by simp)) (.slice A1 m.seen.length c1)).put (p := ⟨w.heap.size + 1, 2, none⟩) (.inl (by simp)) (.slice (some ⟨w2.heap.size + 1, 0, none⟩) 0 0))
   refine hK.out _ _ (hbT) (fun hH => ?_)
   clear hK K
   refine tr 5 HS.out rfl (by kernel_rfl) rfl (fun _ f => by go_simp; try with_reducible rfl) ?_
   try simp only [pw]
   refine dm (by kernel_rfl) ?_
   have NF := ((((N3.out.go hbwd (Nat.le_refl _)).go hb5 (Nat.le_refl _)).set (p := ⟨w.heap.size + 1, 0, none⟩) (u := .int .i64 m.sec) s1).set (p := ⟨w.heap.size + 1, 1, none⟩) (u := .slice A1 m.seen.length c1) s1).set (p := ⟨w.heap.size + 1, 2, none⟩) (u := .slice (some ⟨w2.heap.size + 1, 0, none⟩) 0 0) s1
   have EF := ((World.heap_set_ne (w5) (w.heap.size + 1) (w2.heap.size + 1) (by omega) (.int .i64 m.sec) (.slice A1 m.seen.length c1) (.slice (some ⟨w2.heap.size + 1, 0, none⟩) 0 0))).trans (ac hb5 (ac hbwd Ep.out))
   have LF := (((((SlR.of_new (R := fun b => w.heap.size + 1 + 1 ≤ b) n5 (fun b hb => by omega)).le ly).set (p := ⟨w.heap.size + 1, 0, none⟩) (u := .int .i64 m.sec) (by dsimp only; omega)).set (p := ⟨w.heap.size + 1, 1, none⟩) (u := .slice A1 m.seen.length c1) (by dsimp only; omega)).set (p := ⟨w.heap.size + 1, 2, none⟩) (u := .slice (some ⟨w2.heap.size + 1, 0, none⟩) 0 0) (by dsimp only; omega)).mono (R' := fun b => w.heap.size ≤ b) (fun b _ hb => by omega)
   have HF := ((((HW.out.trans (hbwd.mono (by omega))).trans (hb5.mono (by omega))).setCell (p := ⟨w.heap.size + 1, 0, none⟩) (by simp) (.int .i64 m.sec)).setCell (p := ⟨w.heap.size + 1, 1, none⟩) (by simp) (.slice A1 m.seen.length c1)).setCell (p := ⟨w.heap.size + 1, 2, none⟩) (by simp) (.slice (some ⟨w2.heap.size + 1, 0, none⟩) 0 0)
   have hlu := (dK N2.out).choose_spec.1.top
   have NF := hid NF; have EF := hid EF; have LF := hid LF; have HF := hid HF; have Hlu := hid hlu
   have nj : aC oMx w.heap.size (((w5.setCell ⟨w.heap.size + 1, 0, none⟩ (.int .i64 m.sec)).setCell ⟨w.heap.size + 1, 1, none⟩ (.slice A1 m.seen.length c1)).setCell ⟨w.heap.size + 1, 2, none⟩ (.slice (some ⟨w2.heap.size + 1, 0, none⟩) 0 0)) [.int .i64 m.sec, .slice A1 m.seen.length c1, .slice (some ⟨w2.heap.size + 1, 0, none⟩) 0 0] ⟨m.sec, m.seen, []⟩ := by
    obtain ⟨G, hu, hp, n1, n2⟩ := dK NF.out
    refine jr (m := ⟨m.sec, m.seen, []⟩) (hu.base (by omega)) (bU EF.out (by omega)) ?_ (fun b hb => ?_)
    ·have n1' := (List.nodup_append.1 n1).1
     rw [List.nodup_append]
     refine ⟨n1', by simp [Value.ownBlock], fun a ha b hb e => ?_⟩
     have := (Hlu.out a (aA.1 ha)).2
     simp [Value.ownBlock] at hb
     omega
    ·rcases List.mem_append.1 hb with hb | hb
     ·have := n2 b (List.mem_append_left _ hb); omega
     ·simp [Value.ownBlock] at hb; omega
   have NJ := hid nj
   clear nj
   clear n5 hbC hlu
   go_wp2
   refine bodyPost_ret (v := .tuple #[.agg #[.int .i64 m.sec, .slice A1 m.seen.length c1, .slice (some ⟨w2.heap.size + 1, 0, none⟩) 0 0], .slice A5 (br m.pool).length c5]) (by simp [results, Tryz.results116, go_sem, r0, r1, r2]) rfl (by rw [Hr.out]; exact ⟨_, _, _, rfl, NJ.out, LF.out, HF.out⟩)
  ·have i1 : decide ((m.pool.length : Int) < 2) = false := decide_eq_false (by omega)
   go_wp2_with fail
   clear i1
   have hW : Below w.heap.size w ((w2.alloc (.cells #[.int .i64 m.sec, .slice A1 m.seen.length c1, .slice (some ⟨w2.heap.size + 1, 0, none⟩) 0 0] 70)).alloc (.cells #[] 144)) := (Hc2.out.alloc (by omega) _).alloc (by simp; omega) _
   have em := ac (ab _ (.cells #[] 144)) (heap_alloc_new w2 (.cells #[.int .i64 m.sec, .slice A1 m.seen.length c1, .slice (some ⟨w2.heap.size + 1, 0, none⟩) 0 0] 70))
   have en := ac (ab _ (.cells #[] 144)) (ac (ab w2 (.cells #[.int .i64 m.sec, .slice A1 m.seen.length c1, .slice (some ⟨w2.heap.size + 1, 0, none⟩) 0 0] 70)) E0.out)
   have en1 := ac (ab _ (.cells #[] 144)) (ac (ab w2 (.cells #[.int .i64 m.sec, .slice A1 m.seen.length c1, .slice (some ⟨w2.heap.size + 1, 0, none⟩) 0 0] 70)) E1.out)
   have ep : ((w2.alloc (.cells #[.int .i64 m.sec, .slice A1 m.seen.length c1, .slice (some ⟨w2.heap.size + 1, 0, none⟩) 0 0] 70)).alloc (.cells #[] 144)).heap[w2.heap.size + 1]? = some (.cells #[] 144 (0, 0)) := by have := heap_alloc_new (w2.alloc (.cells #[.int .i64 m.sec, .slice A1 m.seen.length c1, .slice (some ⟨w2.heap.size + 1, 0, none⟩) 0 0] 70)) (.cells #[] 144); rwa [World.size_alloc] at this
   have N3 := hid ((N2.out.go (ab _ (.cells #[.int .i64 m.sec, .slice A1 m.seen.length c1, .slice (some ⟨w2.heap.size + 1, 0, none⟩) 0 0] 70)) (Nat.le_refl _)).go (ab _ (.cells #[] 144)) (Nat.le_refl _))
   have sW : ((w2.alloc (.cells #[.int .i64 m.sec, .slice A1 m.seen.length c1, .slice (some ⟨w2.heap.size + 1, 0, none⟩) 0 0] 70)).alloc (.cells #[] 144)).heap.size = w2.heap.size + 2 := by simp
   generalize ((w2.alloc (.cells #[.int .i64 m.sec, .slice A1 m.seen.length c1, .slice (some ⟨w2.heap.size + 1, 0, none⟩) 0 0] 70)).alloc (.cells #[] 144)) = W at *
   have HS := hid (fun (wx : World) (hT : Tch [w.heap.size + 1] W wx) => And.intro (aE (hT.row em (by simp; omega))) (And.intro (aE (hT.row en (by simp))) (show w.heap.size + 1 < wx.heap.size by have := hT.size; omega)))
   have HW := hid hW; have E1b := hid en1; have Ep := hid ep
   clear em en en1 ep hW
   refine rgN [w.heap.size + 1] 6 (by kernel_rfl) rfl (fun | none, _, _, _, _ => id | some _, _, _, _, _ => id) fun wd hH hbwd swd => ?_
   simp only [pw]
   refine ag [0, 1, 2] ?_
   iterate 3 (refine ra HS.out rfl (by kernel_rfl) rfl (fun _ f => by go_simp; try with_reducible rfl) ?_; try simp only [pw])
   refine rq 3 (by kernel_rfl) rfl fun K hK => ?_
   go_simp
   (go_at_call 162; refine (kF _ m.pool _ (H2.out _ (HW.out.trans (hH.bel (by omega) (by simp)))) (by omega) Hpool.out).mono ?_; rintro e w5 ⟨v5, rfl, n5, hbC⟩; obtain ⟨A5, c5, rfl, _, _, _⟩ := n5.slB.form; have hb5 := hbC; obtain ⟨r0, r1, r2, rf⟩ := aE (ac hbC (ac hbwd E1b.out)); have rf0 := rf 0; have rf1 := rf 1; have rf2 := rf 2)
   refine hK.out _ _ (hH.trans (Tch.of hbC)) (fun hH => ?_)
   clear hK K
   refine rq 4 (by kernel_rfl) rfl fun K hK => ?_
   have fC := HS.out _ hH
   go_simp
   clear fC
   (have hbT := ((hH.put (p := ⟨w.heap.size + 1, 0, none⟩) (.inl (by simp)) (.int .i64 m.sec)).put (p := ⟨w.heap.size + 1, 1, none⟩) (.inl (by simp)) (.slice A1 m.seen.length c1)).put (p := ⟨w.heap.size + 1, 2, none⟩) (.inl (by simp)) (.slice (some ⟨w2.heap.size + 1, 0, none⟩) 0 0))
   refine hK.out _ _ (hbT) (fun hH => ?_)
   clear hK K
   refine tr 5 HS.out rfl (by kernel_rfl) rfl (fun _ f => by go_simp; try with_reducible rfl) ?_
   try simp only [pw]
   refine dm (by kernel_rfl) ?_
   have NF := ((((N3.out.go hbwd (Nat.le_refl _)).go hb5 (Nat.le_refl _)).set (p := ⟨w.heap.size + 1, 0, none⟩) (u := .int .i64 m.sec) s1).set (p := ⟨w.heap.size + 1, 1, none⟩) (u := .slice A1 m.seen.length c1) s1).set (p := ⟨w.heap.size + 1, 2, none⟩) (u := .slice (some ⟨w2.heap.size + 1, 0, none⟩) 0 0) s1
   have EF := ((World.heap_set_ne (w5) (w.heap.size + 1) (w2.heap.size + 1) (by omega) (.int .i64 m.sec) (.slice A1 m.seen.length c1) (.slice (some ⟨w2.heap.size + 1, 0, none⟩) 0 0))).trans (ac hb5 (ac hbwd Ep.out))
   have LF := (((((SlR.of_new (R := fun b => w.heap.size + 1 + 1 ≤ b) n5 (fun b hb => by omega)).le ly).set (p := ⟨w.heap.size + 1, 0, none⟩) (u := .int .i64 m.sec) (by dsimp only; omega)).set (p := ⟨w.heap.size + 1, 1, none⟩) (u := .slice A1 m.seen.length c1) (by dsimp only; omega)).set (p := ⟨w.heap.size + 1, 2, none⟩) (u := .slice (some ⟨w2.heap.size + 1, 0, none⟩) 0 0) (by dsimp only; omega)).mono (R' := fun b => w.heap.size ≤ b) (fun b _ hb => by omega)
   have HF := ((((HW.out.trans (hbwd.mono (by omega))).trans (hb5.mono (by omega))).setCell (p := ⟨w.heap.size + 1, 0, none⟩) (by simp) (.int .i64 m.sec)).setCell (p := ⟨w.heap.size + 1, 1, none⟩) (by simp) (.slice A1 m.seen.length c1)).setCell (p := ⟨w.heap.size + 1, 2, none⟩) (by simp) (.slice (some ⟨w2.heap.size + 1, 0, none⟩) 0 0)
   have hlu := (dK N2.out).choose_spec.1.top
   have NF := hid NF; have EF := hid EF; have LF := hid LF; have HF := hid HF; have Hlu := hid hlu
   have nj : aC oMx w.heap.size (((w5.setCell ⟨w.heap.size + 1, 0, none⟩ (.int .i64 m.sec)).setCell ⟨w.heap.size + 1, 1, none⟩ (.slice A1 m.seen.length c1)).setCell ⟨w.heap.size + 1, 2, none⟩ (.slice (some ⟨w2.heap.size + 1, 0, none⟩) 0 0)) [.int .i64 m.sec, .slice A1 m.seen.length c1, .slice (some ⟨w2.heap.size + 1, 0, none⟩) 0 0] ⟨m.sec, m.seen, []⟩ := by
    obtain ⟨G, hu, hp, n1, n2⟩ := dK NF.out
    refine jr (m := ⟨m.sec, m.seen, []⟩) (hu.base (by omega)) (bU EF.out (by omega)) ?_ (fun b hb => ?_)
    ·have n1' := (List.nodup_append.1 n1).1
     rw [List.nodup_append]
     refine ⟨n1', by simp [Value.ownBlock], fun a ha b hb e => ?_⟩
     have := (Hlu.out a (aA.1 ha)).2
     simp [Value.ownBlock] at hb
     omega
    ·rcases List.mem_append.1 hb with hb | hb
     ·have := n2 b (List.mem_append_left _ hb); omega
     ·simp [Value.ownBlock] at hb; omega
   have NJ := hid nj
   clear nj
   clear n5 hbC hlu
   go_wp2
   refine bodyPost_ret (v := .tuple #[.agg #[.int .i64 m.sec, .slice A1 m.seen.length c1, .slice (some ⟨w2.heap.size + 1, 0, none⟩) 0 0], .slice A5 (br m.pool).length c5]) (by simp [results, Tryz.results116, go_sem, r0, r1, r2]) rfl (by rw [Hr.out]; exact ⟨_, _, _, rfl, NJ.out, LF.out, HF.out⟩)
end Go.Proofs.YtfaeojmndaplcaaGreatDoor
