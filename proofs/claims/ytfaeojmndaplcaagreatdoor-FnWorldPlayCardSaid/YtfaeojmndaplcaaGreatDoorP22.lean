/- Texts that the last file leans on (part 22). -/
import Derived.Test.YtfaeojmndaplcaaGreatDoorP21
import Derived.Test.YtfaeojmndaplcaaGreatDoorP3
import Derived.Test.YtfaeojmndaplcaaGreatDoorP6
import Derived.Test.YtfaeojmndaplcaaGreatDoorP9
set_option linter.unusedVariables false
set_option linter.unusedSimpArgs false
set_option maxHeartbeats 4000000
set_option maxRecDepth 100000
namespace Go.Proofs.YtfaeojmndaplcaaGreatDoor
open Go Go.RowKit
def sx (w : World) (p : Pk) (e : Ending) (w' : World) : Prop :=
 ∃ vh vb, e = .returned (.tuple #[.agg #[.int .i64 p.el, vh, .int .i64 p.tag, vb], .bool true]) ∧ (∃ F, Sl af w' vh p.hd F ∧ ∀ b ∈ F, w.heap.size ≤ b) ∧ (∃ F, Sl af w' vb p.bd F ∧ ∀ b ∈ F, w.heap.size ≤ b) ∧ Below w.heap.size w w'
theorem Own.far {e B n : Nat} {w : World} {v : Value} {xs : List Int} (h : Own af e B w v xs []) (hn : n ≤ B) : ∃ F, Sl af w v xs F ∧ ∀ b ∈ F, n ≤ b := by
 obtain ⟨F, hs, hF⟩ := h.sl
 exact ⟨F, hs, fun b hb => by rcases hF b hb with h1 | h1; exact Nat.le_trans hn (h.top b h1).1; cases h1⟩
theorem mO (s rcv : Int) (vp vn vl : Value) (ps ns l : List Int) (w : World) (hp : SlB af w.heap.size w vp ps) (hn : SlB af w.heap.size w vn ns) (hl : SlB af w.heap.size w vl l)
  (h1 : 1 ≤ ps.length) (h3 : ps.length ≤ 3) (hnl : ns.length = ps.length) (hs : win s 1 996 = true) (hpw : ∀ p ∈ ps, win p 1 996 = true) (hnw : ∀ n ∈ ns, win n 0 7 = true) (hr : win rcv 0 7 = true) (hll : l.length ≤ 4) (hln : aH l = true) :
  Calls Tryz.prog 112 #[.int .i64 s, vp, vn, .int .i64 rcv, vl] w (sx w (dH s ps ns rcv l)) := by
 have HP := hid (fun (wx : World) (hb : Below w.heap.size w wx) => hp.go hb)
 have HN := hid (fun (wx : World) (hb : Below w.heap.size w wx) => hn.go hb)
 obtain ⟨Ap, cp, rfl, _, _, _⟩ := hp.form
 obtain ⟨An, cn, rfl, _, _, _⟩ := hn.form
 have Hpw := hid hpw; have Hnw := hid hnw; have Hln := hid hln; have Hnl := hid hnl
 have hneq : ((ns.length : Int) != (ps.length : Int)) = false := by simp [hnl]
 have hL := hl.go (ab w (.cells #[.int .i64 0, .slice none 0 0, .int .i64 0, .slice none 0 0] 72))
 clear hp hn hpw hnw hln hl hnl
 go_enter Tryz.func112, Tryz.ntmps112
 go_wp2_with fail
 refine (jE vl l _ hL hll Hln.out).mono ?_
 rintro e w1 ⟨v1, rfl, n1, hb1⟩
 have hc1 := hid (bt (ab w _) hb1)
 obtain ⟨y1, z1⟩ := fN hb1
 have s1 : w.heap.size < w1.heap.size := by have := hb1.size; simp at this; omega
 obtain ⟨G1, o1, _, _⟩ := n1
 obtain rfl := am ai o1
 have O1 := hid o1
 clear hb1 o1 hL
 go_wp2_with (first
  | (go_at_call 106; refine (cd _ _).mono ?_; rw [hs]; rintro e w' ⟨rfl, rfl⟩)
  | (go_at_call 157; refine (ir _ ps _ (HP.out _ hc1.out) Hpw.out h1 h3).mono ?_; rintro e w' ⟨rfl, rfl⟩)
  | (go_at_call 158; refine (kG _ ns _ (HN.out _ hc1.out) Hnw.out).mono ?_; rintro e w' ⟨rfl, rfl⟩)
  | (go_at_call 68; refine (aS _ _ _ _).mono ?_; rw [hr]; rintro e w' ⟨rfl, rfl⟩)
  | (go_at_call 159; refine (mn s _ ps _ (HP.out _ hc1.out) h3 hs Hpw.out).mono ?_; rintro e w2 ⟨vk, rfl, nk, hb2⟩))
 have Hk := hid (nk.slB (T := af))
 have hkl := dI s ps
 have hke := iW (x := s) (ps := ps) hs Hpw.out
 have hmk : dH s ps ns rcv l = ⟨aq s 5, (hdT (bw (bO s ps)) rcv (bO s ps) ns).1, (hdT (bw (bO s ps)) rcv (bO s ps) ns).2, (bO s ps).foldl onL (bI l)⟩ := rfl
 generalize hK : bO s ps = keys at *
 obtain ⟨Ak, ck, rfl, _, _, _⟩ := Hk.out.form
 have hc2 := hid (bt hc1.out hb2)
 have s2 : w.heap.size < w2.heap.size := Nat.lt_of_lt_of_le s1 hb2.size
 have hz2 := hb2.size
 obtain ⟨y2, z2⟩ := fN hb2
 have O2 := hid ((O1.out.go hb2).base (B' := w.heap.size + 1) (by simp))
 have hfl : ∀ k, ((keys.take k).foldl onL (bI l)).length = 6 := fun k => by rw [dp]; exact eH hll
 have hfn : ∀ k, aH ((keys.take k).foldl onL (bI l)) = true := fun k => dY _ _ (eX hll Hln.out)
 have Hfl := hid hfl; have Hfn := hid hfn; have Hke := hid hke; have Hmk := hid hmk; have Hkl := hid hkl
 have Y2 := hid (fun (wx : World) (hb : Below w2.heap.size w2 wx) => And.intro hb (fN hb))
 clear hb2 nk hfl hfn hke hmk hkl O1
 go_loopw [12, 15] (fun bv iv wr => ∃ k : Nat, k ≤ keys.length ∧ iv = .int .i64 k ∧ Own af 3 (w.heap.size + 1) wr bv ((keys.take k).foldl onL (bI l)) [] ∧ Below w2.heap.size w2 wr) (fun _ iv _ => keys.length - (intOf iv).toNat)
 case atStart => exact ⟨0, by omega, rfl, O2.out, ah⟩
 case round =>
  obtain ⟨k, hk, rfl, ho, hb⟩ := hrel
  have hszr := hb.size
  have hszw := Nat.le_trans hz2 hszr
  obtain ⟨yr, zr⟩ := fN hb
  have Ho := hid ho; have Hb := hid hb
  by_cases hlt : k < keys.length
  ·obtain ⟨x, hx⟩ := ak hlt
   obtain ⟨bk, ok, rfl, hbk, _, hck⟩ := Hk.out.int hx
   have hcr := (hb.cell (p := ⟨bk, ok + k, none⟩) hbk).trans hck
   have hxw := Hke.out x (List.mem_of_getElem? hx)
   have Hs := hid (ff (b := bI l) hx)
   clear ho hb hcr hx
   go_wp2_with (go_at_call 160; refine (lq _ _ x _ (Ho.out.slB) (Hfn.out k) (by rw [Hfl.out k]; omega) hxw).mono ?_; rintro e w3 ⟨v3, rfl, n3, hb3⟩)
   obtain ⟨G3, o3, _, _⟩ := n3
   obtain rfl := am ai o3
   have HB := hid (bt Hb.out hb3)
   clear hb3
   go_roundw
   case rel => exact ⟨k + 1, by omega, by go_num, by rw [Hs.out]; exact o3.base (by omega), HB.out⟩
   case measure => simp [intOf]; omega
  ·have Ha := hid (aR hk hlt)
   obtain ⟨Ab, cb, rfl, _, _⟩ := ho.formN (Hfl.out k)
   have HH := hid (fun (wx : World) (hb : Below w2.heap.size w2 wx) => And.intro (Hk.out.go hb) (HN.out _ (bt hc2.out hb)))
   obtain ⟨q1, q2⟩ := HH.out _ Hb.out
   have Q1 := hid q1; have Q2 := hid q2
   have l1 : 1 ≤ keys.length := by rw [Hkl.out]; exact h1
   have l3 : keys.length ≤ 3 := by rw [Hkl.out]; exact h3
   clear ho hb q1 q2
   go_wp2_with (go_at_call 161; refine (ja _ _ keys ns rcv _ Q1.out Q2.out l1 l3 (by rw [Hnl.out, Hkl.out]) Hke.out Hnw.out hr).mono ?_; rintro e w3 ⟨v3, rfl, n3, hb3⟩)
   obtain ⟨G3, o3, _, _⟩ := n3
   obtain rfl := am ai o3
   have s3 : w.heap.size < w3.heap.size := by have := hb3.size; omega
   obtain ⟨A3, c3, rfl, _, _, _⟩ := o3.form
   have O3 := hid (o3.base (B' := w.heap.size + 1) (by omega)); have O4 := hid (Ho.out.go hb3); have HB := hid (bt hc2.out (bt Hb.out hb3))
   obtain ⟨y3, z3⟩ := fN hb3
   have Hmk2 := hid (show (dH s ps ns rcv l).bd = (keys.take k).foldl onL (bI l) from by rw [Hmk.out, Ha.out])
   rw [Hmk.out]
   clear hb3 o3
   have sr : w.heap.size < wr.heap.size := by omega
   go_wp2_with (go_at_call 111; refine (fM s _ hs).mono ?_; rintro e w' ⟨rfl, rfl⟩)
   refine bodyPost_ret (v := .tuple #[.agg #[.int .i64 (aq s 5), .slice A3 (hdT (bw keys) rcv keys ns).fst.length c3, .int .i64 (hdT (bw keys) rcv keys ns).snd, .slice Ab 6 cb], .bool true]) (by simp [results, Tryz.results112, go_sem, y3, yr, y2, y1, s3, sr, s2, s1]) rfl ?_
   rw [Hmk.out]
   refine ⟨_, _, rfl, ?_, ?_, ?_⟩
   ·exact (ap (ap (ap (ap O3.out (p := ⟨w.heap.size, 0, none⟩) (by dsimp only; omega)) (p := ⟨w.heap.size, 1, none⟩) (by dsimp only; omega)) (p := ⟨w.heap.size, 2, none⟩) (by dsimp only; omega)) (p := ⟨w.heap.size, 3, none⟩) (by dsimp only; omega)).far (by omega)
   ·have := (ap (ap (ap (ap O4.out (p := ⟨w.heap.size, 0, none⟩) (u := .int .i64 (aq s 5)) (by dsimp only; omega)) (p := ⟨w.heap.size, 1, none⟩) (u := .slice A3 (hdT (bw keys) rcv keys ns).fst.length c3) (by dsimp only; omega)) (p := ⟨w.heap.size, 2, none⟩) (u := .int .i64 (hdT (bw keys) rcv keys ns).snd) (by dsimp only; omega)) (p := ⟨w.heap.size, 3, none⟩) (u := .slice Ab 6 cb) (by dsimp only; omega)).far (n := w.heap.size) (by omega)
    rw [Ha.out] at this
    exact this
   ·exact (((HB.out.setCell (by simp) _).setCell (by simp) _).setCell (by simp) _).setCell (by simp) _
set_option maxHeartbeats 40000000
def PkDr (B g p n : Nat) (w : World) (e : Ending) (w' : World) : Prop :=
 ∃ (k : Pk) (q : Nat) (vh vb : Value), e = .returned (.agg #[.int .i64 k.el, vh, .int .i64 k.tag, vb]) ∧ pkB k = true ∧ q ≤ p + n ∧ Rdr B w' g q ∧ Tch [g] w w' ∧ SlB af w'.heap.size w' vh k.hd ∧ SlB af w'.heap.size w' vb k.bd
theorem qX {g : Nat} {w0 w w' : World} (h : Tch [g] w0 w) (hb : Below (w0.heap.size + 1) w w') : Tch [g] w0 w' :=
 ⟨hb.os.trans h.os, hb.tape.trans h.tape, hb.output.trans h.output, Nat.le_trans h.size hb.size, fun k hk hn => (hb.block k (by omega)).trans (h.block k hk hn)⟩
def L3 (C : Nat) (w : World) (a b c : Value) (xs ys zs : List Int) : Prop :=
 Own af 3 C w a xs [] ∧ Own af 3 C w b ys [] ∧ Own af 3 C w c zs [] ∧ a.ownBlock ≠ b.ownBlock ∧ a.ownBlock ≠ c.ownBlock ∧ b.ownBlock ≠ c.ownBlock ∧ a.ownBlock ≠ none ∧ b.ownBlock ≠ none ∧ c.ownBlock ≠ none
section
variable {C g : Nat} {w w' : World} {a b c v' : Value} {xs ys zs : List Int} {x : Int}
theorem L3.rot (h : L3 C w a b c xs ys zs) : L3 C w b c a ys zs xs := by
 obtain ⟨h1, h2, h3, h4, h5, h6, h7, h8, h9⟩ := h
 exact ⟨h2, h3, h1, h6, Ne.symm h4, Ne.symm h5, h8, h9, h7⟩
theorem L3.tch (h : L3 C w a b c xs ys zs) (ht : Tch [g] w w') (hg : g < C) : L3 C w' a b c xs ys zs := by
 have k : ∀ {v : Value} {l : List Int}, Own af 3 C w v l [] → Own af 3 C w' v l [] := fun ho =>
  ho.keep (fun b hb => ht.block b (ho.top b hb).2 (fun hm => by have := (ho.top b hb).1; simp at hm; omega)) (fun _ h => by cases h)
 obtain ⟨h1, h2, h3, h4⟩ := h
 exact ⟨k h1, k h2, k h3, h4⟩
theorem L3.go (h : L3 C w a b c xs ys zs) (hb : Below w.heap.size w w') : L3 C w' a b c xs ys zs := by
 obtain ⟨h1, h2, h3, h4⟩ := h
 exact ⟨h1.go hb, h2.go hb, h3.go hb, h4⟩
theorem L3.app (h : L3 C w a b c xs ys zs) (ho : Own af 3 C w' v' (xs ++ [x]) []) (hg : w.grownBy w' a.ownBlock) (hv : v'.ownBlock = a.ownBlock ∨ v'.ownBlock = some w.heap.size) : L3 C w' v' b c (xs ++ [x]) ys zs := by
 obtain ⟨h1, h2, h3, h4, h5, h6, h7, h8, h9⟩ := h
 have k : ∀ {v : Value} {l : List Int}, Own af 3 C w v l [] → a.ownBlock ≠ v.ownBlock → Own af 3 C w' v l [] := fun ho' hn =>
  ho'.keep (fun b hb => hg.block b (ho'.top b hb).2 (fun e => hn (e.symm.trans hb.symm))) (fun _ h => by cases h)
 have d : ∀ {v : Value} {l : List Int}, Own af 3 C w v l [] → a.ownBlock ≠ v.ownBlock → v'.ownBlock ≠ v.ownBlock := fun ho' hn => by
  rcases hv with hv | hv
  ·rw [hv]; exact hn
  ·rw [hv]; intro e; have := (ho'.top _ e.symm).2; omega
 exact ⟨ho, k h2 h4, k h3 h5, d h2 h4, d h3 h5, h6, by rcases hv with hv | hv <;> rw [hv]; exact h7; simp, h8, h9⟩
theorem L3.new {n : Nat} (h1 : w.heap[n]? = some (.cells #[] 3 (0, 0))) {n2 n3 : Nat} (h2 : w.heap[n2]? = some (.cells #[] 3 (0, 0))) (h3 : w.heap[n3]? = some (.cells #[] 3 (0, 0))) (d1 : n < n2) (d2 : n2 < n3) (hC : C ≤ n) :
  L3 C w (.slice (some ⟨n, 0, none⟩) 0 0) (.slice (some ⟨n2, 0, none⟩) 0 0) (.slice (some ⟨n3, 0, none⟩) 0 0) [] [] [] :=
 ⟨bU h1 hC, bU h2 (by omega), bU h3 (by omega), by simp [Value.ownBlock]; omega, by simp [Value.ownBlock]; omega, by simp [Value.ownBlock]; omega, by simp [Value.ownBlock], by simp [Value.ownBlock], by simp [Value.ownBlock]⟩
theorem L3.keep2 {wo : World} (h : L3 C wo a b c xs ys zs) (hg : g < C) (hk : ∀ b, b < wo.heap.size → b ≠ g → w'.heap[b]? = wo.heap[b]?) : L3 C w' a b c xs ys zs := by
 have k : ∀ {v : Value} {l : List Int}, Own af 3 C wo v l [] → Own af 3 C w' v l [] := fun ho =>
  ho.keep (fun b hb => hk b (ho.top b hb).2 (by have := (ho.top b hb).1; omega)) (fun _ h => by cases h)
 obtain ⟨h1, h2, h3, h4⟩ := h
 exact ⟨k h1, k h2, k h3, h4⟩
theorem L3.grown (h : L3 C w a b c xs ys zs) (hg : w.grownBy w' a.ownBlock) (hC : C ≤ w.heap.size) : Below C w w' :=
 ah.grown hg hC (fun b hb => (h.1.top b hb).1)
end
theorem pR {w : World} {ga t : Nat} {a0 a1 a2 a3 a4 a5 : Value} (c0 c1 c2 c3 c4 c5 : Value) {cs : List Value} {x : Pl} {F : List Nat} (_ : w.heap[ga]? = some (.cells #[a0, a1, a2, a3, a4, a5] t (0, 0))) (h : oPl.E w cs x F) (hn : ∀ b ∈ F, b ≠ ga) :
  oPl.E ((((((w.setCell ⟨ga, 0, none⟩ c0).setCell ⟨ga, 1, none⟩ c1).setCell ⟨ga, 2, none⟩ c2).setCell ⟨ga, 3, none⟩ c3).setCell ⟨ga, 4, none⟩ c4).setCell ⟨ga, 5, none⟩ c5) cs x F :=
 oPl.keep h (fun b hb => bs b (hn b hb))
theorem sQ {w : World} {x : Pl} {a b c d uh ub : Value} {F : List Nat} {P : Nat → Prop} (h : oPl.E w [a, b, c, uh, d, ub] x F) (hP : ∀ b ∈ F, P b) : SlR P af w uh x.pk.hd ∧ SlR P af w ub x.pk.bd := by
 obtain ⟨c1, c2, F1, F2, e1, rfl, ⟨rfl, rfl⟩, c3, c4, F3, F4, e2, rfl, ⟨rfl, rfl⟩, c5, c6, F5, F6, e3, rfl, ⟨rfl, rfl⟩, c7, c8, F7, F8, e4, rfl, ⟨vh, Gh, rfl, hh, rfl⟩, c9, cA, F9, FA, e5, rfl, ⟨rfl, rfl⟩, vb, Gb, rfl, hb, rfl⟩ := h
 subst e5 e4 e3 e2
 simp at e1
 obtain ⟨_, _, _, rfl, _, rfl⟩ := e1
 obtain rfl := am ai hh
 obtain rfl := am ai hb
 have k : ∀ {v : Value} {l : List Int}, Own af 3 0 w v l [] → (∀ c, v.ownBlock = some c → P c) → SlR P af w v l := fun ho hp => by
  obtain ⟨F, hs, hF⟩ := ho.sl
  exact ⟨F, hs, fun c hc => by rcases hF c hc with h | h; exact hp c h; cases h⟩
 exact ⟨k hh (fun c hc => hP c (by simp [hc])), k hb (fun c hc => hP c (by simp [hc]))⟩
theorem fj (B : Nat) (s : Int) (w : World) (g p : Nat) (h : Rdr B w g p) (hp : p ≤ 800000000) (hs : win s 1 996 = true) : Calls Tryz.prog 76 #[.pointer (some ⟨g, 0, none⟩), .int .i64 s] w (PkDr B g p 60 w) := by
 obtain ⟨i0, hi, hz0, hz1, hz2⟩ := info_parts aY
 have hgw := h.lt.2
 have HgC := hid (show g < w.heap.size + 1 by omega)
 have Hs := hid hs
 clear hs
 go_enter Tryz.func76, Tryz.ntmps76
 go_upto_region 1 with fail
 generalize hgw' : World.alloc w _ = W0
 obtain ⟨e0, hb0, s0⟩ := al hgw'
 have s0' := hb0.size
 have hr := h.go hb0
 have E0 := hid e0; have HT := hid (Tch.of (S := [g]) hb0)
 clear hgw' e0 hb0 h
 go_wp2_with fail
 refine (ay B _ g _ _ hr (by omega)).mono ?_
 rintro e w1 ⟨m, rfl, m0, m1, _, hr, hg⟩
 have m1 := m1 (by omega)
 have f1 : IntKind.i64.wrap (1 + m) = 1 + m := aZ (by omega) (by omega)
 replace HT := hid (HT.out.trans (bP hg))
 replace E0 := hid (au hg E0.out (by simp; omega))
 have t1 := hg.size
 clear hg
 go_wp2_with fail
 refine (ay B _ g _ _ hr (by omega)).mono ?_
 rintro e w2 ⟨at', rfl, a0, a1, _, hr, hg⟩
 have a1 := a1 (by omega)
 replace HT := hid (HT.out.trans (bP hg))
 replace E0 := hid (au hg E0.out (by simp; omega))
 have t2 := hg.size
 have Hr2 := hid hr
 clear hg f1 hr
 go_upto_region 6 with fail
 generalize hgw' : World.alloc (World.alloc (World.alloc w2 _) _) _ = W5
 obtain ⟨e7, e8, e9, hb, sW⟩ := g9 hgw'
 have HL := hid (L3.new (C := w.heap.size + 1) e7 e8 e9 (by omega) (by omega) (by omega))
 have Hr5 := hid (Hr2.out.go hb)
 replace HT := hid (HT.out.trans (Tch.of hb))
 replace E0 := hid (ac hb E0.out)
 clear hgw' e7 e8 e9 hb Hr2
 go_wp2_with fail
 go_loopw [7, 8, 9, 10] (fun pv sv nv i wr => ∃ (k : Nat) (ps ss ns : List Int) (q : Nat), (k ≤ 3 ∧ (k : Int) ≤ 1 + m) ∧ i = .int .i64 k ∧ ps.length = k ∧ ss.length = k ∧ ns.length = k ∧ (∀ x ∈ ps, win x 1 996 = true) ∧ (∀ x ∈ ss, win x 1 996 = true) ∧ (∀ x ∈ ns, win x 0 7 = true) ∧ q ≤ p + 2 + 3 * k ∧ L3 (w.heap.size + 1) wr pv sv nv ps ss ns ∧ Rdr B wr g q ∧ Tch [g] w wr ∧ wr.heap[w.heap.size]? = some (.cells #[.int .i64 0, .slice none 0 0, .int .i64 0, .slice none 0 0] 72 (0, 0)) ∧ w.heap.size + 1 ≤ wr.heap.size) (fun _ _ _ i _ => (1 + m).toNat - (intOf i).toNat)
 case atStart => exact ⟨0, [], [], [], _, ⟨by omega, by omega⟩, rfl, rfl, rfl, rfl, (fun _ h => by cases h), (fun _ h => by cases h), (fun _ h => by cases h), (by omega), HL.out, Hr5.out, HT.out, E0.out, by omega⟩
 case round =>
  obtain ⟨k, ps, ss, ns, q, ⟨hk, hk2⟩, rfl, lp, ls, ln, hps, hss, hns, hq, hl3, hr, ht, he, hsz⟩ := hrel
  clear HL Hr5 HT E0
  have HL := hid hl3; have Hr := hid hr; have HT := hid ht; have E0 := hid he; have Lp := hid lp; have Ls := hid ls; have Ln := hid ln
  have Hps := hid hps; have Hss := hid hss; have Hns := hid hns
  clear hl3 hr ht he lp ls ln hps hss hns
  by_cases hlt : (k : Int) < 1 + m
  ·go_wp2_with fail
   refine (g8 B _ g _ Hr.out (by omega)).mono ?_
   rintro e wb ⟨s1, q1, rfl, hs1, hq1, hr1, ht1⟩
   replace HL := hid (HL.out.tch ht1 (by omega))
   replace HT := hid (HT.out.trans ht1)
   replace E0 := hid (ht1.row E0.out (by simp; omega))
   have hsb : w.heap.size + 1 ≤ wb.heap.size := Nat.le_trans hsz ht1.size
   have Hr1 := hid hr1; have Hs1 := hid hs1
   clear hr1 ht1 Hr hs1
   go_upto_region 10 with fail
   go_cut [37] (fun s37 wx => s37 = .bool ((k : Int) == at') ∧ wb = wx)
   case first =>
    go_wp2_with fail
    go_meet
    exact ⟨rfl, rfl⟩
   case rest =>
    obtain ⟨rfl, rfl⟩ := hcut
    rename_i hK
    refine hK _ _ ?_
    go_cut [11] (fun s11 wx => ∃ s2, s11 = .int .i64 s2 ∧ win s2 1 996 = true ∧ wb = wx)
    case first =>
     by_cases hka : (k : Int) = at'
     ·have hkb : ((k : Int) == at') = true := by simpa using hka
      go_wp2_with fail
      go_meet
      exact ⟨s, rfl, Hs.out, rfl⟩
     ·have hkb : ((k : Int) == at') = false := by simpa using hka
      go_wp2_with fail
      go_meet
      exact ⟨s1, rfl, Hs1.out, rfl⟩
    case rest =>
     obtain ⟨s2, rfl, hs2, rfl⟩ := hcut
     have Hs2 := hid hs2
     clear hs2
     have lsl := Ls.out
     go_upto_region 13 with ((at_builtin; go_loud (refine aw rfl (.tmp 39) (.tmp 41) 67 rfl af ai (B := w.heap.size + 1) (v := u8) (xs := ss) (ys := [s2]) Tryz.underlying67 hi hz0 hz1 hz2 rfl (by decide) (by decide) rfl (HL.out.2.1.go (ab _ _)) _ 1 1 rfl (Sl.box' (T := af) (x := s2) _ ?_ ⟨rfl, rfl⟩) ?_ ?_ ?_; rfl; (simp; omega); (simp; omega); intro va wa' hoa hga hva)))
     have HLa := hid (((HL.out.go (ab _ _)).rot.app hoa hga hva).rot.rot)
     have hbA := ((ab _ _).mono hsb).trans ((HL.out.go (ab _ _)).rot.grown hga (by simp only [World.size_alloc]; omega))
     replace HT := hid (qX HT.out hbA)
     replace E0 := hid ((hbA.block _ (by omega)).trans E0.out)
     replace Hr1 := hid (Hr1.out.below hbA (by omega) (by have := Hr1.out.lt; omega))
     have hsa : w.heap.size + 1 ≤ wa'.heap.size := Nat.le_trans hsb hbA.size
     clear hoa hga hva hbA HL lsl
     have lpl := Lp.out
     go_upto_region 14 with (first | (go_at_call 111; refine (fM s2 _ Hs2.out).mono ?_; rintro e w' ⟨rfl, rfl⟩) | (at_builtin; go_loud (refine aw rfl (.tmp 43) (.tmp 46) 67 rfl af ai (B := w.heap.size + 1) (v := u7) (xs := ps) (ys := [aq s2 5]) Tryz.underlying67 hi hz0 hz1 hz2 rfl (by decide) (by decide) rfl (HLa.out.1.go (ab _ _)) _ 1 1 rfl (Sl.box' (T := af) (x := aq s2 5) _ ?_ ⟨rfl, rfl⟩) ?_ ?_ ?_; rfl; (simp; omega); (simp; omega); intro va wa' hoa hga hva)))
     have HLb := hid ((HLa.out.go (ab _ _)).app hoa hga hva)
     have hbA := ((ab _ _).mono hsa).trans ((HLa.out.go (ab _ _)).grown hga (by simp only [World.size_alloc]; omega))
     replace HT := hid (qX HT.out hbA)
     replace E0 := hid ((hbA.block _ (by omega)).trans E0.out)
     replace Hr1 := hid (Hr1.out.below hbA (by omega) (by have := Hr1.out.lt; omega))
     have hsa2 : w.heap.size + 1 ≤ wa'.heap.size := Nat.le_trans hsa hbA.size
     clear hoa hga hva hbA HLa lpl
     go_upto_region 14 with fail
     go_wp2_with (first | (go_at_call 27; refine (ay B _ g _ _ Hr1.out (by omega)).mono ?_; rintro e wc1 ⟨nm, rfl, nm0, nm1, _, hr, hg⟩; have nm1 := nm1 (by omega); have HTc := hid (HT.out.trans (bP hg)); have E0c := hid (au hg E0.out (by simp; omega)); have Hrc := hid hr; have HLc := hid (HLb.out.tch (bP hg) (by omega)); have hsc := Nat.le_trans hsa2 hg.size; have lnl := Ln.out; clear hr hg) | (at_builtin; go_loud (refine aw rfl (.tmp 48) (.tmp 51) 67 rfl af ai (B := w.heap.size + 1) (v := u9) (xs := ns) (ys := [nm]) Tryz.underlying67 hi hz0 hz1 hz2 rfl (by decide) (by decide) rfl (HLc.out.2.2.1.go (ab _ _)) _ 1 1 rfl (Sl.box' (T := af) (x := nm) _ ?_ ⟨rfl, rfl⟩) ?_ ?_ ?_; rfl; (simp; omega); (simp; omega); intro va wa' hoa hga hva)))
     have HLd := hid (((HLc.out.go (ab _ _)).rot.rot.app hoa hga hva).rot)
     have hbA := ((ab _ _).mono hsc).trans ((HLc.out.go (ab _ _)).rot.rot.grown hga (by simp only [World.size_alloc]; omega))
     have HTd := hid (qX HTc.out hbA)
     have E0d := hid ((hbA.block _ (by omega)).trans E0c.out)
     have Hrd := hid (Hrc.out.below hbA (by omega) (by have := Hrc.out.lt; omega))
     have hsd := Nat.le_trans hsc hbA.size
     clear hoa hga hva hbA
     go_roundw
     case rel => exact ⟨k + 1, ps ++ [aq s2 5], ss ++ [s2], ns ++ [nm], _, ⟨by omega, by omega⟩, by go_num, (by simp [Lp.out]), (by simp [Ls.out]), (by simp [Ln.out]), (fun x hx => by rcases List.mem_append.1 hx with hx | hx; exact Hps.out x hx; simp at hx; subst hx; exact bu Hs2.out (by decide)), (fun x hx => by rcases List.mem_append.1 hx with hx | hx; exact Hss.out x hx; simp at hx; subst hx; exact Hs2.out), (fun x hx => by rcases List.mem_append.1 hx with hx | hx; exact Hns.out x hx; simp at hx; subst hx; exact aK.2 ⟨by omega, by omega⟩), (by omega), HLd.out, Hrd.out, HTd.out, E0d.out, hsd⟩
     case measure => simp [intOf]; omega
  ·have hk1 : 1 ≤ k := by omega
   obtain ⟨wo, rfl⟩ : ∃ wo : World, wo = wr := ⟨_, rfl⟩
   go_upto_region 16 with fail
   generalize hgw' : World.alloc wo _ = wp
   obtain ⟨e12, hb12, s12⟩ := al hgw'
   have Hrp := hid (Hr.out.go hb12)
   have HTp := hid (HT.out.trans (Tch.of hb12))
   have E0p := hid (ac hb12 E0.out)
   have hsp := Nat.le_trans hsz hb12.size
   have E12 := hid e12
   have Hb12 := hid hb12
   clear hgw' e12 hb12 Hr HT
   go_wp2_with fail
   go_loopw [12, 13] (fun lv i wr => ∃ (j : Nat) (ls : List Int) (q' : Nat), j ≤ 4 ∧ i = .int .i64 j ∧ ls.length = j ∧ aH ls = true ∧ q' ≤ p + 14 + 3 * j ∧ Own af 3 wo.heap.size wr lv ls [] ∧ Rdr B wr g q' ∧ (∀ b, b < wo.heap.size → b ≠ g → wr.heap[b]? = wo.heap[b]?) ∧ Tch [g] w wr ∧ wo.heap.size < wr.heap.size) (fun _ i _ => 5 - (intOf i).toNat)
   case atStart => exact ⟨0, [], q, by omega, rfl, rfl, rfl, by omega, bU E12.out (Nat.le_refl _), Hrp.out, fun b hb _ => Hb12.out.block b hb, HTp.out, s12⟩
   case round =>
    obtain ⟨j, lt, q', hj, rfl, llt, hnb, hq', hol, hr, hkb, ht, hsr⟩ := hrel
    have Llt := hid llt; have Hnb := hid hnb; have Hol := hid hol; have Hr := hid hr; have Hkb := hid hkb; have HT := hid ht
    clear llt hnb hol hr hkb ht
    go_wp2_with fail
    refine (ay B _ g _ _ Hr.out (by omega)).mono ?_
    rintro e wa ⟨m5, rfl, m50, m51, _, hr, hg⟩
    have m51 := m51 (by omega)
    have Hola := hid (Hol.out.keep (fun b hb => hg.block b (Hol.out.top b hb).2 (fun e => absurd (Option.some.inj e) (by have := (Hol.out.top b hb).1; omega))) (fun _ h => by cases h))
    have Hkba := hid (fun (b : Nat) (h1 : b < wo.heap.size) (h2 : b ≠ g) => (hg.block b (by omega) (fun e => h2 (Option.some.inj e))).trans (Hkb.out b h1 h2))
    have HTa := hid (HT.out.trans (bP hg))
    have Hra := hid hr
    have hsr2 := Nat.lt_of_lt_of_le hsr hg.size
    clear hr hg Hol Hr Hkb HT
    by_cases hlt2 : (j : Int) < m5
    ·go_wp2_with fail
     refine (ay B _ g _ _ Hra.out (by omega)).mono ?_
     rintro e wb ⟨nn, rfl, nn0, nn1, _, hr, hg⟩
     have nn1 := nn1 (by omega)
     have Holb := hid (Hola.out.keep (fun b hb => hg.block b (Hola.out.top b hb).2 (fun e => absurd (Option.some.inj e) (by have := (Hola.out.top b hb).1; omega))) (fun _ h => by cases h))
     have Hkbb := hid (fun (b : Nat) (h1 : b < wo.heap.size) (h2 : b ≠ g) => (hg.block b (by omega) (fun e => h2 (Option.some.inj e))).trans (Hkba.out b h1 h2))
     have HTb := hid (HTa.out.trans (bP hg))
     have Hrb := hid hr
     have hsr3 := Nat.lt_of_lt_of_le hsr2 hg.size
     have ltl := Llt.out
     clear hr hg Hola Hkba HTa Hra
     go_wp2_with (at_builtin; go_loud (refine aw rfl (.tmp 60) (.tmp 63) 67 rfl af ai (B := wo.heap.size) (v := u12) (xs := lt) (ys := [nn]) Tryz.underlying67 hi hz0 hz1 hz2 rfl (by decide) (by decide) rfl (Holb.out.go (ab _ _)) _ 1 1 rfl (Sl.box' (T := af) (x := nn) _ ?_ ⟨rfl, rfl⟩) ?_ ?_ ?_; rfl; (simp; omega); (simp; omega); intro va wa' hoa hga hva))
     have hbA := ((ab wb (.cells #[.int .i64 nn] 3)).mono (Nat.le_of_lt hsr3)).trans ((Below.refl wo.heap.size _).grown hga (by simp only [World.size_alloc]; omega) (fun b hb => (Holb.out.top b hb).1))
     have hsw : w.heap.size + 1 ≤ wo.heap.size := hsz
     have fin1 := hid (Hrb.out.below hbA (by omega) (by have := Hrb.out.lt; omega))
     have fin2 := hid (fun (b : Nat) (h1 : b < wo.heap.size) (h2 : b ≠ g) => (hbA.block b h1).trans (Hkbb.out b h1 h2))
     have fin3 := hid (qX HTb.out (hbA.mono hsw))
     have fin4 := Nat.lt_of_lt_of_le hsr3 hbA.size
     have Hoa := hid hoa
     clear hoa hga hva hbA ltl
     go_roundw
     case rel => exact ⟨j + 1, lt ++ [nn], _, by omega, by go_num, (by simp [Llt.out]), bi Hnb.out (bm.2 fun x hx => by simp at hx; subst hx; omega), (by omega), Hoa.out, fin1.out, fin2.out, fin3.out, fin4⟩
     case measure => simp [intOf]; omega
    ·have HLr := hid (HL.out.keep2 (C := w.heap.size + 1) (w' := wa) (by omega) Hkba.out)
     have E0r := hid ((Hkba.out w.heap.size (by omega) (by omega)).trans E0.out)
     obtain ⟨wq, rfl⟩ : ∃ wq : World, wq = wa := ⟨_, rfl⟩
     have Hlo := hid Hola.out
     have Llt' := Llt.out
     clear HL E0 Hkba Hola Hrp HTp E0p E12 Hb12
     go_wp2_with fail
     refine (g8 B _ g _ Hra.out (by omega)).mono ?_
     rintro e wb ⟨s3, q3, rfl, hs3, hq3, hr3, ht3⟩
     have HL3 := hid (HLr.out.tch ht3 (by omega))
     have HT3 := hid (HTa.out.trans ht3)
     have E3 := hid (ht3.row E0r.out (by simp; omega))
     have Hs3 := hid hs3
     have Hl3 := hid (Hlo.out.keep (w' := wb) (fun b hb => ht3.block b (Hlo.out.top b hb).2 (fun hm => by have := (Hlo.out.top b hb).1; simp at hm; omega)) (fun _ h => by cases h))
     have hsb := ht3.size
     clear hs3 ht3 Hra HTa HLr E0r Hlo
     go_wp2_with fail
     refine (ay B _ g _ _ hr3 (by omega)).mono ?_
     rintro e wc ⟨rv, rfl, rv0, rv1, _, hr4, hg4⟩
     have rv1 := rv1 (by omega)
     have HL4 := hid (HL3.out.tch (bP hg4) (by omega))
     have HT4 := hid (HT3.out.trans (bP hg4))
     have E4 := hid (au hg4 E3.out (by simp; omega))
     have Hl4 := hid (Hl3.out.keep (w' := wc) (fun b hb => hg4.block b (Hl3.out.top b hb).2 (fun e => absurd (Option.some.inj e) (by have := (Hl3.out.top b hb).1; omega))) (fun _ h => by cases h))
     have hsc := hg4.size
     have Hr4 := hid hr4
     clear hr3 hr4 hg4 HL3 HT3 E3 Hl3
     have lpl := Lp.out; have lnl := Ln.out; have lsl := Ls.out
     have Hmk := hid (oK (rcv := rv) Hs3.out (ps := ps) (ns := ns) (l := lt) (by intro e; rw [e] at lpl; simp at lpl; omega) (by omega) (by omega) (by omega) Hnb.out)
     obtain ⟨kk0, hkk0⟩ : ∃ kk, kk = dH s3 ps ns rv lt := ⟨_, rfl⟩
     rw [← hkk0] at Hmk
     have Hkk0 := hid hkk0
     clear hkk0
     go_wp2_with fail
     refine (mO s3 rv _ _ _ ps ns lt _ HL4.out.1.slB HL4.out.2.2.1.slB Hl4.out.slB (by omega) (by omega) (by omega) Hs3.out Hps.out Hns.out (aK.2 ⟨by omega, by omega⟩) (by omega) Hnb.out).mono ?_
     rw [← Hkk0.out]
     rintro e wd ⟨vh, vb, rfl, s1, s2, hb5⟩
     replace s1 : SlR (fun b => wc.heap.size ≤ b) af wd vh kk0.hd := s1
     replace s2 : SlR (fun b => wc.heap.size ≤ b) af wd vb kk0.bd := s2
     obtain ⟨Ah, ch, rfl, _⟩ := s1.form
     obtain ⟨Ab, cb, rfl, _⟩ := s2.form
     have HL5 := hid (HL4.out.go hb5)
     have HT5 := hid (HT4.out.trans (Tch.of hb5))
     have E5 := hid (ac hb5 E4.out)
     have Hr5 := hid (Hr4.out.go hb5)
     have hsd := hb5.size
     have S1 := hid s1; have S2 := hid s2
     clear s1 s2 hb5 HL4 HT4 E4 Hl4 Hr4 Hnb Llt Hps Hns Lp Ln lpl lnl lsl Llt'
     go_upto_region 21 with fail
     generalize hgw' : World.alloc wd _ = we
     obtain ⟨e14, hb14, s14⟩ := al hgw'
     obtain ⟨A8, c8, hu8, _⟩ := HL5.out.2.1.form
     subst hu8
     have hwd : w.heap.size + 1 ≤ wd.heap.size := by omega
     have R1 := hid ((S1.out.mono (R' := fun b => b ≠ wd.heap.size ∧ b ≠ w.heap.size) (fun b h1 h2 => ⟨by omega, by omega⟩)).go hb14)
     have R2 := hid ((S2.out.mono (R' := fun b => b ≠ wd.heap.size ∧ b ≠ w.heap.size) (fun b h1 h2 => ⟨by omega, by omega⟩)).go hb14)
     have E14 := hid e14; have Hb14 := hid hb14
     clear hgw' e14 hb14 S1 S2
     go_wp2_with fail
     go_loopw [16] (fun iv wr => ∃ (i : Nat) (k1 : Pk) (A1 : Option Addr) (c1 : Nat) (A2 : Option Addr) (c2 : Nat), (i : Int) ≤ at' ∧ iv = .int .i64 i ∧ pkB k1 = true ∧ wr.heap[wd.heap.size]? = some (.cells #[.int .i64 k1.el, .slice A1 k1.hd.length c1, .int .i64 k1.tag, .slice A2 k1.bd.length c2] 72 (0, 0)) ∧ SlR (fun b => b ≠ wd.heap.size ∧ b ≠ w.heap.size) af wr (.slice A1 k1.hd.length c1) k1.hd ∧ SlR (fun b => b ≠ wd.heap.size ∧ b ≠ w.heap.size) af wr (.slice A2 k1.bd.length c2) k1.bd ∧ Below wd.heap.size wd wr) (fun iv _ => at'.toNat - (intOf iv).toNat)
     case atStart => exact ⟨0, kk0, Ah, ch, Ab, cb, by omega, rfl, Hmk.out, E14.out, R1.out, R2.out, Hb14.out⟩
     case round =>
      obtain ⟨i, k1, A1, c1, A2, c2, hi2, rfl, hk1', hrow, hr1, hr2, hbw⟩ := hrel
      clear R1 R2 E14 Hb14
      have Hk1 := hid hk1'; have R1 := hid hr1; have R2 := hid hr2; have HB := hid hbw; have HRow := hid hrow
      clear hk1' hr1 hr2 hbw
      by_cases hlt3 : (i : Int) < at'
      ·have hik : i < ss.length := by have h1 := Ls.out; have h2 : (i : Int) < 1 + m := Int.lt_trans hlt3 a1; omega
       have hik2 : i < k := by have h1 := Ls.out; omega
       obtain ⟨sk, hsk⟩ := ak (xs := ss) (k := i) hik
       have HLr := HL5.out.keep2 (C := w.heap.size + 1) (w' := wr) HgC.out (fun b h1 _ => HB.out.block b h1)
       obtain ⟨gs, e1, _, hgs, hcx, _⟩ := HLr.2.1.int hsk
       subst e1
       have Hsk := hid (Hss.out sk (List.mem_of_getElem? hsk))
       obtain ⟨yy, hyy⟩ : ∃ yy, (aW sk k1).getD fb = yy := ⟨_, rfl⟩
       obtain ⟨bo, hbo⟩ : ∃ bo, (aW sk k1).isSome = bo := ⟨_, rfl⟩
       have Hyy := hid hyy; have Hbo := hid hbo
       have HS := hid (fun (wx : World) (hT : Tch [] wr wx) => And.intro (aN (hT.row hrow (by simp))) (And.intro (hT.cell hcx (by simp)) (show wd.heap.size < wx.heap.size by have := hT.size; have := (aL hrow); omega)))
       have hb14w := (aL hrow)
       clear hsk HLr hcx hyy hbo hrow
       go_wp2_with fail
       refine rgN [] 12 (by kernel_rfl) rfl (fun | none, _, _, _, _ => id | some _, _, _, _, _ => id) fun wd' hH hbwd' swd' => ?_
       simp only [pw]
       refine ag [0, 1, 2, 3, 4] ?_
       iterate 5 (refine ra HS.out rfl (by kernel_rfl) rfl (fun _ f => by go_simp; try with_reducible rfl) ?_; try simp only [pw])
       repeat' (first
        | (have t5 := hK5; clear t5; go_simp; (go_at_call 124; refine (ox sk k1 _ _ _ (R1.out.slB.go hH.nil) (R2.out.slB.go hH.nil) Hsk.out Hk1.out).mono ?_; unfold gx; rw [Hyy.out, Hbo.out]; rintro e w5 ⟨uh5, ub5, rfl, n5, hbC⟩; obtain ⟨Bh5, dh5, Bb5, db5, rfl, rfl⟩ := cj n5; obtain ⟨F5, f5a, _, f5c⟩ := n5; have F5E := hid f5a; have F5lo := hid f5c; have F5hi := hid (fun b hb => oPl.lt f5a b hb); have h5l := hbC.size; (try replace ea := ac hbC ea); clear f5a f5c); refine hK5.out _ _ (hH.trans (Tch.of hbC)) (fun hH => ?_); clear hK5 K5; try simp only [pw])
        | (have t9 := hK9; clear t9; go_simp; (have la := hH.size; generalize hgw : World.alloc _ _ = wa; obtain ⟨ea, hbC, sa⟩ := al hgw; clear hgw; (try replace F5E := hid (oPl.keep F5E.out (fun b hb => hbC.block b (F5hi.out b hb))))); refine hK9.out _ _ (hH.trans (Tch.of hbC)) (fun hH => ?_); clear hK9 K9; try simp only [pw])
        | (have t10 := hK10; clear t10; (obtain ⟨z0, z1, z2, z3, z4, z5, zf⟩ := az ea; have zf0 := zf 0; have zf1 := zf 1; have zf2 := zf 2; have zf3 := zf 3; have zf4 := zf 4; have zf5 := zf 5; have hga3 := World.block_lt_of_cell? _ _ z0; dsimp only at hga3); have fC := HS.out _ hH; go_simp; clear fC; (have hbT := (((((hH.setCell (p := ⟨_, 0, none⟩) (.inr (by dsimp only; omega)) (.int .i64 yy.kind)).setCell (p := ⟨_, 1, none⟩) (.inr (by dsimp only; omega)) (.int .i64 yy.next)).setCell (p := ⟨_, 2, none⟩) (.inr (by dsimp only; omega)) (.int .i64 yy.pk.el)).setCell (p := ⟨_, 3, none⟩) (.inr (by dsimp only; omega)) (.slice Bh5 yy.pk.hd.length dh5)).setCell (p := ⟨_, 4, none⟩) (.inr (by dsimp only; omega)) (.int .i64 yy.pk.tag)).setCell (p := ⟨_, 5, none⟩) (.inr (by dsimp only; omega)) (.slice Bb5 yy.pk.bd.length db5)); refine hK10.out _ _ (hbT) (fun hH => ?_); clear hK10 K10; try simp only [pw])
        | (refine tr 6 HS.out rfl (by decide +kernel) rfl (fun _ f => by go_simp; try with_reducible rfl) ?_; try simp only [pw])
        | (refine tr 7 HS.out rfl (by decide +kernel) rfl (fun _ f => by go_simp; try with_reducible rfl) ?_; try simp only [pw])
        | (refine tr 8 HS.out rfl (by decide +kernel) rfl (fun _ f => by go_simp; try with_reducible rfl) ?_; try simp only [pw])
        | (refine tr 11 HS.out rfl (by decide +kernel) rfl (fun _ f => by go_simp; try with_reducible rfl) ?_; try simp only [pw])
        | (refine rk (i := 5) [9] (by decide +kernel) (rc rfl (fun K5 hK5 => ?_) (rc rfl (fun K9 hK9 => ?_) rn)))
        | (refine rk (i := 5) [] (by decide +kernel) (rc rfl (fun K5 hK5 => ?_) rn))
        | (refine rk (i := 9) [] (by decide +kernel) (rc rfl (fun K9 hK9 => ?_) rn))
        | (refine rk (i := 10) [] (by decide +kernel) (rc rfl (fun K10 hK10 => ?_) rn))
        | fail)
       all_goals refine dm (by kernel_rfl) ?_
       all_goals
        have Hlo5 := hid (show ∀ b ∈ F5, wd.heap.size < b from fun b hb => by have h1 := F5lo.out b hb; have h2 := hb14w; omega)
        have e9 := bZ (.int .i64 yy.kind) (.int .i64 yy.next) (.int .i64 yy.pk.el) (.slice Bh5 yy.pk.hd.length dh5) (.int .i64 yy.pk.tag) (.slice Bb5 yy.pk.bd.length db5) ea
        have k9 := pR (.int .i64 yy.kind) (.int .i64 yy.next) (.int .i64 yy.pk.el) (.slice Bh5 yy.pk.hd.length dh5) (.int .i64 yy.pk.tag) (.slice Bb5 yy.pk.bd.length db5) ea F5E.out (fun b hb => by have h1 := F5lo.out b hb; have h2 := F5hi.out b hb; omega)
        clear z0 z1 z2 z3 z4 z5 zf zf0 zf1 zf2 zf3 zf4 zf5 ea hga3 hbC hbT F5E
        generalize World.setCell (World.setCell (World.setCell (World.setCell (World.setCell (World.setCell _ _ _) _ _) _ _) _ _) _ _) _ _ = w9 at *
        have hb9 := hH.nil
        have hrow9 := ac hb9 HRow.out
        obtain ⟨y0, y1, y2, y3, yf⟩ := aN hrow9
        have yf0 := yf 0; have yf1 := yf 1; have yf2 := yf 2; have yf3 := yf 3
        obtain ⟨v0, v1, v2, v3, v4, v5, _⟩ := az e9
        have hga9 := (aL e9)
        have h149 := (aL hrow9)
        have hswr : wd.heap.size < wr.heap.size := hb14w
        have HB9 := hid (HB.out.trans (hb9.mono (Nat.le_of_lt hswr)))
        cases bo with
        | false =>
         clear yf y0 y1 y2 y3 yf0 yf1 yf2 yf3 v0 v1 v2 v3 v4 v5
         go_wp2_with fail
         go_roundw
         case rel => exact ⟨i + 1, k1, A1, c1, A2, c2, by omega, by go_num, Hk1.out, hrow9, R1.out.go hb9, R2.out.go hb9, HB9.out⟩
         case measure => simp [intOf]; omega
        | true =>
         have hpy : pkB yy.pk = true := by
          have h1 := Hbo.out; have h2 := Hyy.out
          cases hp : aW sk k1 with
          | none => rw [hp] at h1; cases h1
          | some z => rw [hp] at h2; have h2 : z = yy := h2; rw [← h2]; exact pT Hsk.out Hk1.out hp
         obtain ⟨t1, t2⟩ := sQ (P := fun b => b ≠ wd.heap.size ∧ b ≠ w.heap.size) k9 (fun b hb => by have h1 := Hlo5.out b hb; show b ≠ wd.heap.size ∧ b ≠ w.heap.size; exact ⟨by omega, by omega⟩)
         have T1 := hid t1; have T2 := hid t2; have HR9 := hid hrow9; have Hpy := hid hpy
         clear yf t1 t2 k9 e9 hrow9 hH hb9 hpy
         go_wp2_with fail
         go_roundw
         case rel => exact ⟨i + 1, yy.pk, Bh5, dh5, Bb5, db5, by omega, by go_num, Hpy.out, mM _ _ _ _ HR9.out, T1.out.keep (by simp [ao]) (fun b hb _ => dS b hb.1), T2.out.keep (by simp [ao]) (fun b hb _ => dS b hb.1), (by (repeat (refine Below.setCell ?_ (by dsimp only; omega) _)); exact HB9.out)⟩
         case measure => simp [intOf]; omega
      ·obtain ⟨y0, y1, y2, y3, _⟩ := aN hrow
       have hbw := HB.out
       have hwds : w.heap.size < wd.heap.size := by omega
       obtain ⟨z0, z1, z2, z3, zf⟩ := aN ((hbw.block _ hwds).trans E5.out)
       have zf0 := zf 0; have zf1 := zf 1; have zf2 := zf 2; have zf3 := zf 3
       have zwr : w.heap.size < wr.heap.size := by have := hbw.size; omega
       have zwr2 := (aL hrow)
       clear zf hrow
       go_wp2_with fail
       refine bodyPost_ret (v := .agg #[.int .i64 k1.el, .slice A1 k1.hd.length c1, .int .i64 k1.tag, .slice A2 k1.bd.length c2]) (by simp [results, Tryz.results76, go_sem, z0, z1, z2, z3]) rfl ⟨k1, q3 + 1, _, _, rfl, Hk1.out, by omega, ?_, ?_, ?_, ?_⟩
       ·have hr := Hr5.out.below hbw (by have := Hr5.out.lt; omega) (by have := Hr5.out.lt; omega)
        refine hr.below (n := g + 1) ?_ (by omega) (by have := hr.lt.1; omega)
        repeat (refine Below.setCell ?_ (by have := HgC.out; dsimp only; omega) _)
        exact ah
       ·repeat (refine Tch.setCell ?_ (.inr (by dsimp only; omega)) _)
        exact qX HT5.out (hbw.mono hwd)
       ·exact ((((R1.out.set (fun h => h.2 rfl)).set (fun h => h.2 rfl)).set (fun h => h.2 rfl)).set (fun h => h.2 rfl)).slB
       ·exact ((((R2.out.set (fun h => h.2 rfl)).set (fun h => h.2 rfl)).set (fun h => h.2 rfl)).set (fun h => h.2 rfl)).slB
end Go.Proofs.YtfaeojmndaplcaaGreatDoor
