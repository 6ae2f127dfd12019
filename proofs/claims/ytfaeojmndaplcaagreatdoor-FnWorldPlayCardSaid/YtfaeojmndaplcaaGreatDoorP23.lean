/- Texts that the last file leans on (part 23). -/
import Derived.Test.YtfaeojmndaplcaaGreatDoorP21
import Derived.Test.YtfaeojmndaplcaaGreatDoorP3
import Derived.Test.YtfaeojmndaplcaaGreatDoorP6
import Derived.Test.YtfaeojmndaplcaaGreatDoorP9
set_option linter.unusedVariables false
set_option linter.unusedSimpArgs false
set_option maxHeartbeats 4000000
set_option maxRecDepth 100000
namespace Go.Proofs.YtfaeojmndaplcaaGreatDoor
open Go Go.RowKit
theorem pQ {B : Nat} {w : World} {a b uh ub : Value} {p : Pk} (h : aC oPk B w [a, uh, b, ub] p) : Own af 3 B w uh p.hd [] ∧ Own af 3 B w ub p.bd [] ∧ ∀ c, uh.ownBlock = some c → ub.ownBlock ≠ some c := by
 obtain ⟨F, ⟨c1, c2, F1, F2, e1, e2, ⟨rfl, rfl⟩, c3, c4, F3, F4, e3, e4, ⟨u, Gu, rfl, hu, rfl⟩, c5, c6, F5, F6, e5, e6, ⟨rfl, rfl⟩, v, Gv, rfl, hv, rfl⟩, n1, n2⟩ := h
 subst e5 e6 e3 e4
 simp at e1 e2
 obtain ⟨_, rfl, _, rfl⟩ := e1
 obtain rfl := am ai hu
 obtain rfl := am ai hv
 subst e2
 simp only [List.append_nil, List.nil_append] at n1 n2
 refine ⟨hu.base' (fun b hb => n2 b (by simp [hb])), hv.base' (fun b hb => n2 b (by simp [hb])), fun c h1 h2 => (List.nodup_append.1 n1).2.2 c (aA.2 h1) c (aA.2 h2) rfl⟩
theorem qK {B : Nat} {w : World} {p : Pk} {uh ub : Value} (h1 : Own af 3 B w uh p.hd []) (h2 : Own af 3 B w ub p.bd []) (hd : ∀ b, uh.ownBlock = some b → ub.ownBlock ≠ some b) : aC oPk B w [.int .i64 p.el, uh, .int .i64 p.tag, ub] p := by
 refine ⟨uh.ownBlock.toList ++ ub.ownBlock.toList, ⟨[_], _, [], _, rfl, rfl, ⟨rfl, rfl⟩, [uh], _, uh.ownBlock.toList, ub.ownBlock.toList, rfl, rfl, ⟨uh, [], rfl, h1.base (Nat.zero_le _), by simp⟩, [_], [ub], [], ub.ownBlock.toList, rfl, rfl, ⟨rfl, rfl⟩, ⟨ub, [], rfl, h2.base (Nat.zero_le _), by simp⟩⟩, ?_, fun b hb => ?_⟩
 ·rw [List.nodup_append]
  refine ⟨bQ _, bQ _, fun a ha b hb e => ?_⟩
  subst e
  exact hd a (aA.1 ha) (aA.1 hb)
 ·rcases List.mem_append.1 hb with hb | hb
  ·exact (h1.top b (aA.1 hb)).1
  ·exact (h2.top b (aA.1 hb)).1
theorem Own.cutAt {α : Type} {T : Ty α} {e B g n c : Nat} {w : World} {xs : List α} {G : List Nat} (h : Own T e B w (.slice (some ⟨g, 0, none⟩) n c) xs G) (q : Nat) (hq : q ≤ xs.length) : ∃ F, Own T e B w (.slice (some ⟨g, 0, none⟩) q c) (xs.take q) F ∧ ∃ F2, G = F ++ F2 := by
 have hlen : (xs.take q).length = q := by simp; omega
 obtain ⟨cs, ⟨hl0, hrow⟩, h2, h3⟩ := h
 obtain ⟨c1, c2, F1, F2, rfl, rfl, hl, k1, k2⟩ := Ty.els_cut h2 q hq
 rcases hrow with ⟨e1, _⟩ | ⟨g', cap, cur, e1, hB, hh, hn, hcm, hsz, htk⟩
 ·cases e1
 ·injection e1 with e1 e2 e3
  injection e1 with e1
  injection e1 with e1 _ _
  subst e1 e2 e3
  refine ⟨F1, ⟨c1, ⟨by rw [hlen, hl], .inr ⟨g, c, cur, by rw [hlen], hB, hh, by omega, hcm, hsz, ?_⟩⟩, k1, fun b hb hm => h3 b hb (List.mem_append_left _ hm)⟩, F2, rfl⟩
  have := congrArg (List.take (q * T.k)) htk
  rw [List.take_take, Nat.min_eq_left (Nat.mul_le_mul_right _ hq), ← hl, List.take_left] at this
  rw [hlen, ← hl]; exact this
theorem Own.intTake {e B g n c : Nat} {w : World} {xs : List Int} (h : Own af e B w (.slice (some ⟨g, 0, none⟩) n c) xs []) (q : Nat) (hq : q ≤ xs.length) : Own af e B w (.slice (some ⟨g, 0, none⟩) q c) (xs.take q) [] := by
 obtain ⟨F, h1, _⟩ := h.cutAt q hq
 obtain rfl := am ai h1
 exact h1
def jI (B g b3 q : Nat) (w0 w : World) : Prop :=
 ∃ (k : Pk) (uh ub : Value), w.heap[b3]? = some (.cells #[.int .i64 k.el, uh, .int .i64 k.tag, ub] 72 (0, 0)) ∧ Own af 3 (b3 + 2) w uh k.hd [] ∧ Own af 3 (b3 + 2) w ub k.bd [] ∧ (∀ b, uh.ownBlock = some b → ub.ownBlock ≠ some b) ∧ Rdr B w g q ∧ Tch [g] w0 w ∧ g < b3 ∧ b3 = w0.heap.size ∧
  w.heap[b3 + 1]? = some (.cells #[.int .i64 0, .slice none 0 0, .int .i64 0, .slice none 0 0] 72 (0, 0))
def SpDr (B g p n : Nat) (w : World) (e : Ending) (w' : World) : Prop :=
 ∃ (k : Pk) (q : Nat) (uh ub : Value), e = .returned (.agg #[.int .i64 k.el, uh, .int .i64 k.tag, ub]) ∧ q ≤ p + n ∧ Rdr B w' g q ∧ Tch [g] w w' ∧ aC oPk w.heap.size w' [.int .i64 k.el, uh, .int .i64 k.tag, ub] k
section
variable {B g b3 q q' : Nat} {w0 w w' : World}
theorem jI.tch (h : jI B g b3 q w0 w) (hr : Rdr B w' g q') (ht : Tch [g] w w') : jI B g b3 q' w0 w' := by
 obtain ⟨k, uh, ub, h1, h2, h3, h4, h5, h6, h7, h8, h9⟩ := h
 have kp : ∀ {v : Value} {l : List Int}, Own af 3 (b3 + 2) w v l [] → Own af 3 (b3 + 2) w' v l [] := fun ho =>
  ho.keep (fun b hb => ht.block b (ho.top b hb).2 (fun hm => by have := (ho.top b hb).1; simp at hm; omega)) (fun _ h => by cases h)
 exact ⟨k, uh, ub, ht.row h1 (by simp; omega), kp h2, kp h3, h4, hr, h6.trans ht, h7, h8, ht.row h9 (by simp; omega)⟩
end
theorem aU {w : World} {p : Addr} {u : Value} {b : Nat} (hb : b ≠ p.block) : (w.setCell p u).heap[b]? = w.heap[b]? := Below.heap_setCell _ _ _ _ hb
section
variable {B g b3 q : Nat} {w0 w : World} {k : Pk} {uh ub : Value}
def PkS (B g b3 q : Nat) (w0 w : World) (k : Pk) (uh ub : Value) : Prop :=
 w.heap[b3]? = some (.cells #[.int .i64 k.el, uh, .int .i64 k.tag, ub] 72 (0, 0)) ∧ Own af 3 (b3 + 2) w uh k.hd [] ∧ Own af 3 (b3 + 2) w ub k.bd [] ∧ (∀ b, uh.ownBlock = some b → ub.ownBlock ≠ some b) ∧ Rdr B w g q ∧ Tch [g] w0 w ∧ g < b3 ∧ b3 = w0.heap.size ∧
  w.heap[b3 + 1]? = some (.cells #[.int .i64 0, .slice none 0 0, .int .i64 0, .slice none 0 0] 72 (0, 0))
theorem PkS.st (h : PkS B g b3 q w0 w k uh ub) : jI B g b3 q w0 w := ⟨k, uh, ub, h⟩
theorem PkS.tch {q' : Nat} {w' : World} (h : PkS B g b3 q w0 w k uh ub) (hr : Rdr B w' g q') (ht : Tch [g] w w') : PkS B g b3 q' w0 w' k uh ub := by
 obtain ⟨h1, h2, h3, h4, h5, h6, h7, h8, h9⟩ := h
 have kp : ∀ {v : Value} {l : List Int}, Own af 3 (b3 + 2) w v l [] → Own af 3 (b3 + 2) w' v l [] := fun ho =>
  ho.keep (fun b hb => ht.block b (ho.top b hb).2 (fun hm => by have := (ho.top b hb).1; simp at hm; omega)) (fun _ h => by cases h)
 exact ⟨ht.row h1 (by simp; omega), kp h2, kp h3, h4, hr, h6.trans ht, h7, h8, ht.row h9 (by simp; omega)⟩
theorem PkS.box (h : PkS B g b3 q w0 w k uh ub) (i : Nat) (u : Value) (k' : Pk) (uh' ub' : Value) (hrow : (#[Value.int .i64 k.el, uh, .int .i64 k.tag, ub] : Array Value).setIfInBounds i u = #[.int .i64 k'.el, uh', .int .i64 k'.tag, ub'])
  (hh : Own af 3 (b3 + 2) w uh' k'.hd []) (hb : Own af 3 (b3 + 2) w ub' k'.bd []) (hd : ∀ b, uh'.ownBlock = some b → ub'.ownBlock ≠ some b) : jI B g b3 q w0 (w.setCell ⟨b3, i, none⟩ u) := by
 obtain ⟨h1, h2, h3, h4, h5, h6, h7, h8, h9⟩ := h
 have kp : ∀ {v : Value} {l : List Int}, Own af 3 (b3 + 2) w v l [] → Own af 3 (b3 + 2) (w.setCell ⟨b3, i, none⟩ u) v l [] := fun ho =>
  ho.keep (fun b hb => aU (by have := (ho.top b hb).1; dsimp only; omega)) (fun _ h => by cases h)
 refine ⟨k', uh', ub', by rw [aB i u h1, hrow], kp hh, kp hb, hd, ?_, ?_, h7, h8, (aU (by dsimp only; omega)).trans h9⟩
 ·exact h5.below (n := g + 1) (ah.setCell (by dsimp only; omega) _) (by omega) (by have := h5.lt.1; omega)
 ·exact h6.setCell (.inr (by dsimp only; omega)) _
theorem PkS.hdSet {gh n c : Nat} {x : Int} (h : PkS B g b3 q w0 w k (.slice (some ⟨gh, 0, none⟩) n c) ub) (i : Nat) : jI B g b3 q w0 (w.setCell ⟨gh, i, none⟩ (.int .i64 x)) := by
 obtain ⟨h1, h2, h3, h4, h5, h6, h7, h8, h9⟩ := h
 have hgh := (h2.top gh rfl).1
 refine ⟨⟨k.el, k.hd.set i x, k.tag, k.bd⟩, _, _, (aU (by dsimp only; omega)).trans h1, h2.int_set x, h3.keep (fun b hb => aU (fun e => h4 gh rfl (by rw [hb, e]))) (fun _ h => by cases h), h4, ?_, ?_, h7, h8, (aU (by dsimp only; omega)).trans h9⟩
 ·exact h5.below (n := g + 1) (ah.setCell (by dsimp only; omega) _) (by omega) (by have := h5.lt.1; omega)
 ·exact h6.setCell (.inr (by dsimp only; omega)) _
theorem PkS.bdSet {gh n c : Nat} {x : Int} (h : PkS B g b3 q w0 w k uh (.slice (some ⟨gh, 0, none⟩) n c)) (i : Nat) : jI B g b3 q w0 (w.setCell ⟨gh, i, none⟩ (.int .i64 x)) := by
 obtain ⟨h1, h2, h3, h4, h5, h6, h7, h8, h9⟩ := h
 have hgh := (h3.top gh rfl).1
 refine ⟨⟨k.el, k.hd, k.tag, k.bd.set i x⟩, _, _, (aU (by dsimp only; omega)).trans h1, h2.keep (fun b hb => aU (fun e => h4 b hb (by rw [e]; rfl))) (fun _ h => by cases h), h3.int_set x, h4, ?_, ?_, h7, h8, (aU (by dsimp only; omega)).trans h9⟩
 ·exact h5.below (n := g + 1) (ah.setCell (by dsimp only; omega) _) (by omega) (by have := h5.lt.1; omega)
 ·exact h6.setCell (.inr (by dsimp only; omega)) _
theorem Own.intAt {e C gh n c : Nat} {xs : List Int} (h : Own af e C w (.slice (some ⟨gh, 0, none⟩) n c) xs []) {j : Nat} (hj : j < xs.length) : ∃ x, w.cell? ⟨gh, j, none⟩ = some (.int .i64 x) ∧ w.frozen? ⟨gh, j, none⟩ = false ∧ gh < w.heap.size := by
 obtain ⟨x, hx⟩ := ak hj
 obtain ⟨g2, e1, _, h2, h3, h4⟩ := h.int hx
 injection e1 with e1
 injection e1 with e1 _ _
 subst e1
 exact ⟨x, h3, h4 j, h2⟩
theorem PkS.hdGrow {w' : World} {v' : Value} {k' : Pk} (h : PkS B g b3 q w0 w k uh ub) (ho : Own af 3 (b3 + 2) w' v' k'.hd []) (hg : w.grownBy w' uh.ownBlock) (hv : v'.ownBlock = uh.ownBlock ∨ v'.ownBlock = some w.heap.size) (h1' : k'.el = k.el) (h2' : k'.tag = k.tag) (h3' : k'.bd = k.bd) :
  w'.heap[b3]? = some (.cells #[.int .i64 k.el, uh, .int .i64 k.tag, ub] 72 (0, 0)) ∧ jI B g b3 q w0 (w'.setCell ⟨b3, 1, none⟩ v') := by
 obtain ⟨h1, h2, h3, h4, h5, h6, h7, h8, h9⟩ := h
 have hne : ∀ b, b < b3 + 2 → uh.ownBlock ≠ some b := fun b hb e => by have := (h2.top b e).1; omega
 have r3 := au hg h1 (hne _ (by omega))
 have r4 := au hg h9 (hne _ (by omega))
 have hub : Own af 3 (b3 + 2) w' ub k.bd [] := h3.keep (fun b hb => hg.block b (h3.top b hb).2 (fun e => h4 b e.symm hb)) (fun _ h => by cases h)
 have hb : Below (b3 + 2) w w' := (ah).grown hg (by have := (aL h9); omega) (fun b hb => (h2.top b hb).1)
 have hd : ∀ b, v'.ownBlock = some b → ub.ownBlock ≠ some b := fun b e1 e2 => by
  rcases hv with hv | hv
  ·exact h4 b (by rw [← hv]; exact e1) e2
  ·rw [hv] at e1; injection e1 with e1
   have := (h3.top b e2).2; omega
 have st : PkS B g b3 q w0 w' k uh ub → jI B g b3 q w0 (w'.setCell ⟨b3, 1, none⟩ v') := fun hs =>
  hs.box 1 v' k' v' ub (by rw [h1', h2']; rfl) ho (by rw [h3']; exact hub) hd
 refine ⟨r3, ?_⟩
 have kp : ∀ {v : Value} {l : List Int}, Own af 3 (b3 + 2) w' v l [] → Own af 3 (b3 + 2) (w'.setCell ⟨b3, 1, none⟩ v') v l [] := fun ho =>
  ho.keep (fun b hb => aU (by have := (ho.top b hb).1; dsimp only; omega)) (fun _ h => by cases h)
 have hr : Rdr B w' g q := h5.below hb (by omega) (by have := h5.lt.1; omega)
 have ht : Tch [g] w0 w' := ⟨hb.os.trans h6.os, hb.tape.trans h6.tape, hb.output.trans h6.output, Nat.le_trans h6.size hb.size, fun k hk hn => (hb.block k (by omega)).trans (h6.block k hk hn)⟩
 refine ⟨k', v', ub, by rw [aB 1 v' r3]; rw [h1', h2']; rfl, kp ho, by rw [h3']; exact kp hub, hd, ?_, ht.setCell (.inr (by dsimp only; omega)) _, h7, h8, (aU (by dsimp only; omega)).trans r4⟩
 exact hr.below (n := g + 1) (ah.setCell (by dsimp only; omega) _) (by omega) (by have := hr.lt.1; omega)
theorem PkS.start {t0 : Nat} {a0 a1 a2 a3 : Value} (hrow : w.heap[b3]? = some (.cells #[a0, a1, a2, a3] 72 (0, 0))) (h1 : Own af 3 (b3 + 2) w uh k.hd []) (h2 : Own af 3 (b3 + 2) w ub k.bd []) (h4 : ∀ b, uh.ownBlock = some b → ub.ownBlock ≠ some b) (hr : Rdr B w g q) (ht : Tch [g] w0 w) (hg : g < b3) (hb : b3 = w0.heap.size)
  (hz : w.heap[b3 + 1]? = some (.cells #[.int .i64 0, .slice none 0 0, .int .i64 0, .slice none 0 0] 72 (0, 0))) (_ : t0 = 0) :
  PkS B g b3 q w0 ((((w.setCell ⟨b3, 0, none⟩ (.int .i64 k.el)).setCell ⟨b3, 1, none⟩ uh).setCell ⟨b3, 2, none⟩ (.int .i64 k.tag)).setCell ⟨b3, 3, none⟩ ub) k uh ub := by
 refine ⟨mM _ _ _ _ hrow, h1.keep (fun b hb => dS b (by have := (h1.top b hb).1; omega)) (fun _ h => by cases h), h2.keep (fun b hb => dS b (by have := (h2.top b hb).1; omega)) (fun _ h => by cases h), h4, ?_, ?_, hg, hb, (dS _ (by omega)).trans hz⟩
 ·refine hr.below (n := g + 1) ?_ (by omega) (by have := hr.lt.1; omega)
  repeat (refine Below.setCell ?_ (by dsimp only; omega) _)
  exact ah
 ·repeat (refine Tch.setCell ?_ (.inr (by dsimp only; omega)) _)
  exact ht
end
theorem mo (B : Nat) (k : Pk) (vh vb : Value) (w : World) (g p : Nat) (h : Rdr B w g p) (hp : p ≤ 900000) (h1 : SlB af w.heap.size w vh k.hd) (h2 : SlB af w.heap.size w vb k.bd) (hk : pkB k = true) :
  Calls Tryz.prog 75 #[.pointer (some ⟨g, 0, none⟩), .agg #[.int .i64 k.el, vh, .int .i64 k.tag, vb]] w (SpDr B g p 20 w) := by
 obtain ⟨i0, hi, hz0, hz1, hz2⟩ := info_parts aY
 obtain ⟨_, ⟨hl9, _⟩, ⟨hl6, _⟩, _⟩ := aD.1 hk
 have lh1 : 9 ≤ k.hd.length := by omega
 have lh2 : k.hd.length ≤ 9 := by omega
 have lb1 : 6 ≤ k.bd.length := by omega
 have lb2 : k.bd.length ≤ 6 := by omega
 have H1 := hid (fun (wx : World) (hb : Below w.heap.size w wx) => h1.go hb)
 have H2 := hid (fun (wx : World) (hb : Below w.heap.size w wx) => h2.go hb)
 obtain ⟨Ah, ch, rfl, _, _, _⟩ := h1.form
 obtain ⟨Ab, cb, rfl, _, _, _⟩ := h2.form
 have hgw := h.lt.2
 clear h1 h2 hk hl9 hl6
 go_enter Tryz.func75, Tryz.ntmps75
 go_upto_region 1 with fail
 generalize hgw' : World.alloc (World.alloc w _) _ = W
 obtain ⟨e0, e1, hb, sW⟩ := iB hgw'
 have hr := h.go hb
 have Hb := hid hb
 obtain ⟨k0, k1, k2, k3, _⟩ := aN e0
 have z0 : w.heap.size < W.heap.size := by omega
 clear hgw' hb h
 go_wp2_with fail
 refine (dZ k _ _ _ (H1.out _ Hb.out) (H2.out _ Hb.out) (by omega) (by omega)).mono ?_
 rintro e w1 ⟨uh, ub, rfl, n1, hb1⟩
 obtain ⟨Bh, dh, Bb, db, rfl, rfl⟩ := cQ n1
 obtain ⟨o1, o2, o3⟩ := pQ n1
 obtain ⟨_, hx0⟩ := ak (xs := k.hd) (k := 0) (by omega)
 obtain ⟨gh, rfl, _⟩ := o1.int hx0
 obtain ⟨_, hy0⟩ := ak (xs := k.bd) (k := 0) (by omega)
 obtain ⟨gb, rfl, _⟩ := o2.int hy0
 have hdb : k.bd.length ≤ db := by obtain ⟨_, _, he, hc, _⟩ := o2.form; injection he with _ _ he; omega
 rw [sW] at o1 o2
 have e0' := ac hb1 e0
 have hst := PkS.start (B := B) (g := g) (q := p) (w0 := w) (k := k) (t0 := 0) e0' o1 o2 o3 (hr.go hb1) (Tch.of (bt Hb.out hb1)) hgw rfl (ac hb1 e1) rfl
 obtain ⟨k0, k1, k2, k3, kf⟩ := aN e0'
 have kf0 := kf 0; have kf1 := kf 1; have kf2 := kf 2; have kf3 := kf 3
 have z1 : w.heap.size < w1.heap.size := (aL e0')
 have Hst := hid hst
 clear hst e0 e1 e0' n1 hb1 hr o1 o2 o3 hx0 hy0 kf H1 H2 Hb sW z0
 go_upto_region 2 with fail
 generalize hgw2 : World.setCell (World.setCell (World.setCell (World.setCell w1 _ _) _ _) _ _) _ _ = W2
 have HP := Hst
 rw [hgw2] at HP
 clear hgw2 Hst k0 k1 k2 k3 kf0 kf1 kf2 kf3 z1
 go_cut [8] (fun s8 wx => ∃ m : Int, s8 = .int .i64 m ∧ 0 ≤ m ∧ m < 16 ∧ PkS B g w.heap.size (p + 1) w wx k (.slice (some ⟨gh, 0, none⟩) k.hd.length dh) (.slice (some ⟨gb, 0, none⟩) k.bd.length db))
 case first =>
  go_wp2_with fail
  refine (ay B _ g _ _ HP.out.2.2.2.2.1 (by omega)).mono ?_
  rintro e w5 ⟨m, rfl, m0, m1, _, hr, hg⟩
  have m1 := m1 (by omega)
  have HP5 := hid (HP.out.tch hr (bP hg))
  clear hr hg HP
  go_wp2_with fail
  go_meet
  exact ⟨m, rfl, m0, m1, HP5.out⟩
 case rest =>
  obtain ⟨m, rfl, m0, m1, hst⟩ := hcut
  clear HP
  have HP := hid hst
  clear hst
  rename_i hK
  refine hK _ _ ?_
  go_cut [3] (fun s3 wx => s3 = .pointer (some ⟨w.heap.size, 0, none⟩) ∧ ∃ q, q ≤ p + 12 ∧ jI B g w.heap.size q w wx)
  case first =>
   obtain ⟨k0, k1, k2, k3, kf⟩ := aN HP.out.1
   have kf0 := kf 0; have kf1 := kf 1; have kf2 := kf 2; have kf3 := kf 3
   have hrow := HP.out.1
   have zw := (aL HP.out.1)
   have HS := hid (fun (wx : World) (hT : Tch [g] wc wx) => And.intro (aN (hT.row hrow (by simp; omega))) (show w.heap.size < wx.heap.size by have := hT.size; omega))
   clear kf hrow
   have hm : m = 0 ∨ m = 1 ∨ m = 2 ∨ m = 3 ∨ m = 4 ∨ m = 5 ∨ 6 ≤ m := by omega
   rcases hm with rfl | rfl | rfl | rfl | rfl | rfl | hm
   ·go_wp2_with fail
    clear k0 k1 k2 k3 kf0 kf1 kf2 kf3
    refine rgN [g] 11 (by kernel_rfl) rfl (fun | none, _, _, _, _ => id | some _, _, _, _, _ => id) fun wd hH hbwd swd => ?_
    simp only [pw]
    refine ag [0, 1, 2, 3, 4, 5, 7] ?_
    iterate 7 (refine ra HS.out rfl (by kernel_rfl) rfl (fun _ f => by go_simp; try with_reducible rfl) ?_; try simp only [pw])
    refine rq 6 (by kernel_rfl) rfl fun K hK => ?_
    have fC := HS.out _ hH
    go_simp
    clear fC
    (go_at_call 27; refine (ay B _ g _ _ (HP.out.2.2.2.2.1.go hbwd) (by omega)).mono ?_; rintro e w5 ⟨m2, rfl, m20, m21, _, hr5, hg5⟩; have m21 := m21 (by omega); obtain ⟨j, rfl⟩ := Int.eq_ofNat_of_zero_le m20; have hbT := hH.trans (bP hg5); have Hr5 := hid hr5; clear hr5 hg5)
    refine hK.out _ _ (hbT) (fun hH => ?_)
    clear hK K
    refine rq 8 (by kernel_rfl) rfl fun K hK => ?_
    have fC := HS.out _ hH
    go_simp
    clear fC
    (go_at_call 123; refine (fi B _ g _ Hr5.out (by omega)).mono ?_; rintro e w6 ⟨s, q6, rfl, _, hq6, hr6, ht6⟩; have hbT := hH.trans ht6; have HP6 := hid (HP.out.tch hr6 hbT); obtain ⟨xo, hcx, hfx, hgx⟩ := HP6.out.2.1.intAt (j := j) (by omega); clear hr6 ht6)
    refine hK.out _ _ (hbT) (fun hH => ?_)
    clear hK K
    refine tr 9 HS.out rfl (by kernel_rfl) rfl (fun _ f => by go_simp; try with_reducible rfl) ?_
    try simp only [pw]
    refine rz 10 (by kernel_rfl) rfl fun K hK => ?_
    have fC := HS.out _ hH
    go_simp
    clear fC
    refine hK.out _ _ ?_
    clear hK K
    go_wp2_with fail
    go_meet
    exact ⟨rfl, q6, by omega, HP6.out.hdSet j⟩
   ·go_wp2_with fail
    clear k0 k1 k2 k3 kf0 kf1 kf2 kf3
    refine rgN [g] 11 (by kernel_rfl) rfl (fun | none, _, _, _, _ => id | some _, _, _, _, _ => id) fun wd hH hbwd swd => ?_
    simp only [pw]
    refine ag [0, 1, 2, 3, 4, 5, 7] ?_
    iterate 7 (refine ra HS.out rfl (by kernel_rfl) rfl (fun _ f => by go_simp; try with_reducible rfl) ?_; try simp only [pw])
    refine rq 6 (by kernel_rfl) rfl fun K hK => ?_
    have fC := HS.out _ hH
    go_simp
    clear fC
    (go_at_call 27; refine (ay B _ g _ _ (HP.out.2.2.2.2.1.go hbwd) (by omega)).mono ?_; rintro e w5 ⟨m2, rfl, m20, m21, _, hr5, hg5⟩; have m21 := m21 (by omega); obtain ⟨j, rfl⟩ := Int.eq_ofNat_of_zero_le m20; have hbT := hH.trans (bP hg5); have Hr5 := hid hr5; clear hr5 hg5)
    refine hK.out _ _ (hbT) (fun hH => ?_)
    clear hK K
    refine rq 8 (by kernel_rfl) rfl fun K hK => ?_
    have fC := HS.out _ hH
    go_simp
    clear fC
    (go_at_call 123; refine (fi B _ g _ Hr5.out (by omega)).mono ?_; rintro e w6 ⟨s, q6, rfl, _, hq6, hr6, ht6⟩; have hbT := hH.trans ht6; have HP6 := hid (HP.out.tch hr6 hbT); obtain ⟨xo, hcx, hfx, hgx⟩ := HP6.out.2.2.1.intAt (j := j) (by omega); clear hr6 ht6)
    refine hK.out _ _ (hbT) (fun hH => ?_)
    clear hK K
    refine tr 9 HS.out rfl (by kernel_rfl) rfl (fun _ f => by go_simp; try with_reducible rfl) ?_
    try simp only [pw]
    refine rz 10 (by kernel_rfl) rfl fun K hK => ?_
    have fC := HS.out _ hH
    go_simp
    clear fC
    refine hK.out _ _ ?_
    clear hK K
    go_wp2_with fail
    go_meet
    exact ⟨rfl, q6, by omega, HP6.out.bdSet j⟩
   ·go_wp2_with fail
    refine (fi B _ g _ HP.out.2.2.2.2.1 (by omega)).mono ?_
    rintro e w6 ⟨s, q6, rfl, _, hq6, hr6, ht6⟩
    have HP6 := hid (HP.out.tch hr6 ht6)
    obtain ⟨y0, y1, y2, y3, yf⟩ := aN HP6.out.1
    have yf2 := yf 2
    clear k0 k1 k2 k3 kf0 kf1 kf2 kf3 hr6 ht6 yf HS
    go_wp2_with fail
    go_meet
    exact ⟨rfl, q6, by omega, HP6.out.box 2 _ ⟨k.el, k.hd, s, k.bd⟩ _ _ rfl HP6.out.2.1 HP6.out.2.2.1 HP6.out.2.2.2.1⟩
   ·go_wp2_with fail
    refine (lw B _ g _ HP.out.2.2.2.2.1 (by omega)).mono ?_
    rintro e w6 ⟨s, q6, rfl, _, hq6, hr6, ht6⟩
    have HP6 := hid (HP.out.tch hr6 ht6)
    obtain ⟨y0, y1, y2, y3, yf⟩ := aN HP6.out.1
    have yf0 := yf 0
    clear k0 k1 k2 k3 kf0 kf1 kf2 kf3 hr6 ht6 yf HS
    go_wp2_with fail
    go_meet
    exact ⟨rfl, q6, by omega, HP6.out.box 0 _ ⟨s, k.hd, k.tag, k.bd⟩ _ _ rfl HP6.out.2.1 HP6.out.2.2.1 HP6.out.2.2.2.1⟩
   ·clear HS
    go_wp2_with (at_builtin; go_loud (refine aw rfl (.tmp 54) (.tmp 55) 67 rfl af ai (B := w.heap.size + 2) (v := .slice (some ⟨gh, 0, none⟩) k.hd.length dh) (xs := k.hd) (ys := [1]) Tryz.underlying67 hi hz0 hz1 hz2 rfl (by decide) (by decide) rfl (HP.out.2.1.go (ab _ _)) _ 1 1 rfl (Sl.box' (T := af) (x := 1) _ ?_ ⟨rfl, rfl⟩) ?_ ?_ ?_; rfl; (simp; omega); (simp; omega); intro v5 w5 ho5 hg5 hv5; have HPa := hid (HP.out.tch (HP.out.2.2.2.2.1.go (ab _ (.cells #[.int .i64 1] 3))) (Tch.of (ab _ _))); obtain ⟨hrw, hfin⟩ := HPa.out.hdGrow (k' := ⟨k.el, k.hd ++ [1], k.tag, k.bd⟩) ho5 hg5 hv5 rfl rfl rfl; obtain ⟨A5, c5, rfl, _, _, _⟩ := ho5.form; obtain ⟨y0, y1, y2, y3, yf⟩ := aN hrw; have yf1 := yf 1; have hb5 := (aL hrw); clear yf k0 k1 k2 k3 kf0 kf1 kf2 kf3))
    go_meet
    exact ⟨rfl, p + 1, by omega, by rw [List.length_append] at hfin; exact hfin⟩
   ·have f1 : IntKind.i64.wrap ((k.bd.length : Int) + 1) = (k.bd.length : Int) + 1 := aZ (by omega) (by omega)
    go_wp2_with fail
    clear k0 k1 k2 k3 kf0 kf1 kf2 kf3
    refine rgN [g] 11 (by kernel_rfl) rfl (fun | none, _, _, _, _ => id | some _, _, _, _, _ => id) fun wd hH hbwd swd => ?_
    simp only [pw]
    refine ag [0, 1, 2, 3, 4, 5, 6] ?_
    iterate 7 (refine ra HS.out rfl (by kernel_rfl) rfl (fun _ f => by go_simp; try with_reducible rfl) ?_; try simp only [pw])
    refine rq 7 (by kernel_rfl) rfl fun K hK => ?_
    have fC := HS.out _ hH
    go_simp
    clear fC
    (go_at_call 27; refine (ay B _ g _ _ (HP.out.2.2.2.2.1.go hbwd) (by omega)).mono ?_; rintro e w5 ⟨m2, rfl, m20, m21, _, hr5, hg5⟩; have m21 := m21 (by omega); obtain ⟨j, rfl⟩ := Int.eq_ofNat_of_zero_le m20; have hbT := hH.trans (bP hg5); have HP6 := hid (HP.out.tch hr5 hbT); have hjc : j ≤ db := (by omega); obtain ⟨y0, y1, y2, y3, yf⟩ := aN HP6.out.1; have yf3 := yf 3; have hb36 := (aL HP6.out.1); clear hr5 hg5)
    refine hK.out _ _ (hbT) (fun hH => ?_)
    clear hK K
    refine ag [8, 9] ?_
    iterate 2 (refine ra HS.out rfl (by kernel_rfl) rfl (fun _ f => by go_simp; try with_reducible rfl) ?_; try simp only [pw])
    refine rz 10 (by kernel_rfl) rfl fun K hK => ?_
    have fC := HS.out _ hH
    go_simp
    clear fC
    refine hK.out _ _ ?_
    clear hK K
    go_wp2_with fail
    go_meet
    exact ⟨rfl, p + 1 + 1, by omega, HP6.out.box 3 _ ⟨k.el, k.hd, k.tag, k.bd.take j⟩ _ _ rfl HP6.out.2.1 (HP6.out.2.2.1.intTake j (by omega)) HP6.out.2.2.2.1⟩
   ·have b0 : (m == 0) = false := by simp; omega
    have b1 : (m == 1) = false := by simp; omega
    have b2 : (m == 2) = false := by simp; omega
    have b3 : (m == 3) = false := by simp; omega
    have b4 : (m == 4) = false := by simp; omega
    have b5 : (m == 5) = false := by simp; omega
    go_wp2_with fail
    go_meet
    exact ⟨rfl, _, by omega, HP.out.st⟩
  case rest =>
   obtain ⟨rfl, q, hq, hst⟩ := hcut
   obtain ⟨k', uh', ub', r1, r2, r3, r4, r5, r6, r7, r8, r9⟩ := hst
   obtain ⟨A7, c7, rfl, _, _, _⟩ := r2.form
   obtain ⟨A8, c8, rfl, _, _, _⟩ := r3.form
   obtain ⟨y0, y1, y2, y3, _⟩ := aN r1
   obtain ⟨z0, z1, z2, z3, zf⟩ := aN r9
   have zf0 := zf 0; have zf1 := zf 1; have zf2 := zf 2; have zf3 := zf 3
   have zw := (aL r9)
   have R2 := hid r2; have R3 := hid r3; have R4 := hid r4; have R5 := hid r5; have R6 := hid r6
   clear zf r1 r2 r3 r4 r5 r6 r8 r9 HP
   go_wp2_with fail
   refine bodyPost_ret (v := .agg #[.int .i64 k'.el, .slice A7 k'.hd.length c7, .int .i64 k'.tag, .slice A8 k'.bd.length c8]) (by simp [results, Tryz.results75, go_sem, z0, z1, z2, z3]) rfl ⟨k', q, _, _, rfl, by omega, ?_, ?_, ?_⟩
   ·refine R5.out.below (n := g + 1) ?_ (by omega) (by have := R5.out.lt.1; omega)
    repeat (refine Below.setCell ?_ (by dsimp only; omega) _)
    exact ah
   ·repeat (refine Tch.setCell ?_ (.inr (by dsimp only; omega)) _)
    exact R6.out
   ·refine aC.base (B := w.heap.size + 2) ?_ (by omega)
    repeat (refine aC.set ?_ (by dsimp only; omega))
    exact qK R2.out R3.out R4.out
end Go.Proofs.YtfaeojmndaplcaaGreatDoor
