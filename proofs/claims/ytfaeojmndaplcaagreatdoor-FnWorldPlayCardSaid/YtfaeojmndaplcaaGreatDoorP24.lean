/- Texts that the last file leans on (part 24). -/
import Derived.Test.YtfaeojmndaplcaaGreatDoorP22
import Derived.Test.YtfaeojmndaplcaaGreatDoorP23
import Derived.Test.YtfaeojmndaplcaaGreatDoorP6
import Derived.Test.YtfaeojmndaplcaaGreatDoorP8
import Derived.Test.YtfaeojmndaplcaaGreatDoorP9
set_option linter.unusedVariables false
set_option linter.unusedSimpArgs false
set_option maxHeartbeats 4000000
set_option maxRecDepth 100000
namespace Go.Proofs.YtfaeojmndaplcaaGreatDoor
open Go Go.RowKit
set_option maxHeartbeats 40000000
theorem dJ {P : Nat → Prop} {w : World} {a us up : Value} {m : Mx} (h : ∃ K, oMx.E w [a, us, up] m K ∧ K.Nodup ∧ ∀ b ∈ K, P b) : ∃ G, Own af 3 0 w us m.seen [] ∧ Own oPl 144 0 w up m.pool G ∧ (us.ownBlock.toList ++ (up.ownBlock.toList ++ G)).Nodup ∧ ∀ b ∈ us.ownBlock.toList ++ (up.ownBlock.toList ++ G), P b := by
 obtain ⟨F, ⟨c1, c2, F1, F2, e1, e2, ⟨rfl, rfl⟩, c3, c4, F3, F4, e3, e4, ⟨u, Gu, rfl, hu, rfl⟩, ⟨v, G, rfl, hv, rfl⟩⟩, n1, n2⟩ := h
 subst e3 e4
 simp at e1 e2
 obtain ⟨_, rfl, rfl⟩ := e1
 obtain rfl := am ai hu
 subst e2
 simp only [List.append_nil, List.append_assoc, List.nil_append] at n1 n2 ⊢
 exact ⟨G, hu, hv, n1, n2⟩
theorem jo {P : Nat → Prop} {w : World} {us up : Value} {m : Mx} {G : List Nat} (hu : Own af 3 0 w us m.seen []) (hv : Own oPl 144 0 w up m.pool G) (n1 : (us.ownBlock.toList ++ (up.ownBlock.toList ++ G)).Nodup) (n2 : ∀ b ∈ us.ownBlock.toList ++ (up.ownBlock.toList ++ G), P b) : ∃ K, oMx.E w [.int .i64 m.sec, us, up] m K ∧ K.Nodup ∧ ∀ b ∈ K, P b :=
 ⟨us.ownBlock.toList ++ (up.ownBlock.toList ++ G), ⟨[_], _, [], _, rfl, rfl, ⟨rfl, rfl⟩, [us], [up], us.ownBlock.toList, up.ownBlock.toList ++ G, rfl, rfl, ⟨us, [], rfl, hu, by simp⟩, ⟨up, G, rfl, hv, rfl⟩⟩, n1, n2⟩
theorem qL {w : World} {cs : List Value} {x : Pl} {F : List Nat} : oPl.E w cs x F ↔ ∃ c, cs = .int .i64 x.kind :: .int .i64 x.next :: c ∧ oPk.E w c x.pk F := by
 constructor
 ·rintro ⟨c1, c2, F1, F2, rfl, rfl, ⟨rfl, rfl⟩, c3, c4, F3, F4, rfl, rfl, ⟨rfl, rfl⟩, hp⟩
  exact ⟨c4, rfl, by simpa using hp⟩
 ·rintro ⟨c, rfl, hp⟩
  exact ⟨[_], _, [], F, rfl, by simp, ⟨rfl, rfl⟩, [_], c, [], F, rfl, by simp, ⟨rfl, rfl⟩, hp⟩
def MxS (B g b2 b4 q : Nat) (w0 w : World) (m : Mx) (us up : Value) : Prop :=
 w.heap[b4]? = some (.cells #[.int .i64 m.sec, us, up] 70 (0, 0)) ∧ (∃ K, oMx.E w [.int .i64 m.sec, us, up] m K ∧ K.Nodup ∧ ∀ b ∈ K, b2 < b ∧ b ≠ b4) ∧ Rdr B w g q ∧ Tch [g] w0 w ∧ g < b2 ∧ b2 = w0.heap.size ∧ b2 < b4 ∧
  w.heap[b2]? = some (.cells #[.int .i64 0, .slice none 0 0, .slice none 0 0] 70 (0, 0))
def MxDr (B g p n : Nat) (w : World) (e : Ending) (w' : World) : Prop :=
 ∃ (m : Mx) (q : Nat) (us up : Value), e = .returned (.agg #[.int .i64 m.sec, us, up]) ∧ q ≤ p + n ∧ Rdr B w' g q ∧ Tch [g] w w' ∧ aC oMx w.heap.size w' [.int .i64 m.sec, us, up] m
section
variable {B g b2 b4 q : Nat} {w0 w w' : World} {m : Mx} {us up : Value}
theorem MxS.tch {q' : Nat} (h : MxS B g b2 b4 q w0 w m us up) (hr : Rdr B w' g q') (ht : Tch [g] w w') : MxS B g b2 b4 q' w0 w' m us up := by
 obtain ⟨h1, ⟨K, k1, k2, k3⟩, h3, h4, h5, h6, h7, h8⟩ := h
 refine ⟨ht.row h1 (by simp; omega), ⟨K, oMx.keep k1 (fun b hb => ht.block b (oMx.lt k1 b hb) (fun hm => by have := (k3 b hb).1; simp at hm; omega)), k2, k3⟩, hr, h4.trans ht, h5, h6, h7, ht.row h8 (by simp; omega)⟩
theorem MxS.form (h : MxS B g b2 b4 q w0 w m us up) : ∃ A c A' c', us = .slice A m.seen.length c ∧ up = .slice A' m.pool.length c' := by
 obtain ⟨_, ⟨K, k1, k2, _⟩, _⟩ := h
 exact aQ (B := 0) ⟨K, k1, k2, fun _ _ => Nat.zero_le _⟩
theorem MxS.slB (h : MxS B g b2 b4 q w0 w m us up) : SlB af w.heap.size w us m.seen ∧ SlB tPl w.heap.size w up m.pool := by
 obtain ⟨_, ⟨K, k1, k2, _⟩, _⟩ := h
 exact aC.mx (B := 0) ⟨K, k1, k2, fun _ _ => Nat.zero_le _⟩
theorem qU {t : Nat} {a0 a1 a2 : Value} (c0 c1 c2 : Value) (h : w.heap[g]? = some (.cells #[a0, a1, a2] t (0, 0))) :
  (((w.setCell ⟨g, 0, none⟩ c0).setCell ⟨g, 1, none⟩ c1).setCell ⟨g, 2, none⟩ c2).heap[g]? = some (.cells #[c0, c1, c2] t (0, 0)) :=
 aB 2 c2 (aB 1 c1 (aB 0 c0 h))
theorem jC {c0 c1 c2 : Value} (b : Nat) (hb : b ≠ g) : (((w.setCell ⟨g, 0, none⟩ c0).setCell ⟨g, 1, none⟩ c1).setCell ⟨g, 2, none⟩ c2).heap[b]? = w.heap[b]? := by
 repeat rw [Below.heap_setCell _ _ _ _ hb]
theorem MxS.put {m' : Mx} {us' up' : Value} {n : Nat} (h : MxS B g b2 b4 q w0 w m us up) (hb : Below w.heap.size w w') (hn : aC oMx n w' [.int .i64 m'.sec, us', up'] m') (hnw : w.heap.size ≤ n) :
  MxS B g b2 b4 q w0 (((w'.setCell ⟨b4, 0, none⟩ (.int .i64 m'.sec)).setCell ⟨b4, 1, none⟩ us').setCell ⟨b4, 2, none⟩ up') m' us' up' := by
 obtain ⟨h1, _, h3, h4, h5, h6, h7, h8⟩ := h
 obtain ⟨K, k1, k2, k3⟩ := hn
 have h4w := (aL h1)
 have hr := h3.go hb
 refine ⟨qU _ _ _ (ac hb h1), ⟨K, oMx.keep k1 (fun b hb => jC b (by have := k3 b hb; omega)), k2, fun b hb => by have := k3 b hb; omega⟩, ?_, ?_, h5, h6, h7, (jC _ (by omega)).trans (ac hb h8)⟩
 ·refine hr.below (n := g + 1) ?_ (by omega) (by have := hr.lt.1; omega)
  repeat (refine Below.setCell ?_ (by dsimp only; omega) _)
  exact ah
 ·repeat (refine Tch.setCell ?_ (.inr (by dsimp only; omega)) _)
  exact h4.trans (Tch.of hb)
theorem MxS.box (h : MxS B g b2 b4 q w0 w m us up) (i : Nat) (u : Value) (m' : Mx) (us' up' : Value) (hrow : (#[Value.int .i64 m.sec, us, up] : Array Value).setIfInBounds i u = #[.int .i64 m'.sec, us', up'])
  (hk : ∃ K, oMx.E w [.int .i64 m'.sec, us', up'] m' K ∧ K.Nodup ∧ ∀ b ∈ K, b2 < b ∧ b ≠ b4) : MxS B g b2 b4 q w0 (w.setCell ⟨b4, i, none⟩ u) m' us' up' := by
 obtain ⟨h1, _, h3, h4, h5, h6, h7, h8⟩ := h
 refine ⟨by rw [aB i u h1, hrow], bc hk (by dsimp only; omega), ?_, h4.setCell (.inr (by dsimp only; omega)) _, h5, h6, h7, (aU (by dsimp only; omega)).trans h8⟩
 exact h3.below (n := g + 1) (ah.setCell (by dsimp only; omega) _) (by omega) (by have := h3.lt.1; omega)
theorem MxS.seen {v' : Value} {s : Int} (h : MxS B g b2 b4 q w0 w m us up) (ho : Own af 3 0 w' v' (m.seen ++ [s]) []) (hg : w.grownBy w' us.ownBlock) (hv : v'.ownBlock = us.ownBlock ∨ v'.ownBlock = some w.heap.size) :
  w'.heap[b4]? = some (.cells #[.int .i64 m.sec, us, up] 70 (0, 0)) ∧ MxS B g b2 b4 q w0 (w'.setCell ⟨b4, 1, none⟩ v') ⟨m.sec, m.seen ++ [s], m.pool⟩ v' up := by
 obtain ⟨h1, h2, h3, h4, h5, h6, h7, h8⟩ := h
 obtain ⟨G, hu, hp, n1, n2⟩ := dJ h2
 have h4w := (aL h1)
 have hlt : ∀ b ∈ us.ownBlock.toList ++ (up.ownBlock.toList ++ G), b < w.heap.size := by
  intro b hb'
  rcases List.mem_append.1 hb' with hb' | hb'
  ·exact (hu.top b (aA.1 hb')).2
  ·rcases List.mem_append.1 hb' with hb' | hb'
   ·exact (hp.top b (aA.1 hb')).2
   ·exact hp.lt b hb'
 have dis := (List.nodup_append.1 n1).2.2
 have hk : ∀ b, b ∈ up.ownBlock.toList ++ G → w'.heap[b]? = w.heap[b]? := fun b hm =>
  hg.block b (hlt b (List.mem_append_right _ hm)) (fun e => dis b (aA.2 e.symm) b hm rfl)
 have hus : ∀ b, us.ownBlock = some b → b2 < b ∧ b ≠ b4 := fun b e => n2 b (List.mem_append_left _ (aA.2 e))
 have r4 := au hg h1 (fun e => (hus _ e).2 rfl)
 have r2 := au hg h8 (fun e => by have := (hus _ e).1; omega)
 have hb : Below (b2 + 1) w w' := (ah).grown hg (by omega) (fun b hb => (hus b hb).1)
 have hr : Rdr B w' g q := h3.below hb (by omega) (by have := h3.lt.1; omega)
 have ht : Tch [g] w0 w' := ⟨hb.os.trans h4.os, hb.tape.trans h4.tape, hb.output.trans h4.output, Nat.le_trans h4.size hb.size, fun k hk hn => (hb.block k (by omega)).trans (h4.block k hk hn)⟩
 refine ⟨r4, by rw [aB 1 v' r4]; rfl, bc (jo (m := ⟨m.sec, m.seen ++ [s], m.pool⟩) ho (hp.keep (fun b hb' => hk b (List.mem_append_left _ (aA.2 hb'))) (fun b hb' => hk b (List.mem_append_right _ hb'))) ?_ ?_) (by dsimp only; omega), ?_, ht.setCell (.inr (by dsimp only; omega)) _, h5, h6, h7, (aU (by dsimp only; omega)).trans r2⟩
 ·have := cw (A := []) (F := us.ownBlock.toList) (F' := v'.ownBlock.toList) (C := up.ownBlock.toList ++ G) (by simpa using n1) (bQ _) (fun b hb' => by
   rcases hv with e | e
   ·rw [e] at hb'; exact .inl hb'
   ·rw [e] at hb'; simp at hb'; subst hb'
    exact .inr (fun hm => by have := hlt _ (by simpa using hm); omega))
  simpa using this
 ·intro b hb'
  rcases List.mem_append.1 hb' with hb' | hb'
  ·rcases hv with e | e
   ·exact n2 b (List.mem_append_left _ (by rw [← e]; exact hb'))
   ·rw [e] at hb'; simp at hb'; subst hb'; omega
  ·exact n2 b (List.mem_append_right _ hb')
 ·exact hr.below (n := g + 1) (ah.setCell (by dsimp only; omega) _) (by omega) (by have := hr.lt.1; omega)
theorem MxS.next {gp c j : Nat} {u : Int} (h : MxS B g b2 b4 q w0 w m us (.slice (some ⟨gp, 0, none⟩) m.pool.length c)) (hj : j < m.pool.length) :
  (∃ xo, w.cell? ⟨gp, j * 6 + 1, none⟩ = some (.int .i64 xo) ∧ w.frozen? ⟨gp, j * 6 + 1, none⟩ = false ∧ gp < w.heap.size) ∧ ∃ m', MxS B g b2 b4 q w0 (w.setCell ⟨gp, j * 6 + 1, none⟩ (.int .i64 u)) m' us (.slice (some ⟨gp, 0, none⟩) m'.pool.length c) := by
 obtain ⟨h1, h2, h3, h4, h5, h6, h7, h8⟩ := h
 obtain ⟨G, hu, hp, n1, n2⟩ := dJ h2
 obtain ⟨x, hx⟩ := ak hj
 obtain ⟨cx, F0, hE, hF0, hc, hS⟩ := Own.cell (u := .int .i64 u) hp hx (j := 1) (by decide)
 obtain ⟨c6, rfl, hk⟩ := qL.1 hE
 have hgp := n2 gp (by simp [Value.ownBlock])
 have hgw := (hp.top gp rfl).2
 have hS := hS ⟨x.kind, u, x.pk⟩ (fun w' h => by
  obtain ⟨c7, e7, h7⟩ := qL.1 h
  injection e7 with _ e7; injection e7 with _ e7; subst e7
  exact qL.2 ⟨c6, rfl, h7⟩)
 have hne : us.ownBlock ≠ some gp := fun e => by
  have := (List.nodup_append.1 n1).2.2 gp (aA.2 e) gp (by simp [Value.ownBlock]) rfl
  exact this
 refine ⟨⟨x.next, hc 1 _ rfl, hp.frozen _, hgw⟩, ⟨m.sec, m.seen, m.pool.set j ⟨x.kind, u, x.pk⟩⟩, (aU (by dsimp only; omega)).trans (by rw [List.length_set]; exact h1), ?_, ?_, h4.setCell (.inr (by dsimp only; omega)) _, h5, h6, h7, (aU (by dsimp only; omega)).trans h8⟩
 ·refine jo (m := ⟨m.sec, m.seen, m.pool.set j ⟨x.kind, u, x.pk⟩⟩) (hu.keep (fun b hb => aU (fun e => hne (by rw [hb, e]))) (fun _ h => by cases h)) (by rw [List.length_set]; exact hS) (by simpa [Value.ownBlock] using n1) (by simpa [Value.ownBlock] using n2)
 ·exact h3.below (n := g + 1) (ah.setCell (by dsimp only; omega) _) (by omega) (by have := h3.lt.1; omega)
end
theorem ko (s : Int) (hs : win s 1 996 = true) (w : World) : Calls Tryz.prog 59 #[.int .i64 s] w fun e w' => ∃ us up, e = .returned (.tuple #[.agg #[.int .i64 s, us, up], .bool true]) ∧ aC oMx w.heap.size w' [.int .i64 s, us, up] ⟨s, [], []⟩ ∧ Below w.heap.size w w' := by
 go_enter Tryz.func59, Tryz.ntmps59
 go_wp2_with (go_at_call 106; refine (cd _ _).mono ?_; rw [hs]; rintro e w' ⟨rfl, rfl⟩)
 generalize hgw : World.alloc (World.alloc (World.alloc w _) _) _ = W
 obtain ⟨e0, e1, e2, hb, sW⟩ := g9 hgw
 obtain ⟨q0, q1, q2, _⟩ := aE e0
 have zw : w.heap.size < W.heap.size := by omega
 refine bodyPost_ret (v := .tuple #[.agg #[.int .i64 s, .slice (some ⟨w.heap.size + 1, 0, none⟩) 0 0, .slice (some ⟨w.heap.size + 1 + 1, 0, none⟩) 0 0], .bool true]) (by simp [results, Tryz.results59, go_sem, q0, q1, q2]) rfl ⟨_, _, rfl, ?_, hb⟩
 exact jr (m := ⟨s, [], []⟩) (G := []) (bU e1 (by omega)) (bU e2 (by omega)) (by simp [Value.ownBlock]) (by simp [Value.ownBlock]; omega)
theorem qB (B : Nat) (w : World) (g p : Nat) (h : Rdr B w g p) (hp : p ≤ 900000) : Calls Tryz.prog 74 #[.pointer (some ⟨g, 0, none⟩)] w (MxDr B g p 1100 w) := by
 obtain ⟨i0, hi, hz0, hz1, hz2⟩ := info_parts aY
 have hgw := h.lt.2
 go_enter Tryz.func74, Tryz.ntmps74
 go_upto_region 1 with fail
 generalize hgw' : World.alloc w _ = W0
 obtain ⟨e0, hb0, s0⟩ := al hgw'
 have hr := h.go hb0
 have E0 := hid e0; have HT := hid (Tch.of (S := [g]) hb0)
 clear hgw' e0 hb0 h
 go_wp2_with fail
 with_reducible refine (g8 B _ g _ hr (by omega)).mono ?_
 rintro e w1 ⟨s, q1, rfl, hs, hq1, hr1, ht1⟩
 have Hs := hid hs
 replace HT := hid (HT.out.trans ht1)
 replace E0 := hid (ht1.row E0.out (by simp; omega))
 have s1 := ht1.size
 clear hs ht1 hr
 go_wp2_with fail
 with_reducible refine (ko s Hs.out _).mono ?_
 rintro e w2 ⟨us, up, rfl, n2, hb2⟩
 obtain ⟨As, cs, Ap, cp, rfl, rfl⟩ := aQ n2
 have hr2 := hr1.go hb2
 replace HT := hid (HT.out.trans (Tch.of hb2))
 replace E0 := hid (ac hb2 E0.out)
 have s2 := hb2.size
 have N2 := hid n2; have Hr2 := hid hr2
 clear n2 hb2 hr1 hr2
 go_upto_region 3 with fail
 generalize hgw' : World.alloc w2 _ = W3
 obtain ⟨e3, hb3, s3⟩ := al hgw'
 have hP : MxS B g w.heap.size w2.heap.size q1 w W3 ⟨s, [], []⟩ (.slice As (List.length ([] : List Int)) cs) (.slice Ap (List.length ([] : List Pl)) cp) := by
  obtain ⟨K, k1, k2, k3⟩ := N2.out
  exact ⟨e3, ⟨K, oMx.keep k1 (fun b hb => hb3.block b (oMx.lt k1 b hb)), k2, fun b hb => by have := k3 b hb; have := oMx.lt k1 b hb; omega⟩, Hr2.out.go hb3, HT.out.trans (Tch.of hb3), hgw, rfl, by omega, ac hb3 E0.out⟩
 have HP := hid hP
 have Hm0 := hid (show mxB ⟨s, [], []⟩ = true from bh.2 ⟨Hs.out, by simp, by simp, rfl, fun _ h => by cases h⟩)
 clear hgw' e3 hb3 hP N2 Hr2 HT E0
 go_wp2_with fail
 have hR' := HP.out.2.2.1; with_reducible refine (ay B _ g _ _ hR' (by omega)).mono ?_; clear hR'
 rintro e w4 ⟨nn, rfl, nn0, nn1, _, hr, hg⟩
 have nn1 := nn1 (by omega)
 replace HP := hid (HP.out.tch hr (bP hg))
 clear hr hg
 go_upto_region 4 with fail
 go_cut [19] (fun s19 wx => ∃ b6 : Bool, s19 = .bool b6 ∧ MxS B g w.heap.size w2.heap.size (q1 + 1 + 1) w wx ⟨s, [], []⟩ (.slice As (List.length ([] : List Int)) cs) (.slice Ap (List.length ([] : List Pl)) cp))
 case first =>
  go_wp2_with fail
  have hR' := HP.out.2.2.1; with_reducible refine (ay B _ g _ _ hR' (by omega)).mono ?_; clear hR'
  rintro e w5 ⟨m6, rfl, m60, m61, _, hr, hg⟩
  have HP5 := hid (HP.out.tch hr (bP hg))
  clear hr hg HP
  go_wp2_with fail
  go_meet
  exact ⟨_, rfl, HP5.out⟩
 case rest =>
  obtain ⟨b6, rfl, hst⟩ := hcut
  clear HP
  have HP := hid hst
  clear hst
  rename_i hK
  refine hK _ _ ?_
  go_cut [6] (fun s6 wx => ∃ N : Int, s6 = .int .i64 N ∧ N ≤ 14 ∧ MxS B g w.heap.size w2.heap.size (q1 + 1 + 1) w wx ⟨s, [], []⟩ (.slice As (List.length ([] : List Int)) cs) (.slice Ap (List.length ([] : List Pl)) cp))
  case first =>
   cases b6 with
   | true =>
    go_wp2_with fail
    go_meet
    exact ⟨_, rfl, by omega, HP.out⟩
   | false =>
    go_wp2_with fail
    go_meet
    exact ⟨_, rfl, by omega, HP.out⟩
  case rest =>
   obtain ⟨N, rfl, hN, hst⟩ := hcut
   clear HP
   have HP0 := hid hst
   clear hst
   go_wp2_with fail
   go_loopw [7] (fun iv wr => ∃ (k : Nat) (m : Mx) (A : Option Addr) (c : Nat) (A' : Option Addr) (c' q : Nat), (k ≤ 14 ∧ (0 < k → (k : Int) ≤ N)) ∧ iv = .int .i64 k ∧ mxB m = true ∧ m.sec = s ∧ q ≤ p + 4 + 62 * k ∧ MxS B g w.heap.size w2.heap.size q w wr m (.slice A m.seen.length c) (.slice A' m.pool.length c')) (fun iv _ => N.toNat - (intOf iv).toNat)
   case atStart => exact ⟨0, ⟨s, [], []⟩, As, cs, Ap, cp, _, ⟨by omega, fun h => by omega⟩, rfl, Hm0.out, rfl, by omega, HP0.out⟩
   case round =>
    obtain ⟨k, m, A, c, A', c', q, ⟨hk, hk2⟩, rfl, hm, hsec, hq, hst⟩ := hrel
    clear HP0
    have HP := hid hst; have Hm := hid hm; have Hsec := hid hsec; have Hk2 := hid hk2
    have hrow := hst.1
    have hb4w := (aL hrow)
    clear hst hm hsec hk2
    by_cases hlt : (k : Int) < N
    ·have HS := hid (fun (wx : World) (hT : Tch [w2.heap.size, g] wr wx) => (show w2.heap.size < wx.heap.size by have := hT.size; omega))
     have HRw := hid hrow
     clear hrow
     go_wp2_with fail
     refine rgN [w2.heap.size, g] 9 (by kernel_rfl) rfl (fun | none, _, _, _, _ => id | some _, _, _, _, _ => id) fun wd hH hbwd swd => ?_
     simp only [pw]
     refine ag [1, 2] ?_
     iterate 2 (refine ra HS.out rfl (by kernel_rfl) rfl (fun _ f => by go_simp; try with_reducible rfl) ?_; try simp only [pw])
     (obtain ⟨x0, x1, x2, _⟩ := aE (ac hbwd HRw.out))
     refine rk (i := 0) [3] (by kernel_rfl) (rc rfl (fun K hK => ?_) (rc rfl (fun K hK => ?_) rn))
     focus
      have fC := HS.out _ hH
      go_simp
      clear fC
      (have hbT := hH)
      refine hK.out _ _ (hbT) (fun hH => ?_)
      clear hK K
      refine rq 3 (by kernel_rfl) rfl fun K hK => ?_
      have fC := HS.out _ hH
      go_simp
      clear fC
      (go_at_call 76; refine (fj B s _ g _ (HP.out.2.2.1.go hbwd) (by omega) Hs.out).mono ?_; rintro e w5 ⟨k5, q5, vh, vb, rfl, hk5, hq5, hr5, ht5, s5, s5'⟩; have hbT := hH.trans (ht5.mono (by simp)); have HP5 := hid (HP.out.tch hr5 ((Tch.of hbwd).trans ht5)); obtain ⟨v0, v1, v2, _⟩ := aE HP5.out.1; have S5 := hid s5; have S5' := hid s5'; have Hk5 := hid hk5; clear hr5 ht5 s5 s5' hk5)
      refine hK.out _ _ (hbT) (fun hH => ?_)
      clear hK K
      refine rq 4 (by kernel_rfl) rfl fun K hK => ?_
      go_simp
      (go_at_call 121; refine (gZ m _ _ k5 _ _ _ HP5.out.slB.1 HP5.out.slB.2 S5.out S5'.out Hm.out Hk5.out).mono ?_; unfold dX; obtain ⟨r, hr⟩ : ∃ r, r = bB m k5 := ⟨_, rfl⟩; rw [← hr]; have Hr := hid hr; rintro e w6 ⟨us6, up6, rfl, n6, hbC⟩; obtain ⟨As6, cs6, Ap6, cp6, rfl, rfl⟩ := aQ n6; have N6 := hid n6; have HP6r := hid (ac hbC HP5.out.1); obtain ⟨y0, y1, y2, yf⟩ := aE HP6r.out; have yf0 := yf 0; have yf1 := yf 1; have yf2 := yf 2; have hb46 := (aL HP6r.out); clear hr n6 yf)
      refine hK.out _ _ (hH.trans (Tch.of hbC)) (fun hH => ?_)
      clear hK K
      refine ag [5, 6, 7] ?_
      iterate 3 (refine ra HS.out rfl (by kernel_rfl) rfl (fun _ f => by go_simp; try with_reducible rfl) ?_; try simp only [pw])
      refine rq 8 (by kernel_rfl) rfl fun K hK => ?_
      have fC := HS.out _ hH
      go_simp
      clear fC
      (have hbT := ((hH.setCell (p := ⟨w2.heap.size, 0, none⟩) (.inl (by simp)) (.int .i64 r.1.sec)).setCell (p := ⟨w2.heap.size, 1, none⟩) (.inl (by simp)) (.slice As6 r.1.seen.length cs6)).setCell (p := ⟨w2.heap.size, 2, none⟩) (.inl (by simp)) (.slice Ap6 r.1.pool.length cp6))
      refine hK.out _ _ (hbT) (fun hH => ?_)
      clear hK K
      refine dm (by kernel_rfl) ?_
     rotate_left 1
     have fC := HS.out _ hH
     go_simp
     clear fC
     (go_at_call 76; refine (fj B s _ g _ (HP.out.2.2.1.go hbwd) (by omega) Hs.out).mono ?_; rintro e w5 ⟨k5, q5, vh, vb, rfl, hk5, hq5, hr5, ht5, s5, s5'⟩; have hbT := hH.trans (ht5.mono (by simp)); have HP5 := hid (HP.out.tch hr5 ((Tch.of hbwd).trans ht5)); obtain ⟨v0, v1, v2, _⟩ := aE HP5.out.1; have S5 := hid s5; have S5' := hid s5'; have Hk5 := hid hk5; clear hr5 ht5 s5 s5' hk5)
     refine hK.out _ _ (hbT) (fun hH => ?_)
     clear hK K
     refine rq 0 (by kernel_rfl) rfl fun K hK => ?_
     have fC := HS.out _ hH
     go_simp
     clear fC
     (have hbT := hH)
     refine hK.out _ _ (hbT) (fun hH => ?_)
     clear hK K
     refine rq 4 (by kernel_rfl) rfl fun K hK => ?_
     go_simp
     (go_at_call 121; refine (gZ m _ _ k5 _ _ _ HP5.out.slB.1 HP5.out.slB.2 S5.out S5'.out Hm.out Hk5.out).mono ?_; unfold dX; obtain ⟨r, hr⟩ : ∃ r, r = bB m k5 := ⟨_, rfl⟩; rw [← hr]; have Hr := hid hr; rintro e w6 ⟨us6, up6, rfl, n6, hbC⟩; obtain ⟨As6, cs6, Ap6, cp6, rfl, rfl⟩ := aQ n6; have N6 := hid n6; have HP6r := hid (ac hbC HP5.out.1); obtain ⟨y0, y1, y2, yf⟩ := aE HP6r.out; have yf0 := yf 0; have yf1 := yf 1; have yf2 := yf 2; have hb46 := (aL HP6r.out); clear hr n6 yf)
     refine hK.out _ _ (hH.trans (Tch.of hbC)) (fun hH => ?_)
     clear hK K
     refine ag [5, 6, 7] ?_
     iterate 3 (refine ra HS.out rfl (by kernel_rfl) rfl (fun _ f => by go_simp; try with_reducible rfl) ?_; try simp only [pw])
     refine rq 8 (by kernel_rfl) rfl fun K hK => ?_
     have fC := HS.out _ hH
     go_simp
     clear fC
     (have hbT := ((hH.setCell (p := ⟨w2.heap.size, 0, none⟩) (.inl (by simp)) (.int .i64 r.1.sec)).setCell (p := ⟨w2.heap.size, 1, none⟩) (.inl (by simp)) (.slice As6 r.1.seen.length cs6)).setCell (p := ⟨w2.heap.size, 2, none⟩) (.inl (by simp)) (.slice Ap6 r.1.pool.length cp6))
     refine hK.out _ _ (hbT) (fun hH => ?_)
     clear hK K
     refine dm (by kernel_rfl) ?_
     all_goals
      have hmr : mxB r.1 = true := by rw [Hr.out]; exact (lN Hm.out Hk5.out).1
      have hsr : r.1.sec = s := by rw [Hr.out]; exact (lN Hm.out Hk5.out).2.1.trans Hsec.out
      have HP7 := hid (HP5.out.put hbC N6.out (Nat.le_refl _))
      have Hmr := hid hmr; have Hsr := hid hsr
      clear y0 y1 y2 yf0 yf1 yf2 hb46 hbC hbT hH hbwd HP6r N6 S5 S5' HS HP5 hmr hsr HRw x0 x1 x2 v0 v1 v2
      go_upto_region 10 with fail
      generalize World.setCell (World.setCell (World.setCell _ _ _) _ _) _ _ = w7 at *
      go_wp2_with fail
      have hR' := HP7.out.2.2.1; with_reducible refine (ay B _ g _ _ hR' (by omega)).mono ?_; clear hR'
      rintro e w8 ⟨m6, rfl, m60, m61, _, hr8, hg8⟩
      have HP8 := hid (HP7.out.tch hr8 (bP hg8))
      have hrow8 := HP8.out.1
      have hb48 := (aL hrow8)
      clear hr8 hg8 HP7
      by_cases hm6 : m6 = 0
      ·subst hm6
       obtain ⟨y0, y1, y2, _⟩ := aE hrow8
       go_wp2_with fail
       with_reducible refine (jj r.1 _ _ true _ HP8.out.slB.1 HP8.out.slB.2 Hmr.out).mono ?_
       unfold rW
       obtain ⟨f, hf⟩ : ∃ f, f = cF r.1 true := ⟨_, rfl⟩
       rw [← hf]
       have Hf := hid hf
       rintro e w9 ⟨us9, up9, vl9, rfl, n9, _, hb9⟩
       obtain ⟨As9, cs9, Ap9, cp9, rfl, rfl⟩ := aQ n9
       have hmf : mxB f.1 = true := by rw [Hf.out]; exact (fe Hmr.out true).1
       have hsf : f.1.sec = s := by rw [Hf.out]; exact (fe Hmr.out true).2.1.trans Hsr.out
       have HP9 := hid (HP8.out.put hb9 n9 (Nat.le_refl _))
       obtain ⟨x0, x1, x2, xf⟩ := aE (ac hb9 hrow8)
       have xf0 := xf 0; have xf1 := xf 1; have xf2 := xf 2
       have hb49 : w2.heap.size < w9.heap.size := by have := hb9.size; omega
       have Hmf := hid hmf; have Hsf := hid hsf
       clear y0 y1 y2 xf hf n9 hb9 hrow8 HP8 hmf hsf
       go_wp2_with fail
       go_roundw
       case rel => exact ⟨k + 1, f.1, _, _, _, _, _, ⟨by omega, fun _ => by omega⟩, by go_num, Hmf.out, Hsf.out, by omega, HP9.out⟩
       case measure => simp [intOf]; omega
      ·have hm6 : (m6 == 0) = false := by simpa using hm6
       clear hrow8
       go_wp2_with fail
       go_roundw
       case rel => exact ⟨k + 1, r.1, _, _, _, _, _, ⟨by omega, fun _ => by omega⟩, by go_num, Hmr.out, Hsr.out, by omega, HP8.out⟩
       case measure => simp [intOf]; omega
    ·obtain ⟨wo, rfl⟩ : ∃ wo : World, wo = wr := ⟨_, rfl⟩
     have hq900 : q ≤ p + 900 := by omega
     clear hrow hb4w
     go_upto_region 12 with fail
     go_cut [42] (fun s42 wx => ∃ n : Int, s42 = .int .i64 n ∧ 0 ≤ n ∧ MxS B g w.heap.size w2.heap.size (q + 1) w wx m (.slice A m.seen.length c) (.slice A' m.pool.length c'))
     case first =>
      go_wp2_with fail
      have hR' := HP.out.2.2.1; with_reducible refine (ay B _ g _ _ hR' (by omega)).mono ?_; clear hR'
      rintro e w5 ⟨n, rfl, n0, n1, _, hr, hg⟩
      have HP5 := hid (HP.out.tch hr (bP hg))
      clear hr hg HP
      go_wp2_with fail
      go_meet
      exact ⟨n, rfl, n0, HP5.out⟩
     case rest =>
      obtain ⟨n, rfl, n0, hst⟩ := hcut
      clear HP
      have HP := hid hst
      rename_i hK9
      refine hK9 _ _ ?_
      go_cut [4] (fun s4 wx => s4 = .pointer (some ⟨w2.heap.size, 0, none⟩) ∧ ∃ (m' : Mx) (us' up' : Value) (q' : Nat), q' ≤ p + 1000 ∧ MxS B g w.heap.size w2.heap.size q' w wx m' us' up')
      case first =>
       obtain ⟨i0, hi, hz0, hz1, hz2⟩ := info_parts aY
       have hsl : m.seen.length ≤ 1000000 := by have := (bh.1 Hm.out).2.1; omega
       have hpl6 : m.pool.length ≤ 1000000 := by have := (bh.1 Hm.out).2.2.1; omega
       have hrow := HP.out.1
       have hbg : g < w.heap.size := HP.out.2.2.2.2.1
       have hb24 : w.heap.size < w2.heap.size := HP.out.2.2.2.2.2.2.1
       have hb4w := (aL hrow)
       have HRw := hid hrow
       clear hst hrow
       have hn : n = 0 ∨ n = 1 ∨ n = 2 ∨ 3 ≤ n := by omega
       rcases hn with rfl | rfl | rfl | hn
       ·have hR' := HP.out.2.2.1
        go_wp2_with fail
        with_reducible refine (lw B _ g _ hR' (by omega)).mono ?_
        rintro e w6 ⟨s6, q6, rfl, _, hq6, hr6, ht6⟩
        have HP6 := hid (HP.out.tch hr6 ht6)
        obtain ⟨y0, y1, y2, yf⟩ := aE HP6.out.1
        have yf0 := yf 0
        clear hr6 ht6 yf hR' HRw HP
        go_wp2_with fail
        go_meet
        exact ⟨rfl, _, _, _, q6, by omega, HP6.out.box 0 _ ⟨s6, m.seen, m.pool⟩ _ _ rfl (by obtain ⟨G, hu, hp, n1, n2⟩ := dJ HP6.out.2.1; exact jo (m := ⟨s6, m.seen, m.pool⟩) hu hp n1 n2)⟩
       ·have hnb : w2.heap.size ∉ (g :: (Value.slice A m.seen.length c).ownBlock.toList) := by
         obtain ⟨_, _, _, _, n2⟩ := dJ HP.out.2.1
         intro hm
         rcases List.mem_cons.1 hm with h | h
         ·omega
         ·exact (n2 _ (List.mem_append_left _ h)).2 rfl
        have HS := hid (fun (wx : World) (hT : Tch (g :: (Value.slice A m.seen.length c).ownBlock.toList) wc wx) => And.intro (aE (hT.row HRw.out hnb)) (show w2.heap.size < wx.heap.size by have := hT.size; omega))
        clear hnb
        go_wp2_with fail
        refine rgN (g :: (Value.slice A m.seen.length c).ownBlock.toList) 8 (by kernel_rfl) rfl (fun | none, _, _, _, _ => id | some _, _, _, _, _ => id) fun wd hH hbwd swd => ?_
        simp only [pw]
        refine ag [0, 1, 2] ?_
        iterate 3 (refine ra HS.out rfl (by kernel_rfl) rfl (fun _ f => by go_simp; try with_reducible rfl) ?_; try simp only [pw])
        refine rq 3 (by kernel_rfl) rfl fun K hK => ?_
        have fC := HS.out _ hH
        go_simp
        clear fC
        (go_at_call 122; have hR' := HP.out.2.2.1.go hbwd; (with_reducible refine (lw B _ g _ hR' (by omega)).mono ?_); rintro e w6 ⟨s6, q6, rfl, _, hq6, hr6, ht6⟩; have hbT := hH.trans (ht6.mono (by simp)); have HP6 := hid (HP.out.tch hr6 ((Tch.of hbwd).trans ht6)); clear hr6 ht6 hR')
        refine hK.out _ _ (hbT) (fun hH => ?_)
        clear hK K
        refine rq 4 (by kernel_rfl) rfl fun K hK => ?_
        go_simp
        (generalize hgw : World.alloc _ _ = wa0; obtain ⟨ea0, hbC, sa0⟩ := al hgw; have HBa := hid hbC; have Ea0 := hid ea0; clear hgw ea0)
        refine hK.out _ _ (hH.trans (Tch.of hbC)) (fun hH => ?_)
        clear hK K
        refine rq 5 (by kernel_rfl) rfl fun K hK => ?_
        (have HPa := hid (HP6.out.tch (HP6.out.2.2.1.go HBa.out) (Tch.of HBa.out)); obtain ⟨GG, hoA, _, _, _⟩ := dJ HPa.out.2.1; refine bf rfl (.tmp 51) (.tmp 54) 67 rfl af ai (B := 0) Tryz.underlying67 hi hz0 hz1 hz2 rfl (by decide) (by decide) (v := .slice A m.seen.length c) (xs := m.seen) (ys := [s6]) rfl hoA (some ⟨w6.heap.size, 0, none⟩) 1 1 rfl ⟨_, cz (x := s6) (cs := [.int .i64 s6]) Ea0.out ⟨rfl, rfl⟩⟩ ?_ (by omega) ?_; (simp; omega); intro v10 w10 ho10 hg10 hv10; obtain ⟨A10, c10, rfl, _, _, _⟩ := ho10.form; have HO := hid ho10; have hbP := hH.grow hg10 (fun k hk hlt => List.mem_cons_of_mem _ (aA.2 hk)))
        refine hK.out _ _ (hbP) (fun hH => ?_)
        clear hK K
        refine tr 6 HS.out rfl (by kernel_rfl) rfl (fun _ f => by go_simp; try with_reducible rfl) ?_
        try simp only [pw]
        refine rz 7 (by kernel_rfl) rfl fun K hK => ?_
        have fC := HS.out _ hH
        go_simp
        clear fC
        refine hK.out _ _ ?_
        clear hK K
        have HPs := hid (HPa.out.seen (s := s6) HO.out hg10 hv10).2
        clear hH hbwd hbC hbT hbP hg10 hv10 ho10 HO hoA HBa Ea0 HS HPa
        go_wp2_with fail
        go_meet
        have h := HPs.out
        rw [List.length_append] at h
        exact ⟨rfl, _, _, _, q6, by omega, h⟩
       ·by_cases hpl : 0 < m.pool.length
        ·obtain ⟨G, hu, hp, _, _⟩ := dJ HP.out.2.1
         obtain ⟨gp, rfl⟩ := Own.addr hp hpl
         have hpli : (0 : Int) < (m.pool.length : Int) := by omega
         have HS := hid (fun (wx : World) (hT : Tch [g] wc wx) => And.intro (aE (hT.row HRw.out (by simp; omega))) (show w2.heap.size < wx.heap.size by have := hT.size; omega))
         obtain ⟨y0, y1, y2, _⟩ := aE HRw.out
         clear hu hp
         go_wp2_with fail
         clear y0 y1 y2
         refine rgN [g] 13 (by kernel_rfl) rfl (fun | none, _, _, _, _ => id | some _, _, _, _, _ => id) fun wd hH hbwd swd => ?_
         simp only [pw]
         refine ag [0, 1, 2, 3, 4, 5, 7] ?_
         iterate 7 (refine ra HS.out rfl (by kernel_rfl) rfl (fun _ f => by go_simp; try with_reducible rfl) ?_; try simp only [pw])
         refine rq 6 (by kernel_rfl) rfl fun K hK => ?_
         have fC := HS.out _ hH
         go_simp
         clear fC
         (go_at_call 27; have hR' := HP.out.2.2.1.go hbwd; (with_reducible refine (ay B _ g _ _ hR' (by omega)).mono ?_); rintro e w5 ⟨m2, rfl, m20, m21, _, hr5, hg5⟩; have m21 := m21 (by omega); obtain ⟨j, rfl⟩ := Int.eq_ofNat_of_zero_le m20; have hbT := hH.trans (bP hg5); have Hr5 := hid hr5; clear hr5 hg5 hR')
         refine hK.out _ _ (hbT) (fun hH => ?_)
         clear hK K
         refine rq 8 (by kernel_rfl) rfl fun K hK => ?_
         have fC := HS.out _ hH
         go_simp
         clear fC
         (go_at_call 27; have hR' := Hr5.out; (with_reducible refine (ay B _ g _ _ hR' (by omega)).mono ?_); rintro e w6 ⟨m3, rfl, m30, m31, _, hr6, hg6⟩; have m31 := m31 (by omega); have hbT := hH.trans (bP hg6); have HP6 := hid (HP.out.tch hr6 hbT); have hjl : j < m.pool.length := (by omega); have fw : IntKind.i64.wrap (m3 - 1) = m3 - 1 := aZ (by omega) (by omega); obtain ⟨⟨xo, hcx, hfx, hgx⟩, hN⟩ := HP6.out.next (u := m3 - 1) hjl; have HN := hid hN; clear hr6 hg6 hR' hN)
         refine hK.out _ _ (hbT) (fun hH => ?_)
         clear hK K
         refine ag [9, 10, 11] ?_
         iterate 3 (refine ra HS.out rfl (by kernel_rfl) rfl (fun _ f => by go_simp; try with_reducible rfl) ?_; try simp only [pw])
         refine rz 12 (by kernel_rfl) rfl fun K hK => ?_
         have fC := HS.out _ hH
         go_simp
         clear fC
         refine hK.out _ _ ?_
         clear hK K
         obtain ⟨m', hN⟩ := HN.out
         have HNx := hid hN
         clear hH hbwd hbT HS hcx hfx hN HN
         go_wp2_with fail
         go_meet
         exact ⟨rfl, _, _, _, q + 1 + 1 + 1, by omega, HNx.out⟩
        ·have hpl0 : ¬ (0 : Int) < (m.pool.length : Int) := by omega
         obtain ⟨y0, y1, y2, _⟩ := aE HRw.out
         go_wp2_with fail
         go_meet
         exact ⟨rfl, m, _, _, q + 1, by omega, HP.out⟩
       ·have e0 : (n == 0) = false := by simp; omega
        have e1 : (n == 1) = false := by simp; omega
        have e2 : (n == 2) = false := by simp; omega
        go_wp2_with fail
        go_meet
        exact ⟨rfl, m, _, _, q + 1, by omega, HP.out⟩
      case rest =>
       obtain ⟨rfl, m', us', up', q', hq', hst'⟩ := hcut
       obtain ⟨A7, c7, A8, c8, rfl, rfl⟩ := hst'.form
       obtain ⟨r1, ⟨K, k1, k2, k3⟩, r3, r4, r5, r6, r7, r8⟩ := hst'
       obtain ⟨y0, y1, y2, _⟩ := aE r1
       obtain ⟨z0, z1, z2, zf⟩ := aE r8
       have zf0 := zf 0; have zf1 := zf 1; have zf2 := zf 2
       have zw := (aL r8)
       have zw2 := (aL r1)
       have R3 := hid r3; have R4 := hid r4; have K1 := hid k1; have K2 := hid k2; have K3 := hid k3
       clear zf r1 r3 r4 r6 r8 k1 k2 k3 HP hst
       go_wp2_with fail
       refine bodyPost_ret (v := .agg #[.int .i64 m'.sec, .slice A7 m'.seen.length c7, .slice A8 m'.pool.length c8]) (by simp [results, Tryz.results74, go_sem, z0, z1, z2]) rfl ⟨m', q', _, _, rfl, by omega, ?_, ?_, ?_⟩
       ·refine R3.out.below (n := g + 1) ?_ (by omega) (by have := R3.out.lt.1; omega)
        repeat (refine Below.setCell ?_ (by dsimp only; omega) _)
        exact ah
       ·repeat (refine Tch.setCell ?_ (.inr (by dsimp only; omega)) _)
        exact R4.out
       ·refine aC.base (B := w.heap.size + 1) ?_ (by omega)
        repeat (refine aC.set ?_ (by dsimp only; omega))
        exact ⟨K, K1.out, K2.out, fun b hb => (K3.out b hb).1⟩
end Go.Proofs.YtfaeojmndaplcaaGreatDoor
