/- Texts that the last file leans on (part 11). -/
import Derived.Test.YtfledddejfpopaaGreatDoorM10
import Derived.Test.YtfledddejfpopaaGreatDoorM4
import Derived.Test.YtfledddejfpopaaGreatDoorM5
set_option linter.unusedVariables false
set_option linter.unusedSimpArgs false
set_option maxHeartbeats 4000000
set_option maxRecDepth 100000
namespace Go.Proofs.YtfledddejfpopaaGreatDoor
open Go Go.RowKit
def cPk (p : Pk) : Nat := 2 + (p.hd.length + p.bd.length)
def cPl (x : Pl) : Nat := 2 + cPk x.pk
def cTr (t : Tr) : Nat := 2 + cPk t.pk
def cLt (_ : Lt) : Nat := 3
def ay {α : Type} (c : α → Nat) (xs : List α) : Nat := (xs.map c).sum
def cMx (m : Mx) : Nat := 1 + (m.seen.length + ay cPl m.pool)
def cWd (x : Wd) : Nat := ay cMx x.mixes + (ay cLt x.sent + (ay cTr x.net + ay cLt x.got))
def mkL {α : Type} (f : Int → α → α) (c : α → Nat) : Int → List α → List α
 | _, [] => []
 | k, x :: xs => f k x :: mkL f c (k + (c x : Int)) xs
def tI (k : Int) (p : Pk) : Pk := ⟨k, mkd (k + 1) p.hd.length, k + 1 + (p.hd.length : Int), mkd (k + 1 + (p.hd.length : Int) + 1) p.bd.length⟩
def mkPl (k : Int) (x : Pl) : Pl := ⟨k, k + 1, tI (k + 1 + 1) x.pk⟩
def mkTr (k : Int) (t : Tr) : Tr := ⟨k, tI (k + 1) t.pk, (k + 1 + 1 + (t.pk.hd.length : Int) + 1 + (t.pk.bd.length : Int)) % 3 == 0⟩
def gE (k : Int) (_ : Lt) : Lt := ⟨k, k + 1, k + 1 + 1⟩
def iZ (k : Int) (m : Mx) : Mx := ⟨k, mkd (k + 1) m.seen.length, mkL mkPl cPl (k + 1 + (m.seen.length : Int)) m.pool⟩
def mkWd (k : Int) (x : Wd) : Wd :=
 ⟨mkL iZ cMx k x.mixes, mkL gE cLt (k + ay cMx x.mixes) x.sent, mkL mkTr cTr (k + ay cMx x.mixes + ay cLt x.sent) x.net, mkL gE cLt (k + ay cMx x.mixes + ay cLt x.sent + ay cTr x.net) x.got, x.made, x.lost⟩
section
variable {α : Type} (f : Int → α → α) (c : α → Nat)
theorem iz (x : α) (xs : List α) : ay c (x :: xs) = c x + ay c xs := by simp [ay]
theorem mr (xs ys : List α) : ay c (xs ++ ys) = ay c xs + ay c ys := by simp [ay]
theorem dq {xs : List α} {j : Nat} {x : α} (h : xs[j]? = some x) : ay c (xs.take (j + 1)) = ay c (xs.take j) + c x := by rw [ax h, mr]; simp [ay]
theorem eF (xs : List α) (j : Nat) : ay c (xs.take j) ≤ ay c xs := by
 have h := mr c (xs.take j) (xs.drop j)
 rw [List.take_append_drop] at h; omega
theorem dS (k : Int) (xs : List α) : (mkL f c k xs).length = xs.length := by
 induction xs generalizing k with
 | nil => rfl
 | cons x xs ih => simp [mkL, ih]
theorem tH (k : Int) (xs ys : List α) : mkL f c k (xs ++ ys) = mkL f c k xs ++ mkL f c (k + (ay c xs : Int)) ys := by
 induction xs generalizing k with
 | nil => simp [mkL, ay]
 | cons x xs ih => simp only [List.cons_append, mkL, ih, iz]; rw [show k + (c x : Int) + (ay c xs : Int) = k + ((c x + ay c xs : Nat) : Int) from by omega]
theorem jd {k : Int} {xs : List α} {j : Nat} {x : α} (h : xs[j]? = some x) : (mkL f c k xs)[j]? = some (f (k + (ay c (xs.take j) : Int)) x) := by
 induction xs generalizing k j with
 | nil => cases h
 | cons y ys ih =>
  cases j with
  | zero => simp at h; subst h; simp [mkL, ay]
  | succ j =>
   rw [mkL, List.getElem?_cons_succ, ih (by simpa using h), List.take_succ_cons, iz]
   congr 2; omega
theorem mb (k : Int) {xs : List α} {j : Nat} {x : α} (h : xs[j]? = some x) : (mkL f c k (xs.take j) ++ xs.drop j)[j]? = some x := by
 have hj := (List.getElem?_eq_some_iff.1 h).1
 rw [List.getElem?_append_right (by rw [dS, List.length_take]; omega), dS, List.length_take, Nat.min_eq_left (by omega), Nat.sub_self]; simpa using h
theorem je (k : Int) {xs : List α} {j : Nat} {x : α} (h : xs[j]? = some x) : (mkL f c k (xs.take j) ++ xs.drop j).set j (f (k + (ay c (xs.take j) : Int)) x) = mkL f c k (xs.take (j + 1)) ++ xs.drop (j + 1) := by
 have hj := (List.getElem?_eq_some_iff.1 h).1
 rw [List.set_append_right _ _ (by rw [dS, List.length_take]; omega), dS, List.length_take, Nat.min_eq_left (by omega), Nat.sub_self, cj h, List.set_cons_zero, ax h, tH, List.append_assoc]; rfl
theorem hZ (k : Int) {xs : List α} {j : Nat} (h : j ≤ xs.length) : (mkL f c k (xs.take j) ++ xs.drop j).length = xs.length := by rw [List.length_append, dS, List.length_take, List.length_drop]; omega
end
theorem ut {w : World} {cs : List Value} {p : Pk} {F : List Nat} : oPk.E w cs p F ↔ ∃ vh vb Fh Fb, cs = [.int .i64 p.el, vh, .int .i64 p.tag, vb] ∧ F = Fh ++ Fb ∧ bK.E w [vh] p.hd Fh ∧ bK.E w [vb] p.bd Fb := by
 constructor
 ·rintro ⟨c5, c6, F5, F6, rfl, rfl, ⟨rfl, rfl⟩, c7, c8, F7, F8, rfl, rfl, ⟨vh, Gh, rfl, hh, rfl⟩, c9, c10, F9, F10, rfl, rfl, ⟨rfl, rfl⟩, ⟨vb, Gb, rfl, hb, rfl⟩⟩
  exact ⟨vh, vb, vh.ownBlock.toList ++ Gh, vb.ownBlock.toList ++ Gb, rfl, by simp, ⟨_, Gh, rfl, hh, rfl⟩, ⟨_, Gb, rfl, hb, rfl⟩⟩
 ·rintro ⟨vh, vb, Fh, Fb, rfl, rfl, ⟨_, Gh, e1, hh, rfl⟩, ⟨_, Gb, e2, hb, rfl⟩⟩
  injection e1 with e1; injection e2 with e2; subst e1 e2
  exact ⟨[_], _, [], (vh.ownBlock.toList ++ Gh) ++ (vb.ownBlock.toList ++ Gb), rfl, by simp, ⟨rfl, rfl⟩, [_], _, _, _, rfl, rfl, ⟨_, Gh, rfl, hh, rfl⟩, [_], [_], [], _, rfl, rfl, ⟨rfl, rfl⟩, ⟨_, Gb, rfl, hb, rfl⟩⟩
theorem fb {w : World} {cs : List Value} {x : Pl} {F : List Nat} : oPl.E w cs x F ↔ ∃ vh vb Fh Fb, cs = [.int .i64 x.kind, .int .i64 x.next, .int .i64 x.pk.el, vh, .int .i64 x.pk.tag, vb] ∧ F = Fh ++ Fb ∧ bK.E w [vh] x.pk.hd Fh ∧ bK.E w [vb] x.pk.bd Fb := by
 constructor
 ·rintro ⟨c1, c2, F1, F2, rfl, rfl, ⟨rfl, rfl⟩, c3, c4, F3, F4, rfl, rfl, ⟨rfl, rfl⟩, hp⟩
  obtain ⟨vh, vb, Fh, Fb, rfl, rfl, h1, h2⟩ := ut.1 hp
  exact ⟨vh, vb, Fh, Fb, rfl, by simp, h1, h2⟩
 ·rintro ⟨vh, vb, Fh, Fb, rfl, rfl, h1, h2⟩
  exact ⟨[_], _, [], Fh ++ Fb, rfl, by simp, ⟨rfl, rfl⟩, [_], _, [], Fh ++ Fb, rfl, by simp, ⟨rfl, rfl⟩, ut.2 ⟨vh, vb, Fh, Fb, rfl, rfl, h1, h2⟩⟩
theorem cR {w : World} {cs : List Value} {x : Tr} {F : List Nat} : oTr.E w cs x F ↔ ∃ vh vb Fh Fb, cs = [.int .i64 x.mix, .int .i64 x.pk.el, vh, .int .i64 x.pk.tag, vb, .bool x.ch] ∧ F = Fh ++ Fb ∧ bK.E w [vh] x.pk.hd Fh ∧ bK.E w [vb] x.pk.bd Fb :=
 ⟨no, by rintro ⟨vh, vb, Fh, Fb, rfl, rfl, h1, h2⟩; exact mg h1 h2⟩
theorem jO {w : World} {cs : List Value} {x : Mx} {F : List Nat} : oMx.E w cs x F ↔ ∃ vh vb Fh Fb, cs = [.int .i64 x.sec, vh, vb] ∧ F = Fh ++ Fb ∧ bK.E w [vh] x.seen Fh ∧ dT.E w [vb] x.pool Fb := by
 constructor
 ·rintro ⟨c1, c2, F1, F2, rfl, rfl, ⟨rfl, rfl⟩, c3, c4, F3, F4, rfl, rfl, ⟨vh, Gh, rfl, hh, rfl⟩, ⟨vb, Gb, rfl, hb, rfl⟩⟩
  exact ⟨vh, vb, vh.ownBlock.toList ++ Gh, vb.ownBlock.toList ++ Gb, rfl, by simp, ⟨_, Gh, rfl, hh, rfl⟩, ⟨_, Gb, rfl, hb, rfl⟩⟩
 ·rintro ⟨vh, vb, Fh, Fb, rfl, rfl, ⟨_, Gh, e1, hh, rfl⟩, ⟨_, Gb, e2, hb, rfl⟩⟩
  injection e1 with e1; injection e2 with e2; subst e1 e2
  exact ⟨[_], _, [], (vh.ownBlock.toList ++ Gh) ++ (vb.ownBlock.toList ++ Gb), rfl, by simp, ⟨rfl, rfl⟩, [_], [_], _, _, rfl, rfl, ⟨_, Gh, rfl, hh, rfl⟩, ⟨_, Gb, rfl, hb, rfl⟩⟩
theorem fR {w : World} {v : Value} {xs : List Int} {F : List Nat} (h : bK.E w [v] xs F) : Own ae 3 0 w v xs [] ∧ F = v.ownBlock.toList := by
 obtain ⟨G, rfl, ho⟩ := ap h
 obtain rfl := am ai ho
 exact ⟨ho, by simp⟩
theorem fW {w : World} {v : Value} {xs : List Int} (h : Own ae 3 0 w v xs []) : bK.E w [v] xs v.ownBlock.toList := ⟨v, [], rfl, h, by simp⟩
section
variable {w : World} {B g n c i e : Nat} {G : List Nat}
theorem Own.cell1 {α : Type} {T : Ty α} {xs : List α} {x x' : α} {u : Value} {j : Nat} (h : Own T e B w (.slice (some ⟨g, 0, none⟩) n c) xs G) (hx : xs[i]? = some x) (hj : j < T.k) (hE : ∀ w' cx F0, T.E w' cx x F0 → T.E w' (cx.set j u) x' F0) : Own T e B (w.setCell ⟨g, i * T.k + j, none⟩ u) (.slice (some ⟨g, 0, none⟩) n c) (xs.set i x') G := by
 obtain ⟨cx, F0, _, _, _, hc⟩ := h.cell (u := u) hx hj
 exact hc x' (fun w' hw => hE w' cx F0 hw)
theorem bW {α : Type} {xs : List α} {x y : α} {i : Nat} (h : xs[i]? = some x) : (xs.set i y)[i]? = some y := by
 have := (List.getElem?_eq_some_iff.1 h).1
 simp [List.getElem?_set_self this]
theorem Own.plHd {xs : List Pl} {x : Pl} (h : Own oPl e B w (.slice (some ⟨g, 0, none⟩) n c) xs G) (hx : xs[i]? = some x) (hnd : G.Nodup) : ∃ v, w.cell? ⟨g, i * 6 + 3, none⟩ = some v ∧ Own ae 3 0 w v x.pk.hd [] ∧ (∀ b ∈ v.ownBlock.toList, b ∈ G) ∧ ∀ (w' : World) (q : List Int), Own ae 3 0 w' v q [] → Tch v.ownBlock.toList w w' → Own oPl e B w' (.slice (some ⟨g, 0, none⟩) n c) (xs.set i ⟨x.kind, x.next, ⟨x.pk.el, q, x.pk.tag, x.pk.bd⟩⟩) G := by
 obtain ⟨F1, F0, F2, cx, rfl, hE, hc, hk⟩ := h.inner hx hnd
 obtain ⟨vh, vb, Fh, Fb, rfl, rfl, h1, h2⟩ := fb.1 hE
 have hd := (List.nodup_append.1 (List.nodup_append.1 (List.nodup_append.1 hnd).2.1).1).2.2
 obtain ⟨o1, rfl⟩ := fR h1
 exact ⟨vh, hc _ _ rfl, o1, fun b hb => by simp [hb], fun w' q hq ht => hk w' _ (fb.2 ⟨vh, vb, _, Fb, rfl, rfl, fW hq, bK.keep h2 (fun b hb => ht.block b (bK.lt h2 b hb) (fun hm => hd b hm b hb rfl))⟩) (fun b hb hn => ht.block b hb (fun hm => hn (by simp [hm])))⟩
theorem Own.plBd {xs : List Pl} {x : Pl} (h : Own oPl e B w (.slice (some ⟨g, 0, none⟩) n c) xs G) (hx : xs[i]? = some x) (hnd : G.Nodup) : ∃ v, w.cell? ⟨g, i * 6 + 5, none⟩ = some v ∧ Own ae 3 0 w v x.pk.bd [] ∧ (∀ b ∈ v.ownBlock.toList, b ∈ G) ∧ ∀ (w' : World) (q : List Int), Own ae 3 0 w' v q [] → Tch v.ownBlock.toList w w' → Own oPl e B w' (.slice (some ⟨g, 0, none⟩) n c) (xs.set i ⟨x.kind, x.next, ⟨x.pk.el, x.pk.hd, x.pk.tag, q⟩⟩) G := by
 obtain ⟨F1, F0, F2, cx, rfl, hE, hc, hk⟩ := h.inner hx hnd
 obtain ⟨vh, vb, Fh, Fb, rfl, rfl, h1, h2⟩ := fb.1 hE
 have hd := (List.nodup_append.1 (List.nodup_append.1 (List.nodup_append.1 hnd).2.1).1).2.2
 obtain ⟨o1, rfl⟩ := fR h2
 exact ⟨vb, hc _ _ rfl, o1, fun b hb => by simp [hb], fun w' q hq ht => hk w' _ (fb.2 ⟨vh, vb, Fh, _, rfl, rfl, bK.keep h1 (fun b hb => ht.block b (bK.lt h1 b hb) (fun hm => hd b hb b hm rfl)), fW hq⟩) (fun b hb hn => ht.block b hb (fun hm => hn (by simp [hm])))⟩
theorem Own.trHd {xs : List Tr} {x : Tr} (h : Own oTr e B w (.slice (some ⟨g, 0, none⟩) n c) xs G) (hx : xs[i]? = some x) (hnd : G.Nodup) : ∃ v, w.cell? ⟨g, i * 6 + 2, none⟩ = some v ∧ Own ae 3 0 w v x.pk.hd [] ∧ (∀ b ∈ v.ownBlock.toList, b ∈ G) ∧ ∀ (w' : World) (q : List Int), Own ae 3 0 w' v q [] → Tch v.ownBlock.toList w w' → Own oTr e B w' (.slice (some ⟨g, 0, none⟩) n c) (xs.set i ⟨x.mix, ⟨x.pk.el, q, x.pk.tag, x.pk.bd⟩, x.ch⟩) G := by
 obtain ⟨F1, F0, F2, cx, rfl, hE, hc, hk⟩ := h.inner hx hnd
 obtain ⟨vh, vb, Fh, Fb, rfl, rfl, h1, h2⟩ := cR.1 hE
 have hd := (List.nodup_append.1 (List.nodup_append.1 (List.nodup_append.1 hnd).2.1).1).2.2
 obtain ⟨o1, rfl⟩ := fR h1
 exact ⟨vh, hc _ _ rfl, o1, fun b hb => by simp [hb], fun w' q hq ht => hk w' _ (cR.2 ⟨vh, vb, _, Fb, rfl, rfl, fW hq, bK.keep h2 (fun b hb => ht.block b (bK.lt h2 b hb) (fun hm => hd b hm b hb rfl))⟩) (fun b hb hn => ht.block b hb (fun hm => hn (by simp [hm])))⟩
theorem Own.trBd {xs : List Tr} {x : Tr} (h : Own oTr e B w (.slice (some ⟨g, 0, none⟩) n c) xs G) (hx : xs[i]? = some x) (hnd : G.Nodup) : ∃ v, w.cell? ⟨g, i * 6 + 4, none⟩ = some v ∧ Own ae 3 0 w v x.pk.bd [] ∧ (∀ b ∈ v.ownBlock.toList, b ∈ G) ∧ ∀ (w' : World) (q : List Int), Own ae 3 0 w' v q [] → Tch v.ownBlock.toList w w' → Own oTr e B w' (.slice (some ⟨g, 0, none⟩) n c) (xs.set i ⟨x.mix, ⟨x.pk.el, x.pk.hd, x.pk.tag, q⟩, x.ch⟩) G := by
 obtain ⟨F1, F0, F2, cx, rfl, hE, hc, hk⟩ := h.inner hx hnd
 obtain ⟨vh, vb, Fh, Fb, rfl, rfl, h1, h2⟩ := cR.1 hE
 have hd := (List.nodup_append.1 (List.nodup_append.1 (List.nodup_append.1 hnd).2.1).1).2.2
 obtain ⟨o1, rfl⟩ := fR h2
 exact ⟨vb, hc _ _ rfl, o1, fun b hb => by simp [hb], fun w' q hq ht => hk w' _ (cR.2 ⟨vh, vb, Fh, _, rfl, rfl, bK.keep h1 (fun b hb => ht.block b (bK.lt h1 b hb) (fun hm => hd b hb b hm rfl)), fW hq⟩) (fun b hb hn => ht.block b hb (fun hm => hn (by simp [hm])))⟩
theorem Own.mxSeen {xs : List Mx} {x : Mx} (h : Own oMx e B w (.slice (some ⟨g, 0, none⟩) n c) xs G) (hx : xs[i]? = some x) (hnd : G.Nodup) : ∃ v, w.cell? ⟨g, i * 3 + 1, none⟩ = some v ∧ Own ae 3 0 w v x.seen [] ∧ (∀ b ∈ v.ownBlock.toList, b ∈ G) ∧ ∀ (w' : World) (q : List Int), Own ae 3 0 w' v q [] → Tch v.ownBlock.toList w w' → Own oMx e B w' (.slice (some ⟨g, 0, none⟩) n c) (xs.set i ⟨x.sec, q, x.pool⟩) G := by
 obtain ⟨F1, F0, F2, cx, rfl, hE, hc, hk⟩ := h.inner hx hnd
 obtain ⟨vh, vb, Fh, Fb, rfl, rfl, h1, h2⟩ := jO.1 hE
 have hd := (List.nodup_append.1 (List.nodup_append.1 (List.nodup_append.1 hnd).2.1).1).2.2
 obtain ⟨o1, rfl⟩ := fR h1
 exact ⟨vh, hc _ _ rfl, o1, fun b hb => by simp [hb], fun w' q hq ht => hk w' _ (jO.2 ⟨vh, vb, _, Fb, rfl, rfl, fW hq, dT.keep h2 (fun b hb => ht.block b (dT.lt h2 b hb) (fun hm => hd b hm b hb rfl))⟩) (fun b hb hn => ht.block b hb (fun hm => hn (by simp [hm])))⟩
theorem Own.mxPool {xs : List Mx} {x : Mx} (h : Own oMx e B w (.slice (some ⟨g, 0, none⟩) n c) xs G) (hx : xs[i]? = some x) (hnd : G.Nodup) : ∃ v Gp, w.cell? ⟨g, i * 3 + 2, none⟩ = some v ∧ Own oPl 121 0 w v x.pool Gp ∧ (v.ownBlock.toList ++ Gp).Nodup ∧ (∀ b ∈ v.ownBlock.toList ++ Gp, b ∈ G) ∧ ∀ (w' : World) (q : List Pl), Own oPl 121 0 w' v q Gp → Tch (v.ownBlock.toList ++ Gp) w w' → Own oMx e B w' (.slice (some ⟨g, 0, none⟩) n c) (xs.set i ⟨x.sec, x.seen, q⟩) G := by
 obtain ⟨F1, F0, F2, cx, rfl, hE, hc, hk⟩ := h.inner hx hnd
 obtain ⟨vh, vb, Fh, Fb, rfl, rfl, h1, h2⟩ := jO.1 hE
 have hn0 := (List.nodup_append.1 (List.nodup_append.1 hnd).2.1).1
 have hd := (List.nodup_append.1 hn0).2.2
 obtain ⟨Gp, rfl, o1⟩ := ap h2
 exact ⟨vb, Gp, hc _ _ rfl, o1, (List.nodup_append.1 hn0).2.1, fun b hb => by simp only [List.mem_append] at hb ⊢; exact .inr (.inl (.inr hb)), fun w' q hq ht => hk w' _ (jO.2 ⟨vh, vb, Fh, _, rfl, rfl, bK.keep h1 (fun b hb => ht.block b (bK.lt h1 b hb) (fun hm => hd b hb b hm rfl)), ⟨vb, Gp, rfl, hq, rfl⟩⟩) (fun b hb hn => ht.block b hb (fun hm => hn (List.mem_append_right _ hm)))⟩
theorem Own.gcell {α : Type} {T : Ty α} {xs : List α} (h : Own T e B w (.slice (some ⟨g, 0, none⟩) n c) xs G) : g < w.heap.size ∧ g ∉ G ∧ ∀ j, w.frozen? ⟨g, j, none⟩ = false := by
 have hl := h.len
 subst hl
 exact ⟨(h.top g rfl).2, by obtain ⟨cs, _, _, h3⟩ := id h; exact h3 g rfl, h.frozen⟩
theorem Own.pl6 {xs : List Pl} {x : Pl} (h : Own oPl e B w (.slice (some ⟨g, 0, none⟩) n c) xs G) (hx : xs[i]? = some x) : ∃ vh vb, w.cell? ⟨g, i * 6, none⟩ = some (.int .i64 x.kind) ∧ w.cell? ⟨g, i * 6 + 1, none⟩ = some (.int .i64 x.next) ∧ w.cell? ⟨g, i * 6 + 2, none⟩ = some (.int .i64 x.pk.el) ∧ w.cell? ⟨g, i * 6 + 3, none⟩ = some vh ∧ w.cell? ⟨g, i * 6 + 4, none⟩ = some (.int .i64 x.pk.tag) ∧ w.cell? ⟨g, i * 6 + 5, none⟩ = some vb := by
 obtain ⟨g', cs, G', h1, h2, h3, _, hE, _, h4, h5⟩ := h.at_ hx
 injection h1 with h1; injection h1 with h1; subst h1
 obtain ⟨vh, vb, Fh, Fb, rfl, rfl, _, _⟩ := fb.1 hE
 exact ⟨vh, vb, h4 0 _ rfl, h4 1 _ rfl, h4 2 _ rfl, h4 3 _ rfl, h4 4 _ rfl, h4 5 _ rfl⟩
theorem Own.tr6 {xs : List Tr} {x : Tr} (h : Own oTr e B w (.slice (some ⟨g, 0, none⟩) n c) xs G) (hx : xs[i]? = some x) : ∃ vh vb, w.cell? ⟨g, i * 6, none⟩ = some (.int .i64 x.mix) ∧ w.cell? ⟨g, i * 6 + 1, none⟩ = some (.int .i64 x.pk.el) ∧ w.cell? ⟨g, i * 6 + 2, none⟩ = some vh ∧ w.cell? ⟨g, i * 6 + 3, none⟩ = some (.int .i64 x.pk.tag) ∧ w.cell? ⟨g, i * 6 + 4, none⟩ = some vb ∧ w.cell? ⟨g, i * 6 + 5, none⟩ = some (.bool x.ch) := by
 obtain ⟨g', cs, G', h1, h2, h3, _, hE, _, h4, h5⟩ := h.at_ hx
 injection h1 with h1; injection h1 with h1; subst h1
 obtain ⟨vh, vb, Fh, Fb, rfl, rfl, _, _⟩ := cR.1 hE
 exact ⟨vh, vb, h4 0 _ rfl, h4 1 _ rfl, h4 2 _ rfl, h4 3 _ rfl, h4 4 _ rfl, h4 5 _ rfl⟩
theorem Own.mx3 {xs : List Mx} {x : Mx} (h : Own oMx e B w (.slice (some ⟨g, 0, none⟩) n c) xs G) (hx : xs[i]? = some x) : ∃ vh vb, w.cell? ⟨g, i * 3, none⟩ = some (.int .i64 x.sec) ∧ w.cell? ⟨g, i * 3 + 1, none⟩ = some vh ∧ w.cell? ⟨g, i * 3 + 2, none⟩ = some vb := by
 obtain ⟨g', cs, G', h1, h2, h3, _, hE, _, h4, h5⟩ := h.at_ hx
 injection h1 with h1; injection h1 with h1; subst h1
 obtain ⟨vh, vb, Fh, Fb, rfl, rfl, _, _⟩ := jO.1 hE
 exact ⟨vh, vb, h4 0 _ rfl, h4 1 _ rfl, h4 2 _ rfl⟩
theorem bO {w : World} {p : Addr} {a b : Value} (h : w.cell? p = some a) (k : w.cell? p = some b) : a = b := Option.some.inj (h.symm.trans k)
theorem Own.plMark {xs : List Pl} {x : Pl} (h : Own oPl e B w (.slice (some ⟨g, 0, none⟩) n c) xs G) (hx : xs[i]? = some x) (hnd : G.Nodup) : ∃ Ah ch Ab cb, w.cell? ⟨g, i * 6, none⟩ = some (.int .i64 x.kind) ∧ w.cell? ⟨g, i * 6 + 1, none⟩ = some (.int .i64 x.next) ∧ w.cell? ⟨g, i * 6 + 2, none⟩ = some (.int .i64 x.pk.el) ∧ w.cell? ⟨g, i * 6 + 3, none⟩ = some (.slice Ah x.pk.hd.length ch) ∧ w.cell? ⟨g, i * 6 + 4, none⟩ = some (.int .i64 x.pk.tag) ∧ w.cell? ⟨g, i * 6 + 5, none⟩ = some (.slice Ab x.pk.bd.length cb) ∧ ∀ k0 k1 k2 : Int,
  Own ae 3 0 (((w.setCell ⟨g, i * 6, none⟩ (.int .i64 k0)).setCell ⟨g, i * 6 + 1, none⟩ (.int .i64 k1)).setCell ⟨g, i * 6 + 2, none⟩ (.int .i64 k2)) (.slice Ah x.pk.hd.length ch) x.pk.hd [] ∧
  ∀ (w1 : World) (hd : List Int), Own ae 3 0 w1 (.slice Ah x.pk.hd.length ch) hd [] → Tch (Value.slice Ah x.pk.hd.length ch).ownBlock.toList (((w.setCell ⟨g, i * 6, none⟩ (.int .i64 k0)).setCell ⟨g, i * 6 + 1, none⟩ (.int .i64 k1)).setCell ⟨g, i * 6 + 2, none⟩ (.int .i64 k2)) w1 →
  (w1.cell? ⟨g, i * 6 + 4, none⟩ = some (.int .i64 x.pk.tag) ∧ w1.cell? ⟨g, i * 6 + 5, none⟩ = some (.slice Ab x.pk.bd.length cb) ∧ w1.frozen? ⟨g, i * 6 + 4, none⟩ = false ∧ g < w1.heap.size) ∧ ∀ k3 : Int,
  Own ae 3 0 (w1.setCell ⟨g, i * 6 + 4, none⟩ (.int .i64 k3)) (.slice Ab x.pk.bd.length cb) x.pk.bd [] ∧
  ∀ (w2 : World) (bd : List Int), Own ae 3 0 w2 (.slice Ab x.pk.bd.length cb) bd [] → Tch (Value.slice Ab x.pk.bd.length cb).ownBlock.toList (w1.setCell ⟨g, i * 6 + 4, none⟩ (.int .i64 k3)) w2 →
  Own oPl e B w2 (.slice (some ⟨g, 0, none⟩) n c) (xs.set i ⟨k0, k1, ⟨k2, hd, k3, bd⟩⟩) G ∧ Tch (g :: G) w w2 := by
 obtain ⟨vh, vb, c0, c1, c2, c3, c4, c5⟩ := h.pl6 hx
 obtain ⟨_, a3, oh, _, _⟩ := h.plHd hx hnd
 obtain rfl := bO a3 c3
 obtain ⟨_, a5, ob, _, _⟩ := h.plBd hx hnd
 obtain rfl := bO a5 c5
 obtain ⟨Ah, ch, rfl, _⟩ := oh.form
 obtain ⟨Ab, cb, rfl, _⟩ := ob.form
 refine ⟨Ah, ch, Ab, cb, c0, c1, c2, c3, c4, c5, fun k0 k1 k2 => ?_⟩
 have p1 := h.cell1 (u := .int .i64 k0) (x' := ⟨k0, x.next, x.pk⟩) (j := 0) hx (by decide) (fun w' cx F0 hE => by obtain ⟨vh, vb, Fh, Fb, rfl, rfl, h1, h2⟩ := fb.1 hE; exact fb.2 ⟨vh, vb, Fh, Fb, rfl, rfl, h1, h2⟩)
 have p2 := p1.cell1 (u := .int .i64 k1) (x' := ⟨k0, k1, x.pk⟩) (j := 1) (bW hx) (by decide) (fun w' cx F0 hE => by obtain ⟨vh, vb, Fh, Fb, rfl, rfl, h1, h2⟩ := fb.1 hE; exact fb.2 ⟨vh, vb, Fh, Fb, rfl, rfl, h1, h2⟩)
 have p3 := p2.cell1 (u := .int .i64 k2) (x' := ⟨k0, k1, ⟨k2, x.pk.hd, x.pk.tag, x.pk.bd⟩⟩) (j := 2) (bW (bW hx)) (by decide) (fun w' cx F0 hE => by obtain ⟨vh, vb, Fh, Fb, rfl, rfl, h1, h2⟩ := fb.1 hE; exact fb.2 ⟨vh, vb, Fh, Fb, rfl, rfl, h1, h2⟩)
 rw [List.set_set, List.set_set] at p3
 have T3 : Tch (g :: G) w (((w.setCell ⟨g, i * 6, none⟩ (.int .i64 k0)).setCell ⟨g, i * 6 + 1, none⟩ (.int .i64 k1)).setCell ⟨g, i * 6 + 2, none⟩ (.int .i64 k2)) := (((Tch.refl _ w).setCell (p := ⟨g, i * 6, none⟩) (.inl List.mem_cons_self) _).setCell (p := ⟨g, i * 6 + 1, none⟩) (.inl List.mem_cons_self) _).setCell (p := ⟨g, i * 6 + 2, none⟩) (.inl List.mem_cons_self) _
 have q3 : (((w.setCell ⟨g, i * 6, none⟩ (.int .i64 k0)).setCell ⟨g, i * 6 + 1, none⟩ (.int .i64 k1)).setCell ⟨g, i * 6 + 2, none⟩ (.int .i64 k2)).cell? ⟨g, i * 6 + 3, none⟩ = some (.slice Ah x.pk.hd.length ch) := (af _ _ _ _ _ (by omega)).trans ((af _ _ _ _ _ (by omega)).trans ((af _ _ _ _ _ (by omega)).trans c3))
 have q4 : (((w.setCell ⟨g, i * 6, none⟩ (.int .i64 k0)).setCell ⟨g, i * 6 + 1, none⟩ (.int .i64 k1)).setCell ⟨g, i * 6 + 2, none⟩ (.int .i64 k2)).cell? ⟨g, i * 6 + 4, none⟩ = some (.int .i64 x.pk.tag) := (af _ _ _ _ _ (by omega)).trans ((af _ _ _ _ _ (by omega)).trans ((af _ _ _ _ _ (by omega)).trans c4))
 have q5 : (((w.setCell ⟨g, i * 6, none⟩ (.int .i64 k0)).setCell ⟨g, i * 6 + 1, none⟩ (.int .i64 k1)).setCell ⟨g, i * 6 + 2, none⟩ (.int .i64 k2)).cell? ⟨g, i * 6 + 5, none⟩ = some (.slice Ab x.pk.bd.length cb) := (af _ _ _ _ _ (by omega)).trans ((af _ _ _ _ _ (by omega)).trans ((af _ _ _ _ _ (by omega)).trans c5))
 clear p1 p2
 replace p3 : Own oPl e B (((w.setCell ⟨g, i * 6, none⟩ (.int .i64 k0)).setCell ⟨g, i * 6 + 1, none⟩ (.int .i64 k1)).setCell ⟨g, i * 6 + 2, none⟩ (.int .i64 k2)) (.slice (some ⟨g, 0, none⟩) n c) _ G := p3
 generalize (((w.setCell ⟨g, i * 6, none⟩ (.int .i64 k0)).setCell ⟨g, i * 6 + 1, none⟩ (.int .i64 k1)).setCell ⟨g, i * 6 + 2, none⟩ (.int .i64 k2)) = w3 at *
 obtain ⟨_, b3, oh3, sh3, kh3⟩ := p3.plHd (bW hx) hnd
 obtain rfl := bO b3 q3
 refine ⟨oh3, fun w1 hd hq ht => ?_⟩
 have p4 := kh3 w1 hd hq ht
 rw [List.set_set] at p4
 obtain ⟨g1, g2, g3⟩ := p3.gcell
 have hgh : g ∉ (Value.slice Ah x.pk.hd.length ch).ownBlock.toList := fun hm => g2 (sh3 g hm)
 have r4 := ht.cell q4 hgh
 have r5 := ht.cell q5 hgh
 obtain ⟨g4, g5, g6⟩ := p4.gcell
 refine ⟨⟨r4, r5, g6 _, g4⟩, fun k3 => ?_⟩
 have p5 := p4.cell1 (u := .int .i64 k3) (x' := ⟨k0, k1, ⟨k2, hd, k3, x.pk.bd⟩⟩) (j := 4) (bW hx) (by decide) (fun w' cx F0 hE => by obtain ⟨vh, vb, Fh, Fb, rfl, rfl, h1, h2⟩ := fb.1 hE; exact fb.2 ⟨vh, vb, Fh, Fb, rfl, rfl, h1, h2⟩)
 rw [List.set_set] at p5
 have s5 : (w1.setCell ⟨g, i * 6 + 4, none⟩ (.int .i64 k3)).cell? ⟨g, i * 6 + 5, none⟩ = some (.slice Ab x.pk.bd.length cb) := (af _ _ _ _ _ (by omega)).trans r5
 replace p5 : Own oPl e B (w1.setCell ⟨g, i * 6 + 4, none⟩ (.int .i64 k3)) (.slice (some ⟨g, 0, none⟩) n c) _ G := p5
 obtain ⟨_, b5, ob5, sb5, kb5⟩ := p5.plBd (bW hx) hnd
 obtain rfl := bO b5 s5
 refine ⟨ob5, fun w2 bd hq2 ht2 => ?_⟩
 have p6 := kb5 w2 bd hq2 ht2
 rw [List.set_set] at p6
 exact ⟨p6, ((T3.trans (ht.mono (fun b hb => List.mem_cons_of_mem _ (sh3 b hb)))).setCell (p := ⟨g, i * 6 + 4, none⟩) (.inl List.mem_cons_self) _).trans (ht2.mono (fun b hb => List.mem_cons_of_mem _ (sb5 b hb)))⟩
theorem Own.trMark {xs : List Tr} {x : Tr} (h : Own oTr e B w (.slice (some ⟨g, 0, none⟩) n c) xs G) (hx : xs[i]? = some x) (hnd : G.Nodup) : ∃ Ah ch Ab cb, w.cell? ⟨g, i * 6, none⟩ = some (.int .i64 x.mix) ∧ w.cell? ⟨g, i * 6 + 1, none⟩ = some (.int .i64 x.pk.el) ∧ w.cell? ⟨g, i * 6 + 2, none⟩ = some (.slice Ah x.pk.hd.length ch) ∧ w.cell? ⟨g, i * 6 + 3, none⟩ = some (.int .i64 x.pk.tag) ∧ w.cell? ⟨g, i * 6 + 4, none⟩ = some (.slice Ab x.pk.bd.length cb) ∧ w.cell? ⟨g, i * 6 + 5, none⟩ = some (.bool x.ch) ∧ ∀ k0 k1 : Int,
  Own ae 3 0 ((w.setCell ⟨g, i * 6, none⟩ (.int .i64 k0)).setCell ⟨g, i * 6 + 1, none⟩ (.int .i64 k1)) (.slice Ah x.pk.hd.length ch) x.pk.hd [] ∧
  ∀ (w1 : World) (hd : List Int), Own ae 3 0 w1 (.slice Ah x.pk.hd.length ch) hd [] → Tch (Value.slice Ah x.pk.hd.length ch).ownBlock.toList ((w.setCell ⟨g, i * 6, none⟩ (.int .i64 k0)).setCell ⟨g, i * 6 + 1, none⟩ (.int .i64 k1)) w1 →
  (w1.cell? ⟨g, i * 6 + 3, none⟩ = some (.int .i64 x.pk.tag) ∧ w1.cell? ⟨g, i * 6 + 4, none⟩ = some (.slice Ab x.pk.bd.length cb) ∧ w1.frozen? ⟨g, i * 6 + 3, none⟩ = false ∧ g < w1.heap.size) ∧ ∀ k3 : Int,
  Own ae 3 0 (w1.setCell ⟨g, i * 6 + 3, none⟩ (.int .i64 k3)) (.slice Ab x.pk.bd.length cb) x.pk.bd [] ∧
  ∀ (w2 : World) (bd : List Int), Own ae 3 0 w2 (.slice Ab x.pk.bd.length cb) bd [] → Tch (Value.slice Ab x.pk.bd.length cb).ownBlock.toList (w1.setCell ⟨g, i * 6 + 3, none⟩ (.int .i64 k3)) w2 →
  (w2.cell? ⟨g, i * 6 + 5, none⟩ = some (.bool x.ch) ∧ w2.frozen? ⟨g, i * 6 + 5, none⟩ = false ∧ g < w2.heap.size) ∧ ∀ k4 : Bool,
  Own oTr e B (w2.setCell ⟨g, i * 6 + 5, none⟩ (.bool k4)) (.slice (some ⟨g, 0, none⟩) n c) (xs.set i ⟨k0, ⟨k1, hd, k3, bd⟩, k4⟩) G ∧ Tch (g :: G) w (w2.setCell ⟨g, i * 6 + 5, none⟩ (.bool k4)) := by
 obtain ⟨vh, vb, c0, c1, c2, c3, c4, c5⟩ := h.tr6 hx
 obtain ⟨_, a3, oh, _, _⟩ := h.trHd hx hnd
 obtain rfl := bO a3 c2
 obtain ⟨_, a5, ob, _, _⟩ := h.trBd hx hnd
 obtain rfl := bO a5 c4
 obtain ⟨Ah, ch, rfl, _⟩ := oh.form
 obtain ⟨Ab, cb, rfl, _⟩ := ob.form
 refine ⟨Ah, ch, Ab, cb, c0, c1, c2, c3, c4, c5, fun k0 k1 => ?_⟩
 have p1 := h.cell1 (u := .int .i64 k0) (x' := ⟨k0, x.pk, x.ch⟩) (j := 0) hx (by decide) (fun w' cx F0 hE => by obtain ⟨vh, vb, Fh, Fb, rfl, rfl, h1, h2⟩ := cR.1 hE; exact cR.2 ⟨vh, vb, Fh, Fb, rfl, rfl, h1, h2⟩)
 have p3 := p1.cell1 (u := .int .i64 k1) (x' := ⟨k0, ⟨k1, x.pk.hd, x.pk.tag, x.pk.bd⟩, x.ch⟩) (j := 1) (bW hx) (by decide) (fun w' cx F0 hE => by obtain ⟨vh, vb, Fh, Fb, rfl, rfl, h1, h2⟩ := cR.1 hE; exact cR.2 ⟨vh, vb, Fh, Fb, rfl, rfl, h1, h2⟩)
 rw [List.set_set] at p3
 have T3 : Tch (g :: G) w ((w.setCell ⟨g, i * 6, none⟩ (.int .i64 k0)).setCell ⟨g, i * 6 + 1, none⟩ (.int .i64 k1)) := ((Tch.refl _ w).setCell (p := ⟨g, i * 6, none⟩) (.inl List.mem_cons_self) _).setCell (p := ⟨g, i * 6 + 1, none⟩) (.inl List.mem_cons_self) _
 have q2 : ((w.setCell ⟨g, i * 6, none⟩ (.int .i64 k0)).setCell ⟨g, i * 6 + 1, none⟩ (.int .i64 k1)).cell? ⟨g, i * 6 + 2, none⟩ = some (.slice Ah x.pk.hd.length ch) := (af _ _ _ _ _ (by omega)).trans ((af _ _ _ _ _ (by omega)).trans c2)
 have q3 : ((w.setCell ⟨g, i * 6, none⟩ (.int .i64 k0)).setCell ⟨g, i * 6 + 1, none⟩ (.int .i64 k1)).cell? ⟨g, i * 6 + 3, none⟩ = some (.int .i64 x.pk.tag) := (af _ _ _ _ _ (by omega)).trans ((af _ _ _ _ _ (by omega)).trans c3)
 have q4 : ((w.setCell ⟨g, i * 6, none⟩ (.int .i64 k0)).setCell ⟨g, i * 6 + 1, none⟩ (.int .i64 k1)).cell? ⟨g, i * 6 + 4, none⟩ = some (.slice Ab x.pk.bd.length cb) := (af _ _ _ _ _ (by omega)).trans ((af _ _ _ _ _ (by omega)).trans c4)
 have q5 : ((w.setCell ⟨g, i * 6, none⟩ (.int .i64 k0)).setCell ⟨g, i * 6 + 1, none⟩ (.int .i64 k1)).cell? ⟨g, i * 6 + 5, none⟩ = some (.bool x.ch) := (af _ _ _ _ _ (by omega)).trans ((af _ _ _ _ _ (by omega)).trans c5)
 clear p1
 replace p3 : Own oTr e B ((w.setCell ⟨g, i * 6, none⟩ (.int .i64 k0)).setCell ⟨g, i * 6 + 1, none⟩ (.int .i64 k1)) (.slice (some ⟨g, 0, none⟩) n c) _ G := p3
 generalize ((w.setCell ⟨g, i * 6, none⟩ (.int .i64 k0)).setCell ⟨g, i * 6 + 1, none⟩ (.int .i64 k1)) = w3 at *
 obtain ⟨_, b3, oh3, sh3, kh3⟩ := p3.trHd (bW hx) hnd
 obtain rfl := bO b3 q2
 refine ⟨oh3, fun w1 hd hq ht => ?_⟩
 have p4 := kh3 w1 hd hq ht
 rw [List.set_set] at p4
 obtain ⟨g1, g2, g3⟩ := p3.gcell
 have hgh : g ∉ (Value.slice Ah x.pk.hd.length ch).ownBlock.toList := fun hm => g2 (sh3 g hm)
 have r3 := ht.cell q3 hgh
 have r4 := ht.cell q4 hgh
 have r5 := ht.cell q5 hgh
 obtain ⟨g4, g5, g6⟩ := p4.gcell
 refine ⟨⟨r3, r4, g6 _, g4⟩, fun k3 => ?_⟩
 have p5 := p4.cell1 (u := .int .i64 k3) (x' := ⟨k0, ⟨k1, hd, k3, x.pk.bd⟩, x.ch⟩) (j := 3) (bW hx) (by decide) (fun w' cx F0 hE => by obtain ⟨vh, vb, Fh, Fb, rfl, rfl, h1, h2⟩ := cR.1 hE; exact cR.2 ⟨vh, vb, Fh, Fb, rfl, rfl, h1, h2⟩)
 rw [List.set_set] at p5
 have s4 : (w1.setCell ⟨g, i * 6 + 3, none⟩ (.int .i64 k3)).cell? ⟨g, i * 6 + 4, none⟩ = some (.slice Ab x.pk.bd.length cb) := (af _ _ _ _ _ (by omega)).trans r4
 have s5 : (w1.setCell ⟨g, i * 6 + 3, none⟩ (.int .i64 k3)).cell? ⟨g, i * 6 + 5, none⟩ = some (.bool x.ch) := (af _ _ _ _ _ (by omega)).trans r5
 replace p5 : Own oTr e B (w1.setCell ⟨g, i * 6 + 3, none⟩ (.int .i64 k3)) (.slice (some ⟨g, 0, none⟩) n c) _ G := p5
 obtain ⟨_, b5, ob5, sb5, kb5⟩ := p5.trBd (bW hx) hnd
 obtain rfl := bO b5 s4
 refine ⟨ob5, fun w2 bd hq2 ht2 => ?_⟩
 have p6 := kb5 w2 bd hq2 ht2
 rw [List.set_set] at p6
 obtain ⟨g7, g8, g9⟩ := p6.gcell
 have t5 := ht2.cell s5 (fun hm => g8 (sb5 g hm))
 refine ⟨⟨t5, g9 _, g7⟩, fun k4 => ?_⟩
 have p7 := p6.cell1 (u := .bool k4) (x' := ⟨k0, ⟨k1, hd, k3, bd⟩, k4⟩) (j := 5) (bW hx) (by decide) (fun w' cx F0 hE => by obtain ⟨vh, vb, Fh, Fb, rfl, rfl, h1, h2⟩ := cR.1 hE; exact cR.2 ⟨vh, vb, Fh, Fb, rfl, rfl, h1, h2⟩)
 rw [List.set_set] at p7
 exact ⟨p7, ((((T3.trans (ht.mono (fun b hb => List.mem_cons_of_mem _ (sh3 b hb)))).setCell (p := ⟨g, i * 6 + 3, none⟩) (.inl List.mem_cons_self) _).trans (ht2.mono (fun b hb => List.mem_cons_of_mem _ (sb5 b hb)))).setCell (p := ⟨g, i * 6 + 5, none⟩) (.inl List.mem_cons_self) _)⟩
theorem Own.mxMark {xs : List Mx} {x : Mx} (h : Own oMx e B w (.slice (some ⟨g, 0, none⟩) n c) xs G) (hx : xs[i]? = some x) (hnd : G.Nodup) : ∃ As cs Ap cp, w.cell? ⟨g, i * 3, none⟩ = some (.int .i64 x.sec) ∧ w.cell? ⟨g, i * 3 + 1, none⟩ = some (.slice As x.seen.length cs) ∧ w.cell? ⟨g, i * 3 + 2, none⟩ = some (.slice Ap x.pool.length cp) ∧ ∀ k0 : Int,
  Own ae 3 0 (w.setCell ⟨g, i * 3, none⟩ (.int .i64 k0)) (.slice As x.seen.length cs) x.seen [] ∧
  ∀ (w1 : World) (se : List Int), Own ae 3 0 w1 (.slice As x.seen.length cs) se [] → Tch (Value.slice As x.seen.length cs).ownBlock.toList (w.setCell ⟨g, i * 3, none⟩ (.int .i64 k0)) w1 →
  w1.cell? ⟨g, i * 3 + 2, none⟩ = some (.slice Ap x.pool.length cp) ∧ g < w1.heap.size ∧ ∃ Gp, Own oPl 121 0 w1 (.slice Ap x.pool.length cp) x.pool Gp ∧ Gp.Nodup ∧
  ∀ (w2 : World) (po : List Pl), Own oPl 121 0 w2 (.slice Ap x.pool.length cp) po Gp → Tch ((Value.slice Ap x.pool.length cp).ownBlock.toList ++ Gp) w1 w2 →
  Own oMx e B w2 (.slice (some ⟨g, 0, none⟩) n c) (xs.set i ⟨k0, se, po⟩) G ∧ Tch (g :: G) w w2 := by
 obtain ⟨vh, vb, c0, c1, c2⟩ := h.mx3 hx
 obtain ⟨_, a1, oh, _, _⟩ := h.mxSeen hx hnd
 obtain rfl := bO a1 c1
 obtain ⟨_, Gp0, a2, ob, _, _, _⟩ := h.mxPool hx hnd
 obtain rfl := bO a2 c2
 obtain ⟨As, cs, rfl, _⟩ := oh.form
 obtain ⟨Ap, cp, rfl, _⟩ := ob.form
 refine ⟨As, cs, Ap, cp, c0, c1, c2, fun k0 => ?_⟩
 have p3 := h.cell1 (u := .int .i64 k0) (x' := ⟨k0, x.seen, x.pool⟩) (j := 0) hx (by decide) (fun w' cx F0 hE => by obtain ⟨vh, vb, Fh, Fb, rfl, rfl, h1, h2⟩ := jO.1 hE; exact jO.2 ⟨vh, vb, Fh, Fb, rfl, rfl, h1, h2⟩)
 have T3 : Tch (g :: G) w (w.setCell ⟨g, i * 3, none⟩ (.int .i64 k0)) := (Tch.refl _ w).setCell (p := ⟨g, i * 3, none⟩) (.inl List.mem_cons_self) _
 have q1 : (w.setCell ⟨g, i * 3, none⟩ (.int .i64 k0)).cell? ⟨g, i * 3 + 1, none⟩ = some (.slice As x.seen.length cs) := (af _ _ _ _ _ (by omega)).trans c1
 have q2 : (w.setCell ⟨g, i * 3, none⟩ (.int .i64 k0)).cell? ⟨g, i * 3 + 2, none⟩ = some (.slice Ap x.pool.length cp) := (af _ _ _ _ _ (by omega)).trans c2
 replace p3 : Own oMx e B (w.setCell ⟨g, i * 3, none⟩ (.int .i64 k0)) (.slice (some ⟨g, 0, none⟩) n c) _ G := p3
 generalize w.setCell ⟨g, i * 3, none⟩ (.int .i64 k0) = w3 at *
 obtain ⟨_, b3, oh3, sh3, kh3⟩ := p3.mxSeen (bW hx) hnd
 obtain rfl := bO b3 q1
 refine ⟨oh3, fun w1 se hq ht => ?_⟩
 have p4 := kh3 w1 se hq ht
 rw [List.set_set] at p4
 obtain ⟨g1, g2, g3⟩ := p3.gcell
 have hgh : g ∉ (Value.slice As x.seen.length cs).ownBlock.toList := fun hm => g2 (sh3 g hm)
 have r2 := ht.cell q2 hgh
 obtain ⟨g4, g5, g6⟩ := p4.gcell
 obtain ⟨_, Gp, b4, op4, np4, sp4, kp4⟩ := p4.mxPool (bW hx) hnd
 obtain rfl := bO b4 r2
 refine ⟨r2, g4, Gp, op4, (List.nodup_append.1 np4).2.1, fun w2 po hq2 ht2 => ?_⟩
 have p6 := kp4 w2 po hq2 ht2
 rw [List.set_set] at p6
 exact ⟨p6, (T3.trans (ht.mono (fun b hb => List.mem_cons_of_mem _ (sh3 b hb)))).trans (ht2.mono (fun b hb => List.mem_cons_of_mem _ (sp4 b hb)))⟩
theorem Own.ltMark {xs : List Lt} {x : Lt} (h : Own tLt e B w (.slice (some ⟨g, 0, none⟩) n c) xs G) (hx : xs[i]? = some x) : w.cell? ⟨g, i * 3, none⟩ = some (.int .i64 x.fr) ∧ w.cell? ⟨g, i * 3 + 1, none⟩ = some (.int .i64 x.to) ∧ w.cell? ⟨g, i * 3 + 2, none⟩ = some (.int .i64 x.num) ∧ ∀ k0 k1 k2 : Int,
  Own tLt e B (((w.setCell ⟨g, i * 3, none⟩ (.int .i64 k0)).setCell ⟨g, i * 3 + 1, none⟩ (.int .i64 k1)).setCell ⟨g, i * 3 + 2, none⟩ (.int .i64 k2)) (.slice (some ⟨g, 0, none⟩) n c) (xs.set i ⟨k0, k1, k2⟩) G ∧ Tch (g :: G) w (((w.setCell ⟨g, i * 3, none⟩ (.int .i64 k0)).setCell ⟨g, i * 3 + 1, none⟩ (.int .i64 k1)).setCell ⟨g, i * 3 + 2, none⟩ (.int .i64 k2)) := by
 obtain ⟨g', cs, G', h1, h2, h3, _, ⟨rfl, _⟩, _, h4, h5⟩ := h.at_ hx
 injection h1 with h1; injection h1 with h1; subst h1
 refine ⟨h4 0 _ rfl, h4 1 _ rfl, h4 2 _ rfl, fun k0 k1 k2 => ⟨?_, (((Tch.refl _ w).setCell (p := ⟨g, i * 3, none⟩) (.inl List.mem_cons_self) _).setCell (p := ⟨g, i * 3 + 1, none⟩) (.inl List.mem_cons_self) _).setCell (p := ⟨g, i * 3 + 2, none⟩) (.inl List.mem_cons_self) _⟩⟩
 have p1 := h.cell1 (u := .int .i64 k0) (x' := ⟨k0, x.to, x.num⟩) (j := 0) hx (by decide) (fun w' cx F0 hE => by obtain ⟨rfl, rfl⟩ := hE; exact ⟨rfl, rfl⟩)
 have p2 := p1.cell1 (u := .int .i64 k1) (x' := ⟨k0, k1, x.num⟩) (j := 1) (bW hx) (by decide) (fun w' cx F0 hE => by obtain ⟨rfl, rfl⟩ := hE; exact ⟨rfl, rfl⟩)
 have p3 := p2.cell1 (u := .int .i64 k2) (x' := ⟨k0, k1, k2⟩) (j := 2) (bW (bW hx)) (by decide) (fun w' cx F0 hE => by obtain ⟨rfl, rfl⟩ := hE; exact ⟨rfl, rfl⟩)
 rw [List.set_set, List.set_set] at p3
 exact p3
end
theorem kK (e : Nat) (v : Value) (xs : List Pl) (G : List Nat) (k : Int) (w : World) (h : Own oPl e 0 w v xs G) (hn : G.Nodup) (hk0 : 0 ≤ k) (hk1 : k + ay cPl xs ≤ 4611686018427387904) :
  Calls Tryz.prog 64 #[v, .int .i64 k] w fun e' w' => e' = .returned (.int .i64 (k + ay cPl xs)) ∧ Own oPl e 0 w' v (mkL mkPl cPl k xs) G ∧ Tch (v.ownBlock.toList ++ G) w w' := by
 obtain ⟨A, c, rfl, a1, a2, a3⟩ := h.form
 clear a2
 go_enter Tryz.func64, Tryz.ntmps64
 go_wp2
 go_loopw [1, 5] (fun kv i wr => ∃ j : Nat, j ≤ xs.length ∧ i = .int .i64 j ∧ kv = .int .i64 (k + (ay cPl (xs.take j) : Int)) ∧ Own oPl e 0 wr (.slice A xs.length c) (mkL mkPl cPl k (xs.take j) ++ xs.drop j) G ∧ Tch ((Value.slice A xs.length c).ownBlock.toList ++ G) w wr) (fun _ i _ => xs.length - (intOf i).toNat)
 case atStart => exact ⟨0, by omega, rfl, by simp [ay], by simpa [mkL] using h, Tch.refl _ _⟩
 case round =>
  obtain ⟨j, hj, rfl, rfl, ho, hg⟩ := hrel
  by_cases hlt : j < xs.length
  ·obtain ⟨x, hx⟩ := ah hlt
   obtain ⟨g, rfl⟩ := Own.addr ho (by rw [hZ _ _ _ hj]; omega)
   obtain ⟨g1, g2, hfz⟩ := ho.gcell
   obtain ⟨Ah, ch, Ab, cb, q0, q1, q2, q3, q4, q5, hm⟩ := ho.plMark (mb mkPl cPl k hx) hn
   have hct := dq cPl hx
   have hcl := eF cPl xs (j + 1)
   have hcp : cPl x = 4 + x.pk.hd.length + x.pk.bd.length := by unfold cPl cPk; omega
   have Hset := hid (je mkPl cPl k hx)
   have Hct := hid hct; have Hg := hid hg; have Hm := hid hm
   have f0 := hfz (j * 6); have f1 := hfz (j * 6 + 1); have f2 := hfz (j * 6 + 2)
   have hkk : k + (ay cPl (xs.take j) : Int) + 4 + x.pk.hd.length + x.pk.bd.length ≤ 4611686018427387904 := by omega
   have hkl : 0 ≤ k + (ay cPl (xs.take j) : Int) := by omega
   have Hcp := hid hcp
   clear hx h ho hg hm hct hfz hcl hcp
   generalize hkg : k + (ay cPl (xs.take j) : Int) = kk at *
   have Hkg := hid hkg
   clear hkg hk1
   go_wp2_with fail
   obtain ⟨oh, hm1⟩ := Hm.out kk (kk + 1) (kk + 1 + 1)
   refine (ei _ _ _ _ _ _ oh (by omega) (by omega)).mono ?_
   rintro e1 w1 ⟨rfl, oh1, gr1⟩
   obtain ⟨⟨r4, r5, r6, r7⟩, hm2⟩ := hm1 w1 _ oh1 (Tch.grown gr1 (fun b hb _ => aM.2 hb))
   have Hm2 := hid hm2
   clear oh hm1 oh1 gr1 hm2 q0 q1 q2 q3 q4 q5 f0 f1 f2 g1
   go_wp2_with fail
   obtain ⟨ob, hm3⟩ := Hm2.out (kk + 1 + 1 + 1 + x.pk.hd.length)
   refine (ei _ _ _ _ _ _ ob (by omega) (by omega)).mono ?_
   rintro e2 w2 ⟨rfl, ob1, gr2⟩
   obtain ⟨hfin, htc⟩ := hm3 w2 _ ob1 (Tch.grown gr2 (fun b hb _ => aM.2 hb))
   have Hf := hid hfin; have Ht := hid htc
   clear ob hm3 ob1 gr2 hfin htc r4 r5 r6 r7
   go_wp2_with fail
   go_roundw
   case rel => exact ⟨j + 1, by omega, by go_num, by rw [Hct.out, Hcp.out, ← Hkg.out]; go_num, by rw [← Hset.out]; exact Hf.out, Hg.out.trans (Ht.out.mono (fun b hb => by simpa [Value.ownBlock] using hb))⟩
   case measure => simp [intOf]; omega
  ·have Ho := hid ho; have Hg := hid hg
   clear ho hg
   have hjl : j = xs.length := by omega
   subst hjl
   go_wp2
   go_ret
   exact ⟨by rw [List.take_length]; rfl, by simpa using Ho.out, Hg.out⟩
theorem jJ (e : Nat) (v : Value) (xs : List Tr) (G : List Nat) (k : Int) (w : World) (h : Own oTr e 0 w v xs G) (hn : G.Nodup) (hk0 : 0 ≤ k) (hk1 : k + ay cTr xs ≤ 4611686018427387904) :
  Calls Tryz.prog 32 #[v, .int .i64 k] w fun e' w' => e' = .returned (.int .i64 (k + ay cTr xs)) ∧ Own oTr e 0 w' v (mkL mkTr cTr k xs) G ∧ Tch (v.ownBlock.toList ++ G) w w' := by
 obtain ⟨A, c, rfl, a1, a2, a3⟩ := h.form
 clear a2
 go_enter Tryz.func32, Tryz.ntmps32
 go_wp2
 go_loopw [1, 5] (fun kv i wr => ∃ j : Nat, j ≤ xs.length ∧ i = .int .i64 j ∧ kv = .int .i64 (k + (ay cTr (xs.take j) : Int)) ∧ Own oTr e 0 wr (.slice A xs.length c) (mkL mkTr cTr k (xs.take j) ++ xs.drop j) G ∧ Tch ((Value.slice A xs.length c).ownBlock.toList ++ G) w wr) (fun _ i _ => xs.length - (intOf i).toNat)
 case atStart => exact ⟨0, by omega, rfl, by simp [ay], by simpa [mkL] using h, Tch.refl _ _⟩
 case round =>
  obtain ⟨j, hj, rfl, rfl, ho, hg⟩ := hrel
  by_cases hlt : j < xs.length
  ·obtain ⟨x, hx⟩ := ah hlt
   obtain ⟨g, rfl⟩ := Own.addr ho (by rw [hZ _ _ _ hj]; omega)
   obtain ⟨g1, g2, hfz⟩ := ho.gcell
   obtain ⟨Ah, ch, Ab, cb, q0, q1, q2, q3, q4, q5, hm⟩ := ho.trMark (mb mkTr cTr k hx) hn
   have hct := dq cTr hx
   have hcl := eF cTr xs (j + 1)
   have hcp : cTr x = 4 + x.pk.hd.length + x.pk.bd.length := by unfold cTr cPk; omega
   have Hset := hid (je mkTr cTr k hx)
   have Hct := hid hct; have Hg := hid hg; have Hm := hid hm
   have f0 := hfz (j * 6); have f1 := hfz (j * 6 + 1)
   have hkk : k + (ay cTr (xs.take j) : Int) + 4 + x.pk.hd.length + x.pk.bd.length ≤ 4611686018427387904 := by omega
   have hkl : 0 ≤ k + (ay cTr (xs.take j) : Int) := by omega
   have Hcp := hid hcp
   clear hx h ho hg hm hct hfz hcl hcp
   generalize hkg : k + (ay cTr (xs.take j) : Int) = kk at *
   have Hkg := hid hkg
   clear hkg hk1
   go_wp2_with fail
   obtain ⟨oh, hm1⟩ := Hm.out kk (kk + 1)
   refine (ei _ _ _ _ _ _ oh (by omega) (by omega)).mono ?_
   rintro e1 w1 ⟨rfl, oh1, gr1⟩
   obtain ⟨⟨r4, r5, r6, r7⟩, hm2⟩ := hm1 w1 _ oh1 (Tch.grown gr1 (fun b hb _ => aM.2 hb))
   have Hm2 := hid hm2
   clear oh hm1 oh1 gr1 hm2 q0 q1 q2 q3 q4 q5 f0 f1 g1
   go_wp2_with fail
   obtain ⟨ob, hm3⟩ := Hm2.out (kk + 1 + 1 + x.pk.hd.length)
   refine (ei _ _ _ _ _ _ ob (by omega) (by omega)).mono ?_
   rintro e2 w2 ⟨rfl, ob1, gr2⟩
   obtain ⟨⟨t5, t6, t7⟩, hm4⟩ := hm3 w2 _ ob1 (Tch.grown gr2 (fun b hb _ => aM.2 hb))
   have Hm4 := hid (hm4 ((kk + 1 + 1 + (x.pk.hd.length : Int) + 1 + (x.pk.bd.length : Int)) % 3 == 0))
   clear ob hm3 ob1 gr2 hm4 r4 r5 r6 r7
   go_wp2_with fail
   go_roundw
   case rel => exact ⟨j + 1, by omega, by go_num, by rw [Hct.out, Hcp.out, ← Hkg.out]; go_num, by rw [← Hset.out]; exact Hm4.out.1, Hg.out.trans (Hm4.out.2.mono (fun b hb => by simpa [Value.ownBlock] using hb))⟩
   case measure => simp [intOf]; omega
  ·have Ho := hid ho; have Hg := hid hg
   clear ho hg
   have hjl : j = xs.length := by omega
   subst hjl
   go_wp2
   go_ret
   exact ⟨by rw [List.take_length]; rfl, by simpa using Ho.out, Hg.out⟩
theorem oR (e : Nat) (v : Value) (xs : List Mx) (G : List Nat) (k : Int) (w : World) (h : Own oMx e 0 w v xs G) (hn : G.Nodup) (hk0 : 0 ≤ k) (hk1 : k + ay cMx xs ≤ 4611686018427387904) :
  Calls Tryz.prog 30 #[v, .int .i64 k] w fun e' w' => e' = .returned (.int .i64 (k + ay cMx xs)) ∧ Own oMx e 0 w' v (mkL iZ cMx k xs) G ∧ Tch (v.ownBlock.toList ++ G) w w' := by
 obtain ⟨A, c, rfl, a1, a2, a3⟩ := h.form
 clear a2
 go_enter Tryz.func30, Tryz.ntmps30
 go_wp2
 go_loopw [1, 5] (fun kv i wr => ∃ j : Nat, j ≤ xs.length ∧ i = .int .i64 j ∧ kv = .int .i64 (k + (ay cMx (xs.take j) : Int)) ∧ Own oMx e 0 wr (.slice A xs.length c) (mkL iZ cMx k (xs.take j) ++ xs.drop j) G ∧ Tch ((Value.slice A xs.length c).ownBlock.toList ++ G) w wr) (fun _ i _ => xs.length - (intOf i).toNat)
 case atStart => exact ⟨0, by omega, rfl, by simp [ay], by simpa [mkL] using h, Tch.refl _ _⟩
 case round =>
  obtain ⟨j, hj, rfl, rfl, ho, hg⟩ := hrel
  by_cases hlt : j < xs.length
  ·obtain ⟨x, hx⟩ := ah hlt
   obtain ⟨g, rfl⟩ := Own.addr ho (by rw [hZ _ _ _ hj]; omega)
   obtain ⟨g1, g2, hfz⟩ := ho.gcell
   obtain ⟨As, cs, Ap, cp, q0, q1, q2, hm⟩ := ho.mxMark (mb iZ cMx k hx) hn
   have hct := dq cMx hx
   have hcl := eF cMx xs (j + 1)
   have hcp : cMx x = 1 + x.seen.length + ay cPl x.pool := by unfold cMx; omega
   have Hset := hid (je iZ cMx k hx)
   have Hct := hid hct; have Hg := hid hg; have Hm := hid hm
   have f0 := hfz (j * 3)
   have hkk : k + (ay cMx (xs.take j) : Int) + 1 + x.seen.length + ay cPl x.pool ≤ 4611686018427387904 := by omega
   have hkl : 0 ≤ k + (ay cMx (xs.take j) : Int) := by omega
   have Hcp := hid hcp
   clear hx h ho hg hm hct hfz hcl hcp
   generalize hkg : k + (ay cMx (xs.take j) : Int) = kk at *
   have Hkg := hid hkg
   clear hkg hk1
   go_wp2_with fail
   obtain ⟨oh, hm1⟩ := Hm.out kk
   refine (ei _ _ _ _ _ _ oh (by omega) (by omega)).mono ?_
   rintro e1 w1 ⟨rfl, oh1, gr1⟩
   obtain ⟨r2, r3, Gp, op, hnp, hm2⟩ := hm1 w1 _ oh1 (Tch.grown gr1 (fun b hb _ => aM.2 hb))
   have Hm2 := hid hm2; have Op := hid op; have Hnp := hid hnp
   clear oh hm1 oh1 gr1 hm2 q0 q1 q2 f0 g1 op hnp
   go_wp2_with fail
   refine (kK _ _ _ Gp _ _ Op.out Hnp.out (by omega) (by omega)).mono ?_
   rintro e2 w2 ⟨rfl, op1, tp1⟩
   have Hm4 := hid (Hm2.out w2 _ op1 tp1)
   clear op1 tp1 r2 r3
   go_wp2_with fail
   go_roundw
   case rel => exact ⟨j + 1, by omega, by go_num, by rw [Hct.out, Hcp.out, ← Hkg.out]; go_num, by rw [← Hset.out]; exact Hm4.out.1, Hg.out.trans (Hm4.out.2.mono (fun b hb => by simpa [Value.ownBlock] using hb))⟩
   case measure => simp [intOf]; omega
  ·have Ho := hid ho; have Hg := hid hg
   clear ho hg
   have hjl : j = xs.length := by omega
   subst hjl
   go_wp2
   go_ret
   exact ⟨by rw [List.take_length]; rfl, by simpa using Ho.out, Hg.out⟩
theorem gG (e : Nat) (v : Value) (xs : List Lt) (G : List Nat) (k : Int) (w : World) (h : Own tLt e 0 w v xs G) (hn : G.Nodup) (hk0 : 0 ≤ k) (hk1 : k + ay cLt xs ≤ 4611686018427387904) :
  Calls Tryz.prog 31 #[v, .int .i64 k] w fun e' w' => e' = .returned (.int .i64 (k + ay cLt xs)) ∧ Own tLt e 0 w' v (mkL gE cLt k xs) G ∧ Tch (v.ownBlock.toList ++ G) w w' := by
 obtain ⟨A, c, rfl, a1, a2, a3⟩ := h.form
 clear a2
 go_enter Tryz.func31, Tryz.ntmps31
 go_wp2
 go_loopw [1, 5] (fun kv i wr => ∃ j : Nat, j ≤ xs.length ∧ i = .int .i64 j ∧ kv = .int .i64 (k + (ay cLt (xs.take j) : Int)) ∧ Own tLt e 0 wr (.slice A xs.length c) (mkL gE cLt k (xs.take j) ++ xs.drop j) G ∧ Tch ((Value.slice A xs.length c).ownBlock.toList ++ G) w wr) (fun _ i _ => xs.length - (intOf i).toNat)
 case atStart => exact ⟨0, by omega, rfl, by simp [ay], by simpa [mkL] using h, Tch.refl _ _⟩
 case round =>
  obtain ⟨j, hj, rfl, rfl, ho, hg⟩ := hrel
  by_cases hlt : j < xs.length
  ·obtain ⟨x, hx⟩ := ah hlt
   obtain ⟨g, rfl⟩ := Own.addr ho (by rw [hZ _ _ _ hj]; omega)
   obtain ⟨g1, g2, hfz⟩ := ho.gcell
   obtain ⟨q0, q1, q2, hm⟩ := ho.ltMark (mb gE cLt k hx)
   have hct := dq cLt hx
   have hcl := eF cLt xs (j + 1)
   have hcp : cLt x = 3 := rfl
   have Hset := hid (je gE cLt k hx)
   have Hct := hid hct; have Hg := hid hg; have Hm := hid hm
   have f0 := hfz (j * 3); have f1 := hfz (j * 3 + 1); have f2 := hfz (j * 3 + 2)
   have hkk : k + (ay cLt (xs.take j) : Int) + 3 ≤ 4611686018427387904 := by omega
   have hkl : 0 ≤ k + (ay cLt (xs.take j) : Int) := by omega
   have Hcp := hid hcp
   clear hx h ho hg hm hct hfz hcl hcp
   generalize hkg : k + (ay cLt (xs.take j) : Int) = kk at *
   have Hkg := hid hkg
   clear hkg hk1
   have Hm4 := hid (Hm.out kk (kk + 1) (kk + 1 + 1))
   go_wp2_with fail
   go_roundw
   case rel => exact ⟨j + 1, by omega, by go_num, by rw [Hct.out, Hcp.out, ← Hkg.out]; go_num, by rw [← Hset.out]; exact Hm4.out.1, Hg.out.trans (Hm4.out.2.mono (fun b hb => by simpa [Value.ownBlock] using hb))⟩
   case measure => simp [intOf]; omega
  ·have Ho := hid ho; have Hg := hid hg
   clear ho hg
   have hjl : j = xs.length := by omega
   subst hjl
   go_wp2
   go_ret
   exact ⟨by rw [List.take_length]; rfl, by simpa using Ho.out, Hg.out⟩
theorem cw (a : Int) : (a != a) = false := by simp
theorem ko (v : Value) (xs : List Pl) (k : Int) (w : World) (h : SlB tPl w.heap.size w v (mkL mkPl cPl k xs)) (hk0 : 0 ≤ k) (hk1 : k + ay cPl xs ≤ 4611686018427387904) :
  Calls Tryz.prog 66 #[v, .int .i64 k] w fun e' w' => e' = .returned (.int .i64 (k + ay cPl xs)) ∧ w = w' := by
 obtain ⟨A, c, rfl, a1, a2, a3⟩ := h.form
 have hn := dS mkPl cPl k xs
 rw [hn] at h a1 a3 ⊢
 clear a2 hn
 go_enter Tryz.func66, Tryz.ntmps66
 go_wp2
 go_loop [1, 5] (fun kv i => ∃ j : Nat, j ≤ xs.length ∧ i = .int .i64 j ∧ kv = .int .i64 (k + (ay cPl (xs.take j) : Int))) (fun _ i => xs.length - (intOf i).toNat)
 case atStart => exact ⟨0, by omega, rfl, by simp [ay]⟩
 case round =>
  obtain ⟨j, hj, rfl, rfl⟩ := hrel
  by_cases hlt : j < xs.length
  ·obtain ⟨x, hx⟩ := ah hlt
   have hct := dq cPl hx
   have hcl := eF cPl xs (j + 1)
   obtain ⟨b, o, vh, vb, rfl, hb0, hb1, sh, sb, q0, q1, q2, q3, q4, q5⟩ := h.pl (jd mkPl cPl (k := k) hx)
   simp only [mkPl, tI] at sh sb q0 q1 q2 q3 q4 q5
   have hcp : cPl x = 4 + x.pk.hd.length + x.pk.bd.length := by first | rfl | (unfold cPl cPk; omega) | (unfold cPl; omega)
   have Hct := hid hct; have Hcp := hid hcp
   have hkk : k + (ay cPl (xs.take j) : Int) + 4 + x.pk.hd.length + x.pk.bd.length ≤ 4611686018427387904 := by omega
   have hkl : 0 ≤ k + (ay cPl (xs.take j) : Int) := by omega
   clear hx h hct hcl hcp
   generalize hkg : k + (ay cPl (xs.take j) : Int) = kk at *
   have Hkg := hid hkg
   clear hkg hk1
   have n0 := cw (kk)
   have n1 := cw (kk + 1)
   have n2 := cw (kk + 1 + 1)
   have n3 := cw (kk + 1 + 1 + 1 + (x.pk.hd.length : Int))
   have Sh := hid (sh.mono (Nat.le_refl _)); have Sb := hid (sb.mono (Nat.le_refl _))
   clear sh sb
   go_wp2_with fail
   refine (ee vh x.pk.hd.length _ _ Sh.out (by omega) (by omega)).mono ?_
   rintro e1 w1 ⟨rfl, rfl⟩
   go_wp2_with fail
   refine (ee vb x.pk.bd.length _ _ Sb.out (by omega) (by omega)).mono ?_
   rintro e1 w1 ⟨rfl, rfl⟩
   go_wp2_with fail
   go_round
   case rel => exact ⟨j + 1, by omega, by go_num, by rw [Hct.out, Hcp.out, ← Hkg.out]; go_num⟩
   case measure => simp [intOf]; omega
  ·have hjl : j = xs.length := by omega
   subst hjl
   go_wp2
   go_ret
   exact ⟨rfl, rfl⟩
theorem jA (v : Value) (xs : List Tr) (k : Int) (w : World) (h : SlB tTr w.heap.size w v (mkL mkTr cTr k xs)) (hk0 : 0 ≤ k) (hk1 : k + ay cTr xs ≤ 4611686018427387904) :
  Calls Tryz.prog 35 #[v, .int .i64 k] w fun e' w' => e' = .returned (.int .i64 (k + ay cTr xs)) ∧ w = w' := by
 obtain ⟨A, c, rfl, a1, a2, a3⟩ := h.form
 have hn := dS mkTr cTr k xs
 rw [hn] at h a1 a3 ⊢
 clear a2 hn
 go_enter Tryz.func35, Tryz.ntmps35
 go_wp2
 go_loop [1, 5] (fun kv i => ∃ j : Nat, j ≤ xs.length ∧ i = .int .i64 j ∧ kv = .int .i64 (k + (ay cTr (xs.take j) : Int))) (fun _ i => xs.length - (intOf i).toNat)
 case atStart => exact ⟨0, by omega, rfl, by simp [ay]⟩
 case round =>
  obtain ⟨j, hj, rfl, rfl⟩ := hrel
  by_cases hlt : j < xs.length
  ·obtain ⟨x, hx⟩ := ah hlt
   have hct := dq cTr hx
   have hcl := eF cTr xs (j + 1)
   obtain ⟨b, o, vh, vb, rfl, hb0, hb1, sh, sb, q0, q1, q2, q3, q4, q5⟩ := h.tr (jd mkTr cTr (k := k) hx)
   simp only [mkTr, tI] at sh sb q0 q1 q2 q3 q4 q5
   have hcp : cTr x = 4 + x.pk.hd.length + x.pk.bd.length := by first | rfl | (unfold cTr cPk; omega) | (unfold cTr; omega)
   have Hct := hid hct; have Hcp := hid hcp
   have hkk : k + (ay cTr (xs.take j) : Int) + 4 + x.pk.hd.length + x.pk.bd.length ≤ 4611686018427387904 := by omega
   have hkl : 0 ≤ k + (ay cTr (xs.take j) : Int) := by omega
   clear hx h hct hcl hcp
   generalize hkg : k + (ay cTr (xs.take j) : Int) = kk at *
   have Hkg := hid hkg
   clear hkg hk1
   have n0 := cw (kk)
   have n1 := cw (kk + 1)
   have n2 := cw (kk + 1 + 1 + (x.pk.hd.length : Int))
   have n9 : (((kk + 1 + 1 + (x.pk.hd.length : Int) + 1 + (x.pk.bd.length : Int)) % 3 == 0) != ((kk + 1 + 1 + (x.pk.hd.length : Int) + 1 + (x.pk.bd.length : Int)) % 3 == 0)) = false := by simp
   have Sh := hid (sh.mono (Nat.le_refl _)); have Sb := hid (sb.mono (Nat.le_refl _))
   clear sh sb
   go_wp2_with fail
   refine (ee vh x.pk.hd.length _ _ Sh.out (by omega) (by omega)).mono ?_
   rintro e1 w1 ⟨rfl, rfl⟩
   go_wp2_with fail
   refine (ee vb x.pk.bd.length _ _ Sb.out (by omega) (by omega)).mono ?_
   rintro e1 w1 ⟨rfl, rfl⟩
   go_wp2_with fail
   go_round
   case rel => exact ⟨j + 1, by omega, by go_num, by rw [Hct.out, Hcp.out, ← Hkg.out]; go_num⟩
   case measure => simp [intOf]; omega
  ·have hjl : j = xs.length := by omega
   subst hjl
   go_wp2
   go_ret
   exact ⟨rfl, rfl⟩
theorem oA (v : Value) (xs : List Mx) (k : Int) (w : World) (h : SlB tMx w.heap.size w v (mkL iZ cMx k xs)) (hk0 : 0 ≤ k) (hk1 : k + ay cMx xs ≤ 4611686018427387904) :
  Calls Tryz.prog 33 #[v, .int .i64 k] w fun e' w' => e' = .returned (.int .i64 (k + ay cMx xs)) ∧ w = w' := by
 obtain ⟨A, c, rfl, a1, a2, a3⟩ := h.form
 have hn := dS iZ cMx k xs
 rw [hn] at h a1 a3 ⊢
 clear a2 hn
 go_enter Tryz.func33, Tryz.ntmps33
 go_wp2
 go_loop [1, 5] (fun kv i => ∃ j : Nat, j ≤ xs.length ∧ i = .int .i64 j ∧ kv = .int .i64 (k + (ay cMx (xs.take j) : Int))) (fun _ i => xs.length - (intOf i).toNat)
 case atStart => exact ⟨0, by omega, rfl, by simp [ay]⟩
 case round =>
  obtain ⟨j, hj, rfl, rfl⟩ := hrel
  by_cases hlt : j < xs.length
  ·obtain ⟨x, hx⟩ := ah hlt
   have hct := dq cMx hx
   have hcl := eF cMx xs (j + 1)
   obtain ⟨b, o, vh, vb, rfl, hb0, hb1, sh, sb, q0, q1, q2⟩ := h.mx (jd iZ cMx (k := k) hx)
   simp only [iZ] at sh sb q0 q1 q2
   have hcp : cMx x = 1 + x.seen.length + ay cPl x.pool := by first | rfl | (unfold cMx cPk; omega) | (unfold cMx; omega)
   have Hct := hid hct; have Hcp := hid hcp
   have hkk : k + (ay cMx (xs.take j) : Int) + 1 + x.seen.length + ay cPl x.pool ≤ 4611686018427387904 := by omega
   have hkl : 0 ≤ k + (ay cMx (xs.take j) : Int) := by omega
   clear hx h hct hcl hcp
   generalize hkg : k + (ay cMx (xs.take j) : Int) = kk at *
   have Hkg := hid hkg
   clear hkg hk1
   have n0 := cw (kk)
   have Sh := hid (sh.mono (Nat.le_refl _)); have Sb := hid (sb.mono (Nat.le_refl _))
   clear sh sb
   go_wp2_with fail
   refine (ee vh x.seen.length _ _ Sh.out (by omega) (by omega)).mono ?_
   rintro e1 w1 ⟨rfl, rfl⟩
   go_wp2_with fail
   refine (ko vb x.pool _ _ Sb.out (by omega) (by omega)).mono ?_
   rintro e1 w1 ⟨rfl, rfl⟩
   go_wp2_with fail
   go_round
   case rel => exact ⟨j + 1, by omega, by go_num, by rw [Hct.out, Hcp.out, ← Hkg.out]; go_num⟩
   case measure => simp [intOf]; omega
  ·have hjl : j = xs.length := by omega
   subst hjl
   go_wp2
   go_ret
   exact ⟨rfl, rfl⟩
theorem gF (v : Value) (xs : List Lt) (k : Int) (w : World) (h : SlB tLt w.heap.size w v (mkL gE cLt k xs)) (hk0 : 0 ≤ k) (hk1 : k + ay cLt xs ≤ 4611686018427387904) :
  Calls Tryz.prog 34 #[v, .int .i64 k] w fun e' w' => e' = .returned (.int .i64 (k + ay cLt xs)) ∧ w = w' := by
 obtain ⟨A, c, rfl, a1, a2, a3⟩ := h.form
 have hn := dS gE cLt k xs
 rw [hn] at h a1 a3 ⊢
 clear a2 hn
 go_enter Tryz.func34, Tryz.ntmps34
 go_wp2
 go_loop [1, 5] (fun kv i => ∃ j : Nat, j ≤ xs.length ∧ i = .int .i64 j ∧ kv = .int .i64 (k + (ay cLt (xs.take j) : Int))) (fun _ i => xs.length - (intOf i).toNat)
 case atStart => exact ⟨0, by omega, rfl, by simp [ay]⟩
 case round =>
  obtain ⟨j, hj, rfl, rfl⟩ := hrel
  by_cases hlt : j < xs.length
  ·obtain ⟨x, hx⟩ := ah hlt
   have hct := dq cLt hx
   have hcl := eF cLt xs (j + 1)
   obtain ⟨b, o, rfl, hb0, hb1, q0, q1, q2⟩ := h.lt3 (jd gE cLt (k := k) hx)
   simp only [gE] at q0 q1 q2
   have hcp : cLt x = 3 := by first | rfl | (unfold cLt cPk; omega) | (unfold cLt; omega)
   have Hct := hid hct; have Hcp := hid hcp
   have hkk : k + (ay cLt (xs.take j) : Int) + 3 ≤ 4611686018427387904 := by omega
   have hkl : 0 ≤ k + (ay cLt (xs.take j) : Int) := by omega
   clear hx h hct hcl hcp
   generalize hkg : k + (ay cLt (xs.take j) : Int) = kk at *
   have Hkg := hid hkg
   clear hkg hk1
   have n0 := cw (kk)
   have n1 := cw (kk + 1)
   have n2 := cw (kk + 1 + 1)
   go_wp2_with fail
   go_round
   case rel => exact ⟨j + 1, by omega, by go_num, by rw [Hct.out, Hcp.out, ← Hkg.out]; go_num⟩
   case measure => simp [intOf]; omega
  ·have hjl : j = xs.length := by omega
   subst hjl
   go_wp2
   go_ret
   exact ⟨rfl, rfl⟩
theorem qk {α : Type} (c : α → Nat) (N : Nat) (xs : List α) (h : ∀ x ∈ xs, c x ≤ N) : ay c xs ≤ xs.length * N := by
 induction xs with
 | nil => simp [ay]
 | cons x xs ih =>
  have h1 := ih (fun y hy => h y (List.mem_cons_of_mem _ hy))
  have h2 := h x List.mem_cons_self
  rw [iz, List.length_cons, Nat.succ_mul]; omega
theorem dZ {α : Type} (c : α → Nat) (N M : Nat) (xs : List α) (h : ∀ x ∈ xs, c x ≤ N) (hl : xs.length ≤ M) : ay c xs ≤ M * N := Nat.le_trans (qk c N xs h) (Nat.mul_le_mul_right _ hl)
theorem lp {x : Wd} (hs : qS x) : (cWd x : Int) ≤ 3000000000000000000 := by
 obtain ⟨⟨a1, a2⟩, b1, ⟨c1, c2⟩, d1⟩ := hs
 unfold cd at a1 b1 c1 d1
 have pk : ∀ p : Pk, jX p → cPk p ≤ 2 + 2097152 := fun p hp => by obtain ⟨h1, h2⟩ := hp; unfold cd at h1 h2; unfold cPk; omega
 have hm : ∀ m ∈ x.mixes, cMx m ≤ 1 + 1048576 + 1048576 * 2097156 := fun m hm => by
  obtain ⟨h1, h2, h3⟩ := a2 m hm
  unfold cd at h1 h2
  have := dZ cPl 2097156 1048576 m.pool (fun y hy => by have := pk y.pk (h3 y hy); unfold cPl; omega) h2
  unfold cMx; omega
 have k1 := dZ cMx _ 1048576 x.mixes hm a1
 have k2 := dZ cLt 3 1048576 x.sent (fun _ _ => Nat.le_refl _) b1
 have k3 := dZ cTr 2097156 1048576 x.net (fun t ht => by have := pk t.pk (c2 t ht); unfold cTr; omega) c1
 have k4 := dZ cLt 3 1048576 x.got (fun _ _ => Nat.le_refl _) d1
 unfold cWd
 omega
theorem mW (x : Wd) (vm vs vn vg : Value) (Fm Fs Fn Fg : List Nat) (k : Int) (w : World) (hm : dd.E w [vm] x.mixes Fm) (hs : bf.E w [vs] x.sent Fs) (hn : de.E w [vn] x.net Fn) (hg : bf.E w [vg] x.got Fg) (hnd : (Fm ++ (Fs ++ (Fn ++ Fg))).Nodup) (hk0 : 0 ≤ k) (hk1 : k + cWd x ≤ 4611686018427387904) :
  Calls Tryz.prog 13 #[.agg #[vm, vs, vn, vg, .int .i64 x.made, .int .i64 x.lost], .int .i64 k] w fun e' w' => e' = .returned (.int .i64 (k + cWd x)) ∧ (dd.E w' [vm] (mkWd k x).mixes Fm ∧ bf.E w' [vs] (mkWd k x).sent Fs ∧ de.E w' [vn] (mkWd k x).net Fn ∧ bf.E w' [vg] (mkWd k x).got Fg) ∧ Tch (Fm ++ (Fs ++ (Fn ++ Fg))) w w' := by
 obtain ⟨n1, n234, d1⟩ := List.nodup_append.1 hnd
 obtain ⟨n2, n34, d2⟩ := List.nodup_append.1 n234
 obtain ⟨n3, n4, d3⟩ := List.nodup_append.1 n34
 have lm := dd.lt hm; have ls := bf.lt hs; have ln := de.lt hn; have lg := bf.lt hg
 have hwb := lit_below w (.cells #[vm, vs, vn, vg, .int .i64 x.made, .int .i64 x.lost] 28)
 have eb := heap_alloc_new w (.cells #[vm, vs, vn, vg, .int .i64 x.made, .int .i64 x.lost] 28)
 have hm := dd.keep hm (fun b hb => hwb.block b (lm b hb))
 have hs := bf.keep hs (fun b hb => hwb.block b (ls b hb))
 have hn := de.keep hn (fun b hb => hwb.block b (ln b hb))
 have hg := bf.keep hg (fun b hb => hwb.block b (lg b hb))
 have lt0 : ∀ b ∈ Fm ++ (Fs ++ (Fn ++ Fg)), b < w.heap.size := fun b hb => by
  simp only [List.mem_append] at hb
  rcases hb with h | h | h | h
  ·exact lm b h
  ·exact ls b h
  ·exact ln b h
  ·exact lg b h
 have hcw : (cWd x : Int) = ay cMx x.mixes + (ay cLt x.sent + (ay cTr x.net + ay cLt x.got)) := by unfold cWd; omega
 obtain ⟨k1, hk1'⟩ : ∃ k1 : Int, k1 = k + ay cMx x.mixes := ⟨_, rfl⟩
 obtain ⟨k2, hk2'⟩ : ∃ k2 : Int, k2 = k1 + ay cLt x.sent := ⟨_, rfl⟩
 obtain ⟨k3, hk3'⟩ : ∃ k3 : Int, k3 = k2 + ay cTr x.net := ⟨_, rfl⟩
 have hz : k3 + ay cLt x.got = k + cWd x := by omega
 have hmk : mkWd k x = ⟨mkL iZ cMx k x.mixes, mkL gE cLt k1 x.sent, mkL mkTr cTr k2 x.net, mkL gE cLt k3 x.got, x.made, x.lost⟩ := by rw [hk3', hk2', hk1']; rfl
 rw [hmk, ← hz]
 rw [hcw] at hk1
 have HM := hid hm; have HS := hid hs; have HN := hid hn; have HG := hid hg; have Heb := hid eb; have Hwb := hid hwb; have Lt0 := hid lt0
 have N1 := hid n1; have N2 := hid n2; have N3 := hid n3; have N4 := hid n4
 have D1 := hid d1; have D2 := hid d2; have D3 := hid d3
 have K1 := hid hk1'; have K2 := hid hk2'; have K3 := hid hk3'
 have b1 : k1 + (ay cLt x.sent + (ay cTr x.net + ay cLt x.got)) ≤ 4611686018427387904 := by omega
 have b2 : k2 + (ay cTr x.net + ay cLt x.got) ≤ 4611686018427387904 := by omega
 have b3 : k3 + ay cLt x.got ≤ 4611686018427387904 := by omega
 have c0 : k + ay cMx x.mixes ≤ 4611686018427387904 := by omega
 have c1 : 0 ≤ k1 := by omega
 have c2 : 0 ≤ k2 := by omega
 have c3 : 0 ≤ k3 := by omega
 obtain ⟨Gm, eFm, om⟩ := ap hm
 have Om := hid om
 clear hm hs hn hg eb hwb om hnd n1 n2 n3 n4 n234 n34 d1 d2 d3 hcw hk1 hk1' hk2' hk3' hz hmk lt0 lm ls ln lg
 go_enter Tryz.func13, Tryz.ntmps13
 go_wp2_with fail
 have hw1 : w.heap.size < (w.alloc (.cells #[vm, vs, vn, vg, .int .i64 x.made, .int .i64 x.lost] 28)).heap.size := by simp
 generalize w.alloc (.cells #[vm, vs, vn, vg, .int .i64 x.made, .int .i64 x.lost] 28) = W at *
 refine (oR _ _ _ Gm _ _ Om.out (List.nodup_append.1 (eFm ▸ N1.out)).2.1 hk0 c0).mono ?_
 rintro e1 w1 ⟨rfl, om1, tm1⟩
 rw [← K1.out]
 have tm1 : Tch Fm W w1 := eFm ▸ tm1
 have e1 : w1.heap[w.heap.size]? = _ := (tm1.block _ hw1 (fun hm => by have := Lt0.out _ (List.mem_append_left _ hm); omega)).trans Heb.out
 obtain ⟨p0, p1, p2, p3, p4, p5, _⟩ := al e1
 have hm1 : dd.E w1 [vm] (mkL iZ cMx k x.mixes) Fm := ⟨vm, Gm, rfl, om1, eFm⟩
 have hs1 := bf.keep HS.out (fun b hb => tm1.block b (bf.lt HS.out b hb) (fun hm => D1.out b hm b (List.mem_append_left _ hb) rfl))
 have hn1 := de.keep HN.out (fun b hb => tm1.block b (de.lt HN.out b hb) (fun hm => D1.out b hm b (List.mem_append_right _ (List.mem_append_left _ hb)) rfl))
 have hg1 := bf.keep HG.out (fun b hb => tm1.block b (bf.lt HG.out b hb) (fun hm => D1.out b hm b (List.mem_append_right _ (List.mem_append_right _ hb)) rfl))
 obtain ⟨Gs, eFs, os⟩ := ap hs1
 have Os := hid os; have E1 := hid e1; have T1 := hid tm1; have HM := hid hm1; have HS := hid hs1; have HN := hid hn1; have HG := hid hg1
 have z1 := tm1.size
 clear om1 tm1 e1 hm1 hs1 hn1 hg1 os Om Heb
 go_wp2_with fail
 refine (gG _ _ _ Gs _ _ Os.out (List.nodup_append.1 (eFs ▸ N2.out)).2.1 c1 (by omega)).mono ?_
 rintro e1 w2 ⟨rfl, om1, tm1⟩
 rw [← K2.out]
 have tm1 : Tch Fs w1 w2 := eFs ▸ tm1
 have e1 : w2.heap[w.heap.size]? = _ := (tm1.block _ (by omega) (fun hm => by have := Lt0.out _ (List.mem_append_right _ (List.mem_append_left _ hm)); omega)).trans E1.out
 clear p0 p1 p2 p3 p4 p5
 obtain ⟨p0, p1, p2, p3, p4, p5, _⟩ := al e1
 have hs1 : bf.E w2 [vs] (mkL gE cLt k1 x.sent) Fs := ⟨vs, Gs, rfl, om1, eFs⟩
 have hm1 := dd.keep HM.out (fun b hb => tm1.block b (dd.lt HM.out b hb) (fun hm => D1.out b hb b (List.mem_append_left _ hm) rfl))
 have hn1 := de.keep HN.out (fun b hb => tm1.block b (de.lt HN.out b hb) (fun hm => D2.out b hm b (List.mem_append_left _ hb) rfl))
 have hg1 := bf.keep HG.out (fun b hb => tm1.block b (bf.lt HG.out b hb) (fun hm => D2.out b hm b (List.mem_append_right _ hb) rfl))
 obtain ⟨Gn, eFn, os⟩ := ap hn1
 have On := hid os; have E2 := hid e1; have T2 := hid tm1; have HM := hid hm1; have HS := hid hs1; have HN := hid hn1; have HG := hid hg1
 have z2 := tm1.size
 clear om1 tm1 e1 hm1 hs1 hn1 hg1 os Os E1
 go_wp2_with fail
 refine (jJ _ _ _ Gn _ _ On.out (List.nodup_append.1 (eFn ▸ N3.out)).2.1 c2 (by omega)).mono ?_
 rintro e1 w3 ⟨rfl, om1, tm1⟩
 rw [← K3.out]
 have tm1 : Tch Fn w2 w3 := eFn ▸ tm1
 have e1 : w3.heap[w.heap.size]? = _ := (tm1.block _ (by omega) (fun hm => by have := Lt0.out _ (List.mem_append_right _ (List.mem_append_right _ (List.mem_append_left _ hm))); omega)).trans E2.out
 clear p0 p1 p2 p3 p4 p5
 obtain ⟨p0, p1, p2, p3, p4, p5, _⟩ := al e1
 have hn1 : de.E w3 [vn] (mkL mkTr cTr k2 x.net) Fn := ⟨vn, Gn, rfl, om1, eFn⟩
 have hm1 := dd.keep HM.out (fun b hb => tm1.block b (dd.lt HM.out b hb) (fun hm => D1.out b hb b (List.mem_append_right _ (List.mem_append_left _ hm)) rfl))
 have hs1 := bf.keep HS.out (fun b hb => tm1.block b (bf.lt HS.out b hb) (fun hm => D2.out b hb b (List.mem_append_left _ hm) rfl))
 have hg1 := bf.keep HG.out (fun b hb => tm1.block b (bf.lt HG.out b hb) (fun hm => D3.out b hm b hb rfl))
 obtain ⟨Gg, eFg, os⟩ := ap hg1
 have Og := hid os; have T3 := hid tm1; have HM := hid hm1; have HS := hid hs1; have HN := hid hn1; have HG := hid hg1
 have z3 := tm1.size
 clear om1 tm1 e1 hm1 hs1 hn1 hg1 os On E2
 go_wp2_with fail
 refine (gG _ _ _ Gg _ _ Og.out (List.nodup_append.1 (eFg ▸ N4.out)).2.1 c3 b3).mono ?_
 rintro e1 w4 ⟨rfl, om1, tm1⟩
 have tm1 : Tch Fg w3 w4 := eFg ▸ tm1
 have hg1 : bf.E w4 [vg] (mkL gE cLt k3 x.got) Fg := ⟨vg, Gg, rfl, om1, eFg⟩
 have hm1 := dd.keep HM.out (fun b hb => tm1.block b (dd.lt HM.out b hb) (fun hm => D1.out b hb b (List.mem_append_right _ (List.mem_append_right _ hm)) rfl))
 have hs1 := bf.keep HS.out (fun b hb => tm1.block b (bf.lt HS.out b hb) (fun hm => D2.out b hb b (List.mem_append_right _ hm) rfl))
 have hn1 := de.keep HN.out (fun b hb => tm1.block b (de.lt HN.out b hb) (fun hm => D3.out b hb b hm rfl))
 have HF := hid (And.intro hm1 (And.intro hs1 (And.intro hn1 hg1)))
 have HT := hid (((((Tch.of (S := Fm ++ (Fs ++ (Fn ++ Fg))) Hwb.out).trans (T1.out.mono (fun b hb => by simp [hb]))).trans (T2.out.mono (fun b hb => by simp [hb]))).trans (T3.out.mono (fun b hb => by simp [hb]))).trans (tm1.mono (fun b hb => by simp [hb])))
 clear om1 tm1 hg1 hm1 hs1 hn1 p0 p1 p2 p3 p4 p5
 go_wp2_with fail
 go_ret
 exact ⟨rfl, HF.out, HT.out⟩
theorem iT (x : Wd) (v : Value) (k : Int) (w : World) (h : WdB w.heap.size w v (mkWd k x)) (hk0 : 0 ≤ k) (hk1 : k + cWd x ≤ 4611686018427387904) :
  Calls Tryz.prog 14 #[v, .int .i64 k] w fun e' w' => e' = .returned (.int .i64 (k + cWd x)) ∧ Below w.heap.size w w' := by
 have hcw : (cWd x : Int) = ay cMx x.mixes + (ay cLt x.sent + (ay cTr x.net + ay cLt x.got)) := by unfold cWd; omega
 obtain ⟨k1, hk1'⟩ : ∃ k1 : Int, k1 = k + ay cMx x.mixes := ⟨_, rfl⟩
 obtain ⟨k2, hk2'⟩ : ∃ k2 : Int, k2 = k1 + ay cLt x.sent := ⟨_, rfl⟩
 obtain ⟨k3, hk3'⟩ : ∃ k3 : Int, k3 = k2 + ay cTr x.net := ⟨_, rfl⟩
 have hz : k3 + ay cLt x.got = k + cWd x := by omega
 have hmk : mkWd k x = ⟨mkL iZ cMx k x.mixes, mkL gE cLt k1 x.sent, mkL mkTr cTr k2 x.net, mkL gE cLt k3 x.got, x.made, x.lost⟩ := by rw [hk3', hk2', hk1']; rfl
 rw [hmk] at h
 rw [← hz]
 rw [hcw] at hk1
 obtain ⟨vm, vs, vn, vg, rfl, h1, h2, h3, h4⟩ := h
 have K1 := hid hk1'; have K2 := hid hk2'; have K3 := hid hk3'
 have b2 : k2 + (ay cTr x.net + ay cLt x.got) ≤ 4611686018427387904 := by omega
 have b3 : k3 + ay cLt x.got ≤ 4611686018427387904 := by omega
 have b1 : k1 + ay cLt x.sent ≤ 4611686018427387904 := by omega
 have c0 : k + ay cMx x.mixes ≤ 4611686018427387904 := by omega
 have b2' : k2 + ay cTr x.net ≤ 4611686018427387904 := by omega
 have c1 : 0 ≤ k1 := by omega
 have c2 : 0 ≤ k2 := by omega
 have c3 : 0 ≤ k3 := by omega
 have c4 : 0 ≤ k3 + ay cLt x.got := by omega
 have hwb := lit_below w (.cells #[vm, vs, vn, vg, .int .i64 x.made, .int .i64 x.lost] 28)
 have G1 := hid (h1.go hwb); have G2 := hid (h2.go hwb); have G3 := hid (h3.go hwb); have G4 := hid (h4.go hwb)
 clear hk1 hcw hk1' hk2' hk3' hz hmk h1 h2 h3 h4 hwb
 go_enter Tryz.func14, Tryz.ntmps14
 go_wp2_with fail
 refine (oA vm x.mixes _ _ G1.out hk0 c0).mono ?_
 rintro e1 w1 ⟨rfl, rfl⟩
 rw [← K1.out]
 go_wp2_with fail
 refine (gF vs x.sent _ _ G2.out c1 b1).mono ?_
 rintro e1 w1 ⟨rfl, rfl⟩
 rw [← K2.out]
 go_wp2_with fail
 refine (jA vn x.net _ _ G3.out c2 b2').mono ?_
 rintro e1 w1 ⟨rfl, rfl⟩
 rw [← K3.out]
 go_wp2_with fail
 refine (gF vg x.got _ _ G4.out c3 b3).mono ?_
 rintro e1 w1 ⟨rfl, rfl⟩
 go_wp2_with fail
 go_ret
 exact ⟨rfl, lit_below _ _⟩
end Go.Proofs.YtfledddejfpopaaGreatDoor
