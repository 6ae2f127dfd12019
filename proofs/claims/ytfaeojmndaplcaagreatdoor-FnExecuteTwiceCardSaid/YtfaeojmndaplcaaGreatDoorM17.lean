/- Texts that the last file leans on (part 17). -/
import Derived.BigRegion
import Derived.Test.YtfaeojmndaplcaaGreatDoorM16
import Derived.Test.YtfaeojmndaplcaaGreatDoorM9
set_option linter.unusedVariables false
set_option linter.unusedSimpArgs false
set_option maxHeartbeats 4000000
set_option maxRecDepth 100000
namespace Go.Proofs.YtfaeojmndaplcaaGreatDoor
open Go Go.RowKit
theorem pn (a : Int) (w : World) : Calls Tryz.prog 235 #[.int .i64 a] w (okQ false w) := by
 go_enter Tryz.func235, Tryz.ntmps235
 go_wp2
 go_ret
 exact ⟨by simp, rfl⟩
def j9 (a b : Int) : Int := if a < b then -1 else if b < a then 1 else 0
theorem jp (a b : Int) (w : World) : Calls Tryz.prog 192 #[.int .i64 a, .int .i64 b] w fun e w' => e = .returned (.int .i64 (j9 a b)) ∧ w = w' := by
 have Hc := hid (show j9 a b = if a < b then -1 else if b < a then 1 else 0 from rfl)
 by_cases h1 : a < b
 ·have i1 : decide (a < b) = true := decide_eq_true h1
  have hv := hid (Hc.out.trans (if_pos h1))
  clear h1
  go_enter Tryz.func192, Tryz.ntmps192
  go_wp2_with (go_at_call 235; refine (pn _ _).mono ?_; rintro e w' ⟨rfl, rfl⟩)
  go_ret
  exact ⟨by rw [hv.out]; rfl, rfl⟩
 ·have i1 : decide (a < b) = false := decide_eq_false h1
  by_cases h2 : b < a
  ·have i2 : decide (b < a) = true := decide_eq_true h2
   have hv := hid ((Hc.out.trans (if_neg h1)).trans (if_pos h2))
   clear h1 h2
   go_enter Tryz.func192, Tryz.ntmps192
   go_wp2_with (go_at_call 235; refine (pn _ _).mono ?_; rintro e w' ⟨rfl, rfl⟩)
   go_ret
   exact ⟨by rw [hv.out]; rfl, rfl⟩
  ·have i2 : decide (b < a) = false := decide_eq_false h2
   have hv := hid ((Hc.out.trans (if_neg h1)).trans (if_neg h2))
   clear h1 h2
   go_enter Tryz.func192, Tryz.ntmps192
   go_wp2_with (go_at_call 235; refine (pn _ _).mono ?_; rintro e w' ⟨rfl, rfl⟩)
   go_ret
   exact ⟨by rw [hv.out]; rfl, rfl⟩
def orL : List Int → Int
 | [] => 0
 | x :: xs => if x ≠ 0 then x else orL xs
theorem qP {xs : List Int} {k : Nat} (h : ∀ i x, i < k → xs[i]? = some x → x = 0) : orL xs = orL (xs.drop k) := by
 induction xs generalizing k with
 | nil => simp
 | cons x xs ih =>
  cases k with
  | zero => rfl
  | succ k =>
   have h0 := h 0 x (by omega) rfl
   simp only [orL, List.drop_succ_cons, h0]
   exact ih (fun i y hi hy => h (i + 1) y (by omega) (by simpa using hy))
theorem or_c (v : Value) (xs : List Int) (w : World) (h : SlB af w.heap.size w v xs) : Calls Tryz.prog 191 #[v] w fun e w' => e = .returned (.int .i64 (orL xs)) ∧ w = w' := by
 obtain ⟨A, c, rfl, a1, a2, a3⟩ := h.form
 clear a2
 obtain ⟨r, hr⟩ : ∃ r, r = orL xs := ⟨_, rfl⟩
 rw [← hr]
 have Hr := hid hr
 clear hr
 go_enter Tryz.func191, Tryz.ntmps191
 go_wp2
 go_loop [8] (fun i => ∃ k : Nat, k ≤ xs.length ∧ i = .int .i64 k ∧ ∀ i x, i < k → xs[i]? = some x → x = 0) (fun i => xs.length - (intOf i).toNat)
 case atStart => exact ⟨0, by omega, rfl, fun i x hi => by omega⟩
 case round =>
  obtain ⟨k, hk, rfl, hz⟩ := hrel
  by_cases hlt : k < xs.length
  ·obtain ⟨x, hx⟩ := ai hlt
   obtain ⟨b, o, rfl, _, _, hcx⟩ := h.int hx
   have Hx := hid hx; have Hz := hid hz
   clear hx hz
   by_cases h0 : x = 0
   ·have i1 : (x != 0) = false := by simp [h0]
    have H0 := hid h0
    clear h0
    go_wp2_with fail
    go_round
    case rel => exact ⟨k + 1, by omega, by go_num, fun i y hi hy => by
     rcases Nat.lt_or_ge i k with h | h
     ·exact Hz.out i y h hy
     ·obtain rfl : i = k := by omega
      rw [Hx.out] at hy; injection hy with hy; rw [← hy]; exact H0.out⟩
    case measure => simp [intOf]; omega
   ·have i1 : (x != 0) = true := by simp [h0]
    have hv : r = x := by rw [Hr.out, qP Hz.out, dd Hx.out]; simp [orL, h0]
    have Hv := hid hv
    clear h0 hv
    go_wp2_with fail
    go_ret
    exact ⟨by rw [Hv.out]; rfl, rfl⟩
  ·have hv : r = 0 := by rw [Hr.out, qP hz, List.drop_eq_nil_of_le (by omega)]; rfl
   have Hv := hid hv
   clear hv hz
   go_wp2
   go_ret
   exact ⟨by rw [Hv.out]; rfl, rfl⟩
def vG (a b : Pl) : Int := orL [j9 a.kind b.kind, j9 a.next b.next, j9 a.pk.el b.pk.el, j9 a.pk.tag b.pk.tag]
theorem tS (a b : Pl) : decide (vG a b < 0) = cI a b := by
 unfold vG cI orL orL orL orL orL j9
 by_cases h1 : a.kind = b.kind <;> by_cases h2 : a.next = b.next <;> by_cases h3 : a.pk.el = b.pk.el <;> by_cases h4 : a.pk.tag = b.pk.tag
 all_goals
  simp only [h1, h2, h3, h4, ne_eq, not_true_eq_false, not_false_eq_true, if_true, if_false, Int.lt_irrefl]
  try (split <;> rename_i h <;> (try split at h) <;> (try split at h) <;> simp_all <;> omega)
theorem yv (a b : Pl) (A1 A2 B1 B2 : Option Addr) (n1 n2 c1 c2 k1 k2 d1 d2 : Nat) (w : World) :
  Calls Tryz.prog 190 #[.agg #[.int .i64 a.kind, .int .i64 a.next, .int .i64 a.pk.el, .slice A1 n1 c1, .int .i64 a.pk.tag, .slice A2 n2 c2], .agg #[.int .i64 b.kind, .int .i64 b.next, .int .i64 b.pk.el, .slice B1 k1 d1, .int .i64 b.pk.tag, .slice B2 k2 d2]] w
   fun e w' => e = .returned (.int .i64 (vG a b)) ∧ Below w.heap.size w w' := by
 go_enter Tryz.func190, Tryz.ntmps190
 go_upto_region 1 with fail
 generalize hgw : World.alloc (World.alloc w _) _ = W0; obtain ⟨e0, e1, hW0, sW0⟩ := qB hgw; clear hgw
 have HS := hid (fun (wx : World) (hT : Tch [] W0 wx) => And.intro (aC (hT.row e0 (by simp))) (And.intro (aC (hT.row e1 (by simp))) (show w.heap.size + 1 < wx.heap.size by have := hT.size; omega)))
 have HW0 := hid hW0
 clear e0 e1 hW0
 refine rgN [] 27 (by kernel_rfl) rfl (fun | none, _, _, _, _ => id | some _, _, _, _, _ => id) fun wd hH hbwd swd => ?_
 simp only [pw]
 refine ag [0, 1, 2, 3, 5, 6, 7, 8, 10, 11, 12, 13, 14, 15, 17, 18, 19, 20, 21, 22] ?_
 iterate 20 (refine ra HS.out rfl (by kernel_rfl) rfl (fun _ f => by go_simp; try with_reducible rfl) ?_; try simp only [pw])
 refine rq 4 (by kernel_rfl) rfl fun K hK => ?_
 go_simp
 (go_at_call 192; refine (jp a.kind b.kind _).mono ?_; rintro e w' ⟨rfl, rfl⟩; have hbC := fun {x : World} => Below.refl x.heap.size x)
 refine hK.out _ _ (hH.trans (Tch.of hbC)) (fun hH => ?_)
 clear hK K
 refine rq 9 (by kernel_rfl) rfl fun K hK => ?_
 go_simp
 (go_at_call 192; refine (jp a.next b.next _).mono ?_; rintro e w' ⟨rfl, rfl⟩; have hbC := fun {x : World} => Below.refl x.heap.size x)
 refine hK.out _ _ (hH.trans (Tch.of hbC)) (fun hH => ?_)
 clear hK K
 refine rq 16 (by kernel_rfl) rfl fun K hK => ?_
 go_simp
 (go_at_call 192; refine (jp a.pk.el b.pk.el _).mono ?_; rintro e w' ⟨rfl, rfl⟩; have hbC := fun {x : World} => Below.refl x.heap.size x)
 refine hK.out _ _ (hH.trans (Tch.of hbC)) (fun hH => ?_)
 clear hK K
 refine rq 23 (by kernel_rfl) rfl fun K hK => ?_
 go_simp
 (go_at_call 192; refine (jp a.pk.tag b.pk.tag _).mono ?_; rintro e w' ⟨rfl, rfl⟩; have hbC := fun {x : World} => Below.refl x.heap.size x)
 refine hK.out _ _ (hH.trans (Tch.of hbC)) (fun hH => ?_)
 clear hK K
 refine rq 24 (by kernel_rfl) rfl fun K hK => ?_
 go_simp
 (generalize hgw : World.alloc _ _ = wa; obtain ⟨ea, hbC, sa⟩ := aD hgw; clear hgw)
 refine hK.out _ _ (hH.trans (Tch.of hbC)) (fun hH => ?_)
 clear hK K
 refine rq 25 (by kernel_rfl) rfl fun K hK => ?_
 go_simp
 (go_at_call 191; refine (or_c _ [j9 a.kind b.kind, j9 a.next b.next, j9 a.pk.el b.pk.el, j9 a.pk.tag b.pk.tag] _ (mY (B := 0) (xs := [j9 a.kind b.kind, j9 a.next b.next, j9 a.pk.el b.pk.el, j9 a.pk.tag b.pk.tag]) ea (Nat.zero_le _) (by simp [maxLen])).slB).mono ?_; rintro e w' ⟨rfl, rfl⟩; have hbC := fun {x : World} => Below.refl x.heap.size x)
 refine hK.out _ _ (hH.trans (Tch.of hbC)) (fun hH => ?_)
 clear hK K
 refine tr 26 HS.out rfl (by kernel_rfl) rfl (fun _ f => by go_simp; try with_reducible rfl) ?_
 try simp only [pw]
 refine dm (by kernel_rfl) ?_
 have HB := hid (bt HW0.out hH.nil)
 clear hH ea hbC
 go_wp2_with fail
 go_ret
 exact ⟨rfl, HB.out⟩
theorem iT {a b : Pl} : cI a b = true ↔ (a.kind < b.kind ∨ (a.kind = b.kind ∧ (a.next < b.next ∨ (a.next = b.next ∧ (a.pk.el < b.pk.el ∨ (a.pk.el = b.pk.el ∧ a.pk.tag < b.pk.tag)))))) := by
 unfold cI
 by_cases h1 : a.kind = b.kind <;> by_cases h2 : a.next = b.next <;> by_cases h3 : a.pk.el = b.pk.el <;> simp [h1, h2, h3]
theorem xB {a b : Pl} (h : cI a b = false) : ¬ (a.kind < b.kind ∨ (a.kind = b.kind ∧ (a.next < b.next ∨ (a.next = b.next ∧ (a.pk.el < b.pk.el ∨ (a.pk.el = b.pk.el ∧ a.pk.tag < b.pk.tag)))))) := fun h' => by
 rw [iT.2 h'] at h; cases h
theorem qx {x y z : Pl} (h1 : cI x y = true) (h2 : cI z y = false) : cI x z = true := by
 have g1 := iT.1 h1
 have g2 := xB h2
 rw [iT]
 omega
theorem uB {x y : Pl} (h : cI x y = true) : cI y x = false := by
 cases h' : cI y x with
 | false => rfl
 | true =>
  have g1 := iT.1 h
  have g2 := iT.1 h'
  omega
def Srt (l : List Pl) : Prop := ∀ (i k : Nat) (a b : Pl), i < k → l[i]? = some a → l[k]? = some b → cI b a = false
def st (P : List Pl) (x : Pl) (R : List Pl) (j : Nat) : List Pl := P.take j ++ (x :: (P.drop j ++ R))
theorem zi {P : List Pl} {x : Pl} {R : List Pl} {j : Nat} (hj : j ≤ P.length) : (st P x R j)[j]? = some x := by
 unfold st; rw [List.getElem?_append_right (by simp; omega)]; simp [Nat.min_eq_left hj]
theorem zh {P : List Pl} {x : Pl} {R : List Pl} {j : Nat} {a : Pl} (h : P[j]? = some a) : (st P x R (j + 1))[j]? = some a := by
 have hj := (List.getElem?_eq_some_iff.1 h).1
 unfold st; rw [List.getElem?_append_left (by simp; omega), List.getElem?_take, if_pos (by omega)]; exact h
theorem xQ {P : List Pl} {x : Pl} {R : List Pl} {j : Nat} {a : Pl} (h : P[j]? = some a) : ((st P x R (j + 1)).set (j + 1) a).set j x = st P x R j := by
 have hj := (List.getElem?_eq_some_iff.1 h).1
 have hl : (P.take j).length = j := by simp; omega
 unfold st
 rw [aK h, dd h, List.append_assoc, List.set_append_right _ _ (by omega), hl, show j + 1 - j = 1 from by omega, List.set_append_right _ _ (by omega), hl, Nat.sub_self]
 rfl
theorem vT {P : List Pl} {x : Pl} {j : Nat} (hs : Srt P) (hj : j ≤ P.length) (hr : ∀ k y, j ≤ k → P[k]? = some y → cI x y = true) (hl : ∀ y, 0 < j → P[j - 1]? = some y → cI x y = false) : kg x P = P.take j ++ x :: P.drop j := by
 refine jr (fun i y hi hy => ?_) hj (fun y hy => hr j y (Nat.le_refl _) hy)
 obtain ⟨z, hz⟩ := ai (xs := P) (k := j - 1) (by omega)
 have h1 := hl z (by omega) hz
 cases h2 : cI x y with
 | false => rfl
 | true =>
  rcases Nat.lt_or_ge i (j - 1) with h | h
  ·have := qx h2 (hs i (j - 1) y z h hy hz)
   rw [this] at h1; cases h1
  ·obtain rfl : i = j - 1 := by omega
   rw [hy] at hz; injection hz with hz; rw [← hz, h2] at h1; cases h1
theorem xy {P : List Pl} {x : Pl} (hs : Srt P) : Srt (kg x P) := by
 have key : ∃ q, q ≤ P.length ∧ (∀ i y, i < q → P[i]? = some y → cI x y = false) ∧ (∀ y, P[q]? = some y → cI x y = true) := by
  clear hs
  induction P with
  | nil => exact ⟨0, by simp, fun i y hi => by omega, fun y hy => by simp at hy⟩
  | cons a P ih =>
   cases ha : cI x a with
   | true => exact ⟨0, by omega, fun i y hi => by omega, fun y hy => by simp at hy; rw [← hy]; exact ha⟩
   | false =>
    obtain ⟨q, h1, h2, h3⟩ := ih
    refine ⟨q + 1, by simp; omega, fun i y hi hy => ?_, fun y hy => h3 y (by simpa using hy)⟩
    cases i with
    | zero => simp at hy; rw [← hy]; exact ha
    | succ i => exact h2 i y (by omega) (by simpa using hy)
 obtain ⟨q, hq, h1, h2⟩ := key
 have hge : ∀ k y, q ≤ k → P[k]? = some y → cI x y = true := fun k y hk hy => by
  obtain ⟨z, hz⟩ := ai (xs := P) (k := q) (by have := (List.getElem?_eq_some_iff.1 hy).1; omega)
  have h3 := h2 z hz
  rcases Nat.lt_or_ge q k with h | h
  ·exact qx h3 (hs q k z y h hz hy)
  ·obtain rfl : k = q := by omega
   rw [hy] at hz; injection hz with hz; rw [hz]; exact h3
 rw [jr h1 hq h2]
 intro i k a b hik ha hb
 have hl : (P.take q).length = q := by simp; omega
 rcases Nat.lt_or_ge k q with hk | hk
 ·rw [List.getElem?_append_left (by omega), List.getElem?_take, if_pos (by omega)] at ha hb
  exact hs i k a b hik ha hb
 ·rw [List.getElem?_append_right (by omega), hl] at hb
  rcases Nat.lt_or_ge i q with hi | hi
  ·rw [List.getElem?_append_left (by omega), List.getElem?_take, if_pos hi] at ha
   cases hkq : k - q with
   | zero => rw [hkq] at hb; simp at hb; rw [← hb]; exact h1 i a hi ha
   | succ m =>
    rw [hkq] at hb; simp at hb
    exact hs i (q + m) a b (by omega) ha hb
  ·rw [List.getElem?_append_right (by omega), hl] at ha
   cases hkq : k - q with
   | zero => omega
   | succ m =>
    rw [hkq] at hb; simp at hb
    cases hiq : i - q with
    | zero => rw [hiq] at ha; simp at ha; rw [← ha]; exact uB (hge (q + m) b (by omega) hb)
    | succ l =>
     rw [hiq] at ha; simp at ha
     exact hs (q + l) (q + m) a b (by omega) ha hb
theorem wV (xs : List Pl) (k : Nat) : Srt (bE (xs.take k)) := by
 induction k with
 | zero => intro i k a b _ ha; simp [bE] at ha
 | succ k ih =>
  rcases Nat.lt_or_ge k xs.length with h | h
  ·obtain ⟨x, hx⟩ := ai h
   rw [lE hx]; exact xy ih
  ·rw [List.take_of_length_le (by omega)] at ih
   rw [List.take_of_length_le (by omega)]; exact ih
section
variable {α : Type} {T : Ty α} {w : World}
theorem Own.swap {e B g n c j : Nat} {xs : List α} {G : List Nat} {a b : α} (h : Own T e B w (.slice (some ⟨g, 0, none⟩) n c) xs G) (ha : xs[j]? = some a) (hb : xs[j + 1]? = some b) :
  ∃ ca cb Fa Fb G', T.E w ca a Fa ∧ T.E w cb b Fb ∧ (∀ k v, ca[k]? = some v → w.cell? ⟨g, j * T.k + k, none⟩ = some v) ∧ (∀ k v, cb[k]? = some v → w.cell? ⟨g, (j + 1) * T.k + k, none⟩ = some v) ∧ G'.Perm G ∧
   Own T e B (ei (ei w g ((j + 1) * T.k) ca) g (j * T.k) cb) (.slice (some ⟨g, 0, none⟩) n c) ((xs.set (j + 1) a).set j b) G' := by
 obtain ⟨A0, c0, e0, _⟩ := h.form
 injection e0 with e1 e2 e3; subst e2 e3
 have hj := (List.getElem?_eq_some_iff.1 hb).1
 obtain ⟨cs, h1, h2, h3⟩ := h
 obtain ⟨c1, ca, c2, F1, Fa, F2, rfl, rfl, hl, k1, k2, k3⟩ := Ty.els_mid h2 ha
 rw [dd hb] at k3
 obtain ⟨cb, c3, Fb, F3, rfl, rfl, k4, k5⟩ := k3
 have hgG := h3 g rfl
 simp only [List.mem_append, not_or] at hgG
 obtain ⟨g1, ga, gb, g3⟩ := hgG
 have la := T.len k2
 have lb := T.len k4
 have bl : ∀ b', b' ≠ g → (ei (ei w g ((j + 1) * T.k) ca) g (j * T.k) cb).heap[b']? = w.heap[b']? := fun b' hb' => (fN _ g _ cb b' hb').trans (fN w g _ ca b' hb')
 have hcell : ∀ i u, (c1 ++ (ca ++ (cb ++ c3)))[i]? = some u → w.cell? ⟨g, i, none⟩ = some u := fun i u hi => by
  have hl' := (List.getElem?_eq_some_iff.1 hi).1
  rw [h1.cellAt i (by rw [h1.1] at hl'; exact hl')]; exact hi
 have hl1 : (j + 1) * T.k = (c1 ++ ca).length := by rw [List.length_append, hl, la, Nat.succ_mul]
 refine ⟨ca, cb, Fa, Fb, F1 ++ (Fb ++ (Fa ++ F3)), k2, k4, fun k v hk => ?_, fun k v hk => ?_, ?_, c1 ++ (cb ++ (ca ++ c3)), ?_, ?_, fun b' hb' => ?_⟩
 ·rw [← hl]
  refine hcell _ _ ?_
  have hkl := (List.getElem?_eq_some_iff.1 hk).1
  rw [List.getElem?_append_right (by omega), Nat.add_sub_cancel_left, List.getElem?_append_left hkl]; exact hk
 ·rw [hl1, List.length_append]
  refine hcell _ _ ?_
  have hkl := (List.getElem?_eq_some_iff.1 hk).1
  rw [List.getElem?_append_right (by omega), List.getElem?_append_right (by omega), show c1.length + ca.length + k - c1.length - ca.length = k from by omega, List.getElem?_append_left hkl]; exact hk
 ·refine List.Perm.append_left _ ?_
  rw [← List.append_assoc, ← List.append_assoc]
  exact List.perm_append_comm.append_right _
 ·have s1 := eV ((j + 1) * T.k) ca h1
  rw [hl1, show c1 ++ (ca ++ (cb ++ c3)) = (c1 ++ ca) ++ (cb ++ c3) from by simp, lD _ _ _ _ (by rw [la, lb]), ← hl1] at s1
  have s2 := eV (j * T.k) cb s1
  rw [← hl, show (c1 ++ ca) ++ (ca ++ c3) = c1 ++ (ca ++ (ca ++ c3)) from by simp, lD _ _ _ _ (by rw [la, lb]), hl] at s2
  rw [List.length_set, List.length_set]; exact s2
 ·have hxs : xs = xs.take j ++ (a :: (b :: xs.drop (j + 1 + 1))) := by rw [← dd hb, ← dd ha, List.take_append_drop]
  have key : ∀ (P R : List α), P.length = j → ((P ++ (a :: b :: R)).set (j + 1) a).set j b = P ++ ([b] ++ ([a] ++ R)) := fun P R hP => by
   rw [List.set_append_right _ _ (by omega), hP, show j + 1 - j = 1 from by omega, List.set_append_right _ _ (by omega), hP, Nat.sub_self]; rfl
  have hset : (xs.set (j + 1) a).set j b = xs.take j ++ ([b] ++ ([a] ++ xs.drop (j + 1 + 1))) := by
   rw [← key (xs.take j) (xs.drop (j + 1 + 1)) (by simp; omega), ← hxs]
  rw [hset]
  exact Ty.els_append (Ty.els_keep k1 (fun b' hb' => bl b' (fun e => g1 (e ▸ hb')))) (Ty.els_append (Ty.els_one (T.keep k4 (fun b' hb' => bl b' (fun e => gb (e ▸ hb'))))) (Ty.els_append (Ty.els_one (T.keep k2 (fun b' hb' => bl b' (fun e => ga (e ▸ hb'))))) (Ty.els_keep k5 (fun b' hb' => bl b' (fun e => g3 (e ▸ hb'))))))
 ·simp [Value.ownBlock] at hb'
  subst hb'
  simp only [List.mem_append, not_or]
  exact ⟨g1, gb, ga, g3⟩
end
theorem yC {α : Type} {T : Ty α} {e B g n c : Nat} {w : World} {xs : List α} {G : List Nat} (h : Own T e B w (.slice (some ⟨g, 0, none⟩) n c) xs G) : ∀ j, w.frozen? ⟨g, j, none⟩ = false := by
 have hf := h.form
 obtain ⟨A0, c0, e0, _⟩ := hf
 injection e0 with e1 e2 e3; subst e2 e3
 obtain ⟨cs, h1, _⟩ := h
 exact fun j => h1.frozenAt j
theorem k9 (w : World) (g o : Nat) (c0 c1 c2 c3 c4 c5 : Value) : ei w g o [c0, c1, c2, c3, c4, c5] = (((((w.setCell ⟨g, o, none⟩ c0).setCell ⟨g, o + 1, none⟩ c1).setCell ⟨g, o + 2, none⟩ c2).setCell ⟨g, o + 3, none⟩ c3).setCell ⟨g, o + 4, none⟩ c4).setCell ⟨g, o + 5, none⟩ c5 := rfl
theorem qZ (w : World) (g o : Nat) (us : List Value) : Tch [g] w (ei w g o us) := by
 induction us generalizing w o with
 | nil => exact Tch.refl _ _
 | cons u us ih => exact ((Tch.refl _ _).setCell (.inl (by simp)) u).trans (ih _ _)
theorem iY {w : World} {cs : List Value} {x : Pl} {F : List Nat} (h : oPl.E w cs x F) : ∃ A c B d, cs = [.int .i64 x.kind, .int .i64 x.next, .int .i64 x.pk.el, .slice A x.pk.hd.length c, .int .i64 x.pk.tag, .slice B x.pk.bd.length d] := by
 obtain ⟨c1, c2, F1, F2, rfl, rfl, ⟨rfl, rfl⟩, c3, c4, F3, F4, rfl, rfl, ⟨rfl, rfl⟩, ⟨c5, c6, F5, F6, rfl, rfl, ⟨rfl, rfl⟩, c7, c8, F7, F8, rfl, rfl, ⟨vh, Gh, rfl, hh, rfl⟩, c9, c10, F9, F10, rfl, rfl, ⟨rfl, rfl⟩, ⟨vb, Gb, rfl, hb, rfl⟩⟩⟩ := h
 obtain ⟨A, c, rfl, _⟩ := hh.form
 obtain ⟨B, d, rfl, _⟩ := hb.form
 exact ⟨A, c, B, d, rfl⟩
theorem xP {P : List Pl} {x : Pl} {R : List Pl} {i : Nat} (h : P.length = i) : P ++ (x :: R) = st P x R i := by
 unfold st; rw [List.take_of_length_le (by omega), List.drop_eq_nil_of_le (by omega)]; rfl
theorem uc (xs : List Pl) (g c B : Nat) (G : List Nat) (w : World) (h : Own oPl 144 B w (.slice (some ⟨g, 0, none⟩) xs.length c) xs G) (hl : xs.length ≤ 5) :
  Calls Tryz.prog 245 #[.slice (some ⟨g, 0, none⟩) xs.length c, .int .i64 0, .int .i64 xs.length, .func (.func 190) #[] #[]] w fun e w' => e = .returned (.tuple #[]) ∧ ∃ G', Own oPl 144 B w' (.slice (some ⟨g, 0, none⟩) xs.length c) (bE xs) G' ∧ G'.Perm G ∧ Tch [g] w w' := by
 have H := hid h
 have hg := (h.top g rfl).2
 clear h
 go_enter Tryz.func245, Tryz.ntmps245
 go_wp2_with fail
 go_loopw [8] (fun iv wr => ∃ (i : Nat) (G' : List Nat), 1 ≤ i ∧ (i ≤ xs.length ∨ i = 1) ∧ iv = .int .i64 i ∧ Own oPl 144 B wr (.slice (some ⟨g, 0, none⟩) xs.length c) (bE (xs.take i) ++ xs.drop i) G' ∧ G'.Perm G ∧ Tch [g] w wr) (fun iv _ => xs.length + 1 - (intOf iv).toNat)
 case atStart => exact ⟨1, G, by omega, .inr rfl, rfl, by
  have e : bE (xs.take 1) ++ xs.drop 1 = xs := by
   cases xs with
   | nil => rfl
   | cons a l => rfl
  rw [e]; exact H.out, List.Perm.refl _, Tch.refl _ _⟩
 case round =>
  obtain ⟨i, G', hi1, hi2, rfl, ho, hp, ht⟩ := hrel
  by_cases hlt : i < xs.length
  ·obtain ⟨x, hx⟩ := ai hlt
   have hPl : (bE (xs.take i)).length = i := by rw [lc]; simp; omega
   have Hs := hid (wV xs i)
   have Hsn := hid (lE hx)
   have hst : bE (xs.take i) ++ xs.drop i = st (bE (xs.take i)) x (xs.drop (i + 1)) i := by
    rw [dd hx]; exact xP hPl
   rw [hst] at ho
   obtain ⟨P, hP⟩ : ∃ P, bE (xs.take i) = P := ⟨_, rfl⟩
   obtain ⟨R, hR⟩ : ∃ R, xs.drop (i + 1) = R := ⟨_, rfl⟩
   rw [hP] at hPl Hs Hsn ho
   rw [hR] at ho
   have HR := hid hR
   have Ho := hid ho; have Hp := hid hp; have Ht := hid ht; have HPl := hid hPl
   clear hx ho hp ht hst hP hR hPl
   go_wp2_with fail
   obtain ⟨wo, rfl⟩ : ∃ wo : World, wo = wr := ⟨_, rfl⟩
   go_loopw [9] (fun jv wx => ∃ (j : Nat) (G2 : List Nat), j ≤ i ∧ jv = .int .i64 j ∧ (∀ k y, j ≤ k → P[k]? = some y → cI x y = true) ∧ Own oPl 144 B wx (.slice (some ⟨g, 0, none⟩) xs.length c) (st P x R j) G2 ∧ G2.Perm G ∧ Tch [g] w wx) (fun jv _ => (intOf jv).toNat)
   case atStart => exact ⟨i, G', Nat.le_refl _, rfl, fun k y hk hy => by have := (List.getElem?_eq_some_iff.1 hy).1; have := HPl.out; omega, Ho.out, Hp.out, Ht.out⟩
   case round =>
    obtain ⟨j, G2, hj, rfl, hgt, ho, hp, ht⟩ := hrel
    clear Ho Hp Ht
    rcases j with _ | j
    ·have i1 : decide ((0 : Int) < ((0 : Nat) : Int)) = false := by decide
     have hfin := vT (x := x) Hs.out (Nat.zero_le _) hgt (fun y h => by omega)
     have Hfin := hid (show st P x R 0 = bE (xs.take (i + 1)) ++ xs.drop (i + 1) by rw [Hsn.out, hfin, HR.out]; simp [st])
     have Ho := hid ho; have Hp := hid hp; have Ht := hid ht
     clear ho hp ht hgt hfin i1
     go_wp2_with fail
     have HS := hid (fun (wx : World) (hT : Tch [] wr wx) => show True from True.intro)
     refine rgN [] 17 (by kernel_rfl) rfl (fun | none, _, _, _, _ => id | some _, _, _, _, _ => id) fun wd hH hbwd swd => ?_
     simp only [pw]
     refine ag [0, 1, 2, 3] ?_
     iterate 4 (refine ra HS.out rfl (by kernel_rfl) rfl (fun _ f => by go_simp; try with_reducible rfl) ?_; try simp only [pw])
     refine tu 4 rfl (by kernel_rfl) rfl ?_
     refine tu 5 rfl (by kernel_rfl) rfl ?_
     try simp only [pw]
     refine tu 6 rfl (by kernel_rfl) rfl ?_
     refine tu 7 rfl (by kernel_rfl) rfl ?_
     refine tu 8 rfl (by kernel_rfl) rfl ?_
     try simp only [pw]
     refine tu 9 rfl (by kernel_rfl) rfl ?_
     refine tu 10 rfl (by kernel_rfl) rfl ?_
     refine tu 11 rfl (by kernel_rfl) rfl ?_
     try simp only [pw]
     refine tu 12 rfl (by kernel_rfl) rfl ?_
     refine tu 13 rfl (by kernel_rfl) rfl ?_
     refine tu 14 rfl (by kernel_rfl) rfl ?_
     try simp only [pw]
     refine tu 15 rfl (by kernel_rfl) rfl ?_
     refine tr 16 HS.out rfl (by kernel_rfl) rfl (fun _ f => by go_simp; try with_reducible rfl) ?_
     try simp only [pw]
     refine dm (by kernel_rfl) ?_
     have hF := hH.nil
     have Ho3 := hid (Ho.out.go hF); have Ht3 := hid (Ht.out.trans (Tch.of hF))
     clear hH hF
     go_wp2_with fail
     go_roundw
     case rel => exact ⟨i + 1, G2, by omega, .inl (by omega), by go_num, by rw [← Hfin.out]; exact Ho3.out, Hp.out, Ht3.out⟩
     case measure => (simp [intOf] <;> omega)
    ·obtain ⟨a, ha⟩ := ai (xs := P) (k := j) (by have := HPl.out; omega)
     have hsa := zh (x := x) (R := R) ha
     have hsx : (st P x R (j + 1))[j + 1]? = some x := zi (by have := HPl.out; omega)
     have hsl : (st P x R (j + 1)).length = xs.length := (ho.len).symm
     have hjn : j + 1 < xs.length := by rw [← hsl]; exact (List.getElem?_eq_some_iff.1 hsx).1
     obtain ⟨ca, cb, Fa, Fb, G3, eA, eB, hca, hcb, hp3, ho3⟩ := Own.swap ho hsa hsx
     obtain ⟨Aa, na, Ba, da, rfl⟩ := iY eA
     obtain ⟨Ax, nx, Bx, dx, rfl⟩ := iY eB
     have hca' : ∀ k v, ([.int .i64 a.kind, .int .i64 a.next, .int .i64 a.pk.el, .slice Aa a.pk.hd.length na, .int .i64 a.pk.tag, .slice Ba a.pk.bd.length da] : List Value)[k]? = some v → wr.cell? ⟨g, j * 6 + k, none⟩ = some v := hca
     have hcb' : ∀ k v, ([.int .i64 x.kind, .int .i64 x.next, .int .i64 x.pk.el, .slice Ax x.pk.hd.length nx, .int .i64 x.pk.tag, .slice Bx x.pk.bd.length dx] : List Value)[k]? = some v → wr.cell? ⟨g, (j + 1) * 6 + k, none⟩ = some v := hcb
     have a0 := hca' 0 _ rfl; have a1 := hca' 1 _ rfl; have a2 := hca' 2 _ rfl; have a3 := hca' 3 _ rfl; have a4 := hca' 4 _ rfl; have a5 := hca' 5 _ rfl
     have b0 := hcb' 0 _ rfl; have b1 := hcb' 1 _ rfl; have b2 := hcb' 2 _ rfl; have b3 := hcb' 3 _ rfl; have b4 := hcb' 4 _ rfl; have b5 := hcb' 5 _ rfl
     rw [Nat.add_zero] at a0 b0
     have i1 : decide ((0 : Int) < (j : Int) + 1) = true := decide_eq_true (by omega)
     have q1 : IntKind.i64.wrap (j : Int) = (j : Int) := a9 (by omega)
     have q2 : (0 : Int) ≤ (j : Int) + 1 := by omega
     have q3 : ((j : Int) + 1).toNat = j + 1 := by omega
     have q4 : (j : Int) + 1 < (xs.length : Int) := by omega
     have q5 : j + 1 < xs.length := hjn
     have q6 : j < xs.length := by omega
     have q7 : (j : Int) < (xs.length : Int) := by omega
     have hgw := (ho.top g rfl).2
     have HS := hid (fun (wx : World) (hT : Tch [] wr wx) => And.intro (ll hT.nil hgw a0 a1 a2 a3 a4 a5) (ll hT.nil hgw b0 b1 b2 b3 b4 b5))
     have Ho := hid ho; have Hp := hid hp; have Ht := hid ht; have Ha := hid ha; have Hgt := hid hgt; have Hcm := hid (tS x a)
     have Hj := hid hj
     clear ho hp ht ha hgt a0 a1 a2 a3 a4 a5 b0 b1 b2 b3 b4 b5 hca hcb hca' hcb' eA eB hsa hsx hsl hp3 ho3 hj
     go_wp2_with fail
     refine rgN [] 17 (by kernel_rfl) rfl (fun | none, _, _, _, _ => id | some _, _, _, _, _ => id) fun wd hH hbwd swd => ?_
     simp only [pw]
     refine ag [0, 1, 2, 3, 4, 5, 6, 7, 8, 9, 10, 11, 12, 13] ?_
     iterate 14 (refine ra HS.out rfl (by kernel_rfl) rfl (fun _ f => by go_simp; try with_reducible rfl) ?_; try simp only [pw])
     refine rq 14 (by kernel_rfl) rfl fun K hK => ?_
     go_simp
     (go_at_call 190; refine (yv x a _ _ _ _ _ _ _ _ _ _ _ _ _).mono ?_; rintro e w5 ⟨rfl, hbC⟩)
     refine hK.out _ _ (hH.trans (Tch.of hbC)) (fun hH => ?_)
     clear hK K
     refine ag [15, 16] ?_
     iterate 2 (refine ra HS.out rfl (by kernel_rfl) rfl (fun _ f => by go_simp; try with_reducible rfl) ?_; try simp only [pw])
     refine dm (by kernel_rfl) ?_
     have hF := hH.nil
     cases hc : cI x a with
     | false =>
      have hcm := Hcm.out
      have hcn : ¬ (vG x a < 0) := fun h => by rw [hc, decide_eq_true h] at hcm; cases hcm
      rw [hc] at hcm
      have hfin := vT (x := x) Hs.out (j := j + 1) (by have := Hj.out; have := HPl.out; omega) Hgt.out (fun y _ hy => by
       rw [show j + 1 - 1 = j from by omega, Ha.out] at hy; injection hy with hy; rw [← hy]; exact hc)
      have Hfin := hid (show st P x R (j + 1) = bE (xs.take (i + 1)) ++ xs.drop (i + 1) by rw [Hsn.out, hfin, HR.out]; simp [st])
      have Ho3 := hid (Ho.out.go hF); have Ht3 := hid (Ht.out.trans (Tch.of hF))
      clear hH hF hfin hc q1 q2 q3 q4 q5 q6 q7 i1 hbC
      go_wp2_with fail
      go_roundw
      case rel => exact ⟨i + 1, G2, by omega, .inl (by omega), by go_num, by rw [← Hfin.out]; exact Ho3.out, Hp.out, Ht3.out⟩
      case measure => (simp [intOf] <;> omega)
     | true =>
      have hcm := Hcm.out
      have hcn : vG x a < 0 := by rw [hc] at hcm; exact of_decide_eq_true hcm
      rw [hc] at hcm
      have Hcm1 := hid hc
      have ho5 := Ho.out.go hF
      have hsa := zh (x := x) (R := R) Ha.out
      have hsx : (st P x R (j + 1))[j + 1]? = some x := zi (by have := Hj.out; have := HPl.out; omega)
      obtain ⟨ca, cb, Fa, Fb, G3, eA, eB, hca, hcb, hp3, ho3⟩ := Own.swap ho5 hsa hsx
      rw [xQ Ha.out] at ho3
      obtain ⟨Aa, na, Ba, da, rfl⟩ := iY eA
      obtain ⟨Ax, nx, Bx, dx, rfl⟩ := iY eB
      have hca' : ∀ k v, ([.int .i64 a.kind, .int .i64 a.next, .int .i64 a.pk.el, .slice Aa a.pk.hd.length na, .int .i64 a.pk.tag, .slice Ba a.pk.bd.length da] : List Value)[k]? = some v → w5.cell? ⟨g, j * 6 + k, none⟩ = some v := hca
      have hcb' : ∀ k v, ([.int .i64 x.kind, .int .i64 x.next, .int .i64 x.pk.el, .slice Ax x.pk.hd.length nx, .int .i64 x.pk.tag, .slice Bx x.pk.bd.length dx] : List Value)[k]? = some v → w5.cell? ⟨g, (j + 1) * 6 + k, none⟩ = some v := hcb
      have a0 := hca' 0 _ rfl; have a1 := hca' 1 _ rfl; have a2 := hca' 2 _ rfl; have a3 := hca' 3 _ rfl; have a4 := hca' 4 _ rfl; have a5 := hca' 5 _ rfl
      have b0 := hcb' 0 _ rfl; have b1 := hcb' 1 _ rfl; have b2 := hcb' 2 _ rfl; have b3 := hcb' 3 _ rfl; have b4 := hcb' 4 _ rfl; have b5 := hcb' 5 _ rfl
      rw [Nat.add_zero] at a0 b0
      have fz : ∀ j, w5.frozen? ⟨g, j, none⟩ = false := yC ho5
      have f0 := fz (j * 6); have f1 := fz (j * 6 + 1); have f2 := fz (j * 6 + 2); have f3 := fz (j * 6 + 3); have f4 := fz (j * 6 + 4); have f5 := fz (j * 6 + 5)
      have e0 := fz ((j + 1) * 6); have e1 := fz ((j + 1) * 6 + 1); have e2 := fz ((j + 1) * 6 + 2); have e3 := fz ((j + 1) * 6 + 3); have e4 := fz ((j + 1) * 6 + 4); have e5 := fz ((j + 1) * 6 + 5)
      clear fz
      have ht5 := (Ht.out.trans (Tch.of hF)).trans ((qZ w5 g ((j + 1) * 6) [.int .i64 a.kind, .int .i64 a.next, .int .i64 a.pk.el, .slice Aa a.pk.hd.length na, .int .i64 a.pk.tag, .slice Ba a.pk.bd.length da]).trans (qZ _ g (j * 6) [.int .i64 x.kind, .int .i64 x.next, .int .i64 x.pk.el, .slice Ax x.pk.hd.length nx, .int .i64 x.pk.tag, .slice Bx x.pk.bd.length dx]))
      rw [k9, k9] at ht5
      rw [show oPl.k = 6 from rfl, k9, k9] at ho3
      have Ho3 := hid ho3; have Hp3 := hid hp3; have Ht5 := hid ht5; have Hg5 := hid (ho5.top g rfl).2
      clear ho3 hp3 ho5 ht5 hH hF hca hcb hca' hcb' eA eB hc hsa hsx hbC
      go_wp2_with fail
      go_region
      go_wp2_with fail
      go_roundw
      case rel =>
       refine ⟨j, G3, by have := Hj.out; omega, by go_num, fun k y hk hy => ?_, Ho3.out.go (ae zm), Hp3.out.trans Hp.out, Ht5.out.drew1⟩
       by_cases hk' : k = j
       ·rw [hk', Ha.out] at hy; injection hy with hy; rw [← hy]; exact Hcm1.out
       ·exact Hgt.out k y (by omega) hy
      case measure => (simp [intOf] <;> omega)
  ·have hil : xs.length ≤ i := by omega
   have hfin : bE (xs.take i) ++ xs.drop i = bE xs := by rw [List.take_of_length_le hil, List.drop_eq_nil_of_le hil, List.append_nil]
   rw [hfin] at ho
   have i1 : decide ((i : Int) < (xs.length : Int)) = false := decide_eq_false (by omega)
   go_wp2_with fail
   exact bodyPost_end (results_none rfl _ _ _) rfl ⟨rfl, G', ho, hp, ht⟩
theorem ua (A : Option Addr) (c : Nat) (w : World) :
  Calls Tryz.prog 245 #[.slice A 0 c, .int .i64 0, .int .i64 0, .func (.func 190) #[] #[]] w fun e w' => e = .returned (.tuple #[]) ∧ Below w.heap.size w w' := by
 go_enter Tryz.func245, Tryz.ntmps245
 go_wp2_with fail
 go_loopw [8] (fun iv wr => iv = .int .i64 1 ∧ Below w.heap.size w wr) (fun _ _ => 0)
 case atStart => exact ⟨rfl, by repeat (first | exact zm | refine below_drewN ?_ _)⟩
 case round =>
  obtain ⟨rfl, hb⟩ := hrel
  go_wp2_with fail
  exact bodyPost_end (results_none rfl _ _ _) rfl ⟨rfl, hb⟩
theorem yG (xs : List Pl) (A : Option Addr) (c B : Nat) (G : List Nat) (w : World) (h : Own oPl 144 B w (.slice A xs.length c) xs G) (hl : xs.length ≤ 5) :
  Calls Tryz.prog 234 #[.slice A xs.length c, .int .i64 xs.length, .func (.func 190) #[] #[]] w fun e w' => e = .returned (.tuple #[]) ∧ ∃ G', Own oPl 144 B w' (.slice A xs.length c) (bE xs) G' ∧ G'.Perm G ∧ Tch (Value.slice A xs.length c).ownBlock.toList w w' := by
 have H := hid h
 have hkey : ∀ w0, Below w.heap.size w w0 → Calls Tryz.prog 245 #[.slice A xs.length c, .int .i64 0, .int .i64 xs.length, .func (.func 190) #[] #[]] w0 fun e w' => e = .returned (.tuple #[]) ∧ ∃ G', Own oPl 144 B w' (.slice A xs.length c) (bE xs) G' ∧ G'.Perm G ∧ Tch (Value.slice A xs.length c).ownBlock.toList w w' := by
  intro w0 hb0
  obtain ⟨A', c', e0, hf⟩ := h.form
  injection e0 with e1 e2 e3; subst e1 e3
  rcases xs with _ | ⟨x, xs⟩
  ·refine (ua A c w0).mono ?_
   rintro e w' ⟨rfl, hb⟩
   exact ⟨rfl, G, H.out.go (hb0.trans (hb.mono hb0.size)), List.Perm.refl _, Tch.of (hb0.trans (hb.mono hb0.size))⟩
  ·obtain ⟨g, rfl⟩ : ∃ g, A = some ⟨g, 0, none⟩ := by
    obtain ⟨g, _, _, rfl, _⟩ := Own.at_ h (i := 0) (x := x) rfl
    exact ⟨g, rfl⟩
   refine (uc (x :: xs) g c B G w0 (h.go hb0) hl).mono ?_
   rintro e w' ⟨rfl, G', h1, h2, h3⟩
   exact ⟨rfl, G', h1, h2, (Tch.of hb0).trans h3⟩
 have Hk := hid hkey
 clear h hkey
 have hz : decide ((20 : Int) ≤ (xs.length : Int)) = false := decide_eq_false (by omega)
 have hz2 : decide ((20 : Int) < (xs.length : Int)) = false := decide_eq_false (by omega)
 go_enter Tryz.func234, Tryz.ntmps234
 go_wp2_with fail
 go_loopw [7, 8] (fun av bv wr => av = .int .i64 0 ∧ bv = .int .i64 20 ∧ Below w.heap.size w wr) (fun _ _ _ => 0)
 case atStart => exact ⟨rfl, rfl, by repeat (first | exact zm | refine below_drewN ?_ _)⟩
 case round =>
  obtain ⟨rfl, rfl, hb⟩ := hrel
  go_wp2_with fail
  go_wp2_with (go_at_call 245; refine (Hk.out _ (by first | exact hb | exact ae hb)).mono ?_; rintro e w5 ⟨rfl, G', h1, h2, h3⟩)
  go_wp2_with fail
  go_loopw [6, 7, 8, 9] (fun av bv cv dv wr => av = .int .i64 20 ∧ wr = w5) (fun _ _ _ _ _ => 0)
  case atStart => exact ⟨rfl, rfl⟩
  case round =>
   obtain ⟨rfl, rfl⟩ := hrel
   go_wp2_with fail
   exact bodyPost_end (results_none rfl _ _ _) rfl ⟨rfl, G', h1, h2, h3⟩
theorem kv (xs : List Pl) (A : Option Addr) (c B : Nat) (G : List Nat) (w : World) (h : Own oPl 144 B w (.slice A xs.length c) xs G) (hl : xs.length ≤ 5) :
  Calls Tryz.prog 189 #[.slice A xs.length c, .func (.func 190) #[] #[]] w fun e w' => e = .returned (.tuple #[]) ∧ ∃ G', Own oPl 144 B w' (.slice A xs.length c) (bE xs) G' ∧ G'.Perm G ∧ Tch (Value.slice A xs.length c).ownBlock.toList w w' := by
 have Hk := hid h
 clear h
 go_enter Tryz.func189, Tryz.ntmps189
 go_wp2_with (go_at_call 234; refine (yG xs A c B G _ (Hk.out.go (by repeat (first | exact zm | refine below_drewN ?_ _))) hl).mono ?_; rintro e w5 ⟨rfl, G', h1, h2, h3⟩)
 exact bodyPost_end (results_none rfl _ _ _) rfl ⟨rfl, G', h1, h2, (Tch.of (by repeat (first | exact zm | refine below_drewN ?_ _))).trans h3⟩
def sJ (w : World) (r : Mx × List Pl) (e : Ending) (w' : World) : Prop :=
 ∃ us up ul, e = .returned (.tuple #[.agg #[.int .i64 r.1.sec, us, up], ul]) ∧ aJ (oMx.prod fM) w.heap.size w' [.int .i64 r.1.sec, us, up, ul] r ∧ Below w.heap.size w w'
theorem yn {B : Nat} {w : World} {a us up : Value} {m : Mx} (h : aJ oMx B w [a, us, up] m) : aJ (oMx.prod fM) B w [a, us, up, .slice none 0 0] (m, []) := by
 obtain ⟨F, hE, n1, n2⟩ := h
 exact ⟨F, ⟨[a, us, up], [.slice none 0 0], F, [], rfl, by simp, hE, ⟨_, [], rfl, Own.nil _ _, rfl⟩⟩, n1, n2⟩
theorem yo {P : Nat → Prop} {w : World} {us ul : Value} {sec : Int} {seen : List Int} {list : List Pl} {F1 F2 : List Nat} (h1 : ee.E w [us] seen F1) (h2 : fM.E w [ul] list F2) (hn : (F1 ++ F2).Nodup) (hB : ∀ b ∈ F1 ++ F2, P b) :
  ∃ K, (oMx.prod fM).E w [.int .i64 sec, us, .slice none 0 0, ul] (⟨sec, seen, []⟩, list) K ∧ K.Nodup ∧ ∀ b ∈ K, P b :=
 ⟨F1 ++ F2, ⟨[.int .i64 sec, us, .slice none 0 0], [ul], F1, F2, rfl, rfl, ⟨[.int .i64 sec], [us, .slice none 0 0], [], F1, rfl, rfl, ⟨rfl, rfl⟩, [us], [.slice none 0 0], F1, [], rfl, by simp, h1, ⟨_, [], rfl, Own.nil _ _, rfl⟩⟩, h2⟩, hn, hB⟩
theorem lx {B : Nat} {w : World} {m : Mx} {a us up : Value} (h : aJ oMx B w [a, us, up] m) : ∃ G G', Own af 3 0 w us m.seen G ∧ Own oPl 144 0 w up m.pool G' ∧ ((us.ownBlock.toList ++ G) ++ (up.ownBlock.toList ++ G')).Nodup ∧ ∀ b ∈ (us.ownBlock.toList ++ G) ++ (up.ownBlock.toList ++ G'), B ≤ b := by
 obtain ⟨F, ⟨c1, c2, F1, F2, e1, e2, ⟨rfl, rfl⟩, c3, c4, F3, F4, e3, e4, ⟨u, G, rfl, hu, rfl⟩, ⟨v, G', rfl, hv, rfl⟩⟩, n1, n2⟩ := h
 subst e3
 simp at e1
 obtain ⟨_, rfl, rfl⟩ := e1
 subst e4
 rw [List.nil_append] at e2
 subst e2
 exact ⟨G, G', hu, hv, n1, n2⟩
theorem nV (m : Mx) (vs vp : Value) (w : World) (h1 : SlB af w.heap.size w vs m.seen) (h2 : SlB tPl w.heap.size w vp m.pool) (hm : mxB m = true) (hl : m.pool.length < 2) :
  Calls Tryz.prog 139 #[.agg #[.int .i64 m.sec, vs, vp], .bool false] w (sJ w (m, [])) := by
 have i1 : decide ((m.pool.length : Int) < 2) = true := decide_eq_true (by omega)
 have hl0 := hid hl
 clear hl
 obtain ⟨m1, m2, m3, m4, m5⟩ := bN.1 hm
 have Hpool := hid (fun (x : Pl) (hx : x ∈ m.pool) => show x.pk.hd.length ≤ 1073741824 ∧ x.pk.bd.length ≤ 1073741824 by
  obtain ⟨_, _, hk⟩ := bc.1 (m5 x hx)
  obtain ⟨_, ⟨a, _⟩, ⟨b, _⟩, _⟩ := aA.1 hk
  omega)
 have H1 := hid (fun (wx : World) (hb : Below w.heap.size w wx) => h1.go hb)
 have H2 := hid (fun (wx : World) (hb : Below w.heap.size w wx) => h2.go hb)
 obtain ⟨As, cs, rfl, _, _, _⟩ := h1.form
 obtain ⟨Ap, cp, rfl, _, _, _⟩ := h2.form
 have Hm := hid hm
 clear h1 h2 hm m4 m5
 go_enter Tryz.func139, Tryz.ntmps139
 go_wp2_with fail
 refine (cZ m _ _ _ (H1.out _ (by repeat (first | exact zm | apply ae | refine bA ?_ (by omega) | refine Below.setCell ?_ (by first | omega | simp <;> omega) _))) (H2.out _ (by repeat (first | exact zm | apply ae | refine bA ?_ (by omega) | refine Below.setCell ?_ (by first | omega | simp <;> omega) _)))).mono ?_
 rw [Hm.out]
 rintro e wb ⟨rfl, hb1⟩
 obtain ⟨b0, b1⟩ := dJ hb1
 have hc1 : Below w.heap.size w wb := bt (by repeat (first | exact zm | apply ae | refine bA ?_ (by omega) | refine Below.setCell ?_ (by first | omega | simp <;> omega) _)) hb1
 have s1 : w.heap.size + 1 < wb.heap.size := (zn b1)
 have s1a : w.heap.size < wb.heap.size := by omega
 obtain ⟨k0, k1, k2, _⟩ := aN b0
 have Hc1 := hid hc1; have E0 := hid b0; have E1 := hid b1
 clear hb1 hc1 b0 b1
 go_wp2_with fail
 refine (db m _ _ _ (H1.out _ Hc1.out) (H2.out _ Hc1.out) (by omega) (by omega) Hpool.out).mono ?_
 rintro e w2 ⟨us, up, rfl, n2, hb2⟩
 obtain ⟨A1, c1, A2, c2, rfl, rfl⟩ := bo n2
 have e0 := ac hb2 E0.out
 have e1 := ac hb2 E1.out
 have s2 : w.heap.size + 1 < w2.heap.size := (zn e1)
 have s2a : w.heap.size < w2.heap.size := by omega
 have sb2 := hb2.size
 clear k0 k1 k2
 obtain ⟨k0, k1, k2, _⟩ := aN e0
 obtain ⟨l0, l1, l2, lf⟩ := aN e1
 have lf0 := lf 0; have lf1 := lf 1; have lf2 := lf 2
 have N2 := hid n2; have Hc2 := hid (bt Hc1.out hb2); have E2 := hid e1
 clear n2 hb2 e0 e1 lf
 go_wp2_with fail
 refine bodyPost_ret (v := .tuple #[.agg #[.int .i64 m.sec, .slice A1 m.seen.length c1, .slice A2 m.pool.length c2], .slice none 0 0]) (by simp [results, Tryz.results139, go_sem, l0, l1, l2, s2]) rfl ⟨_, _, _, rfl, ?_, ?_⟩
 ·refine yn ?_
  refine aJ.base (B := wb.heap.size) ?_ (by omega)
  repeat (first | refine aJ.set ?_ (by dsimp only; omega) | refine aJ.go ?_ (ab _ _) (Nat.le_refl _))
  exact N2.out
 ·repeat (first | refine Below.setCell ?_ (by dsimp only; omega) _ | refine Below.alloc ?_ (by simp only [World.size_alloc, al]; omega) _)
  exact Hc2.out
theorem pA (m : Mx) (vs vp : Value) (w : World) (h1 : SlB af w.heap.size w vs m.seen) (h2 : SlB tPl w.heap.size w vp m.pool) (hm : mxB m = true) :
  Calls Tryz.prog 139 #[.agg #[.int .i64 m.sec, vs, vp], .bool true] w (sJ w (⟨m.sec, m.seen, []⟩, bE m.pool)) := by
 cases i1 : decide ((m.pool.length : Int) < 2) with
 | true =>
 obtain ⟨m1, m2, m3, m4, m5⟩ := bN.1 hm
 have Hpool := hid (fun (x : Pl) (hx : x ∈ m.pool) => show x.pk.hd.length ≤ 1073741824 ∧ x.pk.bd.length ≤ 1073741824 by
  obtain ⟨_, _, hk⟩ := bc.1 (m5 x hx)
  obtain ⟨_, ⟨a, _⟩, ⟨b, _⟩, _⟩ := aA.1 hk
  omega)
 have H1 := hid (fun (wx : World) (hb : Below w.heap.size w wx) => h1.go hb)
 have H2 := hid (fun (wx : World) (hb : Below w.heap.size w wx) => h2.go hb)
 obtain ⟨As, cs, rfl, _, _, _⟩ := h1.form
 obtain ⟨Ap, cp, rfl, _, _, _⟩ := h2.form
 have Hm := hid hm
 clear h1 h2 hm m4 m5
 go_enter Tryz.func139, Tryz.ntmps139
 go_wp2_with fail
 refine (cZ m _ _ _ (H1.out _ (by repeat (first | exact zm | apply ae | refine bA ?_ (by omega) | refine Below.setCell ?_ (by first | omega | simp <;> omega) _))) (H2.out _ (by repeat (first | exact zm | apply ae | refine bA ?_ (by omega) | refine Below.setCell ?_ (by first | omega | simp <;> omega) _)))).mono ?_
 rw [Hm.out]
 rintro e wb ⟨rfl, hb1⟩
 obtain ⟨b0, b1⟩ := dJ hb1
 have hc1 : Below w.heap.size w wb := bt (by repeat (first | exact zm | apply ae | refine bA ?_ (by omega) | refine Below.setCell ?_ (by first | omega | simp <;> omega) _)) hb1
 have s1 : w.heap.size + 1 < wb.heap.size := (zn b1)
 have s1a : w.heap.size < wb.heap.size := by omega
 obtain ⟨k0, k1, k2, _⟩ := aN b0
 have Hc1 := hid hc1; have E0 := hid b0; have E1 := hid b1
 clear hb1 hc1 b0 b1
 go_wp2_with fail
 refine (db m _ _ _ (H1.out _ Hc1.out) (H2.out _ Hc1.out) (by omega) (by omega) Hpool.out).mono ?_
 rintro e w2 ⟨us, up, rfl, n2, hb2⟩
 obtain ⟨A1, c1, A2, c2, rfl, rfl⟩ := bo n2
 have e0 := ac hb2 E0.out
 have e1 := ac hb2 E1.out
 have s2 : w.heap.size + 1 < w2.heap.size := (zn e1)
 have s2a : w.heap.size < w2.heap.size := by omega
 have sb2 := hb2.size
 clear k0 k1 k2
 obtain ⟨k0, k1, k2, _⟩ := aN e0
 obtain ⟨l0, l1, l2, lf⟩ := aN e1
 have lf0 := lf 0; have lf1 := lf 1; have lf2 := lf 2
 have N2 := hid n2; have Hc2 := hid (bt Hc1.out hb2); have E2 := hid e1
 clear n2 hb2 e0 e1 lf
 go_wp2_with fail
 go_wp2_with fail
 obtain ⟨G, G', hu, hv, hn, hB⟩ := lx N2.out
 have hb3 := ab w2 (.cells #[.int .i64 m.sec, .slice A1 m.seen.length c1, .slice A2 m.pool.length c2] 70)
 refine (kv m.pool A2 c2 0 G' _ (hv.go hb3) (by omega)).mono ?_
 rintro e w5 ⟨rfl, G5, ho5, hp5, ht5⟩
 have E0 : ee.E w2 [.slice A1 m.seen.length c1] m.seen ((Value.slice A1 m.seen.length c1).ownBlock.toList ++ G) := ⟨_, G, rfl, hu, rfl⟩
 have P0 : fM.E w2 [.slice A2 m.pool.length c2] m.pool ((Value.slice A2 m.pool.length c2).ownBlock.toList ++ G') := ⟨_, G', rfl, hv, rfl⟩
 have hnot : ∀ n, (n < wb.heap.size ∨ w2.heap.size ≤ n) → n ∉ (Value.slice A2 m.pool.length c2).ownBlock.toList := fun n hn' hm' => by
  have q1 := hB n (List.mem_append_right _ (List.mem_append_left _ hm'))
  have q2 := fM.lt P0 n (List.mem_append_left _ hm')
  omega
 have E5 : ee.E w5 [.slice A1 m.seen.length c1] m.seen ((Value.slice A1 m.seen.length c1).ownBlock.toList ++ G) := ee.keep E0 (fun b hb => by
  have q1 := ee.lt E0 b hb
  refine (ht5.block b (by simp only [World.size_alloc]; omega) (fun hm' => ?_)).trans (hb3.block b q1)
  exact (List.nodup_append.1 hn).2.2 b hb b (List.mem_append_left _ hm') rfl)
 have hp6 : (((Value.slice A1 m.seen.length c1).ownBlock.toList ++ G) ++ ((Value.slice A2 m.pool.length c2).ownBlock.toList ++ G5)).Perm (((Value.slice A1 m.seen.length c1).ownBlock.toList ++ G) ++ ((Value.slice A2 m.pool.length c2).ownBlock.toList ++ G')) := List.Perm.append_left _ (List.Perm.append_left _ hp5)
 have hK := hid (yo (P := fun b => wb.heap.size ≤ b ∧ b < w2.heap.size) (sec := m.sec) E5 (show fM.E w5 [.slice A2 m.pool.length c2] (bE m.pool) _ from ⟨_, G5, rfl, ho5, rfl⟩) (hp6.nodup_iff.2 hn) (fun b hb => by
  have hb' := hp6.mem_iff.1 hb
  refine ⟨hB b hb', ?_⟩
  rcases List.mem_append.1 hb' with h | h
  ·exact ee.lt E0 b h
  ·exact fM.lt P0 b h))
 obtain ⟨o0, o1, o2, of⟩ := aN (ht5.row (heap_alloc_new w2 _) (hnot _ (.inr (Nat.le_refl _))))
 have of2 := of 2
 have h5 := hid (bt Hc2.out hb3)
 have hR := ht5.row (ac hb3 E2.out) (hnot _ (.inl (by omega)))
 have s5 := ht5.size
 rw [World.size_alloc] at s5
 have HB5 := hid (show Below w.heap.size w w5 from h5.out.trans (ht5.below (by simp only [World.size_alloc]; omega) (fun b hb => by
  have q1 := hB b (List.mem_append_right _ (List.mem_append_left _ hb)); omega)))
 clear l0 l1 l2 lf0 lf1 lf2 k0 k1 k2
 obtain ⟨l0, l1, l2, lf⟩ := aN hR
 have lf0 := lf 0; have lf1 := lf 1; have lf2 := lf 2
 have s5a : w.heap.size + 1 < w5.heap.size := by omega
 have s5b : w2.heap.size < w5.heap.size := by omega
 clear hnot E5 hp6 hn hB hu hv ho5 hp5 ht5 E0 P0 hR of lf hb3
 go_wp2_with fail
 refine bodyPost_ret (v := .tuple #[.agg #[.int .i64 m.sec, .slice A1 m.seen.length c1, .slice none 0 0], .slice A2 m.pool.length c2]) (by simp [results, Tryz.results139, go_sem, l0, l1, l2, s5a, o0, o1, o2]) rfl ⟨_, _, _, rfl, ?_, ?_⟩
 ·obtain ⟨K, z1, z2, z3⟩ := bC (bC (bC (bC hK.out (p := ⟨w2.heap.size, 2, none⟩) (u := .slice none 0 0) (by dsimp only; omega)) (p := ⟨w.heap.size + 1, 0, none⟩) (u := .int .i64 m.sec) (by dsimp only; omega)) (p := ⟨w.heap.size + 1, 1, none⟩) (u := .slice A1 m.seen.length c1) (by dsimp only; omega)) (p := ⟨w.heap.size + 1, 2, none⟩) (u := .slice none 0 0) (by dsimp only; omega)
  exact ⟨K, z1, z2, fun b hb => by have := (z3 b hb).1; omega⟩
 ·repeat (refine Below.setCell ?_ (by dsimp only; omega) _)
  exact HB5.out
 | false =>
 obtain ⟨m1, m2, m3, m4, m5⟩ := bN.1 hm
 have Hpool := hid (fun (x : Pl) (hx : x ∈ m.pool) => show x.pk.hd.length ≤ 1073741824 ∧ x.pk.bd.length ≤ 1073741824 by
  obtain ⟨_, _, hk⟩ := bc.1 (m5 x hx)
  obtain ⟨_, ⟨a, _⟩, ⟨b, _⟩, _⟩ := aA.1 hk
  omega)
 have H1 := hid (fun (wx : World) (hb : Below w.heap.size w wx) => h1.go hb)
 have H2 := hid (fun (wx : World) (hb : Below w.heap.size w wx) => h2.go hb)
 obtain ⟨As, cs, rfl, _, _, _⟩ := h1.form
 obtain ⟨Ap, cp, rfl, _, _, _⟩ := h2.form
 have Hm := hid hm
 clear h1 h2 hm m4 m5
 go_enter Tryz.func139, Tryz.ntmps139
 go_wp2_with fail
 refine (cZ m _ _ _ (H1.out _ (by repeat (first | exact zm | apply ae | refine bA ?_ (by omega) | refine Below.setCell ?_ (by first | omega | simp <;> omega) _))) (H2.out _ (by repeat (first | exact zm | apply ae | refine bA ?_ (by omega) | refine Below.setCell ?_ (by first | omega | simp <;> omega) _)))).mono ?_
 rw [Hm.out]
 rintro e wb ⟨rfl, hb1⟩
 obtain ⟨b0, b1⟩ := dJ hb1
 have hc1 : Below w.heap.size w wb := bt (by repeat (first | exact zm | apply ae | refine bA ?_ (by omega) | refine Below.setCell ?_ (by first | omega | simp <;> omega) _)) hb1
 have s1 : w.heap.size + 1 < wb.heap.size := (zn b1)
 have s1a : w.heap.size < wb.heap.size := by omega
 obtain ⟨k0, k1, k2, _⟩ := aN b0
 have Hc1 := hid hc1; have E0 := hid b0; have E1 := hid b1
 clear hb1 hc1 b0 b1
 go_wp2_with fail
 refine (db m _ _ _ (H1.out _ Hc1.out) (H2.out _ Hc1.out) (by omega) (by omega) Hpool.out).mono ?_
 rintro e w2 ⟨us, up, rfl, n2, hb2⟩
 obtain ⟨A1, c1, A2, c2, rfl, rfl⟩ := bo n2
 have e0 := ac hb2 E0.out
 have e1 := ac hb2 E1.out
 have s2 : w.heap.size + 1 < w2.heap.size := (zn e1)
 have s2a : w.heap.size < w2.heap.size := by omega
 have sb2 := hb2.size
 clear k0 k1 k2
 obtain ⟨k0, k1, k2, _⟩ := aN e0
 obtain ⟨l0, l1, l2, lf⟩ := aN e1
 have lf0 := lf 0; have lf1 := lf 1; have lf2 := lf 2
 have N2 := hid n2; have Hc2 := hid (bt Hc1.out hb2); have E2 := hid e1
 clear n2 hb2 e0 e1 lf
 go_wp2_with fail
 go_wp2_with fail
 obtain ⟨G, G', hu, hv, hn, hB⟩ := lx N2.out
 have hb3 := ab w2 (.cells #[.int .i64 m.sec, .slice A1 m.seen.length c1, .slice A2 m.pool.length c2] 70)
 refine (kv m.pool A2 c2 0 G' _ (hv.go hb3) (by omega)).mono ?_
 rintro e w5 ⟨rfl, G5, ho5, hp5, ht5⟩
 have E0 : ee.E w2 [.slice A1 m.seen.length c1] m.seen ((Value.slice A1 m.seen.length c1).ownBlock.toList ++ G) := ⟨_, G, rfl, hu, rfl⟩
 have P0 : fM.E w2 [.slice A2 m.pool.length c2] m.pool ((Value.slice A2 m.pool.length c2).ownBlock.toList ++ G') := ⟨_, G', rfl, hv, rfl⟩
 have hnot : ∀ n, (n < wb.heap.size ∨ w2.heap.size ≤ n) → n ∉ (Value.slice A2 m.pool.length c2).ownBlock.toList := fun n hn' hm' => by
  have q1 := hB n (List.mem_append_right _ (List.mem_append_left _ hm'))
  have q2 := fM.lt P0 n (List.mem_append_left _ hm')
  omega
 have E5 : ee.E w5 [.slice A1 m.seen.length c1] m.seen ((Value.slice A1 m.seen.length c1).ownBlock.toList ++ G) := ee.keep E0 (fun b hb => by
  have q1 := ee.lt E0 b hb
  refine (ht5.block b (by simp only [World.size_alloc]; omega) (fun hm' => ?_)).trans (hb3.block b q1)
  exact (List.nodup_append.1 hn).2.2 b hb b (List.mem_append_left _ hm') rfl)
 have hp6 : (((Value.slice A1 m.seen.length c1).ownBlock.toList ++ G) ++ ((Value.slice A2 m.pool.length c2).ownBlock.toList ++ G5)).Perm (((Value.slice A1 m.seen.length c1).ownBlock.toList ++ G) ++ ((Value.slice A2 m.pool.length c2).ownBlock.toList ++ G')) := List.Perm.append_left _ (List.Perm.append_left _ hp5)
 have hK := hid (yo (P := fun b => wb.heap.size ≤ b ∧ b < w2.heap.size) (sec := m.sec) E5 (show fM.E w5 [.slice A2 m.pool.length c2] (bE m.pool) _ from ⟨_, G5, rfl, ho5, rfl⟩) (hp6.nodup_iff.2 hn) (fun b hb => by
  have hb' := hp6.mem_iff.1 hb
  refine ⟨hB b hb', ?_⟩
  rcases List.mem_append.1 hb' with h | h
  ·exact ee.lt E0 b h
  ·exact fM.lt P0 b h))
 obtain ⟨o0, o1, o2, of⟩ := aN (ht5.row (heap_alloc_new w2 _) (hnot _ (.inr (Nat.le_refl _))))
 have of2 := of 2
 have h5 := hid (bt Hc2.out hb3)
 have hR := ht5.row (ac hb3 E2.out) (hnot _ (.inl (by omega)))
 have s5 := ht5.size
 rw [World.size_alloc] at s5
 have HB5 := hid (show Below w.heap.size w w5 from h5.out.trans (ht5.below (by simp only [World.size_alloc]; omega) (fun b hb => by
  have q1 := hB b (List.mem_append_right _ (List.mem_append_left _ hb)); omega)))
 clear l0 l1 l2 lf0 lf1 lf2 k0 k1 k2
 obtain ⟨l0, l1, l2, lf⟩ := aN hR
 have lf0 := lf 0; have lf1 := lf 1; have lf2 := lf 2
 have s5a : w.heap.size + 1 < w5.heap.size := by omega
 have s5b : w2.heap.size < w5.heap.size := by omega
 clear hnot E5 hp6 hn hB hu hv ho5 hp5 ht5 E0 P0 hR of lf hb3
 go_wp2_with fail
 refine bodyPost_ret (v := .tuple #[.agg #[.int .i64 m.sec, .slice A1 m.seen.length c1, .slice none 0 0], .slice A2 m.pool.length c2]) (by simp [results, Tryz.results139, go_sem, l0, l1, l2, s5a, o0, o1, o2]) rfl ⟨_, _, _, rfl, ?_, ?_⟩
 ·obtain ⟨K, z1, z2, z3⟩ := bC (bC (bC (bC hK.out (p := ⟨w2.heap.size, 2, none⟩) (u := .slice none 0 0) (by dsimp only; omega)) (p := ⟨w.heap.size + 1, 0, none⟩) (u := .int .i64 m.sec) (by dsimp only; omega)) (p := ⟨w.heap.size + 1, 1, none⟩) (u := .slice A1 m.seen.length c1) (by dsimp only; omega)) (p := ⟨w.heap.size + 1, 2, none⟩) (u := .slice none 0 0) (by dsimp only; omega)
  exact ⟨K, z1, z2, fun b hb => by have := (z3 b hb).1; omega⟩
 ·repeat (refine Below.setCell ?_ (by dsimp only; omega) _)
  exact HB5.out
theorem pB (m : Mx) (vs vp : Value) (w : World) (h1 : SlB af w.heap.size w vs m.seen) (h2 : SlB tPl w.heap.size w vp m.pool) (hm : mxB m = true) (hl : 2 ≤ m.pool.length) :
  Calls Tryz.prog 139 #[.agg #[.int .i64 m.sec, vs, vp], .bool false] w (sJ w (⟨m.sec, m.seen, []⟩, bE m.pool)) := by
 have i1 : decide ((m.pool.length : Int) < 2) = false := decide_eq_false (by omega)
 have hl0 := hid hl
 clear hl
 obtain ⟨m1, m2, m3, m4, m5⟩ := bN.1 hm
 have Hpool := hid (fun (x : Pl) (hx : x ∈ m.pool) => show x.pk.hd.length ≤ 1073741824 ∧ x.pk.bd.length ≤ 1073741824 by
  obtain ⟨_, _, hk⟩ := bc.1 (m5 x hx)
  obtain ⟨_, ⟨a, _⟩, ⟨b, _⟩, _⟩ := aA.1 hk
  omega)
 have H1 := hid (fun (wx : World) (hb : Below w.heap.size w wx) => h1.go hb)
 have H2 := hid (fun (wx : World) (hb : Below w.heap.size w wx) => h2.go hb)
 obtain ⟨As, cs, rfl, _, _, _⟩ := h1.form
 obtain ⟨Ap, cp, rfl, _, _, _⟩ := h2.form
 have Hm := hid hm
 clear h1 h2 hm m4 m5
 go_enter Tryz.func139, Tryz.ntmps139
 go_wp2_with fail
 refine (cZ m _ _ _ (H1.out _ (by repeat (first | exact zm | apply ae | refine bA ?_ (by omega) | refine Below.setCell ?_ (by first | omega | simp <;> omega) _))) (H2.out _ (by repeat (first | exact zm | apply ae | refine bA ?_ (by omega) | refine Below.setCell ?_ (by first | omega | simp <;> omega) _)))).mono ?_
 rw [Hm.out]
 rintro e wb ⟨rfl, hb1⟩
 obtain ⟨b0, b1⟩ := dJ hb1
 have hc1 : Below w.heap.size w wb := bt (by repeat (first | exact zm | apply ae | refine bA ?_ (by omega) | refine Below.setCell ?_ (by first | omega | simp <;> omega) _)) hb1
 have s1 : w.heap.size + 1 < wb.heap.size := (zn b1)
 have s1a : w.heap.size < wb.heap.size := by omega
 obtain ⟨k0, k1, k2, _⟩ := aN b0
 have Hc1 := hid hc1; have E0 := hid b0; have E1 := hid b1
 clear hb1 hc1 b0 b1
 go_wp2_with fail
 refine (db m _ _ _ (H1.out _ Hc1.out) (H2.out _ Hc1.out) (by omega) (by omega) Hpool.out).mono ?_
 rintro e w2 ⟨us, up, rfl, n2, hb2⟩
 obtain ⟨A1, c1, A2, c2, rfl, rfl⟩ := bo n2
 have e0 := ac hb2 E0.out
 have e1 := ac hb2 E1.out
 have s2 : w.heap.size + 1 < w2.heap.size := (zn e1)
 have s2a : w.heap.size < w2.heap.size := by omega
 have sb2 := hb2.size
 clear k0 k1 k2
 obtain ⟨k0, k1, k2, _⟩ := aN e0
 obtain ⟨l0, l1, l2, lf⟩ := aN e1
 have lf0 := lf 0; have lf1 := lf 1; have lf2 := lf 2
 have N2 := hid n2; have Hc2 := hid (bt Hc1.out hb2); have E2 := hid e1
 clear n2 hb2 e0 e1 lf
 go_wp2_with fail
 go_wp2_with fail
 obtain ⟨G, G', hu, hv, hn, hB⟩ := lx N2.out
 have hb3 := ab w2 (.cells #[.int .i64 m.sec, .slice A1 m.seen.length c1, .slice A2 m.pool.length c2] 70)
 refine (kv m.pool A2 c2 0 G' _ (hv.go hb3) (by omega)).mono ?_
 rintro e w5 ⟨rfl, G5, ho5, hp5, ht5⟩
 have E0 : ee.E w2 [.slice A1 m.seen.length c1] m.seen ((Value.slice A1 m.seen.length c1).ownBlock.toList ++ G) := ⟨_, G, rfl, hu, rfl⟩
 have P0 : fM.E w2 [.slice A2 m.pool.length c2] m.pool ((Value.slice A2 m.pool.length c2).ownBlock.toList ++ G') := ⟨_, G', rfl, hv, rfl⟩
 have hnot : ∀ n, (n < wb.heap.size ∨ w2.heap.size ≤ n) → n ∉ (Value.slice A2 m.pool.length c2).ownBlock.toList := fun n hn' hm' => by
  have q1 := hB n (List.mem_append_right _ (List.mem_append_left _ hm'))
  have q2 := fM.lt P0 n (List.mem_append_left _ hm')
  omega
 have E5 : ee.E w5 [.slice A1 m.seen.length c1] m.seen ((Value.slice A1 m.seen.length c1).ownBlock.toList ++ G) := ee.keep E0 (fun b hb => by
  have q1 := ee.lt E0 b hb
  refine (ht5.block b (by simp only [World.size_alloc]; omega) (fun hm' => ?_)).trans (hb3.block b q1)
  exact (List.nodup_append.1 hn).2.2 b hb b (List.mem_append_left _ hm') rfl)
 have hp6 : (((Value.slice A1 m.seen.length c1).ownBlock.toList ++ G) ++ ((Value.slice A2 m.pool.length c2).ownBlock.toList ++ G5)).Perm (((Value.slice A1 m.seen.length c1).ownBlock.toList ++ G) ++ ((Value.slice A2 m.pool.length c2).ownBlock.toList ++ G')) := List.Perm.append_left _ (List.Perm.append_left _ hp5)
 have hK := hid (yo (P := fun b => wb.heap.size ≤ b ∧ b < w2.heap.size) (sec := m.sec) E5 (show fM.E w5 [.slice A2 m.pool.length c2] (bE m.pool) _ from ⟨_, G5, rfl, ho5, rfl⟩) (hp6.nodup_iff.2 hn) (fun b hb => by
  have hb' := hp6.mem_iff.1 hb
  refine ⟨hB b hb', ?_⟩
  rcases List.mem_append.1 hb' with h | h
  ·exact ee.lt E0 b h
  ·exact fM.lt P0 b h))
 obtain ⟨o0, o1, o2, of⟩ := aN (ht5.row (heap_alloc_new w2 _) (hnot _ (.inr (Nat.le_refl _))))
 have of2 := of 2
 have h5 := hid (bt Hc2.out hb3)
 have hR := ht5.row (ac hb3 E2.out) (hnot _ (.inl (by omega)))
 have s5 := ht5.size
 rw [World.size_alloc] at s5
 have HB5 := hid (show Below w.heap.size w w5 from h5.out.trans (ht5.below (by simp only [World.size_alloc]; omega) (fun b hb => by
  have q1 := hB b (List.mem_append_right _ (List.mem_append_left _ hb)); omega)))
 clear l0 l1 l2 lf0 lf1 lf2 k0 k1 k2
 obtain ⟨l0, l1, l2, lf⟩ := aN hR
 have lf0 := lf 0; have lf1 := lf 1; have lf2 := lf 2
 have s5a : w.heap.size + 1 < w5.heap.size := by omega
 have s5b : w2.heap.size < w5.heap.size := by omega
 clear hnot E5 hp6 hn hB hu hv ho5 hp5 ht5 E0 P0 hR of lf hb3
 go_wp2_with fail
 refine bodyPost_ret (v := .tuple #[.agg #[.int .i64 m.sec, .slice A1 m.seen.length c1, .slice none 0 0], .slice A2 m.pool.length c2]) (by simp [results, Tryz.results139, go_sem, l0, l1, l2, s5a, o0, o1, o2]) rfl ⟨_, _, _, rfl, ?_, ?_⟩
 ·obtain ⟨K, z1, z2, z3⟩ := bC (bC (bC (bC hK.out (p := ⟨w2.heap.size, 2, none⟩) (u := .slice none 0 0) (by dsimp only; omega)) (p := ⟨w.heap.size + 1, 0, none⟩) (u := .int .i64 m.sec) (by dsimp only; omega)) (p := ⟨w.heap.size + 1, 1, none⟩) (u := .slice A1 m.seen.length c1) (by dsimp only; omega)) (p := ⟨w.heap.size + 1, 2, none⟩) (u := .slice none 0 0) (by dsimp only; omega)
  exact ⟨K, z1, z2, fun b hb => by have := (z3 b hb).1; omega⟩
 ·repeat (refine Below.setCell ?_ (by dsimp only; omega) _)
  exact HB5.out
theorem sf (m : Mx) (vs vp : Value) (all : Bool) (w : World) (h1 : SlB af w.heap.size w vs m.seen) (h2 : SlB tPl w.heap.size w vp m.pool) (hm : mxB m = true) :
  Calls Tryz.prog 139 #[.agg #[.int .i64 m.sec, vs, vp], .bool all] w (sJ w (dG m all)) := by
 unfold dG
 cases all with
 | true => rw [if_neg (by simp)]; exact pA m vs vp w h1 h2 hm
 | false =>
  by_cases hl : m.pool.length < 2
  ·rw [if_pos ⟨hl, rfl⟩]; exact nV m vs vp w h1 h2 hm hl
  ·rw [if_neg (fun h => hl h.1)]; exact pB m vs vp w h1 h2 hm (by omega)
end Go.Proofs.YtfaeojmndaplcaaGreatDoor
