/- Texts that the last file leans on (part 2). -/
import Derived.BigQuiet
import Derived.Deep.QuietTactic
import Derived.Deep.RegionHeld3
import Derived.Handy
import Derived.IntWalk
import Derived.Test.YtfaeojmndaplcaaGreatDoorP0
import Derived.Test.YtfaeojmndaplcaaGreatDoorP1
set_option linter.unusedVariables false
set_option linter.unusedSimpArgs false
set_option maxHeartbeats 4000000
set_option maxRecDepth 100000
namespace Go.Proofs.YtfaeojmndaplcaaGreatDoor
open Go Go.RowKit
theorem gn (key : Int) (i : Nat) : 0 ≤ cM key i ∧ cM key i ≤ 990 := by unfold cM; omega
theorem sY (t x : Int) : 0 ≤ fE t x ∧ fE t x ≤ 990 := by unfold fE; omega
theorem nz (l : List Int) (t : Int) (h : 0 ≤ t ∧ t ≤ 990) : 0 ≤ l.foldl fE t ∧ l.foldl fE t ≤ 990 := by
 induction l generalizing t with
 | nil => exact h
 | cons x l ih => exact ih _ (sY t x)
theorem lM (key : Int) (l : List Int) : 0 ≤ cJ key l ∧ cJ key l ≤ 990 := nz l _ (by omega)
theorem dA (l : List Int) (key : Int) : (onL l key).length = l.length := by simp [onL]
theorem ju (l : List Int) (key : Int) : (bY l key).length = l.length := by simp [bY]
theorem lI {l : List Int} {key : Int} {i : Nat} {n : Int} (h : l[i]? = some n) : (onL l key)[i]? = some ((n + cM key i) % 991) := by simp [onL, h]
theorem mB {l : List Int} {key : Int} {i : Nat} {n : Int} (h : l[i]? = some n) : (bY l key)[i]? = some ((n + 991 - cM key i) % 991) := by simp [bY, h]
theorem bm {l : List Int} : aH l = true ↔ ∀ x ∈ l, 0 ≤ x ∧ x ≤ 990 := by simp [aH, win]
theorem bL {l : List Int} (h : aH l = true) {i : Nat} {x : Int} (hx : l[i]? = some x) : 0 ≤ x ∧ x ≤ 990 := bm.1 h x (List.mem_of_getElem? hx)
theorem hZ (l : List Int) (key : Int) : aH (onL l key) = true := bm.2 fun x hx => by
 obtain ⟨i, hi, rfl⟩ := List.mem_mapIdx.1 hx; omega
theorem cH (l : List Int) (key : Int) : aH (bY l key) = true := bm.2 fun x hx => by
 obtain ⟨i, hi, rfl⟩ := List.mem_mapIdx.1 hx; omega
theorem bi {l k : List Int} (h : aH l = true) (h' : aH k = true) : aH (l ++ k) = true := by
 rw [bm] at *; intro x hx; rcases List.mem_append.1 hx with h1 | h1; exact h x h1; exact h' x h1
theorem eG {l k : List Int} (h : aH l = true) (hs : ∀ x ∈ k, x ∈ l) : aH k = true := by
 rw [bm] at *; exact fun x hx => h x (hs x hx)
theorem gF {l : List Int} {n : Nat} : dQ l n = true ↔ l.length = n ∧ aH l = true := by
 unfold dQ; rw [Bool.and_eq_true, decide_eq_true_eq]; constructor <;> rintro ⟨h1, h2⟩ <;> exact ⟨by omega, h2⟩
theorem rB : ∀ a : Fin 997, a.val ≠ 0 → Nat.gcd 997 a.val = 1 := by decide +kernel
theorem sN {a b : Nat} (ha : 1 ≤ a ∧ a ≤ 996) (hb : 1 ≤ b ∧ b ≤ 996) : 1 ≤ a * b % 997 ∧ a * b % 997 ≤ 996 := by
 refine ⟨?_, by omega⟩
 rcases Nat.eq_zero_or_pos (a * b % 997) with h | h
 ·have hd : 997 ∣ a * b := Nat.dvd_of_mod_eq_zero h
  have hc : Nat.Coprime 997 a := rB ⟨a, by omega⟩ (by simp; omega)
  have := Nat.le_of_dvd (by omega) (hc.dvd_of_dvd_mul_left hd)
  omega
 ·exact h
theorem bu {a b : Int} (ha : win a 1 996 = true) (hb : win b 1 996 = true) : win (aq a b) 1 996 = true := by
 rw [aK] at *
 obtain ⟨n, rfl⟩ := Int.eq_ofNat_of_zero_le (show 0 ≤ a by omega)
 obtain ⟨m, rfl⟩ := Int.eq_ofNat_of_zero_le (show 0 ≤ b by omega)
 have := sN (a := n) (b := m) (by omega) (by omega)
 unfold aq
 omega
theorem fd (s : Int) : win (dn s) 1 996 = true := by rw [aK]; unfold dn; omega
theorem aD {p : Pk} : pkB p = true ↔ win p.el 1 996 = true ∧ (p.hd.length = 9 ∧ aH p.hd = true) ∧ (p.bd.length = 6 ∧ aH p.bd = true) ∧ win p.tag 0 990 = true := by
 unfold pkB
 rw [Bool.and_eq_true, Bool.and_eq_true, Bool.and_eq_true, show (9 : Int) = (9 : Nat) from rfl, show (6 : Int) = (6 : Nat) from rfl, gF, gF]
theorem aV {x : Pl} : plB x = true ↔ win x.kind 0 1 = true ∧ win x.next 0 7 = true ∧ pkB x.pk = true := by
 unfold plB; rw [Bool.and_eq_true, Bool.and_eq_true]
theorem cE {t : Tr} : trB t = true ↔ win t.mix 0 2 = true ∧ pkB t.pk = true := by unfold trB; rw [Bool.and_eq_true]
theorem dt (s : Int) (p : Pk) : (aM s p).length = p.hd.length + 3 := by simp [aM, ju]
theorem sJ {l : List Int} (h : aH l = true) (i : Nat) : 0 ≤ l.getD i 0 ∧ l.getD i 0 ≤ 990 := by
 cases hx : l[i]? with
 | none => simp [List.getD_eq_getElem?_getD, hx]
 | some x => simpa [List.getD_eq_getElem?_getD, hx] using bL h hx
theorem oT {s : Int} {p : Pk} {x : Pl} (hs : win s 1 996 = true) (hp : pkB p = true) (h : aW s p = some x) : plB x = true := by
 obtain ⟨p1, ⟨p2, p3⟩, ⟨p4, p5⟩, p6⟩ := aD.1 hp
 unfold aW at h
 dsimp only at h
 split at h
 ·rename_i hc
  injection h with h; subst h
  refine aV.2 ⟨hc.2.1, hc.2.2, aD.2 ⟨bu p1 (fd _), ⟨?_, eG (cH _ _) (fun x hx => List.mem_of_mem_drop hx)⟩, ⟨by rw [ju]; exact p4, cH _ _⟩, ?_⟩⟩
  ·simp [dt, p2]
  ·rw [aK]; exact sJ (cH _ _) 2
 ·cases h
structure VD (d : Nat) (x : Wd) : Prop where
 mix : bF x.mixes = true
 sn : x.sent.length ≤ 12
 nn : x.net.length ≤ 10
 md : x.made ≤ 999
 l0 : 0 ≤ x.lost
 st : iy x.sent = true
 gt : pz x.got = true
 nt : ke x.net = true
 cnt : cU x + d = x.made
theorem VD.l1 {d : Nat} {x : Wd} (h : VD d x) : x.lost + d ≤ x.made := by have := h.cnt; unfold cU at this; omega
theorem VD.gl {d : Nat} {x : Wd} (h : VD d x) : x.got.length ≤ 999 := by have := h.cnt; have := h.md; have := h.l0; unfold cU at *; omega
theorem iJ {x : Wd} : wdB x = true ↔ VD 0 x := by
 constructor
 ·intro h
  unfold wdB at h
  simp only [Bool.and_eq_true, decide_eq_true_eq] at h
  obtain ⟨h1, h2, h3, h4, h5, h6, h7, h8, h9⟩ := h
  exact ⟨h1, h2, h3, h4, (aK.1 h5).1, h6, h7, h8, by omega⟩
 ·intro h
  rw [qZ h.mix h.sn h.nn h.md (aK.2 ⟨h.l0, by have := h.l1; omega⟩) h.st h.gt h.nt, decide_eq_true_eq]
  have := h.cnt; omega
theorem nS {l : List Mx} : bF l = true ↔ ∃ a b c, l = [a, b, c] ∧ (mxB a = true ∧ a.sec = 100) ∧ (mxB b = true ∧ b.sec = 137) ∧ (mxB c = true ∧ c.sec = 174) := by
 constructor
 ·intro h
  have hl := bX h
  match l, hl with
  | [a, b, c], _ =>
   have h0 := fp h (k := 0) rfl
   have h1 := fp h (k := 1) rfl
   have h2 := fp h (k := 2) rfl
   simp [cD] at h0 h1 h2
   exact ⟨a, b, c, rfl, h0, h1, h2⟩
 ·rintro ⟨a, b, c, rfl, h0, h1, h2⟩
  simp [bF, List.range_succ, jh, cD, h0, h1, h2]
theorem fI {l : List Mx} (h : bF l = true) {k : Nat} (hk : k < 3) : ∃ m, l[k]? = some m ∧ l.getD k td = m ∧ mxB m = true ∧ m.sec = cD k := by
 have hl := bX h
 obtain ⟨m, hm⟩ : ∃ m, l[k]? = some m := ⟨l[k], List.getElem?_eq_getElem (by omega)⟩
 have := fp h hm
 exact ⟨m, hm, by simp [List.getD_eq_getElem?_getD, hm], this.1, this.2⟩
theorem pN {l : List Mx} (h : bF l = true) {k : Nat} (hk : k < 3) {m : Mx} (hm : mxB m = true) (hs : m.sec = cD k) : bF (l.set k m) = true := by
 obtain ⟨a, b, c, rfl, h0, h1, h2⟩ := nS.1 h
 rw [nS]
 obtain rfl | rfl | rfl : k = 0 ∨ k = 1 ∨ k = 2 := by omega
 ·exact ⟨m, b, c, rfl, ⟨hm, hs⟩, h1, h2⟩
 ·exact ⟨a, m, c, rfl, h0, ⟨hm, hs⟩, h2⟩
 ·exact ⟨a, b, m, rfl, h0, h1, ⟨hm, hs⟩⟩
theorem mL {l : List Mx} {k : Nat} {o m : Mx} (h : l[k]? = some o) : bN (l.set k m) + o.pool.length = bN l + m.pool.length := by
 induction l generalizing k with
 | nil => simp at h
 | cons y ys ih =>
  cases k with
  | zero => simp at h; subst h; simp [bN]; omega
  | succ k =>
   have := ih (k := k) (by simpa using h)
   simp [bN] at this ⊢; omega
theorem VD.set {d d' : Nat} {x : Wd} (h : VD d x) {k : Nat} (hk : k < 3) {m o : Mx} (ho : x.mixes[k]? = some o) (hm : mxB m = true) (hs : m.sec = cD k) (hd : d' + m.pool.length = d + o.pool.length) : VD d' (b9 x k m) := by
 refine ⟨pN h.mix hk hm hs, h.sn, h.nn, h.md, h.l0, h.st, h.gt, h.nt, ?_⟩
 have h1 := h.cnt
 have h2 := mL (m := m) ho
 simp only [cU, b9] at *
 omega
theorem VD.los {d : Nat} {x : Wd} (h : VD (d + 1) x) : VD d (cK x) := by
 refine ⟨h.mix, h.sn, h.nn, h.md, ?_, h.st, h.gt, h.nt, ?_⟩
 ·have := h.l0; simp only [cK]; omega
 ·have := h.cnt; simp only [cU, cK] at *; omega
theorem bK {l : List Tr} : ke l = true ↔ ∀ t ∈ l, trB t = true := by simp [ke]
theorem VD.put {d : Nat} {x : Wd} (h : VD (d + 1) x) {mix : Int} {p : Pk} (hp : pkB p = true) (ch : Bool) : VD d (dk x mix p ch) := by
 unfold dk
 split
 ·exact h.los
 ·rename_i hc
  have hw : win mix 0 2 = true := by cases hx : win mix 0 2 with | true => rfl | false => exact absurd (.inr hx) hc
  refine ⟨h.mix, h.sn, ?_, h.md, h.l0, h.st, h.gt, ?_, ?_⟩
  ·simp only [bG, List.length_append, List.length_singleton]; omega
  ·rw [bK]; intro t ht
   rcases List.mem_append.1 ht with ht | ht
   ·exact bK.1 h.nt t ht
   ·rw [List.mem_singleton.1 ht]; exact cE.2 ⟨hw, hp⟩
  ·have := h.cnt; simp only [cU, bG, List.length_append, List.length_singleton] at *; omega
theorem rj {x : Pl} {l : Lt} (h : iA x = some l) : ltB l = true := by
 unfold iA at h
 split at h
 ·cases h
 ·split at h
  ·rename_i hc; injection h with h; subst h; exact hc.2
  ·cases h
theorem VD.arr {d : Nat} {x : Wd} (h : VD (d + 1) x) (y : Pl) : VD d (dN x y) := by
 unfold dN
 cases ha : iA y with
 | none => exact h.los
 | some l =>
  refine ⟨h.mix, h.sn, h.nn, h.md, h.l0, h.st, ?_, h.nt, ?_⟩
  ·exact dM h.gt (rj ha)
  ·have := h.cnt; simp only [cU, List.length_append, List.length_singleton] at *; omega
theorem VD.pass {d : Nat} {x : Wd} (h : VD (d + 1) x) {y : Pl} (hy : plB y = true) : VD d (cN x y) := by
 unfold cN
 split
 ·exact h.arr y
 ·exact h.put (aV.1 hy).2.2 _
theorem VD.fold {l : List Pl} {d : Nat} {x : Wd} (h : VD (d + l.length) x) (hl : ∀ y ∈ l, plB y = true) : VD d (l.foldl cN x) := by
 induction l generalizing x with
 | nil => exact h
 | cons y l ih => exact ih (VD.pass (d := d + l.length) h (hl y List.mem_cons_self)) (fun z hz => hl z (List.mem_cons_of_mem _ hz))
theorem rD (x : Pl) (l : List Pl) : (fX x l).length = l.length + 1 := by
 induction l with
 | nil => rfl
 | cons y l ih => unfold fX; split <;> simp [ih]
theorem rE {x y : Pl} {l : List Pl} : y ∈ fX x l ↔ y = x ∨ y ∈ l := by
 induction l with
 | nil => simp [fX]
 | cons z l ih =>
  unfold fX; split
  ·simp
  ·simp only [List.mem_cons, ih]
   constructor
   ·rintro (h | h | h) <;> simp [h]
   ·rintro (h | h | h) <;> simp [h]
theorem kh (l out : List Pl) : (l.foldl (fun out x => fX x out) out).length = out.length + l.length := by
 induction l generalizing out with
 | nil => rfl
 | cons y l ih => rw [List.foldl_cons, ih, rD, List.length_cons]; omega
theorem kj (l out : List Pl) (y : Pl) : y ∈ l.foldl (fun out x => fX x out) out ↔ y ∈ l ∨ y ∈ out := by
 induction l generalizing out with
 | nil => simp
 | cons z l ih =>
  rw [List.foldl_cons, ih, rE, List.mem_cons]
  constructor
  ·rintro (h | h | h) <;> simp [h]
  ·rintro ((h | h) | h) <;> simp [h]
theorem gP (l : List Pl) : (br l).length = l.length := by simp [br, kh]
theorem mN (l : List Pl) (y : Pl) : y ∈ br l ↔ y ∈ l := by simp [br, kj]
theorem bh {m : Mx} : mxB m = true ↔ win m.sec 1 996 = true ∧ m.seen.length ≤ 12 ∧ m.pool.length ≤ 5 ∧ fR m.seen = true ∧ ∀ x ∈ m.pool, plB x = true := by
 unfold mxB jz; simp only [Bool.and_eq_true, decide_eq_true_eq, List.all_eq_true]
theorem fe {m : Mx} (h : mxB m = true) (all : Bool) : mxB (cF m all).1 = true ∧ (cF m all).1.sec = m.sec ∧ (∀ y ∈ (cF m all).2, plB y = true) ∧ (cF m all).2.length + (cF m all).1.pool.length = m.pool.length := by
 obtain ⟨h1, h2, h3, h4, h5⟩ := bh.1 h
 unfold cF
 split
 ·exact ⟨h, rfl, (fun y hy => by cases hy), by simp⟩
 ·exact ⟨bh.2 ⟨h1, h2, by simp, h4, fun x hx => by cases hx⟩, rfl, fun y hy => h5 y ((mN _ _).1 hy), by simp [gP]⟩
theorem pX {l : List Int} : fR l = true ↔ ∀ k x, l[k]? = some x → win x 1 996 = true ∧ x ∉ l.take k := by
 unfold fR
 rw [List.all_eq_true]
 constructor
 ·intro h k x hx
  have := h k (List.mem_range.2 (List.getElem?_eq_some_iff.1 hx).1)
  rw [ed hx, Bool.and_eq_true] at this
  simpa using this
 ·intro h k hk
  obtain ⟨x, hx⟩ := ak (List.mem_range.1 hk)
  rw [ed hx, Bool.and_eq_true]
  simpa using h k x hx
theorem pY {l : List Int} {s : Int} (h : fR l = true) (hs : win s 1 996 = true) (hn : s ∉ l) : fR (l ++ [s]) = true := by
 rw [pX] at *
 intro k x hx
 rcases Nat.lt_or_ge k l.length with hk | hk
 ·rw [List.getElem?_append_left hk] at hx
  rw [List.take_append_of_le_length (by omega)]
  exact h k x hx
 ·have hl := (List.getElem?_eq_some_iff.1 hx).1
  simp at hl
  have : k = l.length := by omega
  subst this
  simp at hx; subst hx
  exact ⟨hs, by simpa using hn⟩
theorem lN {m : Mx} {p : Pk} (h : mxB m = true) (hp : pkB p = true) : mxB (bB m p).1 = true ∧ (bB m p).1.sec = m.sec ∧ ((bB m p).2 = 0 ∧ (bB m p).1.pool.length = m.pool.length + 1 ∨ (bB m p).2 ≠ 0 ∧ (bB m p).1 = m) := by
 obtain ⟨h1, h2, h3, h4, h5⟩ := bh.1 h
 unfold bB
 cases hx : aW m.sec p with
 | none => exact ⟨h, rfl, .inr ⟨by simp, rfl⟩⟩
 | some x =>
  dsimp only
  split
  ·exact ⟨h, rfl, .inr ⟨by simp, rfl⟩⟩
  ·rename_i hn
   split
   ·exact ⟨h, rfl, .inr ⟨by simp, rfl⟩⟩
   ·rename_i hl
    refine ⟨bh.2 ⟨h1, by simp; omega, by simp; omega, pY h4 (bu h1 (aD.1 hp).1) hn, fun y hy => ?_⟩, rfl, .inl ⟨rfl, by simp⟩⟩
    rcases List.mem_append.1 hy with hy | hy
    ·exact h5 y hy
    ·rw [List.mem_singleton.1 hy]; exact oT h1 hp hx
theorem VD.flush {x : Wd} (h : VD 0 x) {k : Nat} (hk : k < 3) (all : Bool) : VD 0 (cT x k all) := by
 obtain ⟨m, hm, e, h1, h2⟩ := fI h.mix hk
 unfold cT
 rw [e]
 obtain ⟨f1, f2, f3, f4⟩ := fe h1 all
 exact VD.fold (h.set hk hm f1 (by rw [f2, h2]) (by omega)) f3
theorem VD.hear {x : Wd} (h : VD 1 x) {t : Tr} (ht : trB t = true) : VD 0 (dO x t) := by
 obtain ⟨t1, t2⟩ := cE.1 ht
 rw [aK] at t1
 obtain ⟨m, hm, e, h1, h2⟩ := fI h.mix (show t.mix.toNat < 3 by omega)
 unfold dO
 rw [e]
 obtain ⟨f1, f2, f3⟩ := lN h1 t2
 dsimp only
 rcases f3 with ⟨c0, c1⟩ | ⟨c0, c1⟩
 ·rw [if_pos c0]
  exact h.set (by omega) hm f1 (by rw [f2, h2]) (by omega)
 ·rw [if_neg c0]
  exact (h.set (d' := 0 + 1) (by omega) hm f1 (by rw [f2, h2]) (by rw [c1])).los
theorem no {l : List Tr} {i : Nat} (h : ke l = true) : ke (l.eraseIdx i) = true := by
 rw [bK] at *; exact fun t ht => h t (List.mem_of_mem_eraseIdx ht)
theorem VD.erase {x : Wd} (h : VD 0 x) {i : Nat} (hi : i < x.net.length) : VD 1 (bG x (x.net.eraseIdx i)) := by
 refine ⟨h.mix, h.sn, ?_, h.md, h.l0, h.st, h.gt, no h.nt, ?_⟩
 ·have := h.nn; simp only [bG, List.length_eraseIdx]; split <;> omega
 ·have := h.cnt; simp only [cU, bG, List.length_eraseIdx] at *; rw [if_pos hi]; omega
theorem ru {p : Pk} (h : pkB p = true) (k : Nat) : pkB (rt p k) = true := by
 obtain ⟨p1, ⟨p2, p3⟩, ⟨p4, p5⟩, p6⟩ := aD.1 h
 refine aD.2 ⟨p1, ⟨by simp [rt, p2], ?_⟩, ⟨p4, p5⟩, p6⟩
 rw [bm] at *
 intro x hx
 rcases List.mem_or_eq_of_mem_set hx with hx | hx
 ·exact p3 x hx
 ·omega
theorem VD.chg {x : Wd} (h : VD 0 x) {i : Nat} {t : Tr} (ht : x.net[i]? = some t) (k : Int) : VD 0 (eK x i t k) := by
 unfold eK
 split
 ·have htb := bK.1 h.nt t (List.mem_of_getElem? ht)
  refine ⟨h.mix, h.sn, by simpa [bG] using h.nn, h.md, h.l0, h.st, h.gt, ?_, by simpa [cU, bG] using h.cnt⟩
  rw [bK]; intro y hy
  rcases List.mem_or_eq_of_mem_set hy with hy | hy
  ·exact bK.1 h.nt y hy
  ·subst hy; exact cE.2 ⟨(cE.1 htb).1, ru (cE.1 htb).2 _⟩
 ·exact h
theorem VD.pkt {x : Wd} (h : VD 0 x) (e : Ev) : VD 0 (eI x e) := by
 unfold eI
 split
 ·exact h
 ·split
  ·exact h
  ·rename_i t ht
   have htb := bK.1 h.nt t (List.mem_of_getElem? ht)
   have hi := (List.getElem?_eq_some_iff.1 ht).1
   split
   ·split
    ·rename_i hc
     have hv : VD (0 + 1) ⟨x.mixes, x.sent, x.net, x.got, x.made + 1, x.lost⟩ := ⟨h.mix, h.sn, h.nn, show x.made + 1 ≤ 999 by omega, h.l0, h.st, h.gt, h.nt, by have := h.cnt; simp only [cU] at *; omega⟩
     exact hv.put (cE.1 htb).2 _
    ·exact h
   ·split
    ·exact h.chg ht _
    ·split
     ·exact (h.erase hi).los
     ·exact (h.erase hi).hear htb
theorem gX (f : List Int) (hf : f.length ≤ 6) (hn : aH f = true) (rcv : Int) (ks ns : List Int) (hk : ks ≠ []) (hl : ks.length = ns.length) :
  (hdT f rcv ks ns).1.length = 9 ∧ aH (hdT f rcv ks ns).1 = true ∧ win (hdT f rcv ks ns).2 0 990 = true := by
 induction ks generalizing ns with
 | nil => exact absurd rfl hk
 | cons k ks ih =>
  cases ks with
  | nil =>
   refine ⟨?_, bi (hZ _ _) hn, aK.2 (lM _ _)⟩
   simp [hdT, dA, cX]; omega
  | cons k2 ks =>
   match ns, hl with
   | n :: ns, hl =>
    obtain ⟨i1, i2, i3⟩ := ih ns (by simp) (by simpa using hl)
    refine ⟨?_, hZ _ _, aK.2 (lM _ _)⟩
    simp only [hdT, dA, List.length_append, List.length_take, List.length_cons, List.length_nil]
    omega
theorem dd (out : List Int) (k : Int) : (aO out k).length = out.length + 3 := by simp [aO]
theorem jK (out : List Int) (k : Int) : aH (aO out k) = true := bm.2 fun x hx => by
 obtain ⟨i, hi, rfl⟩ := List.mem_mapIdx.1 hx; omega
theorem ef (ks out : List Int) : (ks.foldl aO out).length = out.length + 3 * ks.length := by
 induction ks generalizing out with
 | nil => rfl
 | cons k ks ih => rw [List.foldl_cons, ih, dd, List.length_cons]; omega
theorem bV (ks out : List Int) (h : aH out = true) : aH (ks.foldl aO out) = true := by
 induction ks generalizing out with
 | nil => exact h
 | cons k ks ih => exact ih _ (jK _ _)
theorem fG (ks : List Int) : (bw ks).length = 3 * (ks.length - 1) := by simp [bw, ef]
theorem dI (x : Int) (ps : List Int) : (bO x ps).length = ps.length := by
 induction ps generalizing x with
 | nil => rfl
 | cons p ps ih => simp [bO, ih]
theorem iW {x : Int} {ps : List Int} (hx : win x 1 996 = true) (hp : ∀ p ∈ ps, win p 1 996 = true) : ∀ k ∈ bO x ps, win k 1 996 = true := by
 induction ps generalizing x with
 | nil => intro k hk; cases hk
 | cons p ps ih =>
  intro k hk
  rcases List.mem_cons.1 hk with rfl | hk
  ·exact bu hx (hp p List.mem_cons_self)
  ·exact ih (bu hx (fd _)) (fun q hq => hp q (List.mem_cons_of_mem _ hq)) k hk
theorem gK {l : List Int} (h : l.length ≤ 4) : (dG l).length = 5 := by simp [dG]; omega
theorem eH {l : List Int} (h : l.length ≤ 4) : (bI l).length = 6 := by simp [bI, gK h]
theorem ic {l : List Int} (h : l.length ≤ 4) (hn : aH l = true) : aH (dG l) = true := by
 rw [bm] at *
 intro x hx
 simp only [dG, List.cons_append, List.mem_cons, List.mem_append, List.mem_replicate] at hx
 rcases hx with rfl | hx | ⟨_, rfl⟩
 ·omega
 ·exact hn x hx
 ·omega
theorem eX {l : List Int} (h : l.length ≤ 4) (hn : aH l = true) : aH (bI l) = true :=
 bi (ic h hn) (bm.2 fun x hx => by rw [List.mem_singleton.1 hx]; exact lM _ _)
theorem dp (ks b : List Int) : (ks.foldl onL b).length = b.length := by
 induction ks generalizing b with
 | nil => rfl
 | cons k ks ih => rw [List.foldl_cons, ih, dA]
theorem dY (ks b : List Int) (h : aH b = true) : aH (ks.foldl onL b) = true := by
 induction ks generalizing b with
 | nil => exact h
 | cons k ks ih => exact ih _ (hZ _ _)
theorem oK {s : Int} {ps ns l : List Int} {rcv : Int} (hs : win s 1 996 = true) (h1 : ps ≠ []) (h2 : ps.length ≤ 3) (h3 : ns.length = ps.length) (hl : l.length ≤ 4) (hn : aH l = true) : pkB (dH s ps ns rcv l) = true := by
 obtain ⟨a, b, c⟩ := gX (bw (bO s ps)) (by rw [fG, dI]; omega) (bV _ _ rfl) rcv (bO s ps) ns (fun e => h1 (List.eq_nil_of_length_eq_zero (by rw [← dI s ps, e]; rfl))) (by rw [dI, h3])
 exact aD.2 ⟨bu hs (by decide), ⟨a, b⟩, ⟨by rw [dH, rY, dp, eH hl], dY _ _ (eX hl hn)⟩, c⟩
theorem mH {k : Int} : ∀ x ∈ aI k, 0 ≤ x ∧ x ≤ 2 := by
 unfold aI
 split
 ·rename_i h
  obtain ⟨i, rfl⟩ := Int.eq_ofNat_of_zero_le h.1
  have : i < 9 := by omega
  have key : ∀ i : Fin 9, ∀ x ∈ fO.getD i.val [], 0 ≤ x ∧ x ≤ 2 := by decide
  exact key ⟨i, this⟩
 ·intro x hx; cases hx
theorem jy (k : Int) : (aI k).length ≤ 3 := by
 unfold aI; split
 ·exact kQ _
 ·simp
theorem cI (l : List Int) : (cR l).length = l.length := by simp [cR]
theorem lz {n : Nat} (hn : n < 12) {fr dst path : Int} (hf : win fr 0 7 = true) (hp : aI path ≠ []) : pkB (mr n fr dst path) = true := by
 rw [aK] at hf
 refine oK (aK.2 (by omega)) (fun e => hp (List.eq_nil_of_length_eq_zero (by rw [← cI, e]; rfl))) (by rw [cI]; exact jy _) (cI _).symm (by simp) (bm.2 fun x hx => ?_)
 simp at hx; rcases hx with rfl | rfl <;> omega
theorem pZ {l : List Lt} {x : Lt} (h : iy l = true) (hx : ltB x = true) (hn : x.num = (l.length : Int)) : iy (l ++ [x]) = true := by
 unfold iy at *
 rw [List.all_eq_true] at *
 intro k hk
 have hk := List.mem_range.1 hk
 simp at hk
 rcases Nat.lt_or_ge k l.length with h1 | h1
 ·have := h k (List.mem_range.2 h1)
  unfold ig at *
  rw [List.getElem?_append_left h1]; exact this
 ·have : k = l.length := by omega
  subst this
  rw [iG (m := x) (by simp), hx, decide_eq_true hn]; rfl
theorem VD.send {x : Wd} (h : VD 0 x) (fr dst path : Int) : VD 0 (cY x fr dst path) := by
 unfold cY
 split
 ·rename_i hc
  obtain ⟨c1, c2, c3, c4, c5⟩ := hc
  have hv : VD (0 + 1) ⟨x.mixes, x.sent ++ [⟨fr, dst, (x.sent.length : Int)⟩], x.net, x.got, x.made + 1, x.lost⟩ := ⟨h.mix, by simp; omega, h.nn, show x.made + 1 ≤ 999 by omega, h.l0,
   pZ h.st (by unfold ltB; rw [c1, c2, aK.2 (show 0 ≤ (x.sent.length : Int) ∧ (x.sent.length : Int) ≤ 11 by omega)]; rfl) rfl, h.gt, h.nt, by have := h.cnt; simp only [cU] at *; omega⟩
  exact hv.put (lz c4 c1 c3) _
 ·exact h
theorem VD.do_ {x : Wd} (h : VD 0 x) (e : Ev) : VD 0 (doW x e) := by
 unfold doW
 split
 ·exact h.send _ _ _
 ·split
  ·exact h.pkt e
  ·split
   ·rename_i hc
    have := aK.1 hc.2
    exact h.flush (by omega) _
   ·exact h
theorem jq : VD 0 dT := iJ.1 (by decide +kernel)
theorem rA {x : Wd} (h : VD 0 x) (evs : List Ev) : VD 0 (evs.foldl doW x) := by
 induction evs generalizing x with
 | nil => exact h
 | cons e evs ih => exact ih (h.do_ e)
theorem oV (evs : List Ev) : VD 0 (dD evs) := rA jq evs
section
variable {α : Type} {T : Ty α} {P : Program} {w : World}
theorem aT {ops : Array Oper} {o : Oper} {a : Act} {K : Act → World → Prop} {Q : Exit → Act → World → Prop} {E : Prop} (hgd : o.guard = none) (s x : Operand) (t : TypeId)
  (ho : o.op = .call { callee := .builtin .append, args := #[s, x], argTypes := #[t, t] }) (T : Ty α)
  {e : TypeId} {i : TypeInfo} {z : Value} {bytes B : Nat} (ht : P.underlying t = some (.slice e)) (hi : P.info? e = some i) (hz : i.zero = some z)
  (hsize : i.size = T.k) (hby : i.bytes = bytes) (hzs : z.cells.size = T.k) (hk : 0 < T.k)
  {v : Value} {xs ys : List α} {G0 G1 : List Nat} (hs : a.eval s = v) (hown : Own T e B w v xs G0) (A : Option Addr) (n c : Nat) (hx : a.eval x = .slice A n c) (hsl : Sl T w (.slice A n c) ys G1)
  (hd : ∀ b, v.ownBlock = some b → b ∉ G1.tail) (hb : (xs.length + ys.length) * bytes ≤ 140737488355328) (hm : xs.length + ys.length ≤ maxLen) (hB : B ≤ w.heap.size)
  (h : ∀ v' w', Own T e B w' v' (xs ++ ys) (G0 ++ G1.tail) → w.grownBy w' v.ownBlock → (v'.ownBlock = v.ownBlock ∨ v'.ownBlock = some w.heap.size) → K (a.put o.dst v') w') :
  if Region.wanted o (yielded ops a.tmps) = true then Oper.wp P o a w K Q else E := by
 have hw : Region.wanted o (yielded ops a.tmps) = true := by simp [Region.wanted, hgd]
 rw [if_pos hw]
 exact rd s x t ho T ht hi hz hsize hby hzs hk hs hown A n c hx hsl hd hb hm hB h
theorem bf {ops : Array Oper} {o : Oper} {a : Act} {K : Act → World → Prop} {Q : Exit → Act → World → Prop} {E : Prop} (hgd : o.guard = none) (s x : Operand) (t : TypeId)
  (ho : o.op = .call { callee := .builtin .append, args := #[s, x], argTypes := #[t, t] }) (T : Ty α) (hT : T.isFlat)
  {e : TypeId} {i : TypeInfo} {z : Value} {bytes B : Nat} (ht : P.underlying t = some (.slice e)) (hi : P.info? e = some i) (hz : i.zero = some z)
  (hsize : i.size = T.k) (hby : i.bytes = bytes) (hzs : z.cells.size = T.k) (hk : 0 < T.k) (hby0 : 0 < bytes)
  {v : Value} {xs ys : List α} (hs : a.eval s = v) (hown : Own T e B w v xs []) (A : Option Addr) (n c : Nat) (hx : a.eval x = .slice A n c) (hsl : ∃ F, Sl T w (.slice A n c) ys F)
  (hb : (xs.length + ys.length) * bytes ≤ 140737488355328) (hB : B ≤ w.heap.size)
  (h : ∀ v' w', Own T e B w' v' (xs ++ ys) [] → w.grownBy w' v.ownBlock → (v'.ownBlock = v.ownBlock ∨ v'.ownBlock = some w.heap.size) → K (a.put o.dst v') w') :
  if Region.wanted o (yielded ops a.tmps) = true then Oper.wp P o a w K Q else E := by
 obtain ⟨F, hsl⟩ := hsl
 have hF := kS hT hsl
 refine aT hgd s x t ho T ht hi hz hsize hby hzs hk hs hown A n c hx hsl (fun b _ => by rw [hF]; intro h; cases h) hb ?_ hB fun v' w' h2 h3 h4 => h v' w' ?_ h3 h4
 ·have : xs.length + ys.length ≤ (xs.length + ys.length) * bytes := Nat.le_mul_of_pos_right _ hby0
  unfold maxLen; omega
 ·rw [hF] at h2; exact h2
theorem Ty.els_cut {cs : List Value} {xs : List α} {F : List Nat} (h : T.els w cs xs F) (k : Nat) (hk : k ≤ xs.length) : ∃ c1 c2 F1 F2, cs = c1 ++ c2 ∧ F = F1 ++ F2 ∧ c1.length = k * T.k ∧ T.els w c1 (xs.take k) F1 ∧ T.els w c2 (xs.drop k) F2 := by
 induction xs generalizing cs F k with
 | nil => obtain ⟨rfl, rfl⟩ := h; simp at hk; subst hk; exact ⟨[], [], [], [], rfl, rfl, by simp, ⟨rfl, rfl⟩, ⟨rfl, rfl⟩⟩
 | cons x xs ih =>
  cases k with
  | zero => exact ⟨[], cs, [], F, rfl, rfl, by simp, ⟨rfl, rfl⟩, h⟩
  | succ k =>
   obtain ⟨c1, c2, F1, F2, rfl, rfl, h1, h2⟩ := h
   obtain ⟨d1, d2, G1, G2, rfl, rfl, hl, k1, k2⟩ := ih h2 k (by simpa using hk)
   exact ⟨c1 ++ d1, d2, F1 ++ G1, G2, by simp, by simp, by rw [List.length_append, T.len h1, hl, Nat.succ_mul]; omega, ⟨c1, d1, F1, G1, rfl, rfl, h1, k1⟩, k2⟩
theorem SlB.drop {B b o n c : Nat} {xs : List α} (h : SlB T B w (.slice (some ⟨b, o, none⟩) n c) xs) (k : Nat) (hk : k ≤ n) : SlB T B w (.slice (some ⟨b, o + k * T.k, none⟩) (n - k) (c - k)) (xs.drop k) := by
 obtain ⟨F, ⟨A', c', cs, e1, h2, h3, h4⟩, hF⟩ := h
 injection e1 with e1 e2 e3; subst e1 e2 e3
 have hlen : (xs.drop k).length = xs.length - k := by simp
 by_cases h0 : xs.drop k = []
 ·exact ⟨[], ⟨_, c - k, [], by rw [hlen], by omega, by omega, .inl ⟨h0, rfl⟩⟩, fun b hb => by cases hb⟩
 ·rcases h4 with ⟨rfl, rfl⟩ | ⟨b', o', G, e, rfl, hne, hb, hels, hc⟩
  ·simp at h0
  ·injection e with e; injection e with e1 e2; subst e1 e2
   obtain ⟨c1, c2, G1, G2, rfl, rfl, hl, _, k2⟩ := Ty.els_cut hels k hk
   refine ⟨b :: G2, ⟨_, c - k, c2, by rw [hlen], by omega, by omega, .inr ⟨b, o + k * T.k, G2, rfl, rfl, h0, hb, k2, fun j u hj => ?_⟩⟩, fun b' hb' => ?_⟩
   ·have := hc (c1.length + j) u (by rw [List.getElem?_append_right (by omega), Nat.add_sub_cancel_left]; exact hj)
    rw [hl] at this
    rw [Nat.add_assoc]; exact this
   ·rcases List.mem_cons.1 hb' with rfl | hb'
    ·exact hF _ (by simp)
    ·exact hF _ (by simp [hb'])
end
theorem fN {W w1 : World} (hb : Below W.heap.size W w1) : (∀ b o, b < W.heap.size → w1.cell? ⟨b, o, none⟩ = W.cell? ⟨b, o, none⟩) ∧ (∀ b o, b < W.heap.size → w1.frozen? ⟨b, o, none⟩ = W.frozen? ⟨b, o, none⟩) :=
 ⟨fun b o h => hb.cell (p := ⟨b, o, none⟩) h, fun b o h => hb.frozen (p := ⟨b, o, none⟩) h⟩
theorem bR {w : World} {B : Nat} (h : B ≤ w.heap.size) : Own af 3 B (w.alloc (.cells #[] 3)) (.slice (some ⟨w.heap.size, 0, none⟩) 0 0) [] [] :=
 ⟨[], World.ownsRow_made w #[] 0 h (by simp [maxLen]) rfl, ⟨rfl, rfl⟩, fun _ _ h => by cases h⟩
theorem rZ {a b : Int} (ha : win a 1 996 = true) (hb : win b 1 996 = true) : 0 ≤ a * b ∧ a * b ≤ 992016 := by
 rw [aK] at *
 exact ⟨Int.mul_nonneg (by omega) (by omega), Int.le_trans (Int.mul_le_mul (c := 996) ha.2 hb.2 (by omega) (by omega)) (by omega)⟩
theorem bW (a b : Int) (w : World) (ha : win a 1 996 = true) (hb : win b 1 996 = true) : Calls Tryz.prog 155 #[.int .i64 a, .int .i64 b] w fun e w' => e = .returned (.int .i64 (aq a b)) ∧ w = w' := by
 obtain ⟨h0, h1⟩ := rZ ha hb
 go_enter Tryz.func155, Tryz.ntmps155
 go_wp2
 go_ret
 exact ⟨by first | rfl | (simp [aq]; done), rfl⟩
theorem iX (s : Int) (w : World) (hs : win s 1 996 = true) : Calls Tryz.prog 210 #[.int .i64 s] w fun e w' => e = .returned (.int .i64 (dn s)) ∧ w = w' := by
 obtain ⟨h0, h1⟩ := aK.1 hs
 go_enter Tryz.func210, Tryz.ntmps210
 go_wp2
 go_ret
 exact ⟨by first | rfl | (simp [dn]; done), rfl⟩
theorem fM (s : Int) (w : World) (hs : win s 1 996 = true) : Calls Tryz.prog 111 #[.int .i64 s] w fun e w' => e = .returned (.int .i64 (aq s 5)) ∧ w = w' := by
 go_enter Tryz.func111, Tryz.ntmps111
 go_wp2_with (first | (go_at_call 106; refine (cd _ _).mono ?_; rw [hs]; rintro e w' ⟨rfl, rfl⟩) | (go_at_call 155; refine (bW _ _ _ hs (by decide)).mono ?_; rintro e w' ⟨rfl, rfl⟩))
 go_ret
 exact ⟨rfl, rfl⟩
theorem nE (key : Int) (i : Nat) (w : World) (hk : win key 1 996 = true) (hi : i ≤ 24) : Calls Tryz.prog 211 #[.int .i64 key, .int .i64 i] w fun e w' => e = .returned (.int .i64 (cM key i)) ∧ w = w' := by
 rw [aK] at hk
 obtain ⟨k0, k1⟩ := hk
 have a0 : 0 ≤ key * ((i : Int) + 2) := Int.mul_nonneg (by omega) (by omega)
 have a1 : key * ((i : Int) + 2) ≤ 996 * 26 := Int.mul_le_mul (by omega) (by omega) (by omega) (by omega)
 have b0 : 0 ≤ 11 * (i : Int) * (i : Int) := Int.mul_nonneg (by omega) (by omega)
 have b1 : 11 * (i : Int) * (i : Int) ≤ 264 * 24 := Int.mul_le_mul (by omega) (by omega) (by omega) (by omega)
 go_enter Tryz.func211, Tryz.ntmps211
 go_wp2
 go_ret
 exact ⟨by first | rfl | (simp [cM]; done), rfl⟩
theorem aX {n : Int} (h : -9223372036854775808 ≤ n ∧ n ≤ 9223372036854775807) : IntKind.i64.wrap n = n := IntWalk.i64_in n (by omega)
theorem pd {n m : Int} (h : 0 ≤ n) : n.tmod m = n % m := Int.tmod_eq_emod_of_nonneg h
theorem lq (v : Value) (xs : List Int) (key : Int) (w : World) (h : SlB af w.heap.size w v xs) (hn : aH xs = true) (hl : xs.length ≤ 24) (hkey : win key 1 996 = true) :
  Calls Tryz.prog 160 #[v, .int .i64 key] w fun e w' => ∃ v', e = .returned v' ∧ bp af 3 w.heap.size w' v' (onL xs key) ∧ Below w.heap.size w w' := by
 obtain ⟨i0, hi, hz0, hz1, hz2⟩ := info_parts aY
 obtain ⟨A, c, rfl, a1, a2, a3⟩ := h.form
 clear a2
 go_enter Tryz.func160, Tryz.ntmps160
 go_wp2
 go_loopw [5, 6] (fun ov i wr => ∃ k : Nat, k ≤ xs.length ∧ i = .int .i64 k ∧ Own af 3 w.heap.size wr ov ((onL xs key).take k) [] ∧ Below w.heap.size w wr) (fun _ i _ => xs.length - (intOf i).toNat)
 case atStart => exact ⟨0, by omega, rfl, bR (w := w) (Nat.le_refl _), ah.alloc (Nat.le_refl _) _⟩
 case round =>
  obtain ⟨k, hk, rfl, ho, hb⟩ := hrel
  by_cases hlt : k < xs.length
  ·obtain ⟨x, hx⟩ := ak hlt
   obtain ⟨b, o, rfl, hbz, _, hcx⟩ := h.int hx
   obtain ⟨x0, x1⟩ := bL hn hx
   obtain ⟨s0, s1⟩ := gn key k
   have Ht := hid (aP (lI (key := key) hx))
   have Hb := hid hb; have Ho := hid ho
   have hsz := hb.size
   have hk24 : k ≤ 24 := by omega
   have hlk : ((onL xs key).take k).length = k := by rw [List.length_take, show (onL xs key).length = xs.length from by simp [onL]]; omega
   have Hlk := hid hlk
   skip
   have w1 := aX (n := x + cM key k) (by omega)
   have w2 := pd (n := x + cM key k) (m := 991) (by omega)
   have Hh := hid (fun (wx : World) (hb : Below w.heap.size w wx) => And.intro hb ((hb.cell (p := ⟨b, o + k, none⟩) hbz).trans hcx))
   clear hx h hb ho hcx hlk
   go_wp2_with fail
   go_region_held3 (fun w' : World => Below w.heap.size w w' ∧ w'.cell? ⟨b, o + k, none⟩ = some (.int .i64 x))
    (first | assumption | exact Hh.out _ (Hb.out.drew) | exact Hh.out _ ((Hb.out.alloc hsz _).drew) | exact Hh.out _ hb2)
    (first | (go_at_call 211; refine (nE key k _ hkey hk24).mono ?_; rintro e w' ⟨rfl, rfl⟩) | (refine bf rfl (.tmp 14) (.tmp 24) 67 rfl af ai (B := w.heap.size) Tryz.underlying67 hi hz0 hz1 hz2 rfl (by decide) (by decide) (v := u5) rfl ((Ho.out.below (w' := (wr.alloc _)) (ab _ _) (Nat.le_refl _)).below (ae ah) (Nat.le_refl _)) _ 1 1 rfl (Sl.box' (T := af) (x := (x + cM key k) % 991) wr.heap.size rfl ⟨rfl, rfl⟩) (by rw [Hlk.out]; simp; omega) (by simp; omega) ?_; intro v2 w2 ho2 hg2 hv2; have hb2 : Below w.heap.size w w2 := (((Hb.out.alloc hsz _).drew).grown hg2 (by simp; omega) (fun q hq => (Ho.out.top q hq).1))))
   go_wp2
   go_roundw
   case rel => exact ⟨k + 1, by omega, by go_num, by rw [Ht.out]; exact ho2, hb2⟩
   case measure => simp [intOf]; omega
  ·have Ha := hid (aR (xs := onL xs key) (k := k) (by simp [onL]; omega) (by simp [onL]; omega))
   have Ho := hid ho; have Hb := hid hb
   clear ho hb
   go_wp2
   go_ret
   exact ⟨_, rfl, ⟨[], by rw [← Ha.out]; exact Ho.out, List.nodup_nil, fun _ h => by cases h⟩, Hb.out⟩
theorem oJ (v : Value) (xs : List Int) (key : Int) (w : World) (h : SlB af w.heap.size w v xs) (hn : aH xs = true) (hl : xs.length ≤ 24) (hkey : win key 1 996 = true) :
  Calls Tryz.prog 214 #[v, .int .i64 key] w fun e w' => ∃ v', e = .returned v' ∧ bp af 3 w.heap.size w' v' (bY xs key) ∧ Below w.heap.size w w' := by
 obtain ⟨i0, hi, hz0, hz1, hz2⟩ := info_parts aY
 obtain ⟨A, c, rfl, a1, a2, a3⟩ := h.form
 clear a2
 go_enter Tryz.func214, Tryz.ntmps214
 go_wp2
 go_loopw [5, 6] (fun ov i wr => ∃ k : Nat, k ≤ xs.length ∧ i = .int .i64 k ∧ Own af 3 w.heap.size wr ov ((bY xs key).take k) [] ∧ Below w.heap.size w wr) (fun _ i _ => xs.length - (intOf i).toNat)
 case atStart => exact ⟨0, by omega, rfl, bR (w := w) (Nat.le_refl _), ah.alloc (Nat.le_refl _) _⟩
 case round =>
  obtain ⟨k, hk, rfl, ho, hb⟩ := hrel
  by_cases hlt : k < xs.length
  ·obtain ⟨x, hx⟩ := ak hlt
   obtain ⟨b, o, rfl, hbz, _, hcx⟩ := h.int hx
   obtain ⟨x0, x1⟩ := bL hn hx
   obtain ⟨s0, s1⟩ := gn key k
   have Ht := hid (aP (mB (key := key) hx))
   have Hb := hid hb; have Ho := hid ho
   have hsz := hb.size
   have hk24 : k ≤ 24 := by omega
   have hlk : ((bY xs key).take k).length = k := by rw [List.length_take, show (bY xs key).length = xs.length from by simp [bY]]; omega
   have Hlk := hid hlk
   have w3 := aX (n := x + 991) (by omega)
   have w1 := aX (n := x + 991 - cM key k) (by omega)
   have w2 := pd (n := x + 991 - cM key k) (m := 991) (by omega)
   have Hh := hid (fun (wx : World) (hb : Below w.heap.size w wx) => And.intro hb ((hb.cell (p := ⟨b, o + k, none⟩) hbz).trans hcx))
   clear hx h hb ho hcx hlk
   go_wp2_with fail
   go_region_held3 (fun w' : World => Below w.heap.size w w' ∧ w'.cell? ⟨b, o + k, none⟩ = some (.int .i64 x))
    (first | assumption | exact Hh.out _ (Hb.out.drew) | exact Hh.out _ ((Hb.out.alloc hsz _).drew) | exact Hh.out _ hb2)
    (first | (go_at_call 211; refine (nE key k _ hkey hk24).mono ?_; rintro e w' ⟨rfl, rfl⟩) | (refine bf rfl (.tmp 14) (.tmp 25) 67 rfl af ai (B := w.heap.size) Tryz.underlying67 hi hz0 hz1 hz2 rfl (by decide) (by decide) (v := u5) rfl ((Ho.out.below (w' := (wr.alloc _)) (ab _ _) (Nat.le_refl _)).below (ae ah) (Nat.le_refl _)) _ 1 1 rfl (Sl.box' (T := af) (x := (x + 991 - cM key k) % 991) wr.heap.size rfl ⟨rfl, rfl⟩) (by rw [Hlk.out]; simp; omega) (by simp; omega) ?_; intro v2 w2 ho2 hg2 hv2; have hb2 : Below w.heap.size w w2 := (((Hb.out.alloc hsz _).drew).grown hg2 (by simp; omega) (fun q hq => (Ho.out.top q hq).1))))
   go_wp2
   go_roundw
   case rel => exact ⟨k + 1, by omega, by go_num, by rw [Ht.out]; exact ho2, hb2⟩
   case measure => simp [intOf]; omega
  ·have Ha := hid (aR (xs := bY xs key) (k := k) (by simp [bY]; omega) (by simp [bY]; omega))
   have Ho := hid ho; have Hb := hid hb
   clear ho hb
   go_wp2
   go_ret
   exact ⟨_, rfl, ⟨[], by rw [← Ha.out]; exact Ho.out, List.nodup_nil, fun _ h => by cases h⟩, Hb.out⟩
theorem iD (key : Int) (v : Value) (xs : List Int) (w : World) (h : SlB af w.heap.size w v xs) (hn : aH xs = true) (hl : xs.length ≤ 24) (hkey : win key 1 996 = true) :
  Calls Tryz.prog 209 #[.int .i64 key, v] w fun e w' => e = .returned (.int .i64 (cJ key xs)) ∧ w = w' := by
 obtain ⟨A, c, rfl, a1, a2, a3⟩ := h.form
 clear a2
 rw [aK] at hkey
 obtain ⟨k0, k1⟩ := hkey
 go_enter Tryz.func209, Tryz.ntmps209
 go_wp2
 go_loop [5, 6] (fun tv i => ∃ k : Nat, k ≤ xs.length ∧ i = .int .i64 k ∧ tv = .int .i64 ((xs.take k).foldl fE ((3 * key + 41 * (xs.length : Int) + 1) % 991))) (fun _ i => xs.length - (intOf i).toNat)
 case atStart => exact ⟨0, by omega, rfl, rfl⟩
 case round =>
  obtain ⟨k, hk, rfl, rfl⟩ := hrel
  by_cases hlt : k < xs.length
  ·obtain ⟨x, hx⟩ := ak hlt
   obtain ⟨b, o, rfl, _, _, hcx⟩ := h.int hx
   obtain ⟨x0, x1⟩ := bL hn hx
   obtain ⟨t0, t1⟩ := nz (xs.take k) ((3 * key + 41 * (xs.length : Int) + 1) % 991) (by omega)
   have Ht := hid (show (xs.take (k + 1)).foldl fE ((3 * key + 41 * (xs.length : Int) + 1) % 991) = fE ((xs.take k).foldl fE ((3 * key + 41 * (xs.length : Int) + 1) % 991)) x from by rw [aP hx, List.foldl_append]; rfl)
   clear hx h
   generalize (xs.take k).foldl fE ((3 * key + 41 * (xs.length : Int) + 1) % 991) = t at *
   go_wp2
   go_round
   case rel => exact ⟨k + 1, by omega, by go_num, by rw [Ht.out]; rfl⟩
   case measure => simp [intOf]; omega
  ·have Ha := hid (aR hk hlt)
   go_wp2
   go_ret
   exact ⟨oX (by rw [Ha.out]; rfl), rfl⟩
theorem kG (v : Value) (xs : List Int) (w : World) (h : SlB af w.heap.size w v xs) (ha : ∀ x ∈ xs, win x 0 7 = true) :
  Calls Tryz.prog 158 #[v] w fun e w' => e = .returned (.bool true) ∧ w = w' := by
 obtain ⟨A, c, rfl, a1, a2, a3⟩ := h.form
 clear a2
 go_enter Tryz.func158, Tryz.ntmps158
 go_wp2
 go_loop [3] (fun i => ∃ k : Nat, k ≤ xs.length ∧ i = .int .i64 k) (fun i => xs.length - (intOf i).toNat)
 case atStart => exact ⟨0, by omega, rfl⟩
 case round =>
  obtain ⟨k, hk, rfl⟩ := hrel
  by_cases hlt : k < xs.length
  ·obtain ⟨x, hx⟩ := ak hlt
   obtain ⟨b, o, rfl, _, _, hcx⟩ := h.int hx
   have hxa := ha x (List.mem_of_getElem? hx)
   clear hx h ha
   go_wp2_with (go_at_call 68; refine (aS _ _ _ _).mono ?_; rw [hxa]; rintro e w' ⟨rfl, rfl⟩)
   go_round
   case rel => exact ⟨k + 1, by omega, by go_num⟩
   case measure => simp [intOf]; omega
  ·go_wp2
   go_ret
   exact ⟨rfl, rfl⟩
theorem ir (v : Value) (xs : List Int) (w : World) (h : SlB af w.heap.size w v xs) (ha : ∀ x ∈ xs, win x 1 996 = true) (h1 : 1 ≤ xs.length) (h3 : xs.length ≤ 3) :
  Calls Tryz.prog 157 #[v] w fun e w' => e = .returned (.bool true) ∧ w = w' := by
 obtain ⟨A, c, rfl, a1, a2, a3⟩ := h.form
 clear a2
 have hw : win xs.length 1 3 = true := aK.2 (by omega)
 go_enter Tryz.func157, Tryz.ntmps157
 go_wp2
 go_loop [3] (fun i => ∃ k : Nat, k ≤ xs.length ∧ i = .int .i64 k) (fun i => xs.length - (intOf i).toNat)
 case atStart => exact ⟨0, by omega, rfl⟩
 case round =>
  obtain ⟨k, hk, rfl⟩ := hrel
  by_cases hlt : k < xs.length
  ·obtain ⟨x, hx⟩ := ak hlt
   obtain ⟨b, o, rfl, _, _, hcx⟩ := h.int hx
   have hxa := ha x (List.mem_of_getElem? hx)
   clear hx h ha
   go_wp2_with (go_at_call 106; refine (cd _ _).mono ?_; rw [hxa]; rintro e w' ⟨rfl, rfl⟩)
   go_round
   case rel => exact ⟨k + 1, by omega, by go_num⟩
   case measure => simp [intOf]; omega
  ·go_wp2_with (go_at_call 68; refine (aS _ _ _ _).mono ?_; rw [hw]; rintro e w' ⟨rfl, rfl⟩)
   go_ret
   exact ⟨rfl, rfl⟩
theorem iV (x p : Int) (ps : List Int) : bO x (p :: ps) = aq x p :: bO (aq x (dn (aq x p))) ps := rfl
theorem cC {α : Type} {xs : List α} {k : Nat} {x : α} (h : xs[k]? = some x) : xs.drop k = x :: xs.drop (k + 1) := by
 have hl := (List.getElem?_eq_some_iff.1 h)
 rw [List.drop_eq_getElem_cons hl.1, hl.2]
theorem iE {w : World} {B : Nat} (xs : List Int) (h : B ≤ w.heap.size) (hm : xs.length ≤ maxLen) :
  Own af 3 B (w.alloc (.cells (xs.map (fun x => Value.int .i64 x)).toArray 3)) (.slice (some ⟨w.heap.size, 0, none⟩) xs.length xs.length) xs [] :=
 ⟨xs.map (fun x => Value.int .i64 x), ⟨by simp [af, Ty.flat], .inr ⟨w.heap.size, xs.length, _, rfl, h, heap_alloc_new w _, Nat.le_refl _, hm, by simp [af, Ty.flat], by simp [af, Ty.flat, List.take_of_length_le]⟩⟩, cP.2 ⟨(bg _ _).symm, rfl⟩, fun _ _ h => by cases h⟩
theorem mn (s : Int) (v : Value) (ps : List Int) (w : World) (h : SlB af w.heap.size w v ps) (hl : ps.length ≤ 3) (hs : win s 1 996 = true) (hp : ∀ p ∈ ps, win p 1 996 = true) :
  Calls Tryz.prog 159 #[.int .i64 s, v] w fun e w' => ∃ v', e = .returned v' ∧ bp af 3 w.heap.size w' v' (bO s ps) ∧ Below w.heap.size w w' := by
 obtain ⟨i0, hi, hz0, hz1, hz2⟩ := info_parts aY
 obtain ⟨A, c, rfl, a1, a2, a3⟩ := h.form
 clear a2
 go_enter Tryz.func159, Tryz.ntmps159
 go_wp2
 go_loopw [5, 6, 7] (fun ov xv i wr => ∃ (k : Nat) (x : Int) (acc : List Int), k ≤ ps.length ∧ i = .int .i64 k ∧ xv = .int .i64 x ∧ win x 1 996 = true ∧ acc.length = k ∧ acc ++ bO x (ps.drop k) = bO s ps ∧ Own af 3 w.heap.size wr ov acc [] ∧ Below w.heap.size w wr) (fun _ _ i _ => ps.length - (intOf i).toNat)
 case atStart => exact ⟨0, s, [], by omega, rfl, rfl, hs, rfl, rfl, bR (w := w) (Nat.le_refl _), ah.alloc (Nat.le_refl _) _⟩
 case round =>
  obtain ⟨k, x, acc, hk, rfl, rfl, hx, hal, hacc, ho, hb⟩ := hrel
  have Hacc := hid hacc; have Ho := hid ho; have Hb := hid hb; have Hal := hid hal
  have hsz := hb.size
  by_cases hlt : k < ps.length
  ·obtain ⟨p, hpk⟩ := ak hlt
   obtain ⟨b, o, rfl, hbz, _, hcx⟩ := h.int hpk
   have hcx' := (hb.cell (p := ⟨b, o + k, none⟩) hbz).trans hcx
   have hpp := hp p (List.mem_of_getElem? hpk)
   have hd := cC hpk
   have Hd := hid hd
   clear hpk hd h hp hcx ho hb hacc hal
   go_wp2_with (first
    | (go_at_call 210; with_reducible refine (iX _ _ (bu hx hpp)).mono ?_; rintro e w' ⟨rfl, rfl⟩)
    | (go_at_call 155; with_reducible refine (bW x p _ hx hpp).mono ?_; rintro e w' ⟨rfl, rfl⟩)
    | (go_at_call 155; with_reducible refine (bW x _ _ hx (fd _)).mono ?_; rintro e w' ⟨rfl, rfl⟩)
    | (at_builtin; refine aw rfl (.tmp 23) (.tmp 25) 67 rfl af ai (B := w.heap.size) (v := u5) Tryz.underlying67 hi hz0 hz1 hz2 rfl (by decide) (by decide) rfl (Ho.out.below ?_ (Nat.le_refl _)) _ 1 1 rfl (Sl.box' (T := af) (x := aq x p) _ ?_ ⟨rfl, rfl⟩) ?_ ?_ ?_; (exact ah.alloc (Nat.le_refl _) _); rfl; (rw [Hal.out]; simp; omega); (simp; omega); intro v2 w2 ho2 hg2 hv2; have hb2 := (Hb.out.alloc hsz _).grown hg2 (by simp; omega) (fun q hq => (Ho.out.top q hq).1)))
   go_roundw
   case rel => exact ⟨k + 1, _, acc ++ [aq x p], by omega, by go_num, rfl, bu hx (fd _), by simp [Hal.out], by rw [← Hacc.out, Hd.out, iV]; simp, ho2, hb2⟩
   case measure => simp [intOf]; omega
  ·have hkl : k = ps.length := by omega
   subst hkl
   clear ho hb
   go_wp2
   go_ret
   exact ⟨_, rfl, ⟨[], by have := Hacc.out; simp [bO] at this; rw [← this]; exact Ho.out, List.nodup_nil, fun _ h => by cases h⟩, Hb.out⟩
theorem jd {w : World} {B : Nat} (x : Int) (h : B ≤ w.heap.size) : Own af 3 B (w.alloc (.cells #[.int .i64 x] 3)) (.slice (some ⟨w.heap.size, 0, none⟩) 1 1) [x] [] := iE [x] h (by simp [maxLen])
theorem gE {w : World} {B : Nat} (x y z : Int) (h : B ≤ w.heap.size) : Own af 3 B (w.alloc (.cells #[.int .i64 x, .int .i64 y, .int .i64 z] 3)) (.slice (some ⟨w.heap.size, 0, none⟩) 3 3) [x, y, z] [] := iE [x, y, z] h (by simp [maxLen])
def rG : Value → Nat | .slice _ n _ => n | _ => 0
theorem qS {l : List Int} {j : Nat} (h : l.length + j < 4) : (l.length : Int) :: l ++ List.replicate j 0 ++ [0] = (l.length : Int) :: l ++ List.replicate (j + 1) 0 := by
 rw [List.replicate_succ', List.append_assoc]
theorem jE (v : Value) (l : List Int) (w : World) (h : SlB af w.heap.size w v l) (hl : l.length ≤ 4) (hn : aH l = true) :
  Calls Tryz.prog 156 #[v] w fun e w' => ∃ v', e = .returned (.tuple #[v', .bool true]) ∧ bp af 3 w.heap.size w' v' (bI l) ∧ Below w.heap.size w w' := by
 obtain ⟨i0, hi, hz0, hz1, hz2⟩ := info_parts aY
 obtain ⟨A, c, rfl, a1, a2, a3⟩ := h.form
 have hs : bD l = true := by unfold bD; rw [hn, decide_eq_true (show l.length ≤ 24 by omega)]; rfl
 have H := hid (fun (wx : World) (hb : Below w.heap.size w wx) => h.go hb)
 have Hn := hid hn
 clear a2 hn
 go_enter Tryz.func156, Tryz.ntmps156
 have hd : decide (4 < (l.length : Int)) = false := by simp; omega
 go_wp2_with (first
  | (go_at_call 208; refine (bE _ l _ (H.out _ ah)).mono ?_; rw [hs]; rintro e w' ⟨rfl, rfl⟩)
  | (at_builtin; go_loud (refine aw rfl (.tmp 16) (.tmp 17) 67 rfl af ai (B := w.heap.size) (v := .slice (some ⟨w.heap.size, 0, none⟩) 1 1) Tryz.underlying67 hi hz0 hz1 hz2 rfl (by decide) (by decide) rfl (jd _ (Nat.le_refl _)) A l.length c rfl ⟨_, ((H.out _ (ab _ _)).choose_spec).1⟩ ?_ ?_ ?_; (simp <;> omega); (simp <;> omega); intro v2 w2 ho2 hg2 hv2; have hb2 := ((Below.refl w.heap.size w).alloc (Nat.le_refl _) _).grown hg2 (by simp) (fun q hq => by simp [Value.ownBlock] at hq; omega))))
 have Ho := hid (show Own af 3 w.heap.size w2 v2 ((l.length : Int) :: l ++ List.replicate 0 0) [] from by simpa using ho2)
 have Hb := hid hb2
 obtain ⟨A2, c2, rfl, _, _, _⟩ := ho2.form
 clear ho2 hb2 hg2 hv2 h
 rw [show ([(l.length : Int)] ++ l).length = l.length + 1 from by simp]
 go_loopw [4] (fun ov wr => ∃ j : Nat, l.length + j ≤ 4 ∧ Own af 3 w.heap.size wr ov ((l.length : Int) :: l ++ List.replicate j 0) [] ∧ Below w.heap.size w wr) (fun ov _ => 5 - rG ov)
 case atStart => exact ⟨0, by omega, Ho.out, Hb.out⟩
 case round =>
  obtain ⟨j, hj, ho, hb⟩ := hrel
  obtain ⟨A3, c3, rfl, _, _, _⟩ := ho.form
  have hlen : ((l.length : Int) :: l ++ List.replicate j 0).length = 1 + l.length + j := by simp; omega
  have Hb := hid hb; have Hlen := hid hlen
  have Ho := hid (show Own af 3 w.heap.size wr (.slice A3 (1 + l.length + j) c3) ((l.length : Int) :: l ++ List.replicate j 0) [] from by have := ho; rwa [hlen] at this)
  have hsz := hb.size
  rw [hlen]
  by_cases hlt : l.length + j < 4
  ·have hd1 : decide (((1 + l.length + j : Nat) : Int) < 5) = true := by simp; omega
   have Hp := hid (qS hlt)
   clear ho hb hlen
   go_wp2_with (at_builtin; go_loud (refine aw rfl (.tmp 22) (.tmp 23) 67 rfl af ai (B := w.heap.size) (v := .slice A3 (1 + l.length + j) c3) Tryz.underlying67 hi hz0 hz1 hz2 rfl (by decide) (by decide) rfl (Ho.out.below ?_ (Nat.le_refl _)) _ 1 1 rfl (Sl.box' (T := af) (x := 0) _ ?_ ⟨rfl, rfl⟩) ?_ ?_ ?_; (exact ah.alloc (Nat.le_refl _) _); rfl; ((rw [Hlen.out]; simp; omega)); (simp <;> omega); intro v2 w2 ho2 hg2 hv2; have hb2 := (Hb.out.alloc hsz _).grown hg2 (by simp <;> omega) (fun q hq => (Ho.out.top q hq).1)))
   obtain ⟨A5, c5, rfl, _, _, _⟩ := ho2.form
   go_roundw
   case rel => exact ⟨j + 1, by omega, by rw [← Hp.out]; exact ho2, hb2⟩
   case measure => simp [rG]; omega
  ·have hpre : (l.length : Int) :: l ++ List.replicate j 0 = dG l := by unfold dG; rw [show j = 4 - l.length from by omega]
   have hd1 : decide (((1 + l.length + j : Nat) : Int) < 5) = false := by simp; omega
   have Hpre := hid hpre
   have Ho2 := hid (show Own af 3 w.heap.size wr (.slice A3 (1 + l.length + j) c3) (dG l) [] from by rw [← hpre]; exact Ho.out)
   have hs2 := Ho2.out.slB
   have Hs2 := hid hs2
   have Hpl := hid (gK hl)
   clear ho hb hlen hpre hs2
   go_wp2_with (first
    | (go_at_call 209; refine (iD 1 _ (dG l) _ Hs2.out (ic hl Hn.out) (by rw [Hpl.out]; omega) (by decide)).mono ?_; rintro e w' ⟨rfl, rfl⟩)
    | (at_builtin; go_loud (refine aw rfl (.tmp 25) (.tmp 28) 67 rfl af ai (B := w.heap.size) (v := .slice A3 (1 + l.length + j) c3) Tryz.underlying67 hi hz0 hz1 hz2 rfl (by decide) (by decide) rfl (Ho2.out.below ?_ (Nat.le_refl _)) _ 1 1 rfl (Sl.box' (T := af) (x := cJ 1 (dG l)) _ ?_ ⟨rfl, rfl⟩) ?_ ?_ ?_; (exact ah.alloc (Nat.le_refl _) _); rfl; ((rw [Hpl.out]; simp)); (simp <;> omega); intro v2 w2 ho2 hg2 hv2; have hb2 := (Hb.out.alloc hsz _).grown hg2 (by simp <;> omega) (fun q hq => (Ho2.out.top q hq).1))))
   go_ret2
   exact ⟨_, rfl, ⟨[], ho2, List.nodup_nil, fun _ h => by cases h⟩, hb2⟩
theorem iY (v : Value) (xs : List Int) (b : Bool) (hb : bD xs = b) (w : World) (k : Nat) (h : SlB af w.heap.size w v xs) : Calls Tryz.prog 208 #[v] (w.drewN k) fun e w' => e = .returned (.bool b) ∧ w' = w.drewN k := by
 subst hb; exact (bE v xs _ (h.drewN (Nat.le_refl _) k)).mono fun _ _ ⟨h1, h2⟩ => ⟨h1, h2.symm⟩
theorem gB (key : Int) (v : Value) (xs : List Int) (w : World) (k : Nat) (h : SlB af w.heap.size w v xs) (hn : aH xs = true) (hl : xs.length ≤ 24) (hkey : win key 1 996 = true) :
  Calls Tryz.prog 209 #[.int .i64 key, v] (w.drewN k) fun e w' => e = .returned (.int .i64 (cJ key xs)) ∧ w' = w.drewN k :=
 (iD key v xs _ (h.drewN (Nat.le_refl _) k) hn hl hkey).mono fun _ _ ⟨h1, h2⟩ => ⟨h1, h2.symm⟩
theorem sV {b : List Int} (h : b.length = 6) : ∃ n a1 a2 a3 a4 t, b = [n, a1, a2, a3, a4, t] := by
 match b, h with
 | [n, a1, a2, a3, a4, t], _ => exact ⟨n, a1, a2, a3, a4, t, rfl⟩
def im (b : List Int) : Bool := (List.range 5).all fun i => decide ((i : Int) ≤ fm b) || decide (b.getD i 0 = 0)
theorem qR {n a1 a2 a3 a4 t : Int} (h0 : 0 ≤ n) (h4 : n ≤ 4) : dG (dB [n, a1, a2, a3, a4, t]) = [n, a1, a2, a3, a4] ↔ im [n, a1, a2, a3, a4, t] = true := by
 obtain rfl | rfl | rfl | rfl | rfl : n = 0 ∨ n = 1 ∨ n = 2 ∨ n = 3 ∨ n = 4 := by omega
 all_goals
  simp [dG, dB, fm, im, List.range_succ, List.replicate]
  try constructor
  all_goals (try (intro h; simp_all)); try omega
theorem qN {b : List Int} (hl : b.length = 6) (hn : aH b = true) : (dQ b 6 = true ∧ fm b ≤ 4 ∧ bI (dB b) = b) ↔ (cJ 1 (b.take 5) = b.getD 5 0 ∧ fm b ≤ 4 ∧ im b = true) := by
 obtain ⟨n, a1, a2, a3, a4, t, rfl⟩ := sV hl
 have h0 : 0 ≤ n := (bL hn (i := 0) rfl).1
 have hb : dQ [n, a1, a2, a3, a4, t] 6 = true := gF.2 ⟨rfl, hn⟩
 have e5 : List.take 5 [n, a1, a2, a3, a4, t] = [n, a1, a2, a3, a4] := rfl
 have e6 : [n, a1, a2, a3, a4, t].getD 5 0 = t := rfl
 have e0 : fm [n, a1, a2, a3, a4, t] = n := rfl
 rw [e5, e6, e0]
 have split : [n, a1, a2, a3, a4, t] = [n, a1, a2, a3, a4] ++ [t] := rfl
 constructor
 ·rintro ⟨_, h4, hp⟩
  have hlen : (dG (dB [n, a1, a2, a3, a4, t])).length = 5 := gK (by simp [dB]; omega)
  have := List.append_inj (hp.trans split) (by rw [hlen]; rfl)
  refine ⟨?_, h4, (qR h0 h4).1 this.1⟩
  have h2 := this.2
  rw [this.1] at h2
  simpa using h2
 ·rintro ⟨ht, h4, hz⟩
  refine ⟨hb, h4, ?_⟩
  unfold bI
  rw [(qR h0 h4).2 hz, ht]; rfl
theorem gH {b : List Int} (h : ¬ (dQ b 6 = true ∧ fm b ≤ 4 ∧ bI (dB b) = b)) : df b = none := by unfold df; rw [if_neg h]
theorem mC {b : List Int} (h : dQ b 6 = true ∧ fm b ≤ 4 ∧ bI (dB b) = b) : df b = some (dB b) := by unfold df; rw [if_pos h]
def Opn (w : World) (r : Option (List Int)) (e : Ending) (w' : World) : Prop := ∃ v', e = .returned (.tuple #[v', .bool r.isSome]) ∧ bp af 3 w.heap.size w' v' (r.getD []) ∧ Below w.heap.size w w'
theorem fs {w w' : World} {v : Value} (h : bp af 3 w.heap.size w' v []) (hb : Below w.heap.size w w') : Opn w none (.returned (.tuple #[v, .bool false])) w' := ⟨v, rfl, h, hb⟩
theorem mF {w w' : World} {v : Value} {l : List Int} (h : bp af 3 w.heap.size w' v l) (hb : Below w.heap.size w w') : Opn w (some l) (.returned (.tuple #[v, .bool true])) w' := ⟨v, rfl, h, hb⟩
theorem eY (v : Value) (b : List Int) (w : World) (h : SlB af w.heap.size w v b) (hl : b.length = 6) (hn : aH b = true) :
  Calls Tryz.prog 163 #[v] w (Opn w (df b)) := by
 obtain ⟨i0, hi, hz0, hz1, hz2⟩ := info_parts aY
 obtain ⟨A, c, rfl, a1, a2, a3⟩ := h.form
 have hs : bD b = true := by unfold bD; rw [hn, decide_eq_true (show b.length ≤ 24 by omega)]; rfl
 have H := hid h
 have h5 : SlB af w.heap.size w (.slice A 5 c) (b.take 5) := h.take 5 (by omega)
 have hn5 : aH (b.take 5) = true := eG hn (fun x hx => List.mem_of_mem_take hx)
 have H5 := hid h5; have Hn5 := hid hn5; have Hs := hid hs
 obtain ⟨n, hx0⟩ := ak (xs := b) (k := 0) (by omega)
 obtain ⟨t, hx5⟩ := ak (xs := b) (k := 5) (by omega)
 obtain ⟨n0, n1⟩ := bL hn hx0
 obtain ⟨t0, t1⟩ := bL hn hx5
 obtain ⟨bb, o, rfl, hbz, _, hc0⟩ := h.int hx0
 obtain ⟨bb', o', e', _, _, hc5⟩ := h.int hx5
 injection e' with e'; injection e' with e1 e2; subst e1 e2
 rw [Nat.add_zero] at hc0
 have e5 : b.getD 5 0 = t := by simp [List.getD_eq_getElem?_getD, hx5]
 have e0 : fm b = n := by simp [fm, List.getD_eq_getElem?_getD, hx0]
 have hiff : (dQ b 6 = true ∧ fm b ≤ 4 ∧ bI (dB b) = b) ↔ (cJ 1 (b.take 5) = t ∧ n ≤ 4 ∧ im b = true) := by rw [qN hl hn, e5, e0]
 have hc6 : (6 : Int) ≤ (c : Int) := by omega
 rw [hl] at h H a1 ⊢
 have c5 : (5 : Int) ≤ (c : Int) := by omega
 have L5 := hid (show (b.take 5).length ≤ 24 by simp; omega)
 obtain ⟨g0, g1⟩ := lM 1 (b.take 5)
 have Hiff := hid hiff; have Hn := hid hn; have Hl := hid hl; have E0 := hid e0; have Hx0 := hid hx0
 clear hiff hs h5 hn5 h hn hl hx5 e5 e0 hx0 a2 a3
 cases ht : (cJ 1 (b.take 5) != t) with
 | true =>
  have Hno := hid (gH (fun hh => by have := (Hiff.out.1 hh).1; rw [this] at ht; simp at ht))
  rw [Hno.out]
  go_enter Tryz.func163, Tryz.ntmps163
  go_wp2
  go_quiet ((first | (go_at_call 208; exact Calls.quiet_of_same (iY _ b true Hs.out _ _ (by exact H.out))) | (go_at_call 209; exact Calls.quiet_of_same (gB 1 _ (b.take 5) _ _ (by exact H5.out) Hn5.out L5.out (by decide)))))
  go_wp2
  go_ret2
  (exact fs ⟨[], bR (by simp), List.nodup_nil, fun _ h => by cases h⟩ (by repeat (first | exact ah | refine below_drewN ?_ _ | refine Below.alloc ?_ (by simp <;> omega) _)))
 | false =>
  by_cases h4 : n ≤ 4
  ·have hg : decide (4 < n) = false := by simp; omega
   obtain ⟨m, rfl⟩ := Int.eq_ofNat_of_zero_le n0
   have Ht := hid (show cJ 1 (b.take 5) = t from by simpa using ht)
   go_enter Tryz.func163, Tryz.ntmps163
   go_wp2
   go_quiet ((first | (go_at_call 208; exact Calls.quiet_of_same (iY _ b true Hs.out _ _ (by exact H.out))) | (go_at_call 209; exact Calls.quiet_of_same (gB 1 _ (b.take 5) _ _ (by exact H5.out) Hn5.out L5.out (by decide)))))
   go_wp2
   have Hw := hid (below_drewN (Below.refl w.heap.size w) nq)
   have hcw : (w.drewN nq).cell? ⟨bb, o, none⟩ = some (.int .i64 m) := by simpa using hc0
   have hH := H.out.drewN (Nat.le_refl _) nq
   generalize w.drewN nq = W at *
   go_loop [5] (fun i => ∃ j : Nat, m + 1 ≤ j ∧ j ≤ 5 ∧ i = .int .i64 j ∧ ∀ q, m < q → q < j → b.getD q 0 = 0) (fun i => 5 - (intOf i).toNat)
   case atStart => exact ⟨m + 1, by omega, by omega, by go_num, fun q h1 h2 => absurd h1 (by omega)⟩
   case round =>
    obtain ⟨j, hj1, hj5, rfl, hall⟩ := hrel
    have Hall := hid hall
    clear hall
    by_cases hlt : j < 5
    ·obtain ⟨y, hy⟩ := ak (xs := b) (k := j) (by rw [Hl.out]; omega)
     obtain ⟨b1, o1, e1, _, _, hcy⟩ := hH.int hy
     injection e1 with e1; injection e1 with e1 e2; subst e1 e2
     have hj6 : (j : Int) < 6 := by omega
     have Hy := hid hy
     clear hy
     cases hy0 : (y != 0) with
     | true =>
      have Hno := hid (gH (fun hh => by
       have hz := (Hiff.out.1 hh).2.2
       unfold im at hz
       have := List.all_eq_true.1 hz j (List.mem_range.2 hlt)
       rw [E0.out] at this
       have hg : b.getD j 0 = y := by simp [List.getD_eq_getElem?_getD, Hy.out]
       rw [hg] at this
       simp at this hy0
       rcases this with h | h
       ·omega
       ·exact hy0 h))
      rw [Hno.out]
      go_wp2
      go_ret2
      exact fs ⟨[], bR (Hw.out.size), List.nodup_nil, fun _ h => by cases h⟩ (Hw.out.alloc Hw.out.size _)
     | false =>
      go_wp2
      go_round
      case rel => exact ⟨j + 1, by omega, by omega, by go_num, fun q h1 h2 => by
       rcases Nat.lt_or_ge q j with h | h
       ·exact Hall.out q h1 h
       ·rw [show q = j from by omega]; simp at hy0; simp [List.getD_eq_getElem?_getD, Hy.out, hy0]⟩
      case measure => simp [intOf]; omega
    ·have hyes : df b = some (dB b) := mC (Hiff.out.2 ⟨Ht.out, by omega, by
      unfold im
      rw [List.all_eq_true]
      intro q hq
      have hq := List.mem_range.1 hq
      rw [E0.out]
      rcases Nat.lt_or_ge m q with h | h
      ·rw [Hall.out q h (by omega)]; simp
      ·simp; left; omega⟩)
     have hlet : dB b = (b.drop 1).take m := by unfold dB; rw [E0.out]; rfl
     have Hyes := hid hyes; have Hlet := hid hlet
     rw [hyes]
     clear hyes hlet
     have hsub := (hH.drop 1 (by omega)).take m (by omega)
     have hm4 : m ≤ 4 := by omega
     have Hsub := hid hsub
     have hbW : bb < W.heap.size := Nat.lt_of_lt_of_le hbz Hw.out.size
     have hWs := Hw.out.size
     clear hsub
     go_wp2_with (at_builtin; go_loud (refine aw rfl (.tmp 47) (.tmp 53) 67 rfl af ai (B := w.heap.size) (v := .slice (some ⟨W.heap.size, 0, none⟩) 0 0) Tryz.underlying67 hi hz0 hz1 hz2 rfl (by decide) (by decide) rfl (bR Hw.out.size) (some ⟨bb, o + 1, none⟩) m (c - 1) rfl ⟨_, ((Hsub.out.below (ab W _) (Hw.out.size)).choose_spec).1⟩ ?_ ?_ ?_; (simp <;> omega); (simp <;> omega); intro v2 w2 ho2 hg2 hv2; have hb2 := (Hw.out.alloc Hw.out.size _).grown hg2 (by simp <;> omega) (fun q hq => by simp [Value.ownBlock] at hq; have := Hw.out.size; omega)))
     go_ret2
     rw [Hyes.out]
     exact mF (l := dB b) ⟨[], by rw [Hlet.out]; simpa using ho2, List.nodup_nil, fun _ h => by cases h⟩ hb2
  ·have Hno := hid (gH (fun hh => h4 (Hiff.out.1 hh).2.1))
   rw [Hno.out]
   have hg : decide (4 < n) = true := by simp; omega
   go_enter Tryz.func163, Tryz.ntmps163
   go_wp2
   go_quiet ((first | (go_at_call 208; exact Calls.quiet_of_same (iY _ b true Hs.out _ _ (by exact H.out))) | (go_at_call 209; exact Calls.quiet_of_same (gB 1 _ (b.take 5) _ _ (by exact H5.out) Hn5.out L5.out (by decide)))))
   go_wp2
   go_ret2
   (exact fs ⟨[], bR (by simp), List.nodup_nil, fun _ h => by cases h⟩ (by repeat (first | exact ah | refine below_drewN ?_ _ | refine Below.alloc ?_ (by simp <;> omega) _)))
theorem lZ {out : List Int} {key : Int} {k : Nat} {n : Int} (h : (out ++ [0, 0, 0])[k]? = some n) : (aO out key)[k]? = some ((n + 991 - cM key (12 - (out.length + 3) + k)) % 991) := by
 unfold aO; rw [List.getElem?_mapIdx, h]; rfl
theorem fA {w : World} {v : Value} {xs : List Int} {e B : Nat} {G : List Nat} (h : Own af e B w v xs G) : ∃ F, Sl af w v xs F := h.slB'
theorem Own.formN {e B n : Nat} {w : World} {v : Value} {xs : List Int} {G : List Nat} (h : Own af e B w v xs G) (hn : xs.length = n) : ∃ A c, v = .slice A n c ∧ n ≤ c ∧ c ≤ maxLen := by
 subst hn
 obtain ⟨A, c, h1, h2, h3, _⟩ := h.form
 exact ⟨A, c, h1, h2, h3⟩
theorem nM (v : Value) (keys : List Int) (w : World) (h : SlB af w.heap.size w v keys) (h1 : 1 ≤ keys.length) (hl : keys.length ≤ 3) (hk : ∀ k ∈ keys, win k 1 996 = true) :
  Calls Tryz.prog 212 #[v] w fun e w' => ∃ v', e = .returned v' ∧ bp af 3 w.heap.size w' v' (bw keys) ∧ Below w.heap.size w w' := by
 obtain ⟨i0, hi, hz0, hz1, hz2⟩ := info_parts aY
 obtain ⟨A, c, rfl, a1, a2, a3⟩ := h.form
 clear a2
 have H := hid h; have Hk := hid hk
 go_enter Tryz.func212, Tryz.ntmps212
 go_wp2
 go_loopw [3, 4] (fun ov i wr => ∃ k : Nat, k + 1 ≤ keys.length ∧ i = .int .i64 k ∧ Own af 3 w.heap.size wr ov ((keys.take k).foldl aO []) [] ∧ Below w.heap.size w wr) (fun _ i _ => keys.length - (intOf i).toNat)
 case atStart => exact ⟨0, by omega, rfl, bR (w := w) (Nat.le_refl _), ah.alloc (Nat.le_refl _) _⟩
 case round =>
  obtain ⟨k, hk1, rfl, ho, hb⟩ := hrel
  have hsz := hb.size
  by_cases hlt : k + 1 < keys.length
  ·obtain ⟨key, hkey⟩ := ak (xs := keys) (k := k) (by omega)
   have hacc : ((keys.take k).foldl aO []).length = 3 * k := by rw [ef]; simp; omega
   have Hacc := hid (show (keys.take (k + 1)).foldl aO [] = aO ((keys.take k).foldl aO []) key from by rw [aP hkey, List.foldl_append]; rfl)
   have hnum : aH ((keys.take k).foldl aO []) = true := bV _ _ rfl
   have hkw := hk key (List.mem_of_getElem? hkey)
   have Hkey := hid hkey
   generalize (keys.take k).foldl aO [] = acc at *
   obtain ⟨A1, c1, rfl, _, _, _⟩ := ho.form
   have Ho := hid ho; have Hb := hid hb; have Hn := hid hnum; have Hal := hid hacc
   have hlt' : ((k : Int) + 1 < (keys.length : Int)) := by omega
   clear ho hb hnum hkey h hk
   have hal6 : acc.length ≤ 3 := by rw [hacc]; omega
   clear hacc
   go_wp2_with (first
    | (at_builtin; go_loud (refine aw rfl (.tmp 16) (.tmp 17) 67 rfl af ai (B := w.heap.size) (v := .slice (some ⟨wr.heap.size, 0, none⟩) 0 0) Tryz.underlying67 hi hz0 hz1 hz2 rfl (by decide) (by decide) rfl (bR hsz) A1 acc.length c1 rfl (fA (Ho.out.go (ab wr _))) ?_ ?_ ?_; ((simp <;> omega)); (simp <;> omega); intro v2 w2 ho2 hg2 hv2; have hb2 := (Hb.out.alloc hsz _).grown hg2 (by simp <;> omega) (fun q hq => (by simp [Value.ownBlock] at hq; omega)); have sq2 := hb2.size; skip))
    | (at_builtin; go_loud (refine aw rfl (.tmp 18) (.tmp 19) 67 rfl af ai (B := w.heap.size) (v := v2) Tryz.underlying67 hi hz0 hz1 hz2 rfl (by decide) (by decide) rfl (ho2.go (ab w2 _)) (some ⟨w2.heap.size, 0, none⟩) 3 3 rfl (fA (gE 0 0 0 (Nat.le_refl _))) ?_ ?_ ?_; ((simp <;> omega)); (simp <;> omega); intro v3 w3 ho3 hg3 hv3; have hb3 := (hb2.alloc sq2 _).grown hg3 (by simp <;> omega) (fun q hq => (ho2.top q hq).1); have sq3 := hb3.size; (obtain ⟨A3, c3, rfl, n3, _⟩ := ho3.formN (n := acc.length + 3) (by simp)))))
   have hN : SlB af w3.heap.size w3 (.slice A3 (acc.length + 3) c3) (acc ++ [0, 0, 0]) := by have := ho3.slB; simpa using this
   have hK3 := H.out.go hb3
   obtain ⟨bk, ok, ek, hbk, hbk', hck⟩ := hK3.int Hkey.out
   subst ek
   have hc3 := hid hb3
   have hN3 := hid (bi Hn.out (show aH [0, 0, 0] = true from rfl))
   have hl3 : (acc ++ [0, 0, 0]).length = acc.length + 3 := by simp
   have hfl : (aO acc key).length = acc.length + 3 := dd _ _
   have Hl3 := hid hl3; have Hfl := hid hfl
   have hlk : (k : Int) < (keys.length : Int) := by omega
   clear ho2 hg2 hv2 hb2 ho3 hg3 hv3 hb3 hl3 hfl hK3 Ho sq2
   go_wp2_with fail
   go_loopw [3, 7] (fun ov i wx => ∃ j : Nat, j ≤ acc.length + 3 ∧ i = .int .i64 j ∧ Own af 3 w3.heap.size wx ov ((aO acc key).take j) [] ∧ Below w3.heap.size w3 wx) (fun _ i _ => acc.length + 3 - (intOf i).toNat)
   case atStart => exact ⟨0, by omega, rfl, bR (w := w3) (Nat.le_refl _), ah.alloc (Nat.le_refl _) _⟩
   case round =>
    obtain ⟨j, hj, rfl, ho, hb⟩ := hrel
    have hszx := hb.size
    by_cases hlt2 : j < acc.length + 3
    ·obtain ⟨x, hx⟩ := ak (xs := acc ++ [0, 0, 0]) (k := j) (by rw [Hl3.out]; exact hlt2)
     obtain ⟨b, o, rfl, hbz, _, hcx⟩ := hN.int hx
     obtain ⟨x0, x1⟩ := bL hN3.out hx
     have hlen : ((aO acc key).take j).length = j := by rw [List.length_take, Hfl.out]; omega
     have Ht := hid (aP (lZ (key := key) hx))
     have hidx : ((12 : Int) - ((acc.length : Int) + 3) + (j : Int)) = (((12 - (acc.length + 3) + j : Nat)) : Int) := by omega
     have hi24 : 12 - (acc.length + 3) + j ≤ 24 := by omega
     obtain ⟨s0, s1⟩ := gn key (12 - (acc.length + 3) + j)
     generalize hq : 12 - (acc.length + 3) + j = q at *
     generalize hsv : cM key q = sv at *
     have Hsv := hid hsv
     have Ho := hid ho; have Hb := hid hb; have Hlk := hid hlen
     have t0 := aX (n := (q : Int)) (by omega)
     have t1 := aX (n := x + 991) (by omega)
     have t2 := aX (n := x + 991 - sv) (by omega)
     have t3 := pd (n := x + 991 - sv) (m := 991) (by omega)
     have Hh := hid (fun (wx : World) (hb : Below w3.heap.size w3 wx) => And.intro hb (And.intro ((hb.cell (p := ⟨b, o + j, none⟩) hbz).trans hcx) ((hb.cell (p := ⟨bk, ok + k, none⟩) hbk).trans hck)))
     clear hx ho hb hcx hck hlen hq hsv hN hN3
     go_wp2_with fail
     go_region_held3 (fun w' : World => Below w3.heap.size w3 w' ∧ w'.cell? ⟨b, o + j, none⟩ = some (.int .i64 x) ∧ w'.cell? ⟨bk, ok + k, none⟩ = some (.int .i64 key))
      (first | assumption | exact Hh.out _ (Hb.out.drew) | exact Hh.out _ ((Hb.out.alloc hszx _).drew) | exact Hh.out _ hb2)
      (first | (go_at_call 211; refine (nE key q _ hkw hi24).mono ?_; rw [Hsv.out]; rintro e w' ⟨rfl, rfl⟩) | (go_loud (refine bf rfl (.tmp 31) (.tmp 47) 67 rfl af ai (B := w3.heap.size) Tryz.underlying67 hi hz0 hz1 hz2 rfl (by decide) (by decide) (v := u3) rfl ((Ho.out.below (w' := (wr.alloc _)) (ab _ _) (Nat.le_refl _)).below (ae ah) (Nat.le_refl _)) _ 1 1 rfl (Sl.box' (T := af) (x := (x + 991 - sv) % 991) wr.heap.size rfl ⟨rfl, rfl⟩) (by rw [Hlk.out]; simp; omega) (by simp; omega) ?_; intro v2 w2 ho2 hg2 hv2; have hb2 : Below w3.heap.size w3 w2 := (((Hb.out.alloc hszx _).drew).grown hg2 (by simp; omega) (fun q hq => (Ho.out.top q hq).1)))))
     go_wp2
     go_roundw
     case rel => exact ⟨j + 1, by omega, by go_num, by rw [Ht.out]; exact ho2, hb2⟩
     case measure => simp [intOf]; omega
    ·have hjl : j = acc.length + 3 := by omega
     have Hfin := hid (aR (xs := aO acc key) (k := j) (by rw [Hfl.out]; omega) (by rw [Hfl.out]; omega))
     have Ho := hid ho; have Hb := hid hb
     clear ho hb hN hN3 hck
     go_wp2
     go_roundw
     case rel => exact ⟨k + 1, by omega, by go_num, by rw [Hacc.out, ← Hfin.out]; exact Ho.out.base hc3.out.size, hc3.out.trans (Hb.out.mono hc3.out.size)⟩
     case measure => simp [intOf]; omega
  ·have hkl : k = keys.length - 1 := by omega
   have hd : ¬ ((k : Int) + 1 < (keys.length : Int)) := by omega
   have Hf := hid (show (keys.take k).foldl aO [] = bw keys from by unfold bw; rw [List.dropLast_eq_take, hkl])
   have Ho := hid ho; have Hb := hid hb
   clear ho hb h hk
   go_wp2
   go_ret
   exact ⟨_, rfl, ⟨[], by rw [← Hf.out]; exact Ho.out, List.nodup_nil, fun _ h => by cases h⟩, Hb.out⟩
end Go.Proofs.YtfaeojmndaplcaaGreatDoor
