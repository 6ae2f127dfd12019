/- Texts that the last file leans on (part 30). -/
import Derived.Deep.Cut
import Derived.Laws.BytesArg
import Derived.Lib.IndexBytes
import Derived.Lib.ItoaNum
import Derived.Lib.SplitLaws
import Derived.Lib.Strings
import Derived.Test.YtfaeojmndaplcaaGreatDoorM0
import Derived.Test.YtfaeojmndaplcaaGreatDoorM3
import Derived.Test.YtfaeojmndaplcaaGreatDoorM7
set_option linter.unusedVariables false
set_option linter.unusedSimpArgs false
set_option maxHeartbeats 4000000
set_option maxRecDepth 100000
namespace Go.Proofs.YtfaeojmndaplcaaGreatDoor
open Go Go.RowKit
def aP (c : UInt8) : List UInt8 → List (List UInt8)
 | [] => [[]]
 | b :: r => if b = c then [] :: aP c r else (b :: (aP c r).headD []) :: (aP c r).tail
theorem kI (c : UInt8) (s : List UInt8) : aP c s ≠ [] := by
 cases s with
 | nil => simp [aP]
 | cons b r => unfold aP; split <;> simp
theorem xq (c : UInt8) (s : List UInt8) : aP c s = (aP c s).headD [] :: (aP c s).tail := by
 cases h : aP c s with
 | nil => exact absurd h (kI c s)
 | cons p ps => rfl
theorem ni (c b : UInt8) (l : List UInt8) : [c].isPrefixOf (b :: l) = (c == b) := by simp [List.isPrefixOf]
theorem lF (c : UInt8) : ∀ s, Lib.splitK [c] 0 (Lib.count s [c]) s = aP c s
 | [] => by
  have h : Lib.index [] [c] = -1 := rfl
  rw [Lib.count_miss h]; rfl
 | b :: l => by
  by_cases hb : b = c
  ·subst hb
   rw [Lib.count_cons_eq, Nat.add_comm]
   have h : Lib.index (b :: l) [b] = 0 := by unfold Lib.index; rw [ni]; simp
   unfold Lib.splitK
   rw [h, if_neg (by decide), aP, if_pos rfl]
   have ih := lF b l
   simpa using ih
  ·rw [Lib.count_cons_ne b c l hb, aP, if_neg hb]
   have ih := lF c l
   have hp : [c].isPrefixOf (b :: l) = false := by rw [ni]; simpa using fun e => hb (Eq.symm e)
   cases hk : Lib.count l [c] with
   | zero =>
    rw [hk] at ih
    have ih : [l] = aP c l := ih
    rw [← ih]; rfl
   | succ k =>
    rw [hk] at ih
    have hi : ¬ (Lib.index l [c] == -1) = true := fun e => by
     have := Lib.count_miss (beq_iff_eq.1 e)
     omega
    have hn : 0 ≤ Lib.index l [c] := by
     have := beq_eq_false_iff_ne.1 (Bool.eq_false_iff.2 hi)
     have := Lib.index_ge l [c]
     omega
    have hj : Lib.index (b :: l) [c] = Lib.index l [c] + 1 := by
     conv => lhs; unfold Lib.index
     rw [hp, if_neg (by simp), if_neg hi]
    unfold Lib.splitK at ih ⊢
    rw [if_neg hi] at ih
    rw [hj, if_neg (by simp; omega), ← ih]
    obtain ⟨i, hi⟩ := Int.eq_ofNat_of_zero_le hn
    rw [hi]
    have e1 : ((i : Int) + 1).toNat = i + 1 := by omega
    rw [e1]
    simp
def mj (b : UInt8) : Bool := decide (48 ≤ b.toNat) && decide (b.toNat ≤ 57)
def ed (w : List UInt8) : Int :=
 if 1 ≤ w.length ∧ w.length ≤ 2 ∧ w.all mj = true then w.foldl (fun n b => 10 * n + ((b.toNat : Int) - 48)) 0 else -1
def vw : List UInt8 := [115, 101, 110, 100]
def me : List UInt8 := [100, 101, 108, 105, 118, 101, 114]
def vv : List UInt8 := [108, 111, 115, 101]
def rx : List UInt8 := [116, 119, 105, 99, 101]
def oX : List UInt8 := [99, 104, 97, 110, 103, 101]
def ru : List UInt8 := [102, 108, 117, 115, 104]
def mb : List UInt8 := [99, 97, 108, 109]
def j8 : List UInt8 := [110, 101, 116]
def g7 (w : List UInt8) : Int :=
 if w = vw then 1 else if w = me then 2 else if w = vv then 3 else if w = rx then 4 else if w = oX then 5 else if w = ru then 6 else 0
def dz (n : Int) : List UInt8 :=
 if n < 10 then [UInt8.ofNat (48 + n.toNat)]
 else if n < 100 then [UInt8.ofNat (48 + n.toNat / 10), UInt8.ofNat (48 + n.toNat % 10)]
 else [UInt8.ofNat (48 + n.toNat / 10 / 10), UInt8.ofNat (48 + n.toNat / 10 % 10), UInt8.ofNat (48 + n.toNat % 10)]
theorem vI {n : Int} (h0 : 0 ≤ n) (h1 : n < 1000) : Lib.decDigits n.toNat = dz n := by
 obtain ⟨k, rfl⟩ := Int.eq_ofNat_of_zero_le h0
 rw [Int.toNat_natCast]
 unfold dz
 rw [Int.toNat_natCast]
 by_cases a : k < 10
 ·rw [Lib.decDigits, dif_pos a, if_pos (by omega)]
 ·rw [Lib.decDigits, dif_neg a, if_neg (by omega)]
  by_cases b : k < 100
  ·rw [Lib.decDigits, dif_pos (by omega), if_pos (by omega)]; rfl
  ·rw [Lib.decDigits, dif_neg (by omega), Lib.decDigits, dif_pos (by omega), if_neg (by omega)]; rfl
def cC : List (List UInt8) → List UInt8
 | [] => [10]
 | [w] => w ++ [10]
 | w :: ws => w ++ 32 :: cC ws
theorem xF {α : Type} {T : Ty α} {e B n : Nat} {w : World} (h : w.heap[n]? = some (.cells #[] e (0, 0))) (hB : B ≤ n) : Own T e B w (.slice (some ⟨n, 0, none⟩) 0 0) [] [] :=
 ⟨[], ⟨by simp, .inr ⟨n, 0, #[], rfl, hB, h, Nat.le_refl _, by simp [maxLen], by simp, by simp⟩⟩, ⟨rfl, rfl⟩, fun _ _ h => by cases h⟩
theorem dK {w wa : World} {cs : Array Value} {e : Nat} (h : w.alloc (.cells cs e) = wa) : wa.heap[w.heap.size]? = some (.cells cs e (0, 0)) ∧ Below w.heap.size w wa ∧ wa.heap.size = w.heap.size + 1 := by
 subst h
 exact ⟨heap_alloc_new w _, ab _ _, by simp⟩
abbrev bL (s : ByteArray) : List UInt8 := s.data.toList
theorem aB (s : ByteArray) : (bL s).length = s.size := by simp [bL]
theorem iI {s : ByteArray} {k : Nat} (h : k < s.size) : (bL s)[k]? = some (s[k]'h) := by
 have h1 : (bL s)[k]? = s.data[k]? := by simp [bL]
 rw [h1]
 exact Array.getElem?_eq_getElem h
theorem iH (a b : ByteArray) : bL (a ++ b) = bL a ++ bL b := by simp [bL]
theorem oY (s : ByteArray) (a b : Nat) : bL (s.extract a b) = ((bL s).drop a).take (b - a) := by simp [bL, Lib.extract_data]
theorem bX {s t : ByteArray} (h : bL s = bL t) : s = t := by
 cases s; cases t
 simp [bL] at h
 rw [h]
def fQ : Ty ByteArray := Ty.flat 1 (fun s => [.string s]) (fun _ => rfl) (fun _ u hu => by simp at hu; subst hu; rfl)
theorem SlB.str {B : Nat} {w : World} {A : Option Addr} {n c : Nat} {xs : List ByteArray} (h : SlB fQ B w (.slice A n c) xs) {i : Nat} {x : ByteArray} (hx : xs[i]? = some x) :
  ∃ b o, A = some ⟨b, o, none⟩ ∧ b < B ∧ b < w.heap.size ∧ w.cell? ⟨b, o + i, none⟩ = some (.string x) := by
 obtain ⟨b, o, cs, G, h1, h2, h2', ⟨rfl, _⟩, _, h5⟩ := h.at_ hx
 exact ⟨b, o, h1, h2, h2', by simpa [fQ, Ty.flat] using h5 0 _ rfl⟩
theorem sX : (Tryz.prog.info? 9).map (fun i => (i.zero, i.size, i.bytes)) = some (some (.string ByteArray.empty), 1, 16) := by kernel_rfl
theorem sO {c : UInt8} : ∀ {l : List UInt8}, c ∉ l → aP c l = [l]
 | [], _ => rfl
 | b :: l, h => by
  have h1 : b ≠ c := fun e => h (by rw [e]; exact List.mem_cons_self)
  rw [aP, if_neg h1, sO (fun e => h (List.mem_cons_of_mem _ e))]
  rfl
theorem sP {c : UInt8} : ∀ {a : List UInt8} (r : List UInt8), c ∉ a → aP c (a ++ c :: r) = a :: aP c r
 | [], r, _ => by rw [List.nil_append, aP, if_pos rfl]
 | b :: a, r, h => by
  have h1 : b ≠ c := fun e => h (by rw [e]; exact List.mem_cons_self)
  rw [List.cons_append, aP, if_neg h1, sP r (fun e => h (List.mem_cons_of_mem _ e))]
  rfl
def lN (c : UInt8) (s : ByteArray) (f k : Nat) (ps : List ByteArray) : Prop := aP c (bL s) = ps.map bL ++ aP c ((bL s).drop f) ∧ c ∉ ((bL s).drop f).take (k - f)
theorem lN.zero (c : UInt8) (s : ByteArray) : lN c s 0 0 [] := ⟨by simp, by simp⟩
theorem nu {l : List UInt8} {f k : Nat} {b : UInt8} (hf : f ≤ k) (h : l[k]? = some b) : (l.drop f).take (k + 1 - f) = (l.drop f).take (k - f) ++ [b] := by
 have h' : (l.drop f)[k - f]? = some b := by rw [List.getElem?_drop, show f + (k - f) = k by omega]; exact h
 rw [show k + 1 - f = k - f + 1 by omega, List.take_add_one, h']
 rfl
theorem lN.miss {c : UInt8} {s : ByteArray} {f k : Nat} {ps : List ByteArray} (h : lN c s f k ps) (hf : f ≤ k) (hk : k < s.size) (hb : s[k]'hk ≠ c) : lN c s f (k + 1) ps := by
 refine ⟨h.1, ?_⟩
 rw [nu hf (iI hk)]
 simp only [List.mem_append, List.mem_singleton]
 rintro (h1 | h1)
 ·exact h.2 h1
 ·exact hb h1.symm
theorem p7 {α : Type} {xs : List α} {k : Nat} {x : α} (h : xs[k]? = some x) : xs.drop k = x :: xs.drop (k + 1) := by
 obtain ⟨hk, rfl⟩ := List.getElem?_eq_some_iff.1 h
 exact List.drop_eq_getElem_cons hk
theorem vJ {l : List UInt8} {f k : Nat} {b : UInt8} (hf : f ≤ k) (h : l[k]? = some b) : l.drop f = (l.drop f).take (k - f) ++ b :: l.drop (k + 1) := by
 have h' : (l.drop f)[k - f]? = some b := by rw [List.getElem?_drop, show f + (k - f) = k by omega]; exact h
 have h2 : (l.drop f).drop (k - f) = b :: l.drop (k + 1) := by
  have := p7 h'
  rw [this, List.drop_drop, show f + (k - f + 1) = k + 1 by omega]
 conv => lhs; rw [← List.take_append_drop (k - f) (l.drop f), h2]
theorem lN.hit {c : UInt8} {s : ByteArray} {f k : Nat} {ps : List ByteArray} (h : lN c s f k ps) (hf : f ≤ k) (hk : k < s.size) (hb : s[k]'hk = c) : lN c s (k + 1) (k + 1) (ps ++ [s.extract f k]) := by
 have hg := iI hk
 rw [hb] at hg
 refine ⟨?_, by simp⟩
 rw [h.1, vJ hf hg, sP _ h.2, List.map_append, List.map_cons, List.map_nil, oY, List.append_assoc]
 rfl
theorem lN.last {c : UInt8} {s : ByteArray} {f k : Nat} {ps : List ByteArray} (h : lN c s f k ps) (hk : ¬ k < s.size) (hk2 : k ≤ s.size) : (ps ++ [s.extract f s.size]).map bL = aP c (bL s) := by
 have hl : ((bL s).drop f).take (k - f) = (bL s).drop f := List.take_of_length_le (by rw [List.length_drop, aB]; omega)
 have h2 := h.2
 rw [hl] at h2
 rw [h.1, sO h2, List.map_append, List.map_cons, List.map_nil, oY, List.take_of_length_le (by rw [List.length_drop, aB]; exact Nat.le_refl _)]
theorem qw (s : ByteArray) (cv : Int) (c : UInt8) (w : World) (hcv : cv = (c.toNat : Int)) (hs : s.size ≤ 1000000) : Calls Tryz.prog 36 #[.string s, .int .u8 cv] w fun e w' => ∃ v ps, e = .returned v ∧ ps.map bL = aP c (bL s) ∧ Own fQ 9 w.heap.size w' v ps [] ∧ Below w.heap.size w w' := by
 subst hcv
 obtain ⟨i0, hi, hz0, hz1, hz2⟩ := info_parts sX
 go_enter Tryz.func36, Tryz.ntmps36
 go_upto_region 2 with fail
 generalize hgw : World.alloc w _ = w1
 obtain ⟨e1, hb1, s1⟩ := dK hgw
 have Ho := hid (xF (T := fQ) e1 (Nat.le_refl _))
 have Hb := hid hb1
 clear hgw e1 hb1
 go_wp2_with fail
 go_loopw [5, 6, 7] (fun ov fv iv wr => ∃ (k f : Nat) (ps : List ByteArray), f ≤ k ∧ k ≤ s.size ∧ iv = .int .i64 k ∧ fv = .int .i64 f ∧ Own fQ 9 w.heap.size wr ov ps [] ∧ ps.length ≤ k ∧ lN c s f k ps ∧ Below w.heap.size w wr) (fun _ _ iv _ => s.size - (intOf iv).toNat)
 case atStart => exact ⟨0, 0, [], Nat.le_refl _, by omega, rfl, rfl, Ho.out, Nat.le_refl _, lN.zero c s, Hb.out⟩
 case round =>
  obtain ⟨k, f, ps, hf, hk, rfl, rfl, ho, hpl, hci, hb⟩ := hrel
  have Ho := hid ho; have Hci := hid hci; have Hb := hid hb
  obtain ⟨A, cA, hov, _, _, _⟩ := ho.form
  subst hov
  have sr := hb.size
  clear ho hci hb
  by_cases hlt : k < s.size
  ·by_cases hc : s[k]'hlt = c
   ·have hq : (((s[k]'hlt).toNat : Int) == (c.toNat : Int)) = true := by rw [hc]; exact beq_self_eq_true _
    have HC := hid hc
    clear hc
    go_upto_region 8 with (at_builtin; go_loud (refine ay rfl (.tmp 20) (.tmp 25) 52 rfl fQ fc (B := w.heap.size) (v := .slice A ps.length cA) (xs := ps) (ys := [s.extract f k]) Tryz.underlying52 hi hz0 hz1 hz2 rfl (by decide) (by decide) rfl (Ho.out.go (ab _ _)) _ 1 1 rfl (Sl.box' (T := fQ) (x := s.extract f k) _ ?_ ⟨rfl, rfl⟩) ?_ ?_ ?_; rfl; (simp; omega); (simp; omega); intro v5 w5 ho5 hg5 hv5))
    have Hc5 := hid (Hci.out.hit hf hlt HC.out)
    have Hb5 := hid (Hb.out.trans ((ab _ _).mono sr |>.trans (Below.of_grown hg5 (by simp; omega) (fun q hq => by have := (Ho.out.top q hq).1; exact this))))
    have Ho5 := hid ho5
    clear ho5 hg5 hv5
    go_wp2_with fail
    go_roundw
    case rel => exact ⟨k + 1, k + 1, ps ++ [s.extract f k], Nat.le_refl _, by omega, by go_num, by go_num, Ho5.out, by simp; omega, Hc5.out, Hb5.out⟩
    case measure => simp [intOf]; omega
   ·have hq : (((s[k]'hlt).toNat : Int) == (c.toNat : Int)) = false := by
     simp
     intro e
     exact hc (UInt8.toNat_inj.1 (by omega))
    have HC := hid hc
    clear hc
    go_wp2_with fail
    go_roundw
    case rel => exact ⟨k + 1, f, ps, by omega, by omega, by go_num, rfl, Ho.out, by omega, Hci.out.miss hf hlt HC.out, Hb.out⟩
    case measure => simp [intOf]; omega
  ·have hks : k = s.size := by omega
   subst hks
   go_wp2_with (at_builtin; go_loud (refine ay rfl (.tmp 29) (.tmp 33) 52 rfl fQ fc (B := w.heap.size) (v := .slice A ps.length cA) (xs := ps) (ys := [s.extract f s.size]) Tryz.underlying52 hi hz0 hz1 hz2 rfl (by decide) (by decide) rfl (Ho.out.go (ab _ _)) _ 1 1 rfl (Sl.box' (T := fQ) (x := s.extract f s.size) _ ?_ ⟨rfl, rfl⟩) ?_ ?_ ?_; rfl; (simp; omega); (simp; omega); intro v5 w5 ho5 hg5 hv5))
   go_ret
   exact ⟨_, ps ++ [s.extract f s.size], rfl, Hci.out.last hlt hk, ho5, Hb.out.trans ((ab _ _).mono sr |>.trans (Below.of_grown hg5 (by simp; omega) (fun q hq => by have := (Ho.out.top q hq).1; exact this)))⟩
def pG (l : List UInt8) : Int := l.foldl (fun n b => 10 * n + ((b.toNat : Int) - 48)) 0
theorem uM (l : List UInt8) (b : UInt8) : pG (l ++ [b]) = 10 * pG l + ((b.toNat : Int) - 48) := by simp [pG, List.foldl_append]
theorem fm {b : UInt8} : mj b = true ↔ 48 ≤ b.toNat ∧ b.toNat ≤ 57 := by simp [mj]
theorem th : ∀ {l : List UInt8}, l.length ≤ 2 → l.all mj = true → 0 ≤ pG l ∧ pG l ≤ 99 := by
 intro l h1 h2
 match l, h1 with
 | [], _ => simp [pG]
 | [a], _ =>
  simp at h2
  have := fm.1 h2
  simp [pG]; omega
 | [a, b], _ =>
  simp at h2
  have := fm.1 h2.1; have := fm.1 h2.2
  simp [pG]; omega
def kF (l : List UInt8) (k : Nat) (n : Int) : Prop := (l.take k).all mj = true ∧ n = pG (l.take k)
theorem kF.zero (l : List UInt8) : kF l 0 0 := ⟨rfl, rfl⟩
theorem kF.step {l : List UInt8} {k : Nat} {n : Int} {b : UInt8} (h : kF l k n) (hb : l[k]? = some b) (hd : mj b = true) : kF l (k + 1) (10 * n + ((b.toNat : Int) - 48)) := by
 obtain ⟨h1, rfl⟩ := h
 refine ⟨?_, ?_⟩
 ·rw [aK hb, List.all_append, h1]; simp [hd]
 ·rw [aK hb, uM]
theorem kF.fall {l : List UInt8} {k : Nat} {b : UInt8} (hb : l[k]? = some b) (hd : mj b = false) : ed l = -1 := by
 unfold ed
 rw [if_neg]
 rintro ⟨_, _, h⟩
 have := List.all_eq_true.1 h b (List.mem_of_getElem? hb)
 rw [hd] at this
 cases this
theorem kF.last {l : List UInt8} {k : Nat} {n : Int} (h : kF l k n) (hk : l.length ≤ k) (h1 : 1 ≤ l.length) (h2 : l.length ≤ 2) : n = ed l := by
 obtain ⟨h3, rfl⟩ := h
 rw [List.take_of_length_le hk] at h3 ⊢
 unfold ed
 rw [if_pos ⟨h1, h2, h3⟩]
 rfl
theorem qJ {l : List UInt8} (h : win (l.length : Int) 1 2 = false) : ed l = -1 := by
 unfold ed
 rw [if_neg]
 rintro ⟨h1, h2, _⟩
 have : win (l.length : Int) 1 2 = true := by simp [win]; omega
 rw [h] at this
 cases this
theorem mT (s : ByteArray) (w : World) : Calls Tryz.prog 56 #[.string s] w fun e w' => e = .returned (.int .i64 (ed (bL s))) ∧ w' = w := by
 cases hw : win (s.size : Int) 1 2 with
 | false =>
  have hn : ed (bL s) = -1 := qJ (by rw [aB]; exact hw)
  go_enter Tryz.func56, Tryz.ntmps56
  go_wp2_with (go_at_call 78; refine (a8 _ _ _ _).mono ?_; rintro e w' ⟨rfl, rfl⟩)
  go_ret
  exact ⟨by rw [hn]; rfl, rfl⟩
 | true =>
  have h12 : 1 ≤ s.size ∧ s.size ≤ 2 := by simp [win] at hw; omega
  have H12 := hid h12
  go_enter Tryz.func56, Tryz.ntmps56
  go_wp2_with (go_at_call 78; refine (a8 _ _ _ _).mono ?_; rintro e w' ⟨rfl, rfl⟩)
  clear h12
  go_loop [3, 4] (fun nv iv => ∃ (k : Nat) (n : Int), k ≤ s.size ∧ iv = .int .i64 k ∧ nv = .int .i64 n ∧ kF (bL s) k n) (fun _ iv => s.size - (intOf iv).toNat)
  case atStart => exact ⟨0, 0, by omega, rfl, rfl, kF.zero _⟩
  case round =>
   obtain ⟨k, n, hk, rfl, rfl, hi⟩ := hrel
   have Hi := hid hi
   clear hi
   by_cases hlt : k < s.size
   ·have hg := hid (iI hlt)
    have hk2 : k < 2 := by have := H12.out.2; omega
    generalize hb : s[k]'hlt = b at *
    have hbn : b.toNat < 256 := b.toNat_lt
    cases hd : mj b with
    | false =>
     have hn := hid (kF.fall hg.out hd)
     by_cases h1 : b.toNat < 48
     ·have f1 : decide ((b.toNat : Int) < 48) = true := decide_eq_true (by omega)
      have f1' : (b.toNat : Int) < 48 := by omega
      clear h1
      go_wp2
      go_ret
      exact ⟨by rw [hn.out]; rfl, rfl⟩
     ·have h2 : 57 < b.toNat := by
       cases hh : decide (57 < b.toNat) with
       | true => exact of_decide_eq_true hh
       | false => have : mj b = true := fm.2 ⟨by omega, by have := of_decide_eq_false hh; omega⟩; rw [hd] at this; cases this
      have f1 : decide ((b.toNat : Int) < 48) = false := decide_eq_false (by omega)
      have f2 : decide (57 < (b.toNat : Int)) = true := decide_eq_true (by omega)
      have f1' : ¬ (b.toNat : Int) < 48 := by omega
      have f2' : 57 < (b.toNat : Int) := by omega
      clear h1 h2
      go_wp2
      go_ret
      exact ⟨by rw [hn.out]; rfl, rfl⟩
    | true =>
     obtain ⟨h1, h2⟩ := fm.1 hd
     have Hs := hid (Hi.out.step hg.out hd)
     have hle := th (l := (bL s).take k) (by rw [List.length_take]; have := H12.out.2; rw [aB]; omega) Hi.out.1
     rw [← Hi.out.2] at hle
     have f1 : decide ((b.toNat : Int) < 48) = false := decide_eq_false (by omega)
     have f2 : decide (57 < (b.toNat : Int)) = false := decide_eq_false (by omega)
     have f1' : ¬ (b.toNat : Int) < 48 := by omega
     have f2' : ¬ 57 < (b.toNat : Int) := by omega
     have f3 : IntKind.u8.wrap ((b.toNat : Int) - 48) = (b.toNat : Int) - 48 := by simp [IntKind.wrap, IntKind.signed, IntKind.bits]; omega
     have f4 : IntKind.i64.wrap (10 * n) = 10 * n := IntWalk.i64_in _ ⟨by omega, by omega⟩
     have f5 : IntKind.i64.wrap (10 * n + ((b.toNat : Int) - 48)) = 10 * n + ((b.toNat : Int) - 48) := IntWalk.i64_in _ ⟨by omega, by omega⟩
     have f6 : IntKind.i64.wrap ((b.toNat : Int) - 48) = (b.toNat : Int) - 48 := IntWalk.i64_in _ ⟨by omega, by omega⟩
     clear h1 h2 hle hd
     go_wp2
     go_round
     case rel => exact ⟨k + 1, _, by omega, by go_num, rfl, Hs.out⟩
     case measure => simp [intOf]; omega
   ·have hn := hid (Hi.out.last (by rw [aB]; omega) (by rw [aB]; exact H12.out.1) (by rw [aB]; exact H12.out.2))
    go_wp2
    go_ret
    exact ⟨by rw [hn.out]; rfl, rfl⟩
theorem qX {ps : List ByteArray} {k : Nat} {s : ByteArray} (h : ps[k]? = some s) : (ps.map bL).getD k [] = bL s := by
 rw [List.getD_eq_getElem?_getD, List.getElem?_map, h]; rfl
theorem vY (v : Value) (ps : List ByteArray) (j : Nat) (w : World) (h : SlB fQ w.heap.size w v ps) (hj : j ≤ 3) : Calls Tryz.prog 62 #[v, .int .i64 j] w fun e w' => e = .returned (.int .i64 (ed ((ps.map bL).getD j []))) ∧ w' = w := by
 obtain ⟨A, c, rfl, hc1, hc2, hc3⟩ := h.form
 by_cases hjl : j < ps.length
 rotate_left
 ·have hn := hid (show ed ((ps.map bL).getD j []) = -1 by rw [List.getD_eq_getElem?_getD, List.getElem?_map, List.getElem?_eq_none (by omega)]; rfl)
  have f1 : decide ((ps.length : Int) ≤ (j : Int)) = true := decide_eq_true (by omega)
  clear hc1 hc2 h
  go_enter Tryz.func62, Tryz.ntmps62
  go_wp2
  go_ret
  exact ⟨by rw [hn.out]; rfl, rfl⟩
 obtain ⟨s, hs⟩ := ai hjl
 rw [qX hs]
 obtain ⟨b, o, rfl, _, hbw, hcell⟩ := h.str hs
 have f1 : decide ((ps.length : Int) ≤ (j : Int)) = false := decide_eq_false (by omega)
 have f1' : ¬ (ps.length : Int) ≤ (j : Int) := by omega
 clear hs h hc1 hc2
 cases hw : win (s.size : Int) 1 2 with
 | false =>
  have hn := hid (qJ (by rw [aB]; exact hw))
  go_enter Tryz.func62, Tryz.ntmps62
  go_wp2_with (go_at_call 68; refine (aU _ _ _ _).mono ?_; rintro e w' ⟨rfl, rfl⟩)
  go_ret
  exact ⟨by rw [hn.out]; rfl, rfl⟩
 | true =>
  have h12 : 1 ≤ s.size ∧ s.size ≤ 2 := by simp [win] at hw; omega
  have H12 := hid h12
  go_enter Tryz.func62, Tryz.ntmps62
  go_wp2_with (go_at_call 68; refine (aU _ _ _ _).mono ?_; rintro e w' ⟨rfl, rfl⟩)
  clear h12
  go_loop [5, 6] (fun nv iv => ∃ (k : Nat) (n : Int), k ≤ s.size ∧ iv = .int .i64 k ∧ nv = .int .i64 n ∧ kF (bL s) k n) (fun _ iv => s.size - (intOf iv).toNat)
  case atStart => exact ⟨0, 0, by omega, rfl, rfl, kF.zero _⟩
  case round =>
   obtain ⟨k, n, hk, rfl, rfl, hi⟩ := hrel
   have Hi := hid hi
   clear hi
   by_cases hlt : k < s.size
   ·have hg := hid (iI hlt)
    have hk2 : k < 2 := by have := H12.out.2; omega
    generalize hb : s[k]'hlt = b at *
    have hbn : b.toNat < 256 := b.toNat_lt
    cases hd : mj b with
    | false =>
     have hn := hid (kF.fall hg.out hd)
     by_cases h1 : b.toNat < 48
     ·have f2 : decide ((b.toNat : Int) < 48) = true := decide_eq_true (by omega)
      have f2' : (b.toNat : Int) < 48 := by omega
      clear h1
      go_wp2
      go_ret
      exact ⟨by rw [hn.out]; rfl, rfl⟩
     ·have h2 : 57 < b.toNat := by
       cases hh : decide (57 < b.toNat) with
       | true => exact of_decide_eq_true hh
       | false => have : mj b = true := fm.2 ⟨by omega, by have := of_decide_eq_false hh; omega⟩; rw [hd] at this; cases this
      have f2 : decide ((b.toNat : Int) < 48) = false := decide_eq_false (by omega)
      have f3 : decide (57 < (b.toNat : Int)) = true := decide_eq_true (by omega)
      have f2' : ¬ (b.toNat : Int) < 48 := by omega
      have f3' : 57 < (b.toNat : Int) := by omega
      clear h1 h2
      go_wp2
      go_ret
      exact ⟨by rw [hn.out]; rfl, rfl⟩
    | true =>
     obtain ⟨h1, h2⟩ := fm.1 hd
     have Hs := hid (Hi.out.step hg.out hd)
     have hle := th (l := (bL s).take k) (by rw [List.length_take]; have := H12.out.2; rw [aB]; omega) Hi.out.1
     rw [← Hi.out.2] at hle
     have f2 : decide ((b.toNat : Int) < 48) = false := decide_eq_false (by omega)
     have f3 : decide (57 < (b.toNat : Int)) = false := decide_eq_false (by omega)
     have f2' : ¬ (b.toNat : Int) < 48 := by omega
     have f3' : ¬ 57 < (b.toNat : Int) := by omega
     have f4 : IntKind.u8.wrap ((b.toNat : Int) - 48) = (b.toNat : Int) - 48 := by simp [IntKind.wrap, IntKind.signed, IntKind.bits]; omega
     have f5 : IntKind.i64.wrap (10 * n) = 10 * n := IntWalk.i64_in _ ⟨by omega, by omega⟩
     have f6 : IntKind.i64.wrap (10 * n + ((b.toNat : Int) - 48)) = 10 * n + ((b.toNat : Int) - 48) := IntWalk.i64_in _ ⟨by omega, by omega⟩
     have f7 : IntKind.i64.wrap ((b.toNat : Int) - 48) = (b.toNat : Int) - 48 := IntWalk.i64_in _ ⟨by omega, by omega⟩
     clear h1 h2 hle hd
     go_wp2
     go_round
     case rel => exact ⟨k + 1, _, by omega, by go_num, rfl, Hs.out⟩
     case measure => simp [intOf]; omega
   ·have hn := hid (Hi.out.last (by rw [aB]; omega) (by rw [aB]; exact H12.out.1) (by rw [aB]; exact H12.out.2))
    go_wp2
    go_ret
    exact ⟨by rw [hn.out]; rfl, rfl⟩
def gr (k : Nat) : List UInt8 := [[], vw, me, vv, rx, oX, ru].getD k []
theorem fZ {l : List UInt8} {k : Nat} (h1 : 1 ≤ k) (h2 : k < 7) (hn : ∀ j, 1 ≤ j → j < k → gr j ≠ l) (h : gr k = l) : g7 l = k := by
 obtain rfl | rfl | rfl | rfl | rfl | rfl : k = 1 ∨ k = 2 ∨ k = 3 ∨ k = 4 ∨ k = 5 ∨ k = 6 := by omega
 all_goals subst h; rfl
theorem ue {l : List UInt8} (hn : ∀ j, 1 ≤ j → j < 7 → gr j ≠ l) : g7 l = 0 := by
 unfold g7
 rw [if_neg (fun e => hn 1 (by omega) (by omega) e.symm), if_neg (fun e => hn 2 (by omega) (by omega) e.symm), if_neg (fun e => hn 3 (by omega) (by omega) e.symm), if_neg (fun e => hn 4 (by omega) (by omega) e.symm), if_neg (fun e => hn 5 (by omega) (by omega) e.symm), if_neg (fun e => hn 6 (by omega) (by omega) e.symm)]
theorem eqB {s : ByteArray} {l : List UInt8} (h : l = bL s) : (l == s.toList) = true := by
 rw [Go.ByteArray.toList_eq, h]; exact beq_self_eq_true _
theorem neB {s : ByteArray} {l : List UInt8} (h : l ≠ bL s) : (l == s.toList) = false := by
 rw [Go.ByteArray.toList_eq, beq_eq_false_iff_ne]; exact h
theorem ff {l : List UInt8} {k : Nat} (hn : ∀ j, 1 ≤ j → j < k → gr j ≠ l) (h : gr k ≠ l) : ∀ j, 1 ≤ j → j < k + 1 → gr j ≠ l := fun j h1 h2 => by
 by_cases e : j = k
 ·rw [e]; exact h
 ·exact hn j h1 (by omega)
theorem ux (s : ByteArray) (w : World) : Calls Tryz.prog 61 #[.string s] w fun e w' => e = .returned (.int .i64 (g7 (bL s))) ∧ Below w.heap.size w w' := by
 go_enter Tryz.func61, Tryz.ntmps61
 go_upto_region 2 with fail
 generalize hgw : World.alloc w _ = w1
 obtain ⟨e1, hb1, s1⟩ := dK hgw
 have q1 := (cell_of_row w1 _ 1 _ _ _ e1).trans rfl
 have q2 := (cell_of_row w1 _ 2 _ _ _ e1).trans rfl
 have q3 := (cell_of_row w1 _ 3 _ _ _ e1).trans rfl
 have q4 := (cell_of_row w1 _ 4 _ _ _ e1).trans rfl
 have q5 := (cell_of_row w1 _ 5 _ _ _ e1).trans rfl
 have q6 := (cell_of_row w1 _ 6 _ _ _ e1).trans rfl
 have Hb := hid hb1
 have z1 : w.heap.size < w1.heap.size := by omega
 clear hgw e1 hb1 s1
 go_wp2
 go_loop [4] (fun iv => ∃ k : Nat, 1 ≤ k ∧ k ≤ 7 ∧ iv = .int .i64 k ∧ ∀ j, 1 ≤ j → j < k → gr j ≠ bL s) (fun iv => 7 - (intOf iv).toNat)
 case atStart => exact ⟨1, by omega, by omega, rfl, fun j h1 h2 => by omega⟩
 case round =>
  obtain ⟨k, hk1, hk7, rfl, hn⟩ := hrel
  have Hn := hid hn
  clear hn
  by_cases hlt : k < 7
  ·obtain rfl | rfl | rfl | rfl | rfl | rfl : k = 1 ∨ k = 2 ∨ k = 3 ∨ k = 4 ∨ k = 5 ∨ k = 6 := by omega
   ·by_cases he : gr 1 = bL s
    ·have hk := hid (fZ (by omega) (by omega) Hn.out he)
     have f1 : ([115, 101, 110, 100] == s.toList) = true := eqB he
     clear he
     go_wp2
     go_ret
     exact ⟨by rw [hk.out]; rfl, Hb.out⟩
    ·have f1 : ([115, 101, 110, 100] == s.toList) = false := neB he
     have He := hid (ff Hn.out he)
     clear he
     go_wp2
     go_round
     case rel => exact ⟨1 + 1, by omega, by omega, by go_num, He.out⟩
     case measure => simp [intOf]
   ·by_cases he : gr 2 = bL s
    ·have hk := hid (fZ (by omega) (by omega) Hn.out he)
     have f1 : ([100, 101, 108, 105, 118, 101, 114] == s.toList) = true := eqB he
     clear he
     go_wp2
     go_ret
     exact ⟨by rw [hk.out]; rfl, Hb.out⟩
    ·have f1 : ([100, 101, 108, 105, 118, 101, 114] == s.toList) = false := neB he
     have He := hid (ff Hn.out he)
     clear he
     go_wp2
     go_round
     case rel => exact ⟨2 + 1, by omega, by omega, by go_num, He.out⟩
     case measure => simp [intOf]
   ·by_cases he : gr 3 = bL s
    ·have hk := hid (fZ (by omega) (by omega) Hn.out he)
     have f1 : ([108, 111, 115, 101] == s.toList) = true := eqB he
     clear he
     go_wp2
     go_ret
     exact ⟨by rw [hk.out]; rfl, Hb.out⟩
    ·have f1 : ([108, 111, 115, 101] == s.toList) = false := neB he
     have He := hid (ff Hn.out he)
     clear he
     go_wp2
     go_round
     case rel => exact ⟨3 + 1, by omega, by omega, by go_num, He.out⟩
     case measure => simp [intOf]
   ·by_cases he : gr 4 = bL s
    ·have hk := hid (fZ (by omega) (by omega) Hn.out he)
     have f1 : ([116, 119, 105, 99, 101] == s.toList) = true := eqB he
     clear he
     go_wp2
     go_ret
     exact ⟨by rw [hk.out]; rfl, Hb.out⟩
    ·have f1 : ([116, 119, 105, 99, 101] == s.toList) = false := neB he
     have He := hid (ff Hn.out he)
     clear he
     go_wp2
     go_round
     case rel => exact ⟨4 + 1, by omega, by omega, by go_num, He.out⟩
     case measure => simp [intOf]
   ·by_cases he : gr 5 = bL s
    ·have hk := hid (fZ (by omega) (by omega) Hn.out he)
     have f1 : ([99, 104, 97, 110, 103, 101] == s.toList) = true := eqB he
     clear he
     go_wp2
     go_ret
     exact ⟨by rw [hk.out]; rfl, Hb.out⟩
    ·have f1 : ([99, 104, 97, 110, 103, 101] == s.toList) = false := neB he
     have He := hid (ff Hn.out he)
     clear he
     go_wp2
     go_round
     case rel => exact ⟨5 + 1, by omega, by omega, by go_num, He.out⟩
     case measure => simp [intOf]
   ·by_cases he : gr 6 = bL s
    ·have hk := hid (fZ (by omega) (by omega) Hn.out he)
     have f1 : ([102, 108, 117, 115, 104] == s.toList) = true := eqB he
     clear he
     go_wp2
     go_ret
     exact ⟨by rw [hk.out]; rfl, Hb.out⟩
    ·have f1 : ([102, 108, 117, 115, 104] == s.toList) = false := neB he
     have He := hid (ff Hn.out he)
     clear he
     go_wp2
     go_round
     case rel => exact ⟨6 + 1, by omega, by omega, by go_num, He.out⟩
     case measure => simp [intOf]
  ·have hk : k = 7 := by omega
   subst hk
   have hn := hid (ue Hn.out)
   go_wp2
   go_ret
   exact ⟨by rw [hn.out]; rfl, Hb.out⟩
def pR (w : World) (l : List UInt8) (e : Ending) (w' : World) : Prop := ∃ s, e = .returned (.string s) ∧ bL s = l ∧ Below w.heap.size w w'
theorem xZ {n : Int} {b : Nat} {w : World} (h : w.heap[b]? = some (.cells #[.int .u8 n] 5 (0, 0))) : Sem.run Tryz.prog (convert 22 9 (.slice (some ⟨b, 0, none⟩) 1 1)) w = .ok (.string (strOfNums [n])) w :=
 run_convert_bytes_arg w 22 5 (by kernel_rfl) (by kernel_rfl) b 0 1 1 [n] rfl (fun i hi => by
  obtain rfl : i = 0 := by omega
  rw [cell_of_row _ _ 0 _ _ _ h]
  rfl) 9 (by kernel_rfl)
theorem rv (n : Int) : bL (strOfNums [n]) = [UInt8.ofNat n.toNat] := by simp [bL, strOfNums]
theorem dh (n : Int) : (dz n).length ≤ 3 := by
 unfold dz
 split
 ·simp
 ·split <;> simp
theorem tP {s : ByteArray} {n : Int} (h : bL s = dz n) (m : Int) : ¬ 9223372036854775807 < s.size + (strOfNums [m]).size := by
 have h1 := dh n
 rw [← h, aB] at h1
 have h2 : (strOfNums [m]).size = 1 := by rw [← aB, rv]; rfl
 omega
theorem pr (n : Int) (w : World) (h0 : 0 ≤ n) (h1 : n < 10) : Calls Tryz.prog 65 #[.int .i64 n] w (pR w (dz n)) := by
 have f1 : decide (n < -9223372036854775807) = false := decide_eq_false (by omega)
 have f2 : decide (n < 0) = false := decide_eq_false (by omega)
 have f1' : ¬ n < -9223372036854775807 := by omega
 have f2' : ¬ n < 0 := by omega
 have f3 : decide (n < 10) = true := decide_eq_true h1
 have f4 : IntKind.i64.wrap (48 + n) = 48 + n := IntWalk.i64_in _ ⟨by omega, by omega⟩
 have f5 : IntKind.u8.wrap (48 + n) = 48 + n := by simp [IntKind.wrap, IntKind.signed, IntKind.bits]; omega
 have kc := xZ (heap_alloc_new w (.cells #[.int .u8 (48 + n)] 5))
 go_enter Tryz.func65, Tryz.ntmps65
 go_wp2
 go_ret
 refine ⟨_, rfl, ?_, ab _ _⟩
 rw [rv]
 unfold dz
 rw [if_pos h1]
 congr 2
 omega
theorem pt (n : Int) (w : World) (h0 : 10 ≤ n) (h1 : n < 1000000) (hc : ∀ wx, Calls Tryz.prog 65 #[.int .i64 (n / 10)] wx (pR wx (dz (n / 10)))) : Calls Tryz.prog 65 #[.int .i64 n] w (pR w (dz (n / 10) ++ [UInt8.ofNat (48 + n.toNat % 10)])) := by
 have f1 : decide (n < -9223372036854775807) = false := decide_eq_false (by omega)
 have f2 : decide (n < 0) = false := decide_eq_false (by omega)
 have f1' : ¬ n < -9223372036854775807 := by omega
 have f2' : ¬ n < 0 := by omega
 have f3 : decide (n < 10) = false := decide_eq_false (by omega)
 have f3' : ¬ n < 10 := by omega
 have f4 : n.tdiv 10 = n / 10 := Int.tdiv_eq_ediv_of_nonneg (by omega)
 have f5 : n.tmod 10 = n % 10 := Int.tmod_eq_emod_of_nonneg (by omega)
 have f6 : IntKind.i64.wrap (48 + n % 10) = 48 + n % 10 := IntWalk.i64_in _ ⟨by omega, by omega⟩
 have f7 : IntKind.u8.wrap (48 + n % 10) = 48 + n % 10 := by simp [IntKind.wrap, IntKind.signed, IntKind.bits]; omega
 have f8 : IntKind.i64.wrap (n / 10) = n / 10 := IntWalk.i64_in _ ⟨by omega, by omega⟩
 go_enter Tryz.func65, Tryz.ntmps65
 go_wp2_with fail
 have HS := hid (fun (wx : World) (hT : Tch [] w wx) => hT.size)
 refine rgN [] 11 (by kernel_rfl) rfl (fun | none, _, _, _, _ => id | some _, _, _, _, _ => id) fun wd hH hbwd swd => ?_
 simp only [pw]
 refine ag [0, 1, 3, 4, 5, 6] ?_
 iterate 6 (refine ra HS.out rfl (by kernel_rfl) rfl (fun _ f => by go_simp; try with_reducible rfl) ?_; try simp only [pw])
 repeat' (first
  | (have t2 := hK2; clear t2; go_simp; (go_at_call 65; refine (hc _).mono ?_; rintro e w1 ⟨s1, rfl, hs1, hbC⟩; have hz := tP hs1 (48 + n % 10); (try replace eb := ac hbC eb)); refine hK2.out _ _ (hH.trans (Tch.of hbC)) (fun hH => ?_); clear hK2 K2; try simp only [pw])
  | (have t7 := hK7; clear t7; go_simp; (generalize hgw : World.alloc _ _ = wa; obtain ⟨eb, hbC, _⟩ := dK hgw; clear hgw); refine hK7.out _ _ (hH.trans (Tch.of hbC)) (fun hH => ?_); clear hK7 K7; try simp only [pw])
  | (have t8 := hK8; clear t8; (have kc := xZ eb); have fC := HS.out _ hH; go_simp; clear fC; (have hbT := hH; clear kc); refine hK8.out _ _ (hbT) (fun hH => ?_); clear hK8 K8; try simp only [pw])
  | (refine rk (i := 2) [7] (by decide +kernel) (rc rfl (fun K2 hK2 => ?_) (rc rfl (fun K7 hK7 => ?_) rn)))
  | (refine rk (i := 2) [8] (by decide +kernel) (rc rfl (fun K2 hK2 => ?_) (rc rfl (fun K8 hK8 => ?_) rn)))
  | (refine rk (i := 2) [] (by decide +kernel) (rc rfl (fun K2 hK2 => ?_) rn))
  | (refine rk (i := 7) [] (by decide +kernel) (rc rfl (fun K7 hK7 => ?_) rn))
  | (refine rk (i := 8) [] (by decide +kernel) (rc rfl (fun K8 hK8 => ?_) rn))
  | fail)
 all_goals refine tr 9 HS.out rfl (by decide +kernel) rfl (fun _ f => by go_simp; try with_reducible rfl) ?_; try simp only [pw]
 all_goals refine tr 10 HS.out rfl (by decide +kernel) rfl (fun _ f => by go_simp; try with_reducible rfl) ?_; try simp only [pw]
 all_goals refine dm (by kernel_rfl) ?_
 all_goals
  go_wp2_with fail
  go_ret
  refine ⟨_, rfl, ?_, hH.nil⟩
  rw [iH, hs1, rv]
  congr 3
  omega
theorem mi {n : Int} (h0 : 10 ≤ n) (h1 : n < 100) : dz (n / 10) ++ [UInt8.ofNat (48 + n.toNat % 10)] = dz n := by
 obtain ⟨k, rfl⟩ := Int.eq_ofNat_of_zero_le (show 0 ≤ n by omega)
 have e : (k : Int) / 10 = ((k / 10 : Nat) : Int) := by omega
 unfold dz
 rw [e, if_pos (by omega), if_neg (by omega), if_pos h1, Int.toNat_natCast, Int.toNat_natCast]
 rfl
theorem rB {n : Int} (h0 : 100 ≤ n) (h1 : n < 1000) : dz (n / 10) ++ [UInt8.ofNat (48 + n.toNat % 10)] = dz n := by
 obtain ⟨k, rfl⟩ := Int.eq_ofNat_of_zero_le (show 0 ≤ n by omega)
 have e : (k : Int) / 10 = ((k / 10 : Nat) : Int) := by omega
 unfold dz
 rw [e, if_neg (by omega), if_pos (by omega), if_neg (by omega), if_neg (by omega), Int.toNat_natCast, Int.toNat_natCast]
 rfl
theorem eY (n : Int) (w : World) (h0 : 0 ≤ n) (h1 : n < 1000) : Calls Tryz.prog 65 #[.int .i64 n] w (pR w (dz n)) := by
 by_cases a : n < 10
 ·exact pr n w h0 a
 ·by_cases b : n < 100
  ·rw [← mi (by omega) b]
   exact pt n w (by omega) (by omega) (fun wx => pr _ wx (by omega) (by omega))
  ·rw [← rB (by omega) h1]
   refine pt n w (by omega) (by omega) (fun wx => ?_)
   rw [← mi (n := n / 10) (by omega) (by omega)]
   exact pt _ wx (by omega) (by omega) (fun wy => pr _ wy (by omega) (by omega))
end Go.Proofs.YtfaeojmndaplcaaGreatDoor
