/- Texts that the last file leans on (part 31). -/
import Derived.Lib.AppendIntMem
import Derived.Lib.AppendStr
import Derived.Lib.Join
import Derived.Test.YtfaeojmndaplcaaGreatDoorM10
import Derived.Test.YtfaeojmndaplcaaGreatDoorM30
import Derived.Test.YtfaeojmndaplcaaGreatDoorM7
import Derived.Test.YtfaeojmndaplcaaGreatDoorShP
set_option linter.unusedVariables false
set_option linter.unusedSimpArgs false
set_option maxHeartbeats 4000000
set_option maxRecDepth 100000
namespace Go.Proofs.YtfaeojmndaplcaaGreatDoor
open Go Go.RowKit
theorem xR {x : Wd} (h : VD 0 x) (e : Ev) : lj x e = doW x e := by unfold lj; rw [gV.2 h]; rfl
def mR (i : Nat) (t : Tr) : List UInt8 := cC [dz i, dz t.mix, dz t.pk.el, dz t.pk.tag]
def iW (x : Wd) : List UInt8 := (x.net.mapIdx mR).flatten
def xg : List UInt8 := [103, 111, 116]
def ox : List UInt8 := [109, 97, 100, 101]
def ou : List UInt8 := [108, 111, 115, 116]
def kG : List UInt8 := [119, 104, 97, 116]
def jQ (l : Lt) : List UInt8 := cC [xg, dz l.fr, dz l.to, dz l.num]
def fP (x : Wd) : List UInt8 := (x.got.map jQ).flatten ++ cC [ox, dz x.made, ou, dz x.lost]
def bj (x : Wd) (l : List UInt8) : Wd × List UInt8 :=
 let ws := aP 32 l
 let k := g7 (ws.getD 0 [])
 if 0 < k then (doW x ⟨k, ed (ws.getD 1 []), ed (ws.getD 2 []), ed (ws.getD 3 [])⟩, [])
 else if ws.getD 0 [] = mb then (cK x, [])
 else if ws.getD 0 [] = j8 then (x, iW x)
 else (x, cC [kG])
def jh (s : Wd × List UInt8) (l : List UInt8) : Wd × List UInt8 := ((bj s.1 l).1, s.2 ++ (bj s.1 l).2)
def bY (ls : List (List UInt8)) : Wd × List UInt8 := ls.foldl jh (nz, [])
def sK : List UInt8 := [116, 111, 111, 32, 108, 111, 110, 103, 10]
def ce (s : List UInt8) : List UInt8 :=
 if 600 < s.length then sK else (bY (aP 10 s).dropLast).2 ++ fP (bY (aP 10 s).dropLast).1
theorem wv {x : Wd} (h : VD 0 x) (l : List UInt8) : VD 0 (bj x l).1 := by
 unfold bj
 dsimp only
 split
 ·exact h.do_ _
 ·split
  ·exact xj h
  ·split <;> exact h
theorem oH (ls : List (List UInt8)) : ∀ s : Wd × List UInt8, VD 0 s.1 → VD 0 (ls.foldl jh s).1 := by
 induction ls with
 | nil => exact fun _ h => h
 | cons l ls ih => exact fun s h => ih _ (wv h l)
section
variable {P : Program} {w : World}
abbrev kN (l : List UInt8) : List Int := l.map fun b => (b.toNat : Int)
def eU (e B : Nat) (w : World) (v : Value) (l : List UInt8) : Prop := Own du e B w v (l.map fun b => (b.toNat : Int)) []
theorem pW (l : List UInt8) : (l.map fun b => (b.toNat : Int)).flatMap (fun n => [Value.int .u8 n]) = l.map fun b => Value.int .u8 b.toNat := by
 induction l with
 | nil => rfl
 | cons b l ih => simpa using ih
theorem eU.row {e B : Nat} {v : Value} {l : List UInt8} (h : eU e B w v l) : w.ownsRow B e 1 v l.length (l.map fun b => Value.int .u8 b.toNat) := by
 obtain ⟨cs, h1, h2, _⟩ := h
 obtain ⟨rfl, _⟩ := cG.1 h2
 rw [pW, List.length_map] at h1
 exact h1
theorem eU.below {e B n : Nat} {w' : World} {v : Value} {l : List UInt8} (h : eU e B w v l) (hb : Below n w w') (hn : w.heap.size ≤ n) : eU e B w' v l := Own.below h hb hn
theorem eU.own {e B : Nat} {v : Value} {l : List UInt8} (h : eU e B w v l) : Own du e B w v (kN l) [] := h
theorem eU.byte {e B : Nat} {v : Value} {l : List UInt8} {b : UInt8} {n : Int} (h : Own du e B w v (kN l ++ [n]) []) (hn : n = (b.toNat : Int)) : eU e B w v (l ++ [b]) := by
 unfold eU; rw [List.map_append]; subst hn; exact h
theorem eU.formB {e B : Nat} {v : Value} {l : List UInt8} (h : eU e B w v l) : ∃ A c, v = .slice A l.length c := by
 obtain ⟨A, c, e1, _⟩ := Own.form h
 exact ⟨A, c, by rw [e1, List.length_map]⟩
theorem eU.of {e B : Nat} {v : Value} {l : List UInt8} (h : w.ownsRow B e 1 v l.length (l.map fun b => Value.int .u8 b.toNat)) : eU e B w v l :=
 ⟨_, by rw [List.length_map]; exact h, cG.2 ⟨(pW l).symm, rfl⟩, fun _ _ h => by cases h⟩
theorem wU {t u ty e : TypeId} {i : TypeInfo} {B : Nat} (ht : P.underlying t = some (.slice e)) (hu : P.underlying u = some .string) (hi : P.info? e = some i) (hz : i.zero = some (.int .u8 0))
  (hsize : i.size = 1) (hby : i.bytes = 1) {v : Value} {l : List UInt8} (hown : eU e B w v l) (s : ByteArray) (hb : l.length + s.size ≤ 140737488355328) (hB : B ≤ w.heap.size) :
  ∃ v' w', (Builtin.append_ #[t, u] ty #[v, .string s]).run P w = .ok v' w' ∧ eU e B w' v' (l ++ bL s) ∧ w.grownBy w' v.ownBlock ∧ (v'.ownBlock = v.ownBlock ∨ v'.ownBlock = some w.heap.size) := by
 have hr0 := hown.row
 have hmax : l.length + s.size ≤ maxLen := by unfold maxLen; omega
 obtain ⟨v', w', hr, h2, h3, h4⟩ := Lib.run_append_own_string (P := P) w B t u ty e i ht hu hi hz hsize hby v l.length _ hr0 s hmax hb hB
 refine ⟨v', w', hr, eU.of (by rw [List.length_append, aB, List.map_append]; exact h2), h3, ?_⟩
 have hxl : (l.map fun b => Value.int .u8 b.toNat).length = l.length := by simp
 rcases hr0.2 with ⟨rfl, h0⟩ | ⟨g, cap, cur, rfl, _, hg, hnc, hcm, hcs, _⟩
 ·by_cases hm : s.size = 0
  ·rw [h4.2 ⟨rfl, hm⟩]; exact .inl rfl
  ·have hr2 := run_append_nil_string (P := P) w t u ty e i (.int .u8 0) ht hu hi hz s (by omega) (by omega) (by rw [hby]; omega)
   rw [hr] at hr2
   injection hr2 with e1 e2
   exact .inr (by rw [e1]; rfl)
 ·by_cases hroom : l.length + s.size ≤ cap
  ·have hcs' : cur.size = cap := by simpa using hcs
   have hr2 := Lib.run_append_room_string (P := P) w t u ty e i ht hu hi hsize g l.length cap cur hg s hroom (by omega)
   rw [hr] at hr2
   injection hr2 with e1 e2
   exact .inl (by rw [e1]; rfl)
  ·have holds : ∀ j u, (l.map fun b => Value.int .u8 b.toNat)[j]? = some u → w.cell? ((⟨g, 0, none⟩ : Addr).add j) = some u := hr0.cells (g := g) rfl
   have hr2 := Lib.run_append_grow_string (P := P) w t u ty e i (.int .u8 0) ht hu hi hz ⟨g, 0, none⟩ l.length cap _ (by rw [hsize, hxl, Nat.mul_one]) holds s (by omega) (by omega) (by rw [hby]; exact growslice_fits (by omega) (by omega))
   rw [hr] at hr2
   injection hr2 with e1 e2
   exact .inr (by rw [e1]; rfl)
theorem uV {ops : Array Oper} {o : Oper} {a : Act} {K : Act → World → Prop} {Q : Exit → Act → World → Prop} {E : Prop} (hgd : o.guard = none) (sl x : Operand) (t u : TypeId)
  (ho : o.op = .call { callee := .builtin .append, args := #[sl, x], argTypes := #[t, u] }) {e : TypeId} {i : TypeInfo} {B : Nat} (ht : P.underlying t = some (.slice e)) (hu : P.underlying u = some .string) (hi : P.info? e = some i) (hz : i.zero = some (.int .u8 0))
  (hsize : i.size = 1) (hby : i.bytes = 1) {v : Value} {l : List UInt8} (hs : a.eval sl = v) (hown : eU e B w v l) (s : ByteArray) (hx : a.eval x = .string s) (hb : l.length + s.size ≤ 140737488355328) (hB : B ≤ w.heap.size)
  (h : ∀ v' w', eU e B w' v' (l ++ bL s) → w.grownBy w' v.ownBlock → (v'.ownBlock = v.ownBlock ∨ v'.ownBlock = some w.heap.size) → K (a.put o.dst v') w') :
  if Region.wanted o (yielded ops a.tmps) = true then Oper.wp P o a w K Q else E := by
 have hw : Region.wanted o (yielded ops a.tmps) = true := by simp [Region.wanted, hgd]
 rw [if_pos hw]
 obtain ⟨v', w', hrun, h2, h3, h4⟩ := wU (P := P) (ty := o.type) ht hu hi hz hsize hby hown s hb hB
 unfold Oper.wp execOp
 simp only [ho, resolve, invoke, builtin, Sem.run_bind, Sem.run_pure, Result.andThen_ok, List.map_toArray, List.map_cons, List.map_nil, hs, hx, hrun]
 exact h v' w' h2 h3 h4
end
def LbW (B : Nat) (w : World) : Prop :=
 Lib.TabBelow Tryz.prog B w "internal/strconv.uint64pow10" .u64 Lib.pow10Tab ∧ Tryz.lays146_ren.g 1 < B ∧ ∃ m, w.cell? ⟨Tryz.lays146_ren.g 1, 0, none⟩ = some (.int .i64 m)
theorem LbW.on {B : Nat} {w w' : World} (h : LbW B w) (hb : Below B w w') : LbW B w' := by
 obtain ⟨h1, h2, m, h3⟩ := h
 exact ⟨h1.on hb, h2, m, (World.cell?_of_block (w := w) (hb.block _ h2)).trans h3⟩
theorem yu (v : Value) (ps : List ByteArray) (w : World) (h : SlB fQ w.heap.size w v ps) (hl : (Lib.join (ps.map bL) [32]).length ≤ 100000000) (hn : ps.length ≤ 100000000) (hne : ps ≠ []) :
  Calls Tryz.prog 57 #[v, .string ⟨#[32]⟩] w fun e w' => ∃ t, e = .returned (.string t) ∧ bL t = Lib.join (ps.map bL) [32] ∧ Below w.heap.size w w' := by
 obtain ⟨A, c, rfl, hc, _, _⟩ := h.form
 obtain ⟨p0, hp0⟩ : ∃ p, ps[0]? = some p := ⟨ps[0]'(List.length_pos_iff.2 hne), List.getElem?_eq_getElem _⟩
 obtain ⟨b, o, rfl, _, hb, _⟩ := h.str hp0
 refine (Tryz.strings_Join b o c ps ⟨#[32]⟩ w (fun j x hj => ?_) hb (by omega) hc (by simpa [bL] using Nat.le_trans hl (by decide))).mono ?_
 ·obtain ⟨b', o', e, _, _, h3⟩ := h.str hj
  cases e; exact h3
 ·rintro e w' ⟨rfl, hbw⟩
  exact ⟨_, rfl, by simp [bL], hbw⟩
theorem gO (B : Nat) (n : Int) (w : World) (hL : LbW B w) (h0 : 0 ≤ n) (h1 : n < 1000) :
  Calls Tryz.prog 34 #[.int .i64 n] w fun e w' => ∃ t, e = .returned (.string t) ∧ bL t = dz n ∧ Below w.heap.size w w' := by
 refine (Tryz.strconv_Itoa n (by omega) (by omega) w hL.1.here).mono ?_
 rintro e w' ⟨rfl, k, os, rfl⟩
 refine ⟨_, rfl, ?_, Lib.below_grow _ _ (Nat.le_refl _) _ _⟩
 show Lib.itoa n = dz n
 unfold Lib.itoa
 rw [if_neg (by omega), vI h0 h1]
theorem SlB.strs {W : World} {b : Nat} {ps : List ByteArray} (hne : ps ≠ []) (hm : ps.length ≤ maxLen) (h : ∀ (i : Nat) x, ps[i]? = some x → W.cell? ⟨b, i, none⟩ = some (.string x)) : SlB fQ W.heap.size W (.slice (some ⟨b, 0, none⟩) ps.length ps.length) ps := by
 have hb : b < W.heap.size := World.block_lt_of_cell? W ⟨b, 0, none⟩ (h 0 _ (List.getElem?_eq_getElem (List.length_pos_iff.2 hne)))
 refine ⟨[b], ⟨_, ps.length, ps.flatMap (fun s => [.string s]), rfl, Nat.le_refl _, hm, .inr ⟨b, 0, [], rfl, rfl, hne, hb, cG.2 ⟨rfl, rfl⟩, fun j u hj => ?_⟩⟩, fun b' hb' => by simp at hb'; omega⟩
 rw [show (ps.flatMap fun s => [Value.string s]) = ps.map Value.string from aY _ _, List.getElem?_map] at hj
 cases hxj : ps[j]? with
 | none => rw [hxj] at hj; cases hj
 | some x => rw [hxj] at hj; cases hj; rw [Nat.zero_add]; exact h j x hxj
theorem lG (w : World) (ps : List ByteArray) (e : TypeId) (hne : ps ≠ []) (hm : ps.length ≤ maxLen) : SlB fQ (w.alloc (.cells (ps.map Value.string).toArray e)).heap.size (w.alloc (.cells (ps.map Value.string).toArray e)) (.slice (some ⟨w.heap.size, 0, none⟩) ps.length ps.length) ps :=
 SlB.strs hne hm fun i x hx => by
  rw [cell_of_row _ _ i _ _ _ (heap_alloc_new w _)]
  simp [hx]
theorem yH {e : TypeId} (w : World) (ps : List ByteArray) (hm : ps.length ≤ maxLen) : Own fQ e w.heap.size (w.alloc (.cells (ps.map Value.string).toArray e)) (.slice (some ⟨w.heap.size, 0, none⟩) ps.length ps.length) ps [] :=
 ⟨ps.map Value.string, ⟨by simp [fQ, Ty.flat], .inr ⟨_, _, _, rfl, Nat.le_refl _, heap_alloc_new w _, Nat.le_refl _, hm, by simp [fQ, Ty.flat], by simp [fQ, Ty.flat]; exact (List.take_of_length_le (by simp))⟩⟩, cG.2 ⟨(aY _ _).symm, rfl⟩, fun _ _ h => by cases h⟩
theorem tt (B : Nat) (s : ByteArray) (sep : UInt8) (w : World) (hL : LbW B w) (hs : s.size < 4294967281) :
  Calls Tryz.prog 31 #[.string s, .string ⟨#[sep]⟩] w fun e w' => ∃ v ps, e = .returned v ∧ ps.map bL = aP sep (bL s) ∧ Own fQ 9 w.heap.size w' v ps [] ∧ Below w.heap.size w w' := by
 obtain ⟨_, _, m, hm⟩ := hL
 refine (Any.strings_Split Tryz.lays146 (by kernel_rfl) s ⟨#[sep]⟩ m w hs hm (Nat.le_refl 1)).mono ?_
 have hle := Lib.countB_le ⟨#[sep]⟩ (Nat.le_refl 1) s.size s (Nat.le_refl _)
 have hlen : (Lib.splitB ⟨#[sep]⟩ 0 (Lib.countB s ⟨#[sep]⟩) s).length = Lib.countB s ⟨#[sep]⟩ + 1 := Lib.splitB_all ⟨#[sep]⟩ (Nat.le_refl 1) 0 _ s rfl
 rintro e w' ⟨rfl, rfl⟩
 rw [← hlen]
 refine ⟨_, _, rfl, (Lib.splitB_data ⟨#[sep]⟩ 0 _ s).trans (lF sep (bL s)), yH w _ (by rw [hlen]; unfold maxLen; omega), ab _ _⟩
theorem qj : ∀ {ls : List (List UInt8)}, ls ≠ [] → Lib.join ls [32] ++ [10] = cC ls
 | [a], _ => by rw [Lib.join_one]; rfl
 | a :: b :: r, _ => by
  have ih := qj (ls := b :: r) (by simp)
  rw [cC]
  ·rw [← ih, Lib.join_cons, Lib.join_cons]
   simp [Lib.joinTail]
  ·simp
def dg (l : List UInt8) : Prop := l = [] ∨ ∃ p, l = p ++ [10]
theorem dg.app {a b : List UInt8} (ha : dg a) (hb : dg b) : dg (a ++ b) := by
 rcases hb with rfl | ⟨p, rfl⟩
 ·rwa [List.append_nil]
 ·exact .inr ⟨a ++ p, by rw [List.append_assoc]⟩
theorem gK : ∀ {ws : List (List UInt8)}, ws ≠ [] → dg (cC ws)
 | [a], _ => .inr ⟨a, rfl⟩
 | a :: b :: r, _ => by
  obtain h | ⟨p, h⟩ := gK (ws := b :: r) (by simp)
  ·exact absurd h (by cases r <;> simp [cC])
  ·exact .inr ⟨a ++ [32] ++ p, by rw [cC, h]; simp; simp⟩
theorem mn {ls : List (List UInt8)} (h : ∀ l ∈ ls, dg l) : dg ls.flatten := by
 induction ls with
 | nil => exact .inl rfl
 | cons a r ih =>
  rw [List.flatten_cons]
  exact (h a List.mem_cons_self).app (ih fun l hl => h l (List.mem_cons_of_mem _ hl))
theorem rD (x : Wd) : dg (iW x) := mn fun l hl => by
 obtain ⟨i, hi, rfl⟩ := List.mem_mapIdx.1 hl
 exact gK (by simp)
theorem p8 (x : Wd) (l : List UInt8) : dg (bj x l).2 := by
 unfold bj
 dsimp only
 split
 ·exact .inl rfl
 ·split
  ·exact .inl rfl
  ·split
   ·exact rD x
   ·exact gK (by simp)
theorem mo : ∀ (ls : List (List UInt8)) (s : Wd × List UInt8), dg s.2 → dg (ls.foldl jh s).2
 | [], _, h => h
 | l :: ls, s, h => mo ls _ (h.app (p8 s.1 l))
theorem rC (x : Wd) : dg (x.got.map jQ).flatten := mn fun l hl => by
 obtain ⟨g, _, rfl⟩ := List.mem_map.1 hl
 exact gK (by simp)
def sH (x : Wd) : List UInt8 := ox ++ 32 :: (dz x.made ++ 32 :: (ou ++ 32 :: dz x.lost))
def qg (s : List UInt8) : List UInt8 := (bY (aP 10 s).dropLast).2 ++ ((bY (aP 10 s).dropLast).1.got.map jQ).flatten
theorem fs (s : List UInt8) : dg (qg s) := (mo _ _ (.inl rfl)).app (rC _)
theorem fo {s : List UInt8} (h : s.length ≤ 600) : ce s = qg s ++ (sH (bY (aP 10 s).dropLast).1 ++ [10]) := by
 unfold ce qg
 rw [if_neg (by omega)]
 simp [fP, sH, cC, List.append_assoc]
theorem fV {k : Nat} (h : k ≤ 9) : (10 : UInt8) ≠ UInt8.ofNat (48 + k) := fun e => by
 have := congrArg UInt8.toNat e
 rw [UInt8.toNat_ofNat'] at this
 have h2 : (10 : UInt8).toNat = 10 := rfl
 omega
theorem pZ {n : Int} (h : n < 1000) : (10 : UInt8) ∉ dz n := by
 unfold dz
 split
 ·simp only [List.mem_singleton]; exact fV (by omega)
 ·split
  ·simp only [List.mem_cons, List.not_mem_nil, or_false, not_or]; exact ⟨fV (by omega), fV (by omega)⟩
  ·simp only [List.mem_cons, List.not_mem_nil, or_false, not_or]; exact ⟨fV (by omega), fV (by omega), fV (by omega)⟩
theorem jk {x : Wd} (hx : VD 0 x) : (10 : UInt8) ∉ sH x := by
 have h1 := hx.md; have h2 := hx.l1
 unfold sH
 simp only [List.mem_append, List.mem_cons, not_or]
 exact ⟨by decide, by decide, pZ (by omega), by decide, by decide, by decide, pZ (by omega)⟩
theorem gd (s : List UInt8) : VD 0 (bY (aP 10 s).dropLast).1 := oH _ _ wL
theorem sS (n : Int) : 1 ≤ (dz n).length := by
 unfold dz
 split
 ·simp
 ·split <;> simp
theorem xS (x : Wd) : 14 ≤ (sH x ++ [10]).length := by
 have h1 := sS x.made; have h2 := sS x.lost
 simp only [sH, ox, ou, List.length_append, List.length_cons, List.length_nil]
 omega
theorem iL {c : UInt8} : ∀ {l : List UInt8}, c ∉ l → aP c l = [l]
 | [], _ => rfl
 | b :: r, h => by
  have h1 : b ≠ c := fun e => h (by rw [e]; exact List.mem_cons_self)
  rw [aP, if_neg h1, iL fun e => h (List.mem_cons_of_mem _ e)]
  rfl
theorem kJ {c : UInt8} : ∀ (a r : List UInt8), aP c (a ++ c :: r) = aP c a ++ aP c r
 | [], r => by
  show aP c (c :: r) = [[]] ++ aP c r
  rw [aP, if_pos rfl]; rfl
 | b :: a, r => by
  have ih := kJ (c := c) a r
  rw [List.cons_append, aP]
  by_cases h : b = c
  ·subst h
   rw [if_pos rfl, ih, aP, if_pos rfl]; rfl
  ·rw [if_neg h, ih, aP, if_neg h]
   have hne := kI c a
   cases hc : aP c a with
   | nil => exact absurd hc hne
   | cons p ps => rfl
theorem kK {p r : List UInt8} (h : dg p) : aP 10 (p ++ r) = (aP 10 p).dropLast ++ aP 10 r := by
 rcases h with rfl | ⟨q, rfl⟩
 ·rfl
 ·rw [List.append_assoc, List.singleton_append, kJ, kJ, show aP 10 ([] : List UInt8) = [[]] from rfl, List.dropLast_concat]
theorem rG {s p r : List UInt8} (hs : s.length ≤ 600) (h : s = p ++ r) (hp : dg p) (hr : (10 : UInt8) ∉ r) : ce p = ce s := by
 have e : (aP 10 s).dropLast = (aP 10 p).dropLast := by
  rw [h, kK hp, iL hr, List.dropLast_concat]
 have hl : p.length ≤ 600 := by rw [h, List.length_append] at hs; omega
 unfold ce
 rw [if_neg (by omega), if_neg (by omega), e]
theorem pY {p w : List UInt8} (hp : dg p) (hw : (10 : UInt8) ∉ w) : (aP 10 (p ++ (w ++ [10]))).dropLast = (aP 10 p).dropLast ++ [w] := by
 rw [kK hp, kJ, iL hw, show aP 10 ([] : List UInt8) = [[]] from rfl, ← List.append_assoc, List.dropLast_concat]
theorem mH (ls : List (List UInt8)) (w : List UInt8) : bY (ls ++ [w]) = jh (bY ls) w := by
 unfold bY
 rw [List.foldl_append]; rfl
def fk : List UInt8 := [117, 110, 107, 110, 111, 119, 110]
theorem py (x : Wd) : bj x fk = (x, cC [kG]) := by
 have h : aP 32 fk = [fk] := by decide
 unfold bj
 rw [h]
 rfl
theorem wB (x : Wd) : bj x j8 = (x, iW x) := by
 have h : aP 32 j8 = [j8] := by decide
 unfold bj
 rw [h]
 rfl
theorem tV {p w : List UInt8} (hp : dg p) (hw : (10 : UInt8) ∉ w) (hl : (p ++ (w ++ [10])).length ≤ 600) {o : List UInt8} (h : ∀ x, (bj x w).1 = x ∧ (bj x w).2.length = o.length) :
  (ce (p ++ (w ++ [10]))).length = (ce p).length + o.length ∧ (bY (aP 10 (p ++ (w ++ [10]))).dropLast).1 = (bY (aP 10 p).dropLast).1 := by
 have hl2 : p.length ≤ 600 := by rw [List.length_append] at hl; omega
 rw [fo hl, fo hl2]
 unfold qg
 rw [pY hp hw, mH]
 obtain ⟨h1, h2⟩ := h (bY (aP 10 p).dropLast).1
 have e1 : (jh (bY (aP 10 p).dropLast) w).1 = (bY (aP 10 p).dropLast).1 := h1
 refine ⟨?_, e1⟩
 rw [e1]
 simp only [jh, List.length_append, h2]
 omega
theorem lQ {p w : List UInt8} (hp : dg p) (hw : (10 : UInt8) ∉ w) (h : ∀ x, (bj x w).1 = x) : (bY (aP 10 (p ++ (w ++ [10]))).dropLast).1 = (bY (aP 10 p).dropLast).1 := by
 rw [pY hp hw, mH]
 exact h _
theorem WdB.two' {B : Nat} {w : World} {x : Wd} {vm vs vn vg a b : Value} (h : WdB B w (.agg #[vm, vs, vn, vg, a, b]) x) : SlB tTr B w vn x.net ∧ SlB tLt B w vg x.got := by
 obtain ⟨_, _, _, _, e, _, _, h3, h4⟩ := h
 injection e with e
 simp only [Array.mk.injEq, List.cons.injEq] at e
 obtain ⟨rfl, rfl, rfl, rfl, _⟩ := e
 exact ⟨h3, h4⟩
theorem bO {s : ByteArray} {n : Int} (h : bL s = dz n) : s.size ≤ 3 := by
 have h1 := dh n
 rwa [← h, aB] at h1
def iX (x : Wd) (k : Nat) : List UInt8 := ((x.net.take k).mapIdx mR).flatten
theorem gu {x : Wd} {k : Nat} (h : x.net.length ≤ k) : iX x k = iW x := by unfold iX iW; rw [List.take_of_length_le h]
theorem ko {x : Wd} {k : Nat} {t : Tr} (h : x.net[k]? = some t) : iX x (k + 1) = iX x k ++ mR k t := by
 have hk := (List.getElem?_eq_some_iff.1 h).1
 unfold iX
 rw [aK h, List.mapIdx_append, List.flatten_append]
 simp [Nat.min_eq_left (Nat.le_of_lt hk)]
theorem wJ (i : Nat) (t : Tr) : (mR i t).length ≤ 16 := by
 have h1 := dh i; have h2 := dh t.mix; have h3 := dh t.pk.el; have h4 := dh t.pk.tag
 simp [mR, cC]; omega
theorem gv (x : Wd) : ∀ k, (iX x k).length ≤ 16 * k
 | 0 => by simp [iX]
 | k + 1 => by
  cases h : x.net[k]? with
  | none =>
   have : x.net.length ≤ k := List.getElem?_eq_none_iff.1 h
   rw [gu (by omega), ← gu this]
   have := gv x k; omega
  | some t =>
   rw [ko h, List.length_append]
   have := gv x k; have := wJ k t; omega
theorem vX (x : Wd) (v : Value) (w : World) (hv : WdB w.heap.size w v x) (hx : VD 0 x) : Calls Tryz.prog 64 #[v] w (pR w (iW x)) := by
 obtain ⟨A1, c1, A2, c2, A3, c3, A4, c4, rfl⟩ := (WdR.of_wdB (R := fun _ => True) hv (fun _ _ => trivial)).form
 have hnn := hx.nn
 have Hnt := hid (bR.1 hx.nt)
 have HV := hid (WdR.of_wdB (R := fun _ => True) hv (fun _ _ => trivial))
 clear hv hx
 go_enter Tryz.func64, Tryz.ntmps64
 go_upto_region 1 with fail
 generalize hgw : World.alloc w _ = w1
 obtain ⟨e1, hb1, s1⟩ := dK hgw
 have E1 := hid e1; have Hb1 := hid hb1
 replace HV := hid (HV.out.go hb1)
 clear hgw e1 hb1
 go_wp2_with fail
 go_loopw [3, 4] (fun ov iv wr => ∃ (k : Nat) (s : ByteArray), k ≤ x.net.length ∧ iv = .int .i64 k ∧ ov = .string s ∧ bL s = iX x k ∧ Below w1.heap.size w1 wr) (fun _ iv _ => x.net.length - (intOf iv).toNat)
 case atStart => exact ⟨0, _, by omega, rfl, rfl, rfl, zm⟩
 case round =>
  obtain ⟨k, s, hk, rfl, rfl, hs, hb⟩ := hrel
  have hsz : s.size ≤ 160 := by have := gv x k; rw [← hs, aB] at this; omega
  have Hs := hid hs; have Hb := hid hb
  have er := ac hb E1.out
  obtain ⟨k0, k1, k2, k3, k4, k5, _⟩ := aC er
  have zr : w.heap.size < wr.heap.size := by have := hb.size; omega
  have dr := HV.out.go hb
  clear hs hb
  by_cases hlt : k < x.net.length
  ·obtain ⟨t, ht⟩ := ai hlt
   obtain ⟨dn, _⟩ := dr.wdB.two'
   obtain ⟨b, o, vh, vb, rfl, _, m2, _, _, p0, p1, p2, p3, p4, p5⟩ := dn.tr ht
   have htb := cL.1 (Hnt.out t (List.mem_of_getElem? ht))
   have h1 := aH.1 htb.1
   have hpk := aA.1 htb.2
   have h2 := aH.1 hpk.1; have h3 := aH.1 hpk.2.2.2
   have Ht := hid ht
   have HS := hid (fun (wx : World) (hT : Tch [] wr wx) => And.intro (aC (hT.row er (by simp))) (And.intro (show w.heap.size < wx.heap.size by have := hT.size; omega) (And.intro ((hT.nil.cell (p := ⟨b, o + k * 6, none⟩) m2).trans p0) (And.intro ((hT.nil.cell (p := ⟨b, o + k * 6 + 1, none⟩) m2).trans p1) ((hT.nil.cell (p := ⟨b, o + k * 6 + 3, none⟩) m2).trans p3)))))
   have ER := hid er; have DR := hid dr
   clear ht dn dr er p0 p1 p2 p3 p4 p5 htb hpk
   go_wp2_with fail
   clear k0 k1 k2 k3 k4 k5
   refine rgN [] 35 (by kernel_rfl) rfl (fun | none, _, _, _, _ => id | some _, _, _, _, _ => id) fun wd hH hbwd swd => ?_
   simp only [pw]
   refine ag [0, 1, 5, 6, 7, 8, 9, 10, 14, 15, 16, 17, 18, 19, 20, 24, 25, 26, 27, 28, 29, 30] ?_
   iterate 22 (refine ra HS.out rfl (by kernel_rfl) rfl (fun _ f => by go_simp; try with_reducible rfl) ?_; try simp only [pw])
   refine rq 2 (by kernel_rfl) rfl fun K hK => ?_
   go_simp
   (go_at_call 65; refine (eY k _ (by omega) (by omega)).mono ?_; rintro e w1 ⟨s1, rfl, hs1, hbC⟩; have zs1 := bO hs1; have ns1 : ¬ 9223372036854775807 < s.size + s1.size := (by omega); have ms1 : ¬ 9223372036854775807 < s.size + s1.size + 1 := (by omega))
   refine hK.out _ _ (hH.trans (Tch.of hbC)) (fun hH => ?_)
   clear hK K
   refine ag [3, 4] ?_
   iterate 2 (refine ra HS.out rfl (by kernel_rfl) rfl (fun _ f => by go_simp; try with_reducible rfl) ?_; try simp only [pw])
   refine rq 11 (by kernel_rfl) rfl fun K hK => ?_
   go_simp
   (go_at_call 65; refine (eY t.mix _ (by omega) (by omega)).mono ?_; rintro e w2 ⟨s2, rfl, hs2, hbC⟩; have zs2 := bO hs2; have ns2 : ¬ 9223372036854775807 < s.size + s1.size + 1 + s2.size := (by omega); have ms2 : ¬ 9223372036854775807 < s.size + s1.size + 1 + s2.size + 1 := (by omega))
   refine hK.out _ _ (hH.trans (Tch.of hbC)) (fun hH => ?_)
   clear hK K
   refine ag [12, 13] ?_
   iterate 2 (refine ra HS.out rfl (by kernel_rfl) rfl (fun _ f => by go_simp; try with_reducible rfl) ?_; try simp only [pw])
   refine rq 21 (by kernel_rfl) rfl fun K hK => ?_
   go_simp
   (go_at_call 65; refine (eY t.pk.el _ (by omega) (by omega)).mono ?_; rintro e w3 ⟨s3, rfl, hs3, hbC⟩; have zs3 := bO hs3; have ns3 : ¬ 9223372036854775807 < s.size + s1.size + 1 + s2.size + 1 + s3.size := (by omega); have ms3 : ¬ 9223372036854775807 < s.size + s1.size + 1 + s2.size + 1 + s3.size + 1 := (by omega))
   refine hK.out _ _ (hH.trans (Tch.of hbC)) (fun hH => ?_)
   clear hK K
   refine ag [22, 23] ?_
   iterate 2 (refine ra HS.out rfl (by kernel_rfl) rfl (fun _ f => by go_simp; try with_reducible rfl) ?_; try simp only [pw])
   refine rq 31 (by kernel_rfl) rfl fun K hK => ?_
   go_simp
   (go_at_call 65; refine (eY t.pk.tag _ (by omega) (by omega)).mono ?_; rintro e w4 ⟨s4, rfl, hs4, hbC⟩; have zs4 := bO hs4; have ns4 : ¬ 9223372036854775807 < s.size + s1.size + 1 + s2.size + 1 + s3.size + 1 + s4.size := (by omega); have ms4 : ¬ 9223372036854775807 < s.size + s1.size + 1 + s2.size + 1 + s3.size + 1 + s4.size + 1 := (by omega))
   refine hK.out _ _ (hH.trans (Tch.of hbC)) (fun hH => ?_)
   clear hK K
   refine ag [32, 33, 34] ?_
   iterate 3 (refine ra HS.out rfl (by kernel_rfl) rfl (fun _ f => by go_simp; try with_reducible rfl) ?_; try simp only [pw])
   refine dm (by kernel_rfl) ?_
   have hF := hH.nil
   go_wp2_with fail
   go_roundw
   case rel => exact ⟨k + 1, _, by omega, by go_num, rfl, by rw [ko Ht.out]; simp [iH, Hs.out, hs1, hs2, hs3, hs4, mR, cC], bt Hb.out hF⟩
   case measure => simp [intOf]; omega
  ·have Hall := hid (gu (x := x) (k := k) (by omega))
   clear dr er
   go_wp2_with fail
   go_ret
   exact ⟨s, rfl, by rw [Hs.out, Hall.out], bt Hb1.out Hb.out⟩
theorem wE {l : Lt} (h : ltB l = true) : (0 ≤ l.fr ∧ l.fr ≤ 7) ∧ (0 ≤ l.to ∧ l.to ≤ 7) ∧ 0 ≤ l.num ∧ l.num ≤ 11 := by
 unfold ltB at h
 simp only [Bool.and_eq_true] at h
 exact ⟨aH.1 h.1, aH.1 h.2.1, aH.1 h.2.2⟩
def fq (x : Wd) (k : Nat) : List UInt8 := ((x.got.take k).map jQ).flatten
theorem fW {x : Wd} {k : Nat} (h : x.got.length ≤ k) : fq x k = (x.got.map jQ).flatten := by unfold fq; rw [List.take_of_length_le h]
theorem ka {x : Wd} {k : Nat} {l : Lt} (h : x.got[k]? = some l) : fq x (k + 1) = fq x k ++ jQ l := by
 unfold fq
 rw [aK h, List.map_append, List.flatten_append]
 simp
theorem vO (l : Lt) : (jQ l).length ≤ 16 := by
 have h1 := dh l.fr; have h2 := dh l.to; have h3 := dh l.num
 simp [jQ, cC, xg]; omega
theorem fd (x : Wd) : ∀ k, (fq x k).length ≤ 16 * k
 | 0 => by simp [fq]
 | k + 1 => by
  cases h : x.got[k]? with
  | none =>
   have : x.got.length ≤ k := List.getElem?_eq_none_iff.1 h
   rw [fW (by omega), ← fW this]
   have := fd x k; omega
  | some l =>
   rw [ka h, List.length_append]
   have := fd x k; have := vO l; omega
theorem r6 (x : Wd) (v : Value) (w : World) (hv : WdB w.heap.size w v x) (hx : VD 0 x) : Calls Tryz.prog 38 #[v] w (pR w (fP x)) := by
 obtain ⟨A1, c1, A2, c2, A3, c3, A4, c4, rfl⟩ := (WdR.of_wdB (R := fun _ => True) hv (fun _ _ => trivial)).form
 have hgg := hx.gl; have b1 := hx.md; have b2 := hx.l0; have b3 := hx.l1
 have Hgt := hid (show ∀ l ∈ x.got, ltB l = true by have h := hx.gt; unfold nE at h; exact List.all_eq_true.1 h)
 have HV := hid (WdR.of_wdB (R := fun _ => True) hv (fun _ _ => trivial))
 clear hv hx
 go_enter Tryz.func38, Tryz.ntmps38
 go_upto_region 1 with fail
 generalize hgw : World.alloc w _ = w1
 obtain ⟨e1, hb1, s1⟩ := dK hgw
 have E1 := hid e1; have Hb1 := hid hb1
 replace HV := hid (HV.out.go hb1)
 clear hgw e1 hb1
 go_wp2_with fail
 go_loopw [3, 4] (fun ov iv wr => ∃ (k : Nat) (s : ByteArray), k ≤ x.got.length ∧ iv = .int .i64 k ∧ ov = .string s ∧ bL s = fq x k ∧ Below w1.heap.size w1 wr) (fun _ iv _ => x.got.length - (intOf iv).toNat)
 case atStart => exact ⟨0, _, by omega, rfl, rfl, rfl, zm⟩
 case round =>
  obtain ⟨k, s, hk, rfl, rfl, hs, hb⟩ := hrel
  have hsz : s.size ≤ 16 * k := by have := fd x k; rw [← hs, aB] at this; omega
  have Hs := hid hs; have Hb := hid hb
  have er := ac hb E1.out
  obtain ⟨k0, k1, k2, k3, k4, k5, _⟩ := aC er
  have zr : w.heap.size < wr.heap.size := by have := hb.size; omega
  have dr := HV.out.go hb
  clear hs hb
  by_cases hlt : k < x.got.length
  ·obtain ⟨l, hl⟩ := ai hlt
   obtain ⟨_, dn⟩ := dr.wdB.two'
   obtain ⟨b, o, rfl, _, m2, p0, p1, p2⟩ := dn.lt3 hl
   have hlb := Hgt.out l (List.mem_of_getElem? hl)
   obtain ⟨h1, h2, h3⟩ := wE hlb
   have Hl := hid hl
   have HS := hid (fun (wx : World) (hT : Tch [] wr wx) => And.intro (aC (hT.row er (by simp))) (And.intro (show w.heap.size < wx.heap.size by have := hT.size; omega) (And.intro ((hT.nil.cell (p := ⟨b, o + k * 3, none⟩) m2).trans p0) (And.intro ((hT.nil.cell (p := ⟨b, o + k * 3 + 1, none⟩) m2).trans p1) ((hT.nil.cell (p := ⟨b, o + k * 3 + 2, none⟩) m2).trans p2)))))
   have ER := hid er; have DR := hid dr
   have n0 : ¬ 9223372036854775807 < s.size + 4 := by omega
   clear hl dn dr er p0 p1 p2 hlb
   go_wp2_with fail
   clear k0 k1 k2 k3 k4 k5
   refine rgN [] 30 (by kernel_rfl) rfl (fun | none, _, _, _, _ => id | some _, _, _, _, _ => id) fun wd hH hbwd swd => ?_
   simp only [pw]
   refine ag [0, 1, 2, 3, 4, 5, 6, 7, 11, 12, 13, 14, 15, 16, 20, 21, 22, 23, 24, 25] ?_
   iterate 20 (refine ra HS.out rfl (by kernel_rfl) rfl (fun _ f => by go_simp; try with_reducible rfl) ?_; try simp only [pw])
   refine rq 8 (by kernel_rfl) rfl fun K hK => ?_
   go_simp
   (go_at_call 65; refine (eY l.fr _ (by omega) (by omega)).mono ?_; rintro e w1 ⟨s1, rfl, hs1, hbC⟩; have zs1 := bO hs1; have ns1 : ¬ 9223372036854775807 < s.size + 4 + s1.size := (by omega); have ms1 : ¬ 9223372036854775807 < s.size + 4 + s1.size + 1 := (by omega))
   refine hK.out _ _ (hH.trans (Tch.of hbC)) (fun hH => ?_)
   clear hK K
   refine ag [9, 10] ?_
   iterate 2 (refine ra HS.out rfl (by kernel_rfl) rfl (fun _ f => by go_simp; try with_reducible rfl) ?_; try simp only [pw])
   refine rq 17 (by kernel_rfl) rfl fun K hK => ?_
   go_simp
   (go_at_call 65; refine (eY l.to _ (by omega) (by omega)).mono ?_; rintro e w2 ⟨s2, rfl, hs2, hbC⟩; have zs2 := bO hs2; have ns2 : ¬ 9223372036854775807 < s.size + 4 + s1.size + 1 + s2.size := (by omega); have ms2 : ¬ 9223372036854775807 < s.size + 4 + s1.size + 1 + s2.size + 1 := (by omega))
   refine hK.out _ _ (hH.trans (Tch.of hbC)) (fun hH => ?_)
   clear hK K
   refine ag [18, 19] ?_
   iterate 2 (refine ra HS.out rfl (by kernel_rfl) rfl (fun _ f => by go_simp; try with_reducible rfl) ?_; try simp only [pw])
   refine rq 26 (by kernel_rfl) rfl fun K hK => ?_
   go_simp
   (go_at_call 65; refine (eY l.num _ (by omega) (by omega)).mono ?_; rintro e w3 ⟨s3, rfl, hs3, hbC⟩; have zs3 := bO hs3; have ns3 : ¬ 9223372036854775807 < s.size + 4 + s1.size + 1 + s2.size + 1 + s3.size := (by omega); have ms3 : ¬ 9223372036854775807 < s.size + 4 + s1.size + 1 + s2.size + 1 + s3.size + 1 := (by omega))
   refine hK.out _ _ (hH.trans (Tch.of hbC)) (fun hH => ?_)
   clear hK K
   refine ag [27, 28, 29] ?_
   iterate 3 (refine ra HS.out rfl (by kernel_rfl) rfl (fun _ f => by go_simp; try with_reducible rfl) ?_; try simp only [pw])
   refine dm (by kernel_rfl) ?_
   have hF := hH.nil
   go_wp2_with fail
   go_roundw
   case rel => exact ⟨k + 1, _, by omega, by go_num, rfl, by rw [ka Hl.out]; simp [iH, Hs.out, hs1, hs2, hs3, jQ, cC, xg], bt Hb.out hF⟩
   case measure => simp [intOf]; omega
  ·have Hall := hid (fW (x := x) (k := k) (by omega))
   have n0 : ¬ 9223372036854775807 < s.size + 5 := by omega
   have HS := hid (fun (wx : World) (hT : Tch [] wr wx) => And.intro (aC (hT.row er (by simp))) (show w.heap.size < wx.heap.size by have := hT.size; omega))
   clear dr er k0 k1 k2 k3 k4 k5
   obtain ⟨k0, k1, k2, k3, k4, k5, _⟩ := HS.out wr (Tch.refl _ _) |>.1
   go_wp2_with fail
   clear k0 k1 k2 k3 k4 k5
   refine rgN [] 13 (by kernel_rfl) rfl (fun | none, _, _, _, _ => id | some _, _, _, _, _ => id) fun wd hH hbwd swd => ?_
   simp only [pw]
   refine ag [0, 1, 2, 3, 7, 8] ?_
   iterate 6 (refine ra HS.out rfl (by kernel_rfl) rfl (fun _ f => by go_simp; try with_reducible rfl) ?_; try simp only [pw])
   refine rq 4 (by kernel_rfl) rfl fun K hK => ?_
   go_simp
   (go_at_call 65; refine (eY x.made _ (by omega) (by omega)).mono ?_; rintro e w1 ⟨s1, rfl, hs1, hbC⟩; have zs1 := bO hs1; have n1 : ¬ 9223372036854775807 < s.size + 5 + s1.size := (by omega); have n2 : ¬ 9223372036854775807 < s.size + 5 + s1.size + 6 := (by omega))
   refine hK.out _ _ (hH.trans (Tch.of hbC)) (fun hH => ?_)
   clear hK K
   refine ag [5, 6] ?_
   iterate 2 (refine ra HS.out rfl (by kernel_rfl) rfl (fun _ f => by go_simp; try with_reducible rfl) ?_; try simp only [pw])
   refine rq 9 (by kernel_rfl) rfl fun K hK => ?_
   go_simp
   (go_at_call 65; refine (eY x.lost _ (by omega) (by omega)).mono ?_; rintro e w2 ⟨s2, rfl, hs2, hbC⟩; have zs2 := bO hs2; have n3 : ¬ 9223372036854775807 < s.size + 5 + s1.size + 6 + s2.size := (by omega); have n4 : ¬ 9223372036854775807 < s.size + 5 + s1.size + 6 + s2.size + 1 := (by omega))
   refine hK.out _ _ (hH.trans (Tch.of hbC)) (fun hH => ?_)
   clear hK K
   refine ag [10, 11, 12] ?_
   iterate 3 (refine ra HS.out rfl (by kernel_rfl) rfl (fun _ f => by go_simp; try with_reducible rfl) ?_; try simp only [pw])
   refine dm (by kernel_rfl) ?_
   have hF := hH.nil
   go_wp2_with fail
   go_ret
   exact ⟨_, rfl, by simp [iH, Hs.out, Hall.out, hs1, hs2, fP, cC, ox, ou], bt Hb1.out (bt Hb.out hF)⟩
end Go.Proofs.YtfaeojmndaplcaaGreatDoor
