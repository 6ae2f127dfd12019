/- Texts that the last file leans on (part 36). -/
import Derived.ChangeSame
import Derived.ChangeVars
import Derived.Deep.Slices
import Derived.JoinedOf
import Derived.KernelRfl
import Derived.LaidHandle
import Derived.LaidLaws
import Derived.OpenShut
import Derived.ProofKit
import Derived.RowKitTokens
import Derived.Stop.Joined
import Derived.Test.YtolgbefghbddeaaGreatDoorCards
import Derived.Test.YtolgbefghbddeaaGreatDoorM0
import Derived.Test.YtolgbefghbddeaaGreatDoorM11
import Derived.Test.YtolgbefghbddeaaGreatDoorM28
import Derived.Test.YtolgbefghbddeaaGreatDoorM5
import Derived.Test.YtolgbefghbddeaaGreatDoorM6
import Derived.Test.YtolgbefghbddeaaGreatDoorRows
import Derived.Test.YtolgbefghbddeaaGreatDoorTie
import Derived.WalkKit
set_option linter.unusedVariables false
set_option linter.unusedSimpArgs false
set_option maxHeartbeats 4000000
set_option maxRecDepth 100000
namespace Go.Proofs.YtolgbefghbddeaaGreatDoor
open Go Go.RowKit
theorem gZ {x : Int} (h : (Lit.int .u8 x).wf = true) : 0 ≤ x ∧ x ≤ 255 := by simpa [Lit.wf, IntKind.min, IntKind.max, IntKind.signed, IntKind.bits] using h
theorem WdB.parts {B : Nat} {w : World} {x : Wd} {vm vs vn vg a b : Value} (h : WdB B w (.agg #[vm, vs, vn, vg, a, b]) x) : SlB tMx B w vm x.mixes ∧ SlB tLt B w vs x.sent ∧ SlB tTr B w vn x.net ∧ SlB tLt B w vg x.got := by
 obtain ⟨um, us, un, ug, e, h1, h2, h3, h4⟩ := h
 simp at e
 obtain ⟨rfl, rfl, rfl, rfl, _, _⟩ := e
 exact ⟨h1, h2, h3, h4⟩
theorem fS (n m : Nat) (hm : 0 < m) : ∃ k : Nat, (n : Int).tmod (m : Int) = (k : Int) ∧ (n : Int) % (m : Int) = (k : Int) ∧ k < m := by
 refine ⟨n % m, ?_, by simp, Nat.mod_lt _ hm⟩
 rw [Int.tmod_eq_emod_of_nonneg (by omega)]; simp
theorem et {x : Wd} (h : VD 0 x) (e : Ev) : aW x e = doW x e := by unfold aW; rw [cD.2 h]; rfl
theorem qg {x : Wd} {i : Nat} {t : Tr} (h : VD 0 x) (ht : x.net[i]? = some t) (b c : Int) : aW x ⟨2, i, b, c⟩ = cU (bu x (x.net.eraseIdx i)) t := by
 rw [et h]
 unfold doW
 rw [if_neg (by simp), if_pos (.inl rfl)]
 unfold dI
 rw [if_neg (by dsimp only; omega)]
 dsimp only
 rw [Int.toNat_natCast, ht]
 simp
theorem xa {x : Wd} {k : Nat} {m : Mx} (h : x.mixes[k]? = some m) : cw x k m = x := by unfold cw; rw [ui h]
theorem dC {x : Wd} (h : VD 0 x) (e : Ev) : VD 0 (aW x e) := by rw [et h]; exact h.do_ e
theorem VD.kept {x : Wd} (h : VD 0 x) : (x.net.length : Int) + ao x.mixes + x.got.length + x.lost = x.made := by
 have := h.cnt
 unfold di at this
 omega
theorem nG {k : Int} (h : ¬ (0 ≤ k ∧ k ≤ 8)) : aA k = [] := by unfold aA; rw [if_neg h]
theorem qH {k : Int} (h : aA k ≠ []) : win ((aA k).getD 0 0) 0 2 = true := by
 by_cases hk : 0 ≤ k ∧ k ≤ 8
 ·obtain ⟨n, rfl⟩ := Int.eq_ofNat_of_zero_le hk.1
  have hn : n < 9 := by omega
  unfold aA
  rw [if_pos hk, Int.toNat_natCast]
  rcases n with _ | _ | _ | _ | _ | _ | _ | _ | _ | n
  all_goals first | rfl | omega
 ·exact absurd (nG hk) h
theorem uU {x : Wd} (h : VD 0 x) {fr dst path : Int} (hs : (aW x ⟨1, fr, dst, path⟩).sent.length ≠ x.sent.length) :
  (aW x ⟨1, fr, dst, path⟩).sent[x.sent.length]? = some ⟨fr, dst, x.sent.length⟩ ∧ aA path ≠ [] ∧ (x.net.length = 10 → (aW x ⟨1, fr, dst, path⟩).lost = x.lost + 1) ∧
  (x.net.length ≠ 10 → (∃ t, (aW x ⟨1, fr, dst, path⟩).net[x.net.length]? = some t ∧ t.mix = (aA path).getD 0 0) ∧ (aW x ⟨1, fr, dst, path⟩).made = x.made + 1) := by
 rw [et h] at hs ⊢
 have e0 : doW x ⟨1, fr, dst, path⟩ = dA x fr dst path := by unfold doW; rw [if_pos rfl]
 rw [e0] at hs ⊢
 unfold dA at hs ⊢
 by_cases hc : win fr 0 7 = true ∧ win dst 0 7 = true ∧ aA path ≠ [] ∧ x.sent.length < 12 ∧ x.made < 999
 ·rw [if_pos hc] at hs ⊢
  obtain ⟨_, _, hp, _, _⟩ := hc
  have hnn := h.nn
  by_cases hd : 10 ≤ x.net.length ∨ win ((aA path).getD 0 0) 0 2 = false
  ·have e : dd ⟨x.mixes, x.sent ++ [⟨fr, dst, (x.sent.length : Int)⟩], x.net, x.got, x.made + 1, x.lost⟩ ((aA path).getD 0 0) (lj x.sent.length fr dst path) false = cT ⟨x.mixes, x.sent ++ [⟨fr, dst, (x.sent.length : Int)⟩], x.net, x.got, x.made + 1, x.lost⟩ := by unfold dd; rw [if_pos hd]
   rw [e]
   refine ⟨by simp [cT], hp, fun _ => rfl, fun hn => ?_⟩
   rcases hd with hd | hd
   ·omega
   ·rw [qH hp] at hd; cases hd
  ·have e : dd ⟨x.mixes, x.sent ++ [⟨fr, dst, (x.sent.length : Int)⟩], x.net, x.got, x.made + 1, x.lost⟩ ((aA path).getD 0 0) (lj x.sent.length fr dst path) false = bu ⟨x.mixes, x.sent ++ [⟨fr, dst, (x.sent.length : Int)⟩], x.net, x.got, x.made + 1, x.lost⟩ (x.net ++ [⟨(aA path).getD 0 0, lj x.sent.length fr dst path, false⟩]) := by unfold dd; rw [if_neg hd]
   rw [e]
   exact ⟨by simp [bu], hp, fun hn => absurd (.inl (by omega)) hd, fun _ => ⟨⟨⟨(aA path).getD 0 0, lj x.sent.length fr dst path, false⟩, by simp [bu], rfl⟩, rfl⟩⟩
 ·rw [if_neg hc] at hs
  exact absurd rfl hs
theorem tB {x : Wd} (h : VD 0 x) {k : Nat} (hk : k < 3) {m : Mx} (hm : x.mixes[k]? = some m) :
  (m.pool.length < 2 → aW x ⟨6, k, 0, 0⟩ = x) ∧ (2 ≤ m.pool.length → (∃ m', (aW x ⟨6, k, 0, 0⟩).mixes[k]? = some m' ∧ m'.pool = []) ∧ (aW x ⟨6, k, 0, 0⟩).made = x.made) := by
 have e0 : aW x ⟨6, k, 0, 0⟩ = bQ x k false := by
  rw [et h]
  unfold doW
  rw [if_neg (by simp), if_neg (by simp), if_pos ⟨rfl, aQ.2 (by dsimp only; omega)⟩]
  simp
 have hD : x.mixes.getD k sU = m := by rw [List.getD_eq_getElem?_getD, hm]; rfl
 rw [e0]
 refine ⟨fun h2 => ?_, fun h2 => ⟨⟨_, by rw [sy, hD, List.getElem?_set_self (List.getElem?_eq_some_iff.1 hm).1], ?_⟩, (hM _ _ _).2.1⟩⟩
 ·unfold bQ
  rw [hD, show cJ m false = (m, []) by unfold cJ; rw [if_pos ⟨h2, rfl⟩]]
  exact xa hm
 ·unfold cJ
  rw [if_neg (fun h => by omega)]
theorem qh {x : Wd} (h : VD 0 x) {i : Nat} (hi : i < x.net.length) :
  (aW x ⟨2, i, 0, 0⟩).net.length + 1 = x.net.length ∧ (ao (aW x ⟨2, i, 0, 0⟩).mixes : Int) - ao x.mixes + (aW x ⟨2, i, 0, 0⟩).lost - x.lost = 1 ∧ x.lost ≤ (aW x ⟨2, i, 0, 0⟩).lost := by
 have ht : x.net[i]? = some x.net[i] := List.getElem?_eq_getElem hi
 have v := dC h ⟨2, i, 0, 0⟩
 have k1 := v.kept
 have k0 := h.kept
 rw [qg h ht] at k1 ⊢
 have hn : (cU (bu x (x.net.eraseIdx i)) x.net[i]).net = x.net.eraseIdx i := pm _ _
 have hl : (x.net.eraseIdx i).length + 1 = x.net.length := by rw [List.length_eraseIdx_of_lt hi]; omega
 have hg : (cU (bu x (x.net.eraseIdx i)) x.net[i]).got = x.got ∧ (cU (bu x (x.net.eraseIdx i)) x.net[i]).made = x.made ∧ x.lost ≤ (cU (bu x (x.net.eraseIdx i)) x.net[i]).lost := by
  unfold cU
  dsimp only
  split
  ·exact ⟨rfl, rfl, Int.le_refl _⟩
  ·exact ⟨rfl, rfl, by simp [cT, cw, bu]; omega⟩
 rw [hn, hg.1, hg.2.1] at k1
 rw [hn]
 exact ⟨hl, by omega, hg.2.2⟩
theorem uO {x : Wd} (h : VD 0 x) {i : Nat} (hi : i < x.net.length) : aW x ⟨3, i, 0, 0⟩ = cT (bu x (x.net.eraseIdx i)) ∧ (x.net.eraseIdx i).length + 1 = x.net.length := by
 refine ⟨?_, by rw [List.length_eraseIdx_of_lt hi]; omega⟩
 rw [et h]
 unfold doW
 rw [if_neg (by simp), if_pos (.inr (.inl rfl))]
 unfold dI
 rw [if_neg (by dsimp only; omega)]
 dsimp only
 rw [Int.toNat_natCast, List.getElem?_eq_getElem hi]
 simp
theorem tm {x : Wd} (h : VD 0 x) {i : Nat} {t : Tr} (ht : x.net[i]? = some t) (b : Int) : aW x ⟨5, i, b, 0⟩ = fc x i t b := by
 rw [et h]
 unfold doW
 rw [if_neg (by simp), if_pos (.inr (.inr (.inr rfl)))]
 unfold dI
 rw [if_neg (by dsimp only; omega)]
 dsimp only
 rw [Int.toNat_natCast, ht]
 simp
theorem oZ {x : Wd} (h : VD 0 x) {i : Nat} {t : Tr} (ht : x.net[i]? = some t) {b : Nat} (hb : b < 9) (c : Int) :
  (t.ch = true → aW x ⟨5, i, b, 0⟩ = x) ∧ (t.ch = false → (aW x ⟨5, i, b, 0⟩).net = x.net.set i ⟨t.mix, iF t.pk b, true⟩ ∧ aW (aW x ⟨5, i, b, 0⟩) ⟨5, i, c, 0⟩ = aW x ⟨5, i, b, 0⟩) := by
 have e := tm h ht b
 refine ⟨fun hc => by rw [e]; unfold fc; rw [if_neg (by simp [hc])], fun hc => ?_⟩
 have e' : aW x ⟨5, i, b, 0⟩ = bu x (x.net.set i ⟨t.mix, iF t.pk b, true⟩) := by
  rw [e]; unfold fc; rw [if_pos ⟨aQ.2 (by omega), hc⟩, Int.toNat_natCast]
 have v := dC h ⟨5, i, b, 0⟩
 rw [e'] at v ⊢
 have hi := (List.getElem?_eq_some_iff.1 ht).1
 have h2 : (bu x (x.net.set i ⟨t.mix, iF t.pk b, true⟩)).net[i]? = some ⟨t.mix, iF t.pk b, true⟩ := by simp [bu, hi]
 refine ⟨rfl, ?_⟩
 rw [tm v h2]
 unfold fc
 rw [if_neg (by simp)]
theorem uE {p : Pk} (hp : pkB p = true) {b : Nat} (hb : b < 9) : ∀ i < 9, ((iF p b).hd[i]? ≠ p.hd[i]?) ↔ i = b := by
 obtain ⟨_, ⟨h9, hn⟩, _⟩ := aH.1 hp
 intro i hi
 have hx : p.hd[b]? = some p.hd[b] := List.getElem?_eq_getElem (by omega)
 have hr := bZ hn hx
 by_cases e : i = b
 ·subst e
  simp only [iF, List.getD_eq_getElem?_getD, hx, Option.getD_some, iff_true]
  rw [List.getElem?_set_self (by omega)]
  intro h
  injection h with h
  omega
 ·simp only [iF, e, iff_false]
  exact fun hn => hn (List.getElem?_set_ne (Ne.symm e))
theorem qS {x : Wd} (h : VD 0 x) (j : Nat) : aW x ⟨7 + j, 0, 0, 0⟩ = x ∧ aW x ⟨2, x.net.length + j, 0, 0⟩ = x ∧ aW x ⟨6, 3 + j, 0, 0⟩ = x ∧ aW x ⟨1, 0, 0, 9 + j⟩ = x := by
 refine ⟨?_, ?_, ?_, ?_⟩
 ·rw [et h]; unfold doW
  rw [if_neg (by dsimp only; omega), if_neg (by dsimp only; omega), if_neg (fun h => by have := h.1; dsimp only at this; omega)]
 ·rw [et h]; unfold doW
  rw [if_neg (by simp), if_pos (.inl rfl)]
  unfold dI
  rw [if_neg (by dsimp only; omega)]
  dsimp only
  rw [show ((x.net.length : Int) + (j : Int)).toNat = x.net.length + j by omega, List.getElem?_eq_none (by omega)]
 ·rw [et h]; unfold doW
  rw [if_neg (by simp), if_neg (by simp), if_neg (fun h => by have := aQ.1 h.2; dsimp only at this; omega)]
 ·rw [et h]; unfold doW
  rw [if_pos rfl]
  unfold dA
  rw [if_neg (fun h => h.2.2.1 (nG (fun hk => by dsimp only at hk; omega)))]
theorem ut {x : Wd} (h : VD 0 x) {i : Nat} {t : Tr} (ht : x.net[i]? = some t) : (x.net.length = 10 ∨ x.made = 999 → aW x ⟨4, i, 0, 0⟩ = x) ∧ (x.net.length ≠ 10 → x.made ≠ 999 → aW x ⟨4, i, 0, 0⟩ = ⟨x.mixes, x.sent, x.net ++ [t], x.got, x.made + 1, x.lost⟩) := by
 have htm := List.mem_of_getElem? ht
 obtain ⟨hmx, _⟩ := cL.1 (bT.1 h.nt t htm)
 have hnn := h.nn; have hmd := h.md
 have e : aW x ⟨4, i, 0, 0⟩ = if x.net.length < 10 ∧ x.made < 999 then dd ⟨x.mixes, x.sent, x.net, x.got, x.made + 1, x.lost⟩ t.mix t.pk t.ch else x := by
  rw [et h]
  unfold doW
  rw [if_neg (by simp), if_pos (.inr (.inr (.inl rfl)))]
  unfold dI
  rw [if_neg (by dsimp only; omega)]
  dsimp only
  rw [Int.toNat_natCast, ht]
  dsimp only
  rw [if_pos rfl]
 rw [e]
 refine ⟨fun hd => by rw [if_neg (by omega)], fun h1 h2 => ?_⟩
 rw [if_pos ⟨by omega, by omega⟩]
 unfold dd
 rw [if_neg (by
  rintro (h | h)
  ·dsimp only at h; omega
  ·rw [hmx] at h; cases h)]
 rfl
section
open Go.ChangeShapes Go.WideShapes Go.ChangeAt Go.Deep
theorem mZ (ws : List (List Char)) : stripLifts liftWords ("cut".toList :: ws) = ([], "cut".toList :: ws) := by kernel_rfl
theorem qZ : ("cut".toList == "gc".toList) = false := by kernel_rfl
theorem rd : ("cut".toList == "spec".toList) = false := by kernel_rfl
theorem uF : ("cut".toList == "carried".toList) = false := by kernel_rfl
theorem pE {P : Program} {ws : List (List Char)} (h : behindMainWord (wordsSigns P.initOrder.toList) = "cut".toList :: ws) (h1 : P.laysLater = false) (h2 : P.bearsReflect = false) (h3 : P.doorFits [] = true) : P.mayEnter = true := by
 unfold Program.mayEnter
 rw [h]
 simp only [mZ, qZ, rd, uF, h1, h2, h3, List.head?_cons, List.contains_nil, Bool.false_and, Bool.false_or, Bool.not_false, Bool.and_true, beq_self_eq_true]
theorem nX {P : Program} {ws : List (List Char)} (h : behindMainWord (wordsSigns P.initOrder.toList) = "cut".toList :: ws) : P.headLifts = [] := by
 unfold Program.headLifts
 rw [h]
 simp only [mZ, List.head?_cons, beq_self_eq_true, if_true]
theorem mM {P : Program} {ws : List (List Char)} (h : behindMainWord (wordsSigns P.initOrder.toList) = "cut".toList :: ws) : P.liftsFinal = false := by
 unfold Program.liftsFinal
 simp only [h, nX h, List.head?_cons, List.contains_nil, Bool.or_false]
 rw [show (some "cut".toList == some "carried".toList) = false from by kernel_rfl]
 rfl
theorem uP {P : Program} {ws : List (List Char)} (h : behindMainWord (wordsSigns P.initOrder.toList) = "cut".toList :: ws) : P.make = some .cut := by
 unfold Program.make
 rw [h]
 simp only [qZ, rd, Bool.or_false, beq_self_eq_true, Bool.true_or, if_true, Bool.false_eq_true, if_false]
def dY : List Char := ([104, 97, 114, 110, 101, 115, 115] : List Nat).map Char.ofNat
def dZ : List Char := ([48, 98, 56, 56, 53, 55, 52, 101, 51, 57, 54, 54, 102, 50, 57, 97, 53, 55, 48, 48, 102, 100, 101, 53, 51, 49, 48, 98, 52, 97, 57, 100, 55, 51, 50, 53, 53, 99, 56, 54, 48, 101, 51, 99, 102, 98, 101, 49, 50, 51, 55, 48, 54, 98, 50, 51, 48, 98, 54, 98, 53, 54, 99, 51] : List Nat).map Char.ofNat
def d7 : List Char := ([99, 117, 116] : List Nat).map Char.ofNat
def dN : List Char := ([97, 116, 32, 108, 111, 111, 112, 46, 101, 120, 97, 109, 112, 108, 101, 47, 109, 105, 120, 114, 101, 108, 97, 121, 47, 108, 97, 119, 115, 46, 70, 110, 87, 111, 114, 108, 100, 75, 101, 101, 112, 115, 32, 108, 111, 111, 112, 46, 101, 120, 97, 109, 112, 108, 101, 47, 109, 105, 120, 114, 101, 108, 97, 121, 47, 108, 97, 119, 115, 46, 70, 110, 87, 111, 114, 108, 100, 75, 101, 112, 116, 32, 108, 111, 111, 112, 46, 101, 120, 97, 109, 112, 108, 101, 47, 109, 105, 120, 114, 101, 108, 97, 121, 47, 108, 97, 119, 115, 46, 70, 110, 87, 111, 114, 108, 100, 83, 101, 110, 100, 32, 108, 111, 111, 112, 46, 101, 120, 97, 109, 112, 108, 101, 47, 109, 105, 120, 114, 101, 108, 97, 121, 47, 108, 97, 119, 115, 46, 70, 110, 87, 111, 114, 108, 100, 70, 108, 117, 115, 104, 32, 108, 111, 111, 112, 46, 101, 120, 97, 109, 112, 108, 101, 47, 109, 105, 120, 114, 101, 108, 97, 121, 47, 108, 97, 119, 115, 46, 70, 110, 87, 111, 114, 108, 100, 68, 101, 108, 105, 118, 101, 114, 32, 108, 111, 111, 112, 46, 101, 120, 97, 109, 112, 108, 101, 47, 109, 105, 120, 114, 101, 108, 97, 121, 47, 108, 97, 119, 115, 46, 70, 110, 87, 111, 114, 108, 100, 76, 111, 115, 101, 32, 108, 111, 111, 112, 46, 101, 120, 97, 109, 112, 108, 101, 47, 109, 105, 120, 114, 101, 108, 97, 121, 47, 108, 97, 119, 115, 46, 70, 110, 87, 111, 114, 108, 100, 67, 104, 97, 110, 103, 101, 32, 108, 111, 111, 112, 46, 101, 120, 97, 109, 112, 108, 101, 47, 109, 105, 120, 114, 101, 108, 97, 121, 47, 108, 97, 119, 115, 46, 70, 110, 87, 111, 114, 108, 100, 85, 110, 107, 110, 111, 119, 110, 32, 108, 111, 111, 112, 46, 101, 120, 97, 109, 112, 108, 101, 47, 109, 105, 120, 114, 101, 108, 97, 121, 47, 108, 97, 119, 115, 46, 70, 110, 87, 111, 114, 108, 100, 84, 119, 105, 99, 101, 32, 108, 111, 111, 112, 46, 101, 120, 97, 109, 112, 108, 101, 47, 109, 105, 120, 114, 101, 108, 97, 121, 47, 108, 97, 119, 115, 46, 70, 110, 87, 111, 114, 108, 100, 80, 108, 97, 121, 32, 108, 111, 111, 112, 46, 101, 120, 97, 109, 112, 108, 101, 47, 109, 105, 120, 114, 101, 108, 97, 121, 47, 108, 97, 119, 115, 46, 70, 110, 67, 97, 108, 109, 86, 97, 108, 105, 100, 32, 108, 111, 111, 112, 46, 101, 120, 97, 109, 112, 108, 101, 47, 109, 105, 120, 114, 101, 108, 97, 121, 47, 108, 97, 119, 115, 46, 70, 110, 87, 111, 114, 108, 100, 73, 110, 118, 97, 108, 105, 100] : List Nat).map Char.ofNat
def rj : List Char := dY ++ Char.ofNat 32 :: (dZ ++ Char.ofNat 32 :: (d7 ++ Char.ofNat 32 :: dN))
theorem dL : Tryz.prog.initOrder = String.ofList rj := by dsimp only [Tryz.prog, Tryz.progTables]; kernel_rfl
theorem cY : rj = dY ++ Char.ofNat 32 :: (dZ ++ Char.ofNat 32 :: (d7 ++ Char.ofNat 32 :: dN)) := rfl
theorem ax (w : List Char) (hw : w.all (fun c => c != Char.ofNat 32) = true) (r : List Char) : wordsSigns (w ++ Char.ofNat 32 :: r) = w :: wordsSigns r := by
 induction w with
 | nil => rfl
 | cons c w ih =>
  simp only [List.all_cons, Bool.and_eq_true, bne_iff_ne, ne_eq] at hw
  have h := ih hw.2
  rw [List.cons_append, wordsSigns.eq_3 _ _ (fun e => hw.1 e), h]
theorem iZ : behindMainWord (wordsSigns Tryz.prog.initOrder.toList) = "cut".toList :: wordsSigns dN := by
 rw [dL, String.toList_ofList, cY, ax dY (by kernel_rfl), ax dZ (by kernel_rfl), ax d7 (by kernel_rfl)]
 generalize wordsSigns dN = ws
 kernel_rfl
theorem ci : Tryz.prog.mayEnter = true := pE iZ (by kernel_rfl) (by kernel_rfl) (by kernel_rfl)
theorem cj : Tryz.prog.liftsFinal = false := mM iZ
theorem cM : Tryz.prog.make = some .cut := uP iZ
theorem du : ownKnob Tryz.prog.godebug = none := by kernel_rfl
theorem bS : laidOutB Tryz.prog = true := by kernel_rfl
def oU {α : Type} (P : Program) (T : Ty α) (t : TypeId) (fit : α → Prop) : Prop :=
 ∀ {H : Type} (enc : TypeId × Value → H) (w : World) (spare : Nat → Bool) (held : Bool) (fuel : Nat) (cs : List Value) (x : DataW H × List MemPlace),
  DataW.trod enc P w 0 spare held fuel t cs = some x → ∃ d F, T.E w cs d F ∧ fit d
section
variable {α : Type} {P : Program}
theorem sH {k : IntKind} {t : TypeId} (T : Ty Int) (hT : ∀ w n, T.E w [.int k n] n []) (ht : P.underlying t = some (.int k)) : oU P T t (fun n => (Lit.int k n).wf = true) := by
 intro H enc w spare held fuel cs x h
 obtain ⟨n, rfl, _, hn⟩ := DataW.trod_int ht h
 exact ⟨n, [], hT w n, hn⟩
theorem pK {T : Ty α} {t e : TypeId} {fit : α → Prop} (ho : oU P T e fit) (ht : P.underlying t = some (.slice e)) (hc : P.cellsOf e = T.k) (hk : 0 < T.k) : oU P T.sl t (fun xs => ∀ x ∈ xs, fit x) := by
 intro H enc w spare held fuel cs x h
 rcases open_slice ht h with ⟨rfl, _⟩ | ⟨a, len, cap, m, n, D, Pl, rfl, _, hlc, hcm, hm, _, hi⟩
 ·exact ⟨[], [], ⟨_, rfl, Sl.nil _ _ (by simp [maxLen])⟩, fun x hx => by cases hx⟩
 ·have hlm : len ≤ m := by rw [hm]; split <;> omega
  rw [hc] at hi
  have key : ∀ l, l ≤ len → ∃ (xs : List α) (F : List Nat) (css : List Value), xs.length = l ∧ T.els w css xs F ∧ (∀ x ∈ xs, fit x) ∧ ∀ j u, css[j]? = some u → w.cell? (a.add j) = some u := by
   intro l
   induction l with
   | zero => intro _; exact ⟨[], [], [], rfl, Ty.els_nil, (fun x hx => by cases hx), (fun j u hj => by cases hj)⟩
   | succ l ih =>
    intro hl
    obtain ⟨xs, F, css, h1, h2, h3, h4⟩ := ih (by omega)
    obtain ⟨cs', hcs, htr⟩ := hi l (by omega)
    obtain ⟨d, G, hE, hfit⟩ := ho enc w spare held n cs' _ htr
    obtain ⟨_, hcl, hat⟩ := World.cells?_some hcs
    refine ⟨xs ++ [d], F ++ G, css ++ cs', by simp [h1], Ty.els_append h2 (Ty.els_one hE), fun x hx => ?_, fun j u hj => ?_⟩
    ·rcases List.mem_append.1 hx with hx | hx
     ·exact h3 x hx
     ·rw [List.mem_singleton.1 hx]; exact hfit
    ·have hcl' := Ty.els_len h2
     rw [h1] at hcl'
     by_cases hjl : j < css.length
     ·rw [List.getElem?_append_left hjl] at hj; exact h4 j u hj
     ·rw [List.getElem?_append_right (by omega)] at hj
      have hj2 := (List.getElem?_eq_some_iff.1 hj).1
      have := hat (j - css.length) (by omega)
      rw [hj] at this
      rw [Deep.add_add] at this
      rw [show l * T.k + (j - css.length) = j from by omega] at this
      exact this
  obtain ⟨xs, F, css, h1, h2, h3, h4⟩ := key len (Nat.le_refl _)
  subst h1
  by_cases hx : xs = []
  ·subst hx
   exact ⟨[], [], ⟨_, rfl, Sl.nil _ _ hcm⟩, h3⟩
  ·have hl0 : 0 < css.length := by rw [Ty.els_len h2]; exact Nat.mul_pos (List.length_pos_iff.2 hx) hk
   have hc0 := h4 0 _ (List.getElem?_eq_getElem hl0)
   obtain ⟨b, o, s⟩ := a
   have hs : s = none := by
    cases s with
    | none => rfl
    | some s => simp [Addr.add, World.cell?] at hc0; split at hc0 <;> simp at hc0
   subst hs
   have hb : b < w.heap.size := by
    have := World.block_lt_of_cell? w _ hc0
    simpa [Addr.add] using this
   refine ⟨xs, b :: F, ⟨_, rfl, ⟨_, cap, css, rfl, hlc, hcm, .inr ⟨b, o, F, rfl, rfl, hx, hb, h2, fun j u hj => ?_⟩⟩⟩, h3⟩
   have := h4 j u hj
   rcases Nat.eq_zero_or_pos j with h | h
   ·subst h; simpa [Addr.add] using this
   ·simpa [Addr.add, Nat.ne_of_gt h] using this
end
theorem bG {α : Type} {T : Ty α} {t e : TypeId} {fit : List α → Prop} (ho : oU Tryz.prog T.sl t fit) (ht : Tryz.prog.underlying t = some (.slice e)) {H : Type} {enc : TypeId × Value → H} {W : World} {base : Nat} {spare : Nat → Bool} {held : Bool} {v : Value} {d : DataW H} {p : List MemPlace}
  (hv : Value.okWide Tryz.prog W .any base t v) (h : DataW.Trod enc Tryz.prog W 0 spare held t v d p) : ∃ xs, SlB T W.heap.size W v xs ∧ fit xs := by
 obtain ⟨a, l, c, rfl⟩ := okWide_slice ht hv
 obtain ⟨fuel, hf⟩ := h
 obtain ⟨xs, F, ⟨v', hv', hs⟩, hfit⟩ := ho enc W spare held fuel _ _ hf
 simp [Value.cells] at hv'
 subst hv'
 exact ⟨xs, ⟨F, hs, hs.lt⟩, hfit⟩
theorem aZ : oU Tryz.prog cR.sl 22 (fun xs => ∀ x ∈ xs, (Lit.int .u8 x).wf = true) :=
 pK (sH cR (fun _ _ => ⟨rfl, rfl⟩) Tryz.underlying5) Tryz.underlying22 (by kernel_rfl) (by decide)
end
section
open Go.ChangeShapes Go.WideShapes Go.ChangeAt Go.Deep
def bN : List (String × DataW Unit) := [("errors.errorType", Rows.laid_errors_errorType)]
theorem g_et : Tryz.prog.globalNamed "errors.errorType" = some 0 := by kernel_rfl
theorem g_rt : (Tryz.prog.cutTypes.find? (·.1 == "internal/reflectlite.rtype")).map (·.2) = some 165 := by kernel_rfl
theorem tC : ((List.range 218).filter fun t => Tryz.prog.rowNamed t [101, 114, 114, 111, 114]) = [110] := by kernel_rfl
theorem vS : Tryz.prog.types.size = 218 := by kernel_rfl
def kG (W : World) : Prop := W.cell? ⟨0, 0, none⟩ = some (.iface 165 (.agg #[.pointer (some ⟨1, 110, none⟩)]))
theorem bi {W : World} (h : laidMetH Tryz.prog bN W) : kG W := by
 have h' : laidMet Tryz.prog [] W ∧ handlesMet Tryz.prog bN W := h
 obtain ⟨name, u, ty, e1, e2, e3, e4, e5⟩ := h'.2 _ (List.mem_singleton.2 rfl)
 have en : name = [101, 114, 114, 111, 114] := (Option.some.inj e1).symm
 subst en
 obtain rfl := Option.some.inj (g_rt.symm.trans e2)
 have hm : ty ∈ (List.range 218).filter fun t => Tryz.prog.rowNamed t [101, 114, 114, 111, 114] := List.mem_filter.2 ⟨List.mem_range.2 (by rw [← vS]; exact e3), e4⟩
 rw [tC] at hm
 obtain rfl := List.mem_singleton.1 hm
 have hh : typeHandle Tryz.prog 110 = .pointer (some ⟨1, 110, none⟩) := by kernel_rfl
 rw [hh] at e5
 have := World.var?_cell g_et e5 0
 unfold kG
 simpa using this
noncomputable def cG (os : Os) : World :=
 let w0 := World.holding Tryz.prog os ⟨#[], #[], []⟩
 { w0 with heap := w0.heap.modify 0 fun
   | .cells _ t frozen => .cells #[.iface 165 (.agg #[.pointer (some ⟨1, 110, none⟩)])] t frozen
   | o => o }
theorem bx (os : Os) (args : Array Value) : laidMetH Tryz.prog bN ((cG os).forCall (fun _ _ => 0) ⟨#[], args, []⟩).memory :=
 laidMetH_of_parts (laidMet_nil _ _) (by kernel_rfl)
end
end Go.Proofs.YtolgbefghbddeaaGreatDoor
