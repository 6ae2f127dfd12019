/- Texts that the last file leans on (part 38). -/
import Derived.ChangeSame
import Derived.ChangeVars
import Derived.Deep.Slices
import Derived.JoinedOf
import Derived.KernelRfl
import Derived.LaidHandle
import Derived.LaidLaws
import Derived.OpenShut
import Derived.ProofKit
import Derived.RowKitTokens
import Derived.Stop.Joined
import Derived.Test.YtfmibcofgckldaaGreatDoorCards
import Derived.Test.YtfmibcofgckldaaGreatDoorM0
import Derived.Test.YtfmibcofgckldaaGreatDoorM12
import Derived.Test.YtfmibcofgckldaaGreatDoorRows
import Derived.Test.YtfmibcofgckldaaGreatDoorTie
import Derived.WalkKit
set_option linter.unusedVariables false
set_option linter.unusedSimpArgs false
set_option maxHeartbeats 4000000
set_option maxRecDepth 100000
namespace Go.Proofs.YtfmibcofgckldaaGreatDoor
open Go Go.RowKit
theorem yf (evs : List Ev) : ∀ l ∈ (b6 evs).got, l ∈ (b6 evs).sent := by
 obtain ⟨g, h⟩ := ln evs
 exact h.got
theorem xG (evs : List Ev) : (b6 evs).got.Nodup ∧ (b6 evs).got.length ≤ (b6 evs).sent.length := by
 obtain ⟨g, h⟩ := ln evs
 exact ⟨rd h, xV (rd h) h.got⟩
theorem VD.alike {d : Nat} {x : Wd} (h : VD d x) {t : Tr} (ht : t ∈ x.net) : t.pk.hd.length = 9 ∧ t.pk.bd.length = 6 := by
 obtain ⟨_, ⟨a, _⟩, ⟨b, _⟩, _⟩ := aw.1 (ct.1 (bH.1 h.nt t ht)).2
 exact ⟨a, b⟩
theorem rl {x : Wd} (h : VD 0 x) (e : Ev) : stepW x e = doW x e := by unfold stepW; rw [mm.2 h]; rfl
theorem wH {x : Wd} {i : Nat} {t : Tr} (h : VD 0 x) (ht : x.net[i]? = some t) (b c : Int) : stepW x ⟨2, i, b, c⟩ = dN (ba x (x.net.eraseIdx i)) t := by
 rw [rl h]
 unfold doW
 rw [if_neg (by simp), if_pos (.inl rfl)]
 unfold eE
 rw [if_neg (by dsimp only; omega)]
 dsimp only
 rw [Int.toNat_natCast, ht]
 simp
theorem pn {x : Wd} {k : Nat} {m : Mx} (h : x.mixes[k]? = some m) : bo x k m = x := by unfold bo; rw [sO h]
theorem xJ {evs : List Ev} {i : Nat} {t : Tr} (ht : (b6 evs).net[i]? = some t) (hc : t.ch = true) (b c : Int) :
  stepW (b6 evs) ⟨2, i, b, c⟩ = bU (ba (b6 evs) ((b6 evs).net.eraseIdx i)) := by
 have v := vT evs
 obtain ⟨g, h⟩ := ln evs
 rw [wH v ht]
 generalize b6 evs = x at *
 have htm := List.mem_of_getElem? ht
 obtain ⟨hmx, hpk⟩ := ct.1 (bH.1 v.nt t htm)
 have hmx' := ar.1 hmx
 obtain ⟨m, hm1, hm2, hm3, hm4⟩ := eG v.mix (k := t.mix.toNat) (by omega)
 obtain ⟨l, _, ms, p, hR, _, _, hch⟩ := h.net t htm
 obtain ⟨k, hk, hkp⟩ := hch hc
 have hp : pkB p = true ∧ ∃ y, aP (bm t.mix.toNat) p = some y := by
  cases ms with
  | nil => obtain ⟨_, _, h1, q, h2, _⟩ := hR; exact ⟨h1, _, h2⟩
  | cons m2 ms => obtain ⟨h1, q, h2, _⟩ := hR; exact ⟨h1, _, h2⟩
 obtain ⟨hpb, y, hy⟩ := hp
 have hn : aP m.sec t.pk = none := by rw [hm4, hkp]; exact chg_none hk hpb hy
 have e : (ba x (x.net.eraseIdx i)).mixes.getD t.mix.toNat kT = m := hm2
 unfold dN
 dsimp only
 rw [e, show bD m t.pk = (m, 2) by unfold bD; rw [hn]]
 rw [if_neg (by simp), pn (by exact hm1)]
theorem x6 (m : Mx) (p : Pk) : (bD (bD m p).1 p).2 ≠ 0 ∧ (bD (bD m p).1 p).1 = (bD m p).1 := by
 cases hp : aP m.sec p with
 | none =>
  have e : bD m p = (m, 2) := by unfold bD; rw [hp]
  rw [e]; dsimp only; rw [e]
  exact ⟨by simp, rfl⟩
 | some y =>
  by_cases hs : ak m.sec p.el ∈ m.seen
  ·have e : bD m p = (m, 1) := by unfold bD; rw [hp]; dsimp only; rw [if_pos hs]
   rw [e]; dsimp only; rw [e]
   exact ⟨by simp, rfl⟩
  ·by_cases hf : 12 ≤ m.seen.length ∨ 5 ≤ m.pool.length
   ·have e : bD m p = (m, 3) := by unfold bD; rw [hp]; dsimp only; rw [if_neg hs, if_pos hf]
    rw [e]; dsimp only; rw [e]
    exact ⟨by simp, rfl⟩
   ·have e : bD m p = (⟨m.sec, m.seen ++ [ak m.sec p.el], m.pool ++ [y]⟩, 0) := by unfold bD; rw [hp]; dsimp only; rw [if_neg hs, if_neg hf]
    rw [e]
    dsimp only
    have e2 : bD ⟨m.sec, m.seen ++ [ak m.sec p.el], m.pool ++ [y]⟩ p = (⟨m.sec, m.seen ++ [ak m.sec p.el], m.pool ++ [y]⟩, 1) := by
     unfold bD
     dsimp only
     rw [hp]
     dsimp only
     rw [if_pos (by simp)]
    rw [e2]
    exact ⟨by simp, rfl⟩
theorem yt (x : Wd) (e : Ev) : (doW x e).made ≤ x.made + 1 ∧ x.made ≤ (doW x e).made := by
 have hput : ∀ (x : Wd) m p c, (cS x m p c).made = x.made := fun x m p c => (x8 x m p c).2.1
 unfold doW
 split
 ·unfold cU
  split
  ·rw [hput]; dsimp only; omega
  ·omega
 ·split
  ·unfold eE
   split
   ·omega
   ·split
    ·omega
    ·split
     ·split
      ·rw [hput]; dsimp only; omega
      ·omega
     ·split
      ·unfold eD; split <;> simp [ba] <;> omega
      ·split
       ·simp [bU, ba]; omega
       ·rw [(xL _ _).2.1]; simp [ba]; omega
  ·split
   ·rw [(p9 _ _ _).2.1]; omega
   ·omega
theorem ye (evs : List Ev) : (b6 evs).made ≤ evs.length := by
 have : ∀ (l : List Ev) (x : Wd), (l.foldl doW x).made ≤ x.made + l.length := fun l => by
  induction l with
  | nil => intro x; simp
  | cons e l ih =>
   intro x
   have h1 := ih (doW x e)
   have h2 := (yt x e).1
   simp only [List.foldl_cons, List.length_cons]
   omega
 have := this evs vG
 simpa [b6, vG] using this
theorem xP {evs : List Ev} {t : Tr} (hl : evs.length ≤ 80) (ht : (b6 evs).net[0]? = some t) (hn : (b6 evs).net.length ≠ 10) :
  ∃ x y z, stepW (b6 evs) ⟨4, 0, 0, 0⟩ = x ∧ stepW x ⟨2, ((b6 evs).net.length : Int), 0, 0⟩ = y ∧ stepW y ⟨2, 0, 0, 0⟩ = z ∧ VD 0 x ∧ VD 0 y ∧ VD 0 z ∧
   x.made = (b6 evs).made + 1 ∧ z.lost = y.lost + 1 ∧ aY z.mixes = aY y.mixes := by
 have v := vT evs
 have hmd := ye evs
 generalize b6 evs = x0 at *
 have htm := List.mem_of_getElem? ht
 have hb := bH.1 v.nt t htm
 obtain ⟨hmx, hpk⟩ := ct.1 hb
 have hmx' := ar.1 hmx
 have hnn := v.nn
 have e1 : stepW x0 ⟨4, 0, 0, 0⟩ = ⟨x0.mixes, x0.sent, x0.net ++ [t], x0.got, x0.made + 1, x0.lost⟩ := by
  rw [rl v]
  unfold doW
  rw [if_neg (by simp), if_pos (.inr (.inr (.inl rfl)))]
  unfold eE
  rw [if_neg (by dsimp only; omega)]
  dsimp only
  rw [show (0 : Int).toNat = 0 from rfl, ht]
  dsimp only
  rw [if_pos rfl, if_pos ⟨by omega, by omega⟩]
  unfold cS
  rw [if_neg (by
   rintro (h | h)
   ·dsimp only at h; omega
   ·rw [hmx] at h; cases h)]
  rfl
 have v1 : VD 0 (stepW x0 ⟨4, 0, 0, 0⟩) := by rw [rl v]; exact v.do_ _
 rw [e1] at v1
 have hg : (⟨x0.mixes, x0.sent, x0.net ++ [t], x0.got, x0.made + 1, x0.lost⟩ : Wd).net[x0.net.length]? = some t := by simp
 have e2 := wH v1 hg 0 0
 rw [show (ba ⟨x0.mixes, x0.sent, x0.net ++ [t], x0.got, x0.made + 1, x0.lost⟩ ((x0.net ++ [t]).eraseIdx x0.net.length)) = ⟨x0.mixes, x0.sent, x0.net, x0.got, x0.made + 1, x0.lost⟩ by unfold ba; simp [List.eraseIdx_append_of_length_le (Nat.le_refl _)]] at e2
 obtain ⟨y, hy⟩ : ∃ y, y = dN ⟨x0.mixes, x0.sent, x0.net, x0.got, x0.made + 1, x0.lost⟩ t := ⟨_, rfl⟩
 rw [← hy] at e2
 have v2 : VD 0 y := by rw [← e2, rl v1]; exact v1.do_ _
 have hyn : y.net = x0.net := by rw [hy, hear_net]
 have e3 := wH v2 (i := 0) (t := t) (by rw [hyn]; exact ht) 0 0
 have v3 : VD 0 (stepW y ⟨2, ((0 : Nat) : Int), 0, 0⟩) := by rw [rl v2]; exact v2.do_ _
 obtain ⟨m, hm1, hm2, hm3, hm4⟩ := eG v.mix (k := t.mix.toNat) (by omega)
 have hym : y.mixes = x0.mixes.set t.mix.toNat (bD m t.pk).1 := by
  rw [hy]
  unfold dN
  dsimp only
  rw [hm2]
  split <;> rfl
 have hyg : y.mixes[t.mix.toNat]? = some (bD m t.pk).1 := by
  rw [hym, List.getElem?_set_self (List.getElem?_eq_some_iff.1 hm1).1]
 have hyD : (ba y (y.net.eraseIdx 0)).mixes.getD t.mix.toNat kT = (bD m t.pk).1 := by
  show y.mixes.getD _ _ = _
  rw [List.getD_eq_getElem?_getD, hyg]; rfl
 obtain ⟨t1, t2⟩ := x6 m t.pk
 have e4 : dN (ba y (y.net.eraseIdx 0)) t = bU (ba y (y.net.eraseIdx 0)) := by
  unfold dN
  dsimp only
  rw [hyD, if_neg t1, t2, pn (by exact hyg)]
 exact ⟨_, y, _, e1, e2, e3, v1, v2, by rw [← e3]; exact v3, rfl, by rw [e4]; rfl, by rw [e4]; rfl⟩
theorem xC (evs : List Ev) : (calmW (b6 evs)).net = [] ∧ aY (calmW (b6 evs)).mixes = 0 ∧ (calmW (b6 evs)).got.length + (calmW (b6 evs)).lost = (calmW (b6 evs)).made ∧ (calmW (b6 evs)).made = (b6 evs).made := by
 have v := vT evs
 obtain ⟨g, h⟩ := ln evs
 obtain ⟨_, _, _, hb⟩ := xe h v
 obtain ⟨h1, h2⟩ := yF hb
 refine ⟨h1, h2, ?_, (xF 60 _).2.1⟩
 have hc := (calm_ok v).cnt
 unfold dl at hc
 rw [h1] at hc
 simp at hc
 omega
theorem yi (evs : List Ev) : ((calmW (b6 evs)).lost = 0 → (∀ l ∈ (calmW (b6 evs)).sent, l ∈ (calmW (b6 evs)).got) ∧ (calmW (b6 evs)).got.length = (calmW (b6 evs)).sent.length) ∧ (0 < (calmW (b6 evs)).lost → ((calmW (b6 evs)).got.length : Int) < (calmW (b6 evs)).made) := by
 have v := vT evs
 obtain ⟨g, h⟩ := ln evs
 obtain ⟨a, b, hi, hb⟩ := xe h v
 refine ⟨fun hl => ?_, fun hl => ?_⟩
 ·have hw := xR hi hb hl
  exact ⟨hw, Nat.le_antisymm (xV (rd hi) hi.got) (xV (xZ (calm_ok v).st) hw)⟩
 ·have := (xC evs).2.2.1
  omega
theorem yc (evs : List Ev) : (∀ l ∈ (calmW (b6 evs)).got, l ∈ (calmW (b6 evs)).sent) ∧ (calmW (b6 evs)).got.Nodup ∧ ∃ l, (calmW (b6 evs)).got = (b6 evs).got ++ l := by
 have v := vT evs
 obtain ⟨g, h⟩ := ln evs
 obtain ⟨a, b, hi, _⟩ := xe h v
 exact ⟨hi.got, rd hi, (xF 60 _).2.2⟩
theorem lg (evs : List Ev) : calmW (calmW (b6 evs)) = calmW (b6 evs) ∧ VD 0 (calmW (b6 evs)) := by
 have v := vT evs
 obtain ⟨g, h⟩ := ln evs
 exact ⟨xQ h v, calm_ok v⟩
section
open Go.ChangeShapes Go.WideShapes Go.ChangeAt Go.Deep
theorem kX (ws : List (List Char)) : stripLifts liftWords ("cut".toList :: ws) = ([], "cut".toList :: ws) := by kernel_rfl
theorem pE : ("cut".toList == "gc".toList) = false := by kernel_rfl
theorem pF : ("cut".toList == "spec".toList) = false := by kernel_rfl
theorem tp : ("cut".toList == "carried".toList) = false := by kernel_rfl
theorem mY {P : Program} {ws : List (List Char)} (h : behindMainWord (wordsSigns P.initOrder.toList) = "cut".toList :: ws) (h1 : P.laysLater = false) (h2 : P.bearsReflect = false) (h3 : P.doorFits [] = true) : P.mayEnter = true := by
 unfold Program.mayEnter
 rw [h]
 simp only [kX, pE, pF, tp, h1, h2, h3, List.head?_cons, List.contains_nil, Bool.false_and, Bool.false_or, Bool.not_false, Bool.and_true, beq_self_eq_true]
theorem lM {P : Program} {ws : List (List Char)} (h : behindMainWord (wordsSigns P.initOrder.toList) = "cut".toList :: ws) : P.headLifts = [] := by
 unfold Program.headLifts
 rw [h]
 simp only [kX, List.head?_cons, beq_self_eq_true, if_true]
theorem kJ {P : Program} {ws : List (List Char)} (h : behindMainWord (wordsSigns P.initOrder.toList) = "cut".toList :: ws) : P.liftsFinal = false := by
 unfold Program.liftsFinal
 simp only [h, lM h, List.head?_cons, List.contains_nil, Bool.or_false]
 rw [show (some "cut".toList == some "carried".toList) = false from by kernel_rfl]
 rfl
theorem tG {P : Program} {ws : List (List Char)} (h : behindMainWord (wordsSigns P.initOrder.toList) = "cut".toList :: ws) : P.make = some .cut := by
 unfold Program.make
 rw [h]
 simp only [pE, pF, Bool.or_false, beq_self_eq_true, Bool.true_or, if_true, Bool.false_eq_true, if_false]
def rF : List Char := ([104, 97, 114, 110, 101, 115, 115] : List Nat).map Char.ofNat
def rG : List Char := ([102, 54, 97, 51, 49, 55, 97, 50, 51, 100, 100, 49, 101, 101, 56, 99, 48, 57, 97, 55, 54, 56, 100, 97, 54, 54, 101, 102, 99, 102, 98, 97, 102, 51, 98, 48, 55, 56, 98, 50, 53, 50, 57, 102, 98, 98, 53, 99, 97, 101, 99, 52, 49, 55, 50, 99, 100, 51, 51, 100, 49, 102, 55, 55] : List Nat).map Char.ofNat
def rH : List Char := ([99, 117, 116] : List Nat).map Char.ofNat
def oy : List Char := ([97, 116, 32, 108, 111, 111, 112, 46, 101, 120, 97, 109, 112, 108, 101, 47, 109, 105, 120, 114, 101, 108, 97, 121, 47, 108, 97, 119, 115, 46, 70, 110, 87, 111, 114, 108, 100, 83, 101, 110, 116, 32, 108, 111, 111, 112, 46, 101, 120, 97, 109, 112, 108, 101, 47, 109, 105, 120, 114, 101, 108, 97, 121, 47, 108, 97, 119, 115, 46, 70, 110, 87, 111, 114, 108, 100, 79, 110, 99, 101, 32, 108, 111, 111, 112, 46, 101, 120, 97, 109, 112, 108, 101, 47, 109, 105, 120, 114, 101, 108, 97, 121, 47, 108, 97, 119, 115, 46, 70, 110, 87, 111, 114, 108, 100, 65, 108, 105, 107, 101, 32, 108, 111, 111, 112, 46, 101, 120, 97, 109, 112, 108, 101, 47, 109, 105, 120, 114, 101, 108, 97, 121, 47, 108, 97, 119, 115, 46, 70, 110, 87, 111, 114, 108, 100, 67, 104, 97, 110, 103, 101, 100, 32, 108, 111, 111, 112, 46, 101, 120, 97, 109, 112, 108, 101, 47, 109, 105, 120, 114, 101, 108, 97, 121, 47, 108, 97, 119, 115, 46, 70, 110, 87, 111, 114, 108, 100, 82, 101, 112, 108, 97, 121, 32, 108, 111, 111, 112, 46, 101, 120, 97, 109, 112, 108, 101, 47, 109, 105, 120, 114, 101, 108, 97, 121, 47, 108, 97, 119, 115, 46, 70, 110, 67, 97, 108, 109, 69, 109, 112, 116, 121, 32, 108, 111, 111, 112, 46, 101, 120, 97, 109, 112, 108, 101, 47, 109, 105, 120, 114, 101, 108, 97, 121, 47, 108, 97, 119, 115, 46, 70, 110, 67, 97, 108, 109, 87, 104, 111, 108, 101, 32, 108, 111, 111, 112, 46, 101, 120, 97, 109, 112, 108, 101, 47, 109, 105, 120, 114, 101, 108, 97, 121, 47, 108, 97, 119, 115, 46, 70, 110, 67, 97, 108, 109, 79, 110, 99, 101, 32, 108, 111, 111, 112, 46, 101, 120, 97, 109, 112, 108, 101, 47, 109, 105, 120, 114, 101, 108, 97, 121, 47, 108, 97, 119, 115, 46, 70, 110, 67, 97, 108, 109, 84, 119, 105, 99, 101] : List Nat).map Char.ofNat
def pG : List Char := ([104, 97, 114, 110, 101, 115, 115, 32, 102, 54, 97, 51, 49, 55, 97, 50, 51, 100, 100, 49, 101, 101, 56, 99, 48, 57, 97, 55, 54, 56, 100, 97, 54, 54, 101, 102, 99, 102, 98, 97, 102, 51, 98, 48, 55, 56, 98, 50, 53, 50, 57, 102, 98, 98, 53, 99, 97, 101, 99, 52, 49, 55, 50, 99, 100, 51, 51, 100, 49, 102, 55, 55, 32, 99, 117, 116, 32, 97, 116, 32, 108, 111, 111, 112, 46, 101, 120, 97, 109, 112, 108, 101, 47, 109, 105, 120, 114, 101, 108, 97, 121, 47, 108, 97, 119, 115, 46, 70, 110, 87, 111, 114, 108, 100, 83, 101, 110, 116, 32, 108, 111, 111, 112, 46, 101, 120, 97, 109, 112, 108, 101, 47, 109, 105, 120, 114, 101, 108, 97, 121, 47, 108, 97, 119, 115, 46, 70, 110, 87, 111, 114, 108, 100, 79, 110, 99, 101, 32, 108, 111, 111, 112, 46, 101, 120, 97, 109, 112, 108, 101, 47, 109, 105, 120, 114, 101, 108, 97, 121, 47, 108, 97, 119, 115, 46, 70, 110, 87, 111, 114, 108, 100, 65, 108, 105, 107, 101, 32, 108, 111, 111, 112, 46, 101, 120, 97, 109, 112, 108, 101, 47, 109, 105, 120, 114, 101, 108, 97, 121, 47, 108, 97, 119, 115, 46, 70, 110, 87, 111, 114, 108, 100, 67, 104, 97, 110, 103, 101, 100, 32, 108, 111, 111, 112, 46, 101, 120, 97, 109, 112, 108, 101, 47, 109, 105, 120, 114, 101, 108, 97, 121, 47, 108, 97, 119, 115, 46, 70, 110, 87, 111, 114, 108, 100, 82, 101, 112, 108, 97, 121, 32, 108, 111, 111, 112, 46, 101, 120, 97, 109, 112, 108, 101, 47, 109, 105, 120, 114, 101, 108, 97, 121, 47, 108, 97, 119, 115, 46, 70, 110, 67, 97, 108, 109, 69, 109, 112, 116, 121, 32, 108, 111, 111, 112, 46, 101, 120, 97, 109, 112, 108, 101, 47, 109, 105, 120, 114, 101, 108, 97, 121, 47, 108, 97, 119, 115, 46, 70, 110, 67, 97, 108, 109, 87, 104, 111, 108, 101, 32, 108, 111, 111, 112, 46, 101, 120, 97, 109, 112, 108, 101, 47, 109, 105, 120, 114, 101, 108, 97, 121, 47, 108, 97, 119, 115, 46, 70, 110, 67, 97, 108, 109, 79, 110, 99, 101, 32, 108, 111, 111, 112, 46, 101, 120, 97, 109, 112, 108, 101, 47, 109, 105, 120, 114, 101, 108, 97, 121, 47, 108, 97, 119, 115, 46, 70, 110, 67, 97, 108, 109, 84, 119, 105, 99, 101] : List Nat).map Char.ofNat
theorem tx : Tryz.prog.initOrder = String.ofList pG := by dsimp only [Tryz.prog, Tryz.progTables]; kernel_rfl
theorem rI : pG = rF ++ Char.ofNat 32 :: (rG ++ Char.ofNat 32 :: (rH ++ Char.ofNat 32 :: oy)) := by kernel_rfl
theorem gW (w : List Char) (hw : w.all (fun c => c != Char.ofNat 32) = true) (r : List Char) : wordsSigns (w ++ Char.ofNat 32 :: r) = w :: wordsSigns r := by
 induction w with
 | nil => rfl
 | cons c w ih =>
  simp only [List.all_cons, Bool.and_eq_true, bne_iff_ne, ne_eq] at hw
  have h := ih hw.2
  rw [List.cons_append, wordsSigns.eq_3 _ _ (fun e => hw.1 e), h]
theorem gM : behindMainWord (wordsSigns Tryz.prog.initOrder.toList) = "cut".toList :: wordsSigns oy := by
 rw [tx, String.toList_ofList, rI, gW rF (by kernel_rfl), gW rG (by kernel_rfl), gW rH (by kernel_rfl)]
 generalize wordsSigns oy = ws
 kernel_rfl
theorem oo : Tryz.prog.mayEnter = true := mY gM (by kernel_rfl) (by kernel_rfl) (by kernel_rfl)
theorem ot : Tryz.prog.liftsFinal = false := kJ gM
theorem ql : Tryz.prog.make = some .cut := tG gM
theorem su : ownKnob Tryz.prog.godebug = none := by kernel_rfl
theorem mU : laidOutB Tryz.prog = true := by kernel_rfl
def cT {α : Type} (P : Program) (T : Ty α) (t : TypeId) (fit : α → Prop) : Prop :=
 ∀ {H : Type} (enc : TypeId × Value → H) (w : World) (spare : Nat → Bool) (held : Bool) (fuel : Nat) (cs : List Value) (x : DataW H × List MemPlace),
  DataW.trod enc P w 0 spare held fuel t cs = some x → ∃ d F, T.E w cs d F ∧ fit d
section
variable {α : Type} {P : Program}
theorem ly {k : IntKind} {t : TypeId} (T : Ty Int) (hT : ∀ w n, T.E w [.int k n] n []) (ht : P.underlying t = some (.int k)) : cT P T t (fun n => (Lit.int k n).wf = true) := by
 intro H enc w spare held fuel cs x h
 obtain ⟨n, rfl, _, hn⟩ := DataW.trod_int ht h
 exact ⟨n, [], hT w n, hn⟩
theorem iU {T : Ty α} {t e : TypeId} {fit : α → Prop} (ho : cT P T e fit) (ht : P.underlying t = some (.slice e)) (hc : P.cellsOf e = T.k) (hk : 0 < T.k) : cT P T.sl t (fun xs => ∀ x ∈ xs, fit x) := by
 intro H enc w spare held fuel cs x h
 rcases open_slice ht h with ⟨rfl, _⟩ | ⟨a, len, cap, m, n, D, Pl, rfl, _, hlc, hcm, hm, _, hi⟩
 ·exact ⟨[], [], ⟨_, rfl, Sl.nil _ _ (by simp [maxLen])⟩, fun x hx => by cases hx⟩
 ·have hlm : len ≤ m := by rw [hm]; split <;> omega
  rw [hc] at hi
  have key : ∀ l, l ≤ len → ∃ (xs : List α) (F : List Nat) (css : List Value), xs.length = l ∧ T.els w css xs F ∧ (∀ x ∈ xs, fit x) ∧ ∀ j u, css[j]? = some u → w.cell? (a.add j) = some u := by
   intro l
   induction l with
   | zero => intro _; exact ⟨[], [], [], rfl, Ty.els_nil, (fun x hx => by cases hx), (fun j u hj => by cases hj)⟩
   | succ l ih =>
    intro hl
    obtain ⟨xs, F, css, h1, h2, h3, h4⟩ := ih (by omega)
    obtain ⟨cs', hcs, htr⟩ := hi l (by omega)
    obtain ⟨d, G, hE, hfit⟩ := ho enc w spare held n cs' _ htr
    obtain ⟨_, hcl, hat⟩ := World.cells?_some hcs
    refine ⟨xs ++ [d], F ++ G, css ++ cs', by simp [h1], Ty.els_append h2 (Ty.els_one hE), fun x hx => ?_, fun j u hj => ?_⟩
    ·rcases List.mem_append.1 hx with hx | hx
     ·exact h3 x hx
     ·rw [List.mem_singleton.1 hx]; exact hfit
    ·have hcl' := Ty.els_len h2
     rw [h1] at hcl'
     by_cases hjl : j < css.length
     ·rw [List.getElem?_append_left hjl] at hj; exact h4 j u hj
     ·rw [List.getElem?_append_right (by omega)] at hj
      have hj2 := (List.getElem?_eq_some_iff.1 hj).1
      have := hat (j - css.length) (by omega)
      rw [hj] at this
      rw [Deep.add_add] at this
      rw [show l * T.k + (j - css.length) = j from by omega] at this
      exact this
  obtain ⟨xs, F, css, h1, h2, h3, h4⟩ := key len (Nat.le_refl _)
  subst h1
  by_cases hx : xs = []
  ·subst hx
   exact ⟨[], [], ⟨_, rfl, Sl.nil _ _ hcm⟩, h3⟩
  ·have hl0 : 0 < css.length := by rw [Ty.els_len h2]; exact Nat.mul_pos (List.length_pos_iff.2 hx) hk
   have hc0 := h4 0 _ (List.getElem?_eq_getElem hl0)
   obtain ⟨b, o, s⟩ := a
   have hs : s = none := by
    cases s with
    | none => rfl
    | some s => simp [Addr.add, World.cell?] at hc0; split at hc0 <;> simp at hc0
   subst hs
   have hb : b < w.heap.size := by
    have := World.block_lt_of_cell? w _ hc0
    simpa [Addr.add] using this
   refine ⟨xs, b :: F, ⟨_, rfl, ⟨_, cap, css, rfl, hlc, hcm, .inr ⟨b, o, F, rfl, rfl, hx, hb, h2, fun j u hj => ?_⟩⟩⟩, h3⟩
   have := h4 j u hj
   rcases Nat.eq_zero_or_pos j with h | h
   ·subst h; simpa [Addr.add] using this
   ·simpa [Addr.add, Nat.ne_of_gt h] using this
end
theorem vW {α : Type} {T : Ty α} {t e : TypeId} {fit : List α → Prop} (ho : cT Tryz.prog T.sl t fit) (ht : Tryz.prog.underlying t = some (.slice e)) {H : Type} {enc : TypeId × Value → H} {W : World} {base : Nat} {spare : Nat → Bool} {held : Bool} {v : Value} {d : DataW H} {p : List MemPlace}
  (hv : Value.okWide Tryz.prog W .any base t v) (h : DataW.Trod enc Tryz.prog W 0 spare held t v d p) : ∃ xs, SlB T W.heap.size W v xs ∧ fit xs := by
 obtain ⟨a, l, c, rfl⟩ := okWide_slice ht hv
 obtain ⟨fuel, hf⟩ := h
 obtain ⟨xs, F, ⟨v', hv', hs⟩, hfit⟩ := ho enc W spare held fuel _ _ hf
 simp [Value.cells] at hv'
 subst hv'
 exact ⟨xs, ⟨F, hs, hs.lt⟩, hfit⟩
theorem fa : cT Tryz.prog g8.sl 22 (fun xs => ∀ x ∈ xs, (Lit.int .u8 x).wf = true) :=
 iU (ly g8 (fun _ _ => ⟨rfl, rfl⟩) Tryz.underlying5) Tryz.underlying22 (by kernel_rfl) (by decide)
end
section
open Go.ChangeShapes Go.WideShapes Go.ChangeAt Go.Deep
def lh : List (String × DataW Unit) := [("errors.errorType", Rows.laid_errors_errorType)]
theorem g_et : Tryz.prog.globalNamed "errors.errorType" = some 0 := by kernel_rfl
theorem g_rt : (Tryz.prog.cutTypes.find? (·.1 == "internal/reflectlite.rtype")).map (·.2) = some 155 := by kernel_rfl
theorem rB : ((List.range 210).filter fun t => Tryz.prog.rowNamed t [101, 114, 114, 111, 114]) = [96] := by kernel_rfl
theorem uL : Tryz.prog.types.size = 210 := by kernel_rfl
def uE (W : World) : Prop := W.cell? ⟨0, 0, none⟩ = some (.iface 155 (.agg #[.pointer (some ⟨1, 96, none⟩)]))
theorem jz {W : World} (h : laidMetH Tryz.prog lh W) : uE W := by
 have h' : laidMet Tryz.prog [] W ∧ handlesMet Tryz.prog lh W := h
 obtain ⟨name, u, ty, e1, e2, e3, e4, e5⟩ := h'.2 _ (List.mem_singleton.2 rfl)
 have en : name = [101, 114, 114, 111, 114] := (Option.some.inj e1).symm
 subst en
 obtain rfl := Option.some.inj (g_rt.symm.trans e2)
 have hm : ty ∈ (List.range 210).filter fun t => Tryz.prog.rowNamed t [101, 114, 114, 111, 114] := List.mem_filter.2 ⟨List.mem_range.2 (by rw [← uL]; exact e3), e4⟩
 rw [rB] at hm
 obtain rfl := List.mem_singleton.1 hm
 have hh : typeHandle Tryz.prog 96 = .pointer (some ⟨1, 96, none⟩) := by kernel_rfl
 rw [hh] at e5
 have := World.var?_cell g_et e5 0
 unfold uE
 simpa using this
noncomputable def lj (os : Os) : World :=
 let w0 := World.holding Tryz.prog os ⟨#[], #[], []⟩
 { w0 with heap := w0.heap.modify 0 fun
   | .cells _ t frozen => .cells #[.iface 155 (.agg #[.pointer (some ⟨1, 96, none⟩)])] t frozen
   | o => o }
theorem kH (os : Os) (args : Array Value) : laidMetH Tryz.prog lh ((lj os).forCall (fun _ _ => 0) ⟨#[], args, []⟩).memory :=
 laidMetH_of_parts (laidMet_nil _ _) (by kernel_rfl)
end
end Go.Proofs.YtfmibcofgckldaaGreatDoor
