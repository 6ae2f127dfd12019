/- Texts that the last file leans on (part 4). -/
import Derived.Test.YtfmibcofgckldaaGreatDoorM1
import Derived.Test.YtfmibcofgckldaaGreatDoorM2
import Derived.Test.YtfmibcofgckldaaGreatDoorM3
set_option linter.unusedVariables false
set_option linter.unusedSimpArgs false
set_option maxHeartbeats 4000000
set_option maxRecDepth 100000
namespace Go.Proofs.YtfmibcofgckldaaGreatDoor
open Go Go.RowKit
theorem lw (a b : Int) : ak a b = ak b a := by unfold ak; rw [Int.mul_comm]
theorem fk (a b c : Int) : ak (ak a b) c = ak a (ak b c) := by
 unfold ak
 conv => lhs; rw [Int.mul_emod, Int.emod_emod_of_dvd _ (Int.dvd_refl _), ← Int.mul_emod]
 conv => rhs; rw [Int.mul_emod, Int.emod_emod_of_dvd _ (Int.dvd_refl _), ← Int.mul_emod]
 rw [Int.mul_assoc]
theorem eS (s x : Int) : ak s (ak x 5) = ak x (ak s 5) := by
 rw [← fk, lw s x, fk]
theorem lH (x f : Int) : ak (ak x 5) f = ak (ak x f) 5 := by
 rw [fk, lw 5 f, ← fk]
theorem fm (l : List Int) (k : Int) (h : au l = true) : bI (onL l k) k = l := by
 apply List.ext_getElem?
 intro i
 simp only [bI, onL, List.getElem?_mapIdx]
 cases hx : l[i]? with
 | none => rfl
 | some n =>
  have := bB h hx
  have := cY k i
  simp only [Option.map_some, Option.some.injEq]
  omega
theorem ic (l : List Int) (a b : Int) : onL (onL l a) b = onL (onL l b) a := by
 apply List.ext_getElem?
 intro i
 simp only [onL, List.getElem?_mapIdx]
 cases hx : l[i]? with
 | none => rfl
 | some n =>
  have := cY a i
  have := cY b i
  simp only [Option.map_some, Option.some.injEq]
  omega
def iE (k : Int) (i : Nat) : Int := (0 + 991 - bw k i) % 991
def dB (k : Int) : List Int := [iE k 9, iE k 10, iE k 11]
theorem tM {l : List Int} (h : l.length = 9) : ∃ a b c d e f g i j, l = [a, b, c, d, e, f, g, i, j] := by
 match l, h with
 | [a, b, c, d, e, f, g, i, j], _ => exact ⟨a, b, c, d, e, f, g, i, j, rfl⟩
theorem sd {h : List Int} (hl : h.length = 9) (k : Int) : bI (h ++ [0, 0, 0]) k = bI h k ++ dB k := by
 obtain ⟨a, b, c, d, e, f, g, i, j, rfl⟩ := tM hl
 simp [bI, dB, iE, List.mapIdx_cons]
theorem dH {s el k tg nx dst : Int} {hd bd r : List Int} (hk : ak s el = k) (hl : hd.length = 9) (ho : bI hd k = nx :: dst :: tg :: r) (h0 : win nx 0 1 = true) (h1 : win dst 0 7 = true) :
  aP s ⟨el, hd, bF k hd, bd⟩ = some ⟨nx, dst, ⟨ak el (dk k), r ++ dB k, tg, bI bd k⟩⟩ := by
 unfold aP
 have hp : aG k ⟨el, hd, bF k hd, bd⟩ = nx :: dst :: tg :: (r ++ dB k) := by
  unfold aG; rw [sd hl, ho]; rfl
 dsimp only
 rw [hk, hp, if_pos ⟨rfl, h0, h1⟩]; rfl
theorem ve (k0 k1 : Int) : bC [k0, k1] = dB k0 := by simp [bC, aH, dB, iE, List.mapIdx_cons]
def gQ (k0 k1 : Int) : List Int := [(iE k0 9 + 991 - bw k1 6) % 991, (iE k0 10 + 991 - bw k1 7) % 991, (iE k0 11 + 991 - bw k1 8) % 991]
theorem vi (k0 k1 k2 : Int) : bC [k0, k1, k2] = gQ k0 k1 ++ dB k1 := by simp [bC, aH, dB, iE, gQ, List.mapIdx_cons]
theorem rW (k0 k1 : Int) : [((iE k0 9 + 991 - bw k1 6) % 991 + bw k1 6) % 991, ((iE k0 10 + 991 - bw k1 7) % 991 + bw k1 7) % 991, ((iE k0 11 + 991 - bw k1 8) % 991 + bw k1 8) % 991] = dB k0 := by
 have := cY k1 6; have := cY k1 7; have := cY k1 8
 unfold dB iE
 congr 1
 ·omega
 ·congr 1
  ·omega
  ·congr 1; omega
def Rt (l : Lt) (mf : Nat) (kf : Int) : List Int → Pk → Prop
 | [], _ => False
 | [m], p => m.toNat = mf ∧ ak (bm m.toNat) p.el = kf ∧ pkB p = true ∧ ∃ q, aP (bm m.toNat) p = some ⟨1, l.to, q⟩ ∧ fe ⟨1, l.to, q⟩ = some l
 | m :: m2 :: ms, p => pkB p = true ∧ ∃ q, aP (bm m.toNat) p = some ⟨0, m2, q⟩ ∧ Rt l mf kf (m2 :: ms) q
theorem iL {m : Int} (h : 0 ≤ m ∧ m ≤ 2) : 100 + 37 * m = bm m.toNat := by unfold bm; omega
theorem sM {m : Nat} (h : m ≤ 2) : win (bm m) 1 996 = true := ar.2 (by unfold bm; omega)
theorem qL {fr n : Int} (hf : 0 ≤ fr ∧ fr ≤ 990) (hn : 0 ≤ n ∧ n ≤ 990) : df (aX [fr, n]) = some [fr, n] := by
 have hl : (aX [fr, n]).length = 6 := fc (by simp)
 have hb : au (aX [fr, n]) = true := ew (by simp) (aT.2 fun x hx => by simp at hx; rcases hx with rfl | rfl <;> assumption)
 have e : dF (aX [fr, n]) = [fr, n] := rfl
 have e0 : fB (aX [fr, n]) = 2 := rfl
 unfold df
 rw [e, e0, if_pos ⟨fN.2 ⟨hl, hb⟩, by decide, rfl⟩]
theorem jo {fr dst n el tg : Int} {hd : List Int} (hf : win fr 0 7 = true) (ht : win dst 0 7 = true) (hn : win n 0 11 = true) : fe ⟨1, dst, ⟨el, hd, tg, aX [fr, n]⟩⟩ = some ⟨fr, dst, n⟩ := by
 have h1 := ar.1 hf; have h2 := ar.1 hn
 unfold fe
 dsimp only
 rw [qL (by omega) (by omega)]
 dsimp only
 rw [if_pos ⟨rfl, by unfold ltB; simp [hf, ht, hn]⟩]; rfl
theorem qC {a b c : Int} {r : List Int} (k : Int) : onL (a :: b :: c :: r) k = (a + bw k 0) % 991 :: (b + bw k 1) % 991 :: (c + bw k 2) % 991 :: r.mapIdx (fun i n => (n + bw k (i + 3)) % 991) := by
 simp [onL, List.mapIdx_cons, Nat.add_assoc]
theorem iC {k dst : Int} {z f : List Int} (ht : 0 ≤ dst ∧ dst ≤ 990) : ∃ r, bI (onL (1 :: dst :: 0 :: z) k ++ f) k = 1 :: dst :: 0 :: r := by
 have h0 := cY k 0; have h1 := cY k 1; have h2 := cY k 2
 have e0 : ((1 + bw k 0) % 991 + 991 - bw k 0) % 991 = 1 := by omega
 have e1 : ((dst + bw k 1) % 991 + 991 - bw k 1) % 991 = dst := by omega
 have e2 : ((0 + bw k 2) % 991 + 991 - bw k 2) % 991 = 0 := by omega
 rw [qC]
 simp only [bI, List.cons_append, List.mapIdx_cons]
 rw [show 0 + 1 = 1 from rfl, show 1 + 1 = 2 from rfl, e0, e1, e2]
 exact ⟨_, rfl⟩
theorem sJ (k0 k1 : Int) {p : List Int} (hp : p.length = 6) : onL (p ++ gQ k0 k1) k1 = onL p k1 ++ dB k0 := by
 match p, hp with
 | [a, b, c, d, e, f], _ =>
  rw [← rW k0 k1]
  simp [onL, gQ, List.mapIdx_cons]
theorem qE (a b : Int) : au (gQ a b) = true := aT.2 fun x hx => by
 simp [gQ] at hx
 rcases hx with rfl | rfl | rfl <;> omega
theorem eC {a b c : Int} (h1 : 0 ≤ a ∧ a ≤ 990) (h2 : 0 ≤ b ∧ b ≤ 990) (h3 : 0 ≤ c ∧ c ≤ 990) : au [a, b, c] = true := aT.2 fun x hx => by
 simp at hx
 rcases hx with rfl | rfl | rfl <;> assumption
theorem iG {fr n : Int} (hf : win fr 0 7 = true) (hn : win n 0 11 = true) : au (aX [fr, n]) = true := by
 have h1 := ar.1 hf; have h2 := ar.1 hn
 exact ew (by simp) (aT.2 fun x hx => by simp at hx; rcases hx with rfl | rfl <;> omega)
theorem iI {s : Int} {p : Pk} {x : Pl} (hs : win s 1 996 = true) (hp : pkB p = true) (h : aP s p = some x) : pkB x.pk = true := (aO.1 (pP hs hp h)).2.2
theorem rt1 {fr dst n x a : Int} (hx : win x 1 996 = true) (ha : 0 ≤ a ∧ a ≤ 2) (hf : win fr 0 7 = true) (ht : win dst 0 7 = true) (hn : win n 0 11 = true) (hp : pkB (bZ x (bp [a]) [a] dst [fr, n]) = true) :
  ∃ mf kf, Rt ⟨fr, dst, n⟩ mf kf [a] (bZ x (bp [a]) [a] dst [fr, n]) := by
 have t0 := ar.1 ht
 obtain ⟨k0, hk0⟩ : ∃ k, ak x (ak (100 + 37 * a) 5) = k := ⟨_, rfl⟩
 have hm : bZ x (bp [a]) [a] dst [fr, n] = ⟨ak x 5, onL (ci dst 0) k0 ++ [], bF k0 (onL (ci dst 0) k0 ++ []), onL (aX [fr, n]) k0⟩ := by rw [← hk0]; rfl
 have hk : ak (bm a.toNat) (ak x 5) = k0 := by rw [eS, ← iL ha, hk0]
 obtain ⟨r, hr⟩ := iC (k := k0) (dst := dst) (z := List.replicate 6 0) (f := []) (by omega)
 refine ⟨a.toNat, k0, rfl, by rw [hm]; exact hk, hp, ?_⟩
 rw [hm, dH (hd := onL (ci dst 0) k0 ++ []) hk (by simp [bV, ci]) hr (by decide) ht]
 refine ⟨_, rfl, ?_⟩
 rw [fm _ _ (iG hf hn)]
 exact jo hf ht hn
theorem rt2 {fr dst n x a b : Int} (hx : win x 1 996 = true) (ha : 0 ≤ a ∧ a ≤ 2) (hb : 0 ≤ b ∧ b ≤ 2) (hf : win fr 0 7 = true) (ht : win dst 0 7 = true) (hn : win n 0 11 = true) (hp : pkB (bZ x (bp [a, b]) [a, b] dst [fr, n]) = true) :
  ∃ mf kf, Rt ⟨fr, dst, n⟩ mf kf [a, b] (bZ x (bp [a, b]) [a, b] dst [fr, n]) := by
 have t0 := ar.1 ht
 obtain ⟨k0, hk0⟩ : ∃ k, ak x (ak (100 + 37 * a) 5) = k := ⟨_, rfl⟩
 obtain ⟨x1, hx1⟩ : ∃ y, ak x (dk k0) = y := ⟨_, rfl⟩
 obtain ⟨k1, hk1⟩ : ∃ k, ak x1 (ak (100 + 37 * b) 5) = k := ⟨_, rfl⟩
 have hkeys : ce x (bp [a, b]) = [k0, k1] := by rw [← hk1, ← hx1, ← hk0]; rfl
 obtain ⟨p1, hp1⟩ : ∃ p, onL (ci dst 3) k1 = p := ⟨_, rfl⟩
 have hl1 : p1.length = 6 := by rw [← hp1, bV]; rfl
 have hn1 : au p1 = true := by rw [← hp1]; exact cQ _ _
 have hm : bZ x (bp [a, b]) [a, b] dst [fr, n] = ⟨ak x 5, onL (0 :: b :: bF k1 (p1 ++ dB k0) :: p1) k0, bF k0 (onL (0 :: b :: bF k1 (p1 ++ dB k0) :: p1) k0), onL (onL (aX [fr, n]) k0) k1⟩ := by
  unfold bZ
  dsimp only
  rw [hkeys, ve]
  have e3 : (dB k0).length = 3 := rfl
  simp only [hdT, e3, hp1, List.take_left' hl1, List.getD_cons_zero, List.cons_append, List.nil_append]
  rfl
 have g0 : ak (bm a.toNat) (ak x 5) = k0 := by rw [eS, ← iL ha, hk0]
 have g1 : ak (bm b.toNat) (ak x1 5) = k1 := by rw [eS, ← iL hb, hk1]
 have hN : au (0 :: b :: bF k1 (p1 ++ dB k0) :: p1) = true := aN (eC (by omega) (by omega) (gU _ _)) hn1
 have q0 := dH (bd := onL (onL (aX [fr, n]) k0) k1) g0 (by rw [bV]; simp [hl1]) (fm _ k0 hN) (by decide) (ar.2 (by omega))
 rw [lH, hx1, ic, fm _ _ (cQ _ _)] at q0
 rw [ic] at hm
 obtain ⟨r, hr⟩ := iC (k := k1) (dst := dst) (z := List.replicate 3 0) (f := dB k0) (by omega)
 rw [show onL (1 :: dst :: 0 :: List.replicate 3 0) k1 = p1 from hp1] at hr
 have q1 := dH (bd := onL (aX [fr, n]) k1) g1 (by simp [hl1, dB]) hr (by decide) ht
 rw [fm _ _ (iG hf hn)] at q1
 have hb1 := iI (sM (m := a.toNat) (by omega)) (by rw [hm] at hp; exact hp) q0
 rw [hm]
 exact ⟨b.toNat, k1, by rw [← hm]; exact hp, _, q0, rfl, g1, hb1, _, q1, jo hf ht hn⟩
theorem rt3 {fr dst n x a b c : Int} (hx : win x 1 996 = true) (ha : 0 ≤ a ∧ a ≤ 2) (hb : 0 ≤ b ∧ b ≤ 2) (hc : 0 ≤ c ∧ c ≤ 2) (hf : win fr 0 7 = true) (ht : win dst 0 7 = true) (hn : win n 0 11 = true) (hp : pkB (bZ x (bp [a, b, c]) [a, b, c] dst [fr, n]) = true) :
  ∃ mf kf, Rt ⟨fr, dst, n⟩ mf kf [a, b, c] (bZ x (bp [a, b, c]) [a, b, c] dst [fr, n]) := by
 have t0 := ar.1 ht
 obtain ⟨k0, hk0⟩ : ∃ k, ak x (ak (100 + 37 * a) 5) = k := ⟨_, rfl⟩
 obtain ⟨x1, hx1⟩ : ∃ y, ak x (dk k0) = y := ⟨_, rfl⟩
 obtain ⟨k1, hk1⟩ : ∃ k, ak x1 (ak (100 + 37 * b) 5) = k := ⟨_, rfl⟩
 obtain ⟨x2, hx2⟩ : ∃ y, ak x1 (dk k1) = y := ⟨_, rfl⟩
 obtain ⟨k2, hk2⟩ : ∃ k, ak x2 (ak (100 + 37 * c) 5) = k := ⟨_, rfl⟩
 have hkeys : ce x (bp [a, b, c]) = [k0, k1, k2] := by rw [← hk2, ← hx2, ← hk1, ← hx1, ← hk0]; rfl
 obtain ⟨p2, hp2⟩ : ∃ p, onL [1, dst, 0] k2 = p := ⟨_, rfl⟩
 have hl2 : p2.length = 3 := by rw [← hp2, bV]; rfl
 have hn2 : au p2 = true := by rw [← hp2]; exact cQ _ _
 obtain ⟨t2, ht2⟩ : ∃ t, bF k2 (p2 ++ (gQ k0 k1 ++ dB k1)) = t := ⟨_, rfl⟩
 have b2 : 0 ≤ t2 ∧ t2 ≤ 990 := by rw [← ht2]; exact gU _ _
 obtain ⟨p1, hp1⟩ : ∃ p, onL (0 :: c :: t2 :: p2) k1 = p := ⟨_, rfl⟩
 have hl1 : p1.length = 6 := by rw [← hp1, bV]; simp [hl2]
 have hn1 : au p1 = true := by rw [← hp1]; exact cQ _ _
 have hr1 : onL (0 :: c :: t2 :: (p2 ++ gQ k0 k1)) k1 = p1 ++ dB k0 := by
  rw [← hp1]; exact sJ k0 k1 (p := 0 :: c :: t2 :: p2) (by simp [hl2])
 have htk : (p2 ++ (gQ k0 k1 ++ dB k1)).take 6 = p2 ++ gQ k0 k1 := by
  rw [← List.append_assoc]; exact List.take_left' (by simp [hl2, gQ])
 have hm : bZ x (bp [a, b, c]) [a, b, c] dst [fr, n] = ⟨ak x 5, onL (0 :: b :: bF k1 (p1 ++ dB k0) :: p1) k0, bF k0 (onL (0 :: b :: bF k1 (p1 ++ dB k0) :: p1) k0), onL (onL (onL (aX [fr, n]) k0) k1) k2⟩ := by
  unfold bZ
  dsimp only
  rw [hkeys, vi]
  have e3 : (gQ k0 k1 ++ dB k1).length = 6 := rfl
  have e4 : onL (ci dst 6) k2 = p2 := hp2
  simp only [hdT, e3, e4, htk, ht2, List.getD_cons_zero, List.cons_append, List.nil_append, hr1, List.take_left' hl1]
  rfl
 have g0 : ak (bm a.toNat) (ak x 5) = k0 := by rw [eS, ← iL ha, hk0]
 have g1 : ak (bm b.toNat) (ak x1 5) = k1 := by rw [eS, ← iL hb, hk1]
 have g2 : ak (bm c.toNat) (ak x2 5) = k2 := by rw [eS, ← iL hc, hk2]
 have hN : au (0 :: b :: bF k1 (p1 ++ dB k0) :: p1) = true := aN (eC (by omega) (by omega) (gU _ _)) hn1
 have hN1 : au (0 :: c :: t2 :: (p2 ++ gQ k0 k1)) = true := aN (eC (by omega) (by omega) b2) (aN hn2 (qE _ _))
 have q0 := dH (bd := onL (onL (onL (aX [fr, n]) k1) k2) k0) g0 (by rw [bV]; simp [hl1]) (fm _ k0 hN) (by decide) (ar.2 (by omega))
 rw [lH, hx1, fm _ _ (cQ _ _)] at q0
 rw [ic (aX [fr, n]) k0 k1, ic (onL (aX [fr, n]) k1) k0 k2] at hm
 have q1 := dH (bd := onL (onL (aX [fr, n]) k2) k1) (hd := p1 ++ dB k0) g1 (by simp [hl1, dB]) (by rw [← hr1]; exact fm _ k1 hN1) (by decide) (ar.2 (by omega))
 rw [lH, hx2, fm _ _ (cQ _ _)] at q1
 rw [ic (aX [fr, n]) k2 k1] at q1
 obtain ⟨r, hr⟩ := iC (k := k2) (dst := dst) (z := []) (f := gQ k0 k1 ++ dB k1) (by omega)
 rw [show onL (1 :: dst :: 0 :: []) k2 = p2 from hp2] at hr
 have q2 := dH (bd := onL (aX [fr, n]) k2) g2 (by simp [hl2, gQ, dB]) hr (by decide) ht
 rw [fm _ _ (iG hf hn), ht2] at q2
 rw [List.append_assoc] at q1
 have hb1 := iI (sM (m := a.toNat) (by omega)) (by rw [hm] at hp; exact hp) q0
 have hb2 := iI (sM (m := b.toNat) (by omega)) hb1 q1
 rw [hm]
 exact ⟨c.toNat, k2, by rw [← hm]; exact hp, _, q0, hb1, _, q1, rfl, g2, hb2, _, q2, jo hf ht hn⟩
theorem Own.addr {α : Type} {T : Ty α} {e B n c : Nat} {w : World} {A : Option Addr} {xs : List α} {G : List Nat} (h : Own T e B w (.slice A n c) xs G) (hx : 0 < xs.length) : ∃ g, A = some ⟨g, 0, none⟩ := by
 obtain ⟨x, hx⟩ := ah hx
 obtain ⟨g, _, _, h1, _⟩ := h.at_ hx
 exact ⟨g, h1⟩
theorem slE {α : Type} {T : Ty α} {B : Nat} {w : World} {v : Value} {xs : List α} (h : SlB T B w v xs) : ∃ F, Sl T w v xs F := ⟨h.choose, h.choose_spec.1⟩
theorem lK {f : List Int} {rcv : Int} {keys ns : List Int} {m : Nat} {k : Int} (hk : keys[m]? = some k) (hm : m + 1 = keys.length) : hdT f rcv (keys.drop m) ns = (onL (ci rcv f.length) k ++ f, bF k (onL (ci rcv f.length) k ++ f)) := by
 rw [cj hk, List.drop_of_length_le (by omega)]
 cases ns <;> rfl
theorem lL {f : List Int} {rcv : Int} {keys names : List Int} {m : Nat} {k : Int} (hk : keys[m]? = some k) (hl : names.length = keys.length) (hm : m + 1 < keys.length) :
  hdT f rcv (keys.drop m) (names.drop m) = (onL ([0, names.getD (m + 1) 0, (hdT f rcv (keys.drop (m + 1)) (names.drop (m + 1))).2] ++ (hdT f rcv (keys.drop (m + 1)) (names.drop (m + 1))).1.take 6) k,
   bF k (onL ([0, names.getD (m + 1) 0, (hdT f rcv (keys.drop (m + 1)) (names.drop (m + 1))).2] ++ (hdT f rcv (keys.drop (m + 1)) (names.drop (m + 1))).1.take 6) k)) := by
 obtain ⟨n, hn⟩ := ah (xs := names) (k := m) (by omega)
 obtain ⟨k2, hk2⟩ := ah (xs := keys) (k := m + 1) (by omega)
 have e : (names.drop (m + 1)).getD 0 0 = names.getD (m + 1) 0 := by simp [List.getD_eq_getElem?_getD]
 rw [← e, cj hk, cj hn, cj hk2]
 rfl
theorem oP (v vn : Value) (keys names : List Int) (rcv : Int) (w : World) (h : SlB ae w.heap.size w v keys) (hns : SlB ae w.heap.size w vn names) (h1 : 1 ≤ keys.length) (hl : keys.length ≤ 3) (hnl : names.length = keys.length)
  (hk : ∀ k ∈ keys, win k 1 996 = true) (hnm : ∀ n ∈ names, win n 0 7 = true) (hr : win rcv 0 7 = true) :
  Calls Tryz.prog 107 #[v, vn, .int .i64 rcv] w fun e w' => ∃ v', e = .returned (.tuple #[v', .int .i64 (hdT (bC keys) rcv keys names).2]) ∧ be ae 3 w.heap.size w' v' (hdT (bC keys) rcv keys names).1 ∧ Below w.heap.size w w' := by
 obtain ⟨i0, hi, hz0, hz1, hz2⟩ := info_parts aV
 obtain ⟨A, c, rfl, a1, a2, a3⟩ := h.form
 obtain ⟨An, cn, rfl, b1, b2, b3⟩ := hns.form
 have hfl := gj keys
 have hfn : au (bC keys) = true := bX _ _ rfl
 have r0 := ar.1 hr
 have H := hid h; have Hk := hid hk; have HN := hid hns; have Hnm := hid hnm; have Hnl := hid hnl
 clear a2 b2 hk hnm hns
 go_enter Tryz.func107, Tryz.ntmps107
 go_wp2_with (go_at_call 140; refine (oO _ keys _ h h1 hl Hk.out).mono ?_; rintro e w1 ⟨vf, rfl, nf, hb1⟩)
 generalize hF : bC keys = f at *
 obtain ⟨G, of, _, _⟩ := nf
 obtain rfl := am ai of
 obtain ⟨Af, cf, rfl, _, _⟩ := of.formN rfl
 have Of := hid of; have Hb1 := hid hb1; have Hf := hid hfl; have Hfn := hid hfn
 have hsz1 := hb1.size
 have hlf : f.length ≤ 6 := by omega
 clear h of hb1 hfl hfn hnl
 go_wp2_with fail
 go_loopw [9] (fun ov wr => ∃ j : Nat, 3 + j + f.length ≤ 9 ∧ Own ae 3 w1.heap.size wr ov ([1, rcv, 0] ++ List.replicate j 0) [] ∧ Below w1.heap.size w1 wr) (fun ov _ => 9 - tE ov)
 case atStart => exact ⟨0, by omega, by simpa using hY (w := w1) 1 rcv 0 (Nat.le_refl _), lit_below _ _⟩
 case round =>
  obtain ⟨j, hj, ho, hb⟩ := hrel
  obtain ⟨A3, c3, rfl, _, _⟩ := ho.formN (n := 3 + j) (by simp; omega)
  have hsz := hb.size
  have Ho := hid ho; have Hb := hid hb
  by_cases hlt : 3 + j + f.length < 9
  ·have hd1 : ((3 : Int) + (j : Int) + (f.length : Int) < 9) := by omega
   clear ho hb
   go_wp2_with (at_builtin; go_loud (refine aD rfl (.tmp 25) (.tmp 26) 38 rfl ae ai (B := w1.heap.size) (v := (.slice A3 (3 + j) c3)) Tryz.underlying38 hi hz0 hz1 hz2 rfl (by decide) (by decide) rfl (Ho.out.go (lit_below wr _)) (some ⟨wr.heap.size, 0, none⟩) 1 1 rfl (slB_of (jI 0 (Nat.le_refl _))) ?_ ?_ ?_; ((simp <;> omega)); (first | omega | (simp; done) | (simp; omega)); intro v2 w2 ho2 hg2 hv2; have hb2 := (Hb.out.alloc hsz _).grown hg2 (by first | omega | (simp; done) | (simp; omega)) (fun q hq => (Ho.out.top q hq).1); have sq2 := hb2.size; (obtain ⟨A5, c5, rfl, _, _⟩ := ho2.formN (n := 3 + j + 1) (by simp; omega))))
   go_roundw
   case rel => exact ⟨j + 1, by omega, by rw [List.replicate_succ', ← List.append_assoc]; exact ho2, hb2⟩
   case measure => simp [tE]; omega
  ·have hd1 : ¬ ((3 : Int) + (j : Int) + (f.length : Int) < 9) := by omega
   have Hls := hid (show [1, rcv, 0] ++ List.replicate j 0 = ci rcv f.length from by unfold ci; rw [show j = 6 - f.length from by omega])
   obtain ⟨n, hn⟩ : ∃ n, keys.length = n + 1 := ⟨keys.length - 1, by omega⟩
   obtain ⟨kl, hkl⟩ := ah (xs := keys) (k := n) (by omega)
   have Hlast := hid (lK (f := f) (rcv := rcv) (ns := names.drop n) hkl hn.symm)
   obtain ⟨bk, ok, rfl, hbk, _, hck⟩ := H.out.int hkl
   have hkw := Hk.out kl (List.mem_of_getElem? hkl)
   have hls := Ho.out.slB
   rw [Hls.out] at hls
   have Hsl := hid hls
   have hB := (Hb1.out.trans (Hb.out.mono hsz1))
   have hcr := (hB.cell (p := ⟨bk, ok + n, none⟩) hbk).trans hck
   have HC := hid (fun (wx : World) (hb : Below w1.heap.size w1 wx) => ((Hb1.out.trans (hb.mono hsz1)).cell (p := ⟨bk, ok + n, none⟩) hbk).trans hck)
   have Hn := hid hn; have HB := hid hB
   have hll : (ci rcv f.length).length + f.length = 9 := by simp [ci]; omega
   have Hll := hid hll
   have hnl : au (ci rcv f.length) = true := aT.2 fun x hx => by
    simp [ci] at hx
    rcases hx with rfl | rfl | rfl | ⟨_, rfl⟩ <;> omega
   have Hn3 := hid hnl
   clear ho hb hls hB hck hn hll hnl hkl
   rw [Hn.out] at hl h1 ⊢
   have hkk : (((n + 1 : Nat) : Int) - 1) = (n : Int) := by omega
   have HW := hid (Hb1.out.trans (Hb.out.mono hsz1))
   go_wp2_with (first
    | (go_at_call 106; refine (oF _ _ kl _ Hsl.out Hn3.out (by have := Hll.out; omega) hkw).mono ?_; rintro e w3 ⟨v3, rfl, n3, hb3⟩; obtain ⟨G3, o3, _, _⟩ := n3; obtain rfl := am ai o3; have L3 := hid (bV (ci rcv f.length) kl); have O3 := hid o3; have Hb3 := hid (Hb.out.trans (hb3.mono hsz)); have hs3 := hb3.size; have hs31 := Nat.le_trans hsz hs3; clear o3 hb3)
    | (at_builtin; go_loud (refine aD rfl (.tmp 36) (.tmp 37) 38 rfl ae ai (B := w1.heap.size) (v := v3) Tryz.underlying38 hi hz0 hz1 hz2 rfl (by decide) (by decide) rfl (O3.out.base hsz) Af f.length cf rfl (slB_of (Of.out.below Hb3.out (Nat.le_refl _))) ?_ ?_ ?_; ((rw [L3.out]; have := Hll.out; omega)); (first | omega | (simp; done) | (simp; omega)); intro v4 w4 ho4 hg4 hv4; have hb4 := Hb3.out.grown hg4 (by first | omega | (simp; done) | (simp; omega)) (fun q hq => (by have := (O3.out.top q hq).1; omega)); have sq4 := hb4.size; (obtain ⟨A4, c4, rfl, _, _⟩ := ho4.formN (n := 9) (by rw [List.length_append, L3.out]; exact Hll.out); have hcr4 := HC.out _ hb4))))
   have hok := iA f hlf Hfn.out rcv (keys.drop n) (names.drop n) (fun e => by have := congrArg List.length e; simp [Hn.out] at this) (by simp [Hn.out, Hnl.out])
   rw [show onL (ci rcv f.length) kl ++ f = (hdT f rcv (keys.drop n) (names.drop n)).1 from by rw [Hlast.out]] at ho4
   have Ho4 := hid ho4; have Hb4 := hid hb4; have Hok := hid hok
   have Hs4 := hid ho4.slB
   have Ht := hid (show bF kl (hdT f rcv (keys.drop n) (names.drop n)).1 = (hdT f rcv (keys.drop n) (names.drop n)).2 from by rw [Hlast.out])
   clear ho4 hb4 hg4 hv4 hok hcr
   go_wp2_with (go_at_call 137; refine (jb kl _ _ _ Hs4.out Hok.out.2.1 (by rw [Hok.out.1]; omega) hkw).mono ?_; rw [Ht.out]; rintro e w' ⟨rfl, rfl⟩)
   have hnw := hid (show hdT f rcv (keys.drop n) (names.drop n) = hdT f rcv (keys.drop n) (names.drop n) from rfl)
   clear Ht Hok Hs4 Hlast
   go_wp2_with fail
   go_loopw [11, 12, 13] (fun ov tv iv wr => ∃ m : Nat, m ≤ n ∧ iv = .int .i64 ((m : Int) - 1) ∧ tv = .int .i64 (hdT f rcv (keys.drop m) (names.drop m)).2 ∧ Own ae 3 w1.heap.size wr ov (hdT f rcv (keys.drop m) (names.drop m)).1 [] ∧ Below w1.heap.size w1 wr) (fun _ _ iv _ => (intOf iv + 1).toNat)
   case atStart => exact ⟨n, Nat.le_refl _, rfl, rfl, Ho4.out, Hb4.out⟩
   case round =>
    obtain ⟨m, hm, rfl, rfl, ho, hb⟩ := hrel
    have hszm := hb.size
    have hszw := Nat.le_trans hsz1 hszm
    rcases m with _ | m
    ·have Ho := hid ho; have Hb := hid hb
     clear ho hb
     go_wp2
     go_ret2
     subst hF
     exact ⟨_, rfl, ⟨[], Ho.out.base hsz1, List.nodup_nil, fun _ h => by cases h⟩, Hb1.out.trans (Hb.out.mono hsz1)⟩
    ·have em : (((m + 1 : Nat) : Int) - 1) = (m : Int) := by omega
     rw [em]
     obtain ⟨km, hkm⟩ := ah (xs := keys) (k := m) (by rw [Hn.out]; omega)
     obtain ⟨nm, hnm⟩ := ah (xs := names) (k := m + 1) (by rw [Hnl.out, Hn.out]; omega)
     have hkmw := Hk.out km (List.mem_of_getElem? hkm)
     have Hst := hid (lL (f := f) (rcv := rcv) (names := names) hkm Hnl.out (by rw [Hn.out]; omega))
     have hgn : names.getD (m + 1) 0 = nm := by simp [List.getD_eq_getElem?_getD, hnm]
     have hok := iA f hlf Hfn.out rcv (keys.drop (m + 1)) (names.drop (m + 1)) (fun e => by have := congrArg List.length e; simp [Hn.out] at this; omega) (by simp [Hn.out, Hnl.out])
     have hok2 := iA f hlf Hfn.out rcv (keys.drop m) (names.drop m) (fun e => by have := congrArg List.length e; simp [Hn.out] at this; omega) (by simp [Hn.out, Hnl.out])
     have nw := ar.1 (Hnm.out nm (List.mem_of_getElem? hnm))
     rw [hgn] at Hst
     generalize hR : hdT f rcv (keys.drop (m + 1)) (names.drop (m + 1)) = R at *
     obtain ⟨hd, tg⟩ := R
     obtain ⟨o1, o2, o3⟩ := hok
     dsimp only at o1 o2 o3 ho Hst ⊢
     obtain ⟨t0, t1⟩ := ar.1 o3
     obtain ⟨Am, cm, rfl, _, hcm⟩ := ho.formN o1
     obtain ⟨gm, rfl⟩ := ho.addr (by omega)
     obtain ⟨b', o', e', hbk', _, hck'⟩ := H.out.int hkm
     injection e' with e'; injection e' with e1 e2; subst e1 e2
     obtain ⟨bn, on, rfl, hbn, _, hcn⟩ := HN.out.int hnm
     have HC2 := hid (fun (wx : World) (hb : Below w1.heap.size w1 wx) => And.intro hb (And.intro (((Hb1.out.trans (hb.mono hsz1)).cell (p := ⟨bn, on + (m + 1), none⟩) hbn).trans hcn) (((Hb1.out.trans (hb.mono hsz1)).cell (p := ⟨bk, ok + m, none⟩) hbk').trans hck')))
     have Ho := hid ho; have Hb := hid hb; have Hr := hid hR
     have Htk := hid (ho.slB.take 6 (by omega))
     have hl6 : (hd.take 6).length = 6 := by simp [o1]
     have Hl6 := hid hl6
     have hcm6 : (6 : Int) ≤ (cm : Int) := by have := ho.form; obtain ⟨_, _, e, _, _⟩ := this; injection e with e1 e2 e3; omega
     have HP := hid (aN (eC (a := 0) (b := nm) (c := tg) (by omega) (by omega) ⟨t0, t1⟩) (eZ (k := hd.take 6) o2 (fun x hx => List.mem_of_mem_take hx)))
     have Hok2 := hid hok2
     clear ho hb hkm hnm hgn hck' hcn hl6 o1 o2 o3 hR em hok2
     have w0 : IntKind.i64.wrap ((m : Int) + 1) = (m : Int) + 1 := aS (by omega)
     have w0a : 0 ≤ (m : Int) + 1 := by omega
     have w0b : ((m : Int) + 1).toNat = m + 1 := by omega
     have w0c : (m : Int) + 1 < (n : Int) + 1 := by omega
     go_wp2_with fail
     go_region_held3 (fun w' : World => Below w1.heap.size w1 w' ∧ w'.cell? ⟨bn, on + (m + 1), none⟩ = some (.int .i64 nm) ∧ w'.cell? ⟨bk, ok + m, none⟩ = some (.int .i64 km))
      (first | assumption | exact HC2.out _ (Hb.out.drew) | exact HC2.out _ ((Hb.out.alloc hszm _).drew) | exact HC2.out _ hb2)
      ((go_loud (refine bL rfl (.tmp 57) (.tmp 59) 38 rfl ae ai (B := w1.heap.size) Tryz.underlying38 hi hz0 hz1 hz2 rfl (by decide) (by decide) (v := .slice (some ⟨wr.heap.size, 0, none⟩) 3 3) rfl ((hY 0 nm tg hszm).below (ab (Below.refl _ _)) (Nat.le_refl _)) (some ⟨gm, 0, none⟩) 6 cm rfl (slE (Htk.out.below (Below.drew (lit_below wr _)) (Nat.le_refl _))) (by rw [Hl6.out]; simp) (by simp; omega) ?_; intro v2 w2 ho2 hg2 hv2; have hb2 : Below w1.heap.size w1 w2 := (((Hb.out.alloc hszm _).drew).grown hg2 (by simp; omega) (fun q hq => by simp [Value.ownBlock] at hq; omega)))))
     obtain ⟨A5, c5, rfl, _, _⟩ := ho2.formN (n := 9) (by simp [Hl6.out])
     have hk2 := (HC2.out _ hb2).2.2
     have hsz2 := hb2.size
     have Hs2 := hid ho2.slB; have Hb2 := hid hb2
     have e1 := hid (show onL ([0, nm, tg] ++ hd.take 6) km = (hdT f rcv (keys.drop m) (names.drop m)).1 from by rw [Hst.out])
     have e2 := hid (show bF km (hdT f rcv (keys.drop m) (names.drop m)).1 = (hdT f rcv (keys.drop m) (names.drop m)).2 from by rw [Hst.out])
     clear ho2 hb2 hg2 hv2 w0 w0a w0b w0c Hst
     go_wp2_with (first
      | (go_at_call 106; refine (oF _ _ km _ Hs2.out HP.out (by simp [Hl6.out]) hkmw).mono ?_; rintro e w3 ⟨v3, rfl, n3, hb3⟩; rw [e1.out] at n3; obtain ⟨G3, o3, _, _⟩ := n3; obtain rfl := am ai o3; obtain ⟨A6, c6, rfl, _, _⟩ := o3.formN Hok2.out.1; have O3 := hid (o3.base hsz2); have Hb3 := hid (Hb2.out.trans (hb3.mono hsz2)); have hk3 := (HC2.out _ Hb3.out).2.2; have Hs3 := hid o3.slB; clear o3 hb3)
      | (go_at_call 137; refine (jb km _ _ _ Hs3.out Hok2.out.2.1 (by rw [Hok2.out.1]; omega) hkmw).mono ?_; rw [e2.out]; rintro e w' ⟨rfl, rfl⟩))
     go_roundw
     case rel => exact ⟨m, by omega, rfl, rfl, O3.out, Hb3.out⟩
     case measure => (simp [intOf] <;> omega)
def cd (n : Nat) : Prop := n ≤ 1048576
def jX (p : Pk) : Prop := cd p.hd.length ∧ cd p.bd.length
def pp (x : Pl) : Prop := jX x.pk
def pq (x : Tr) : Prop := jX x.pk
def nD (m : Mx) : Prop := cd m.seen.length ∧ cd m.pool.length ∧ ∀ x ∈ m.pool, pp x
def qS (x : Wd) : Prop := (cd x.mixes.length ∧ ∀ m ∈ x.mixes, nD m) ∧ cd x.sent.length ∧ (cd x.net.length ∧ ∀ t ∈ x.net, pq t) ∧ cd x.got.length
def cr (w : World) (g : Nat) : Nat → List Value → World
 | _, [] => w
 | o, u :: us => cr (w.setCell ⟨g, o, none⟩ u) g (o + 1) us
def pS : List Value → Nat → List Value → List Value
 | cs, _, [] => cs
 | cs, o, u :: us => pS (cs.set o u) (o + 1) us
theorem gx (c1 c2 c3 cx : List Value) (h : c2.length = cx.length) : pS (c1 ++ (c2 ++ c3)) c1.length cx = c1 ++ (cx ++ c3) := by
 induction cx generalizing c1 c2 with
 | nil =>
  obtain rfl : c2 = [] := List.eq_nil_of_length_eq_zero h
  rfl
 | cons u us ih =>
  cases c2 with
  | nil => simp at h
  | cons y ys =>
   have e : (c1 ++ (y :: ys ++ c3)).set c1.length u = (c1 ++ [u]) ++ (ys ++ c3) := by
    rw [List.set_append_right _ _ (Nat.le_refl _), Nat.sub_self]; simp
   have := ih (c1 ++ [u]) ys (by simpa using h)
   rw [pS, e]
   rw [show (c1 ++ [u]).length = c1.length + 1 from by simp] at this
   rw [this]; simp
theorem dj {w : World} {e B k g n c : Nat} {cs : List Value} (o : Nat) (us : List Value) (h : w.ownsRow B e k (.slice (some ⟨g, 0, none⟩) n c) n cs) : (cr w g o us).ownsRow B e k (.slice (some ⟨g, 0, none⟩) n c) n (pS cs o us) := by
 induction us generalizing w cs o with
 | nil => exact h
 | cons u us ih => exact ih (o + 1) (iV h o u)
theorem setMany_block (w : World) (g o : Nat) (us : List Value) (b : Nat) (h : b ≠ g) : (cr w g o us).heap[b]? = w.heap[b]? := by
 induction us generalizing w o with
 | nil => rfl
 | cons u us ih => exact (ih _ _).trans (Below.heap_setCell _ _ _ _ (fun e => h (by rw [e])))
theorem tl {w w' : World} {cs ds : Array Value} {e1 e2 : TypeId} (hb : Below ((w.alloc (.cells cs e1)).alloc (.cells ds e2)).heap.size ((w.alloc (.cells cs e1)).alloc (.cells ds e2)) w') :
  (∀ (i : Nat) v, cs[i]? = some v → w'.cell? ⟨w.heap.size, i, none⟩ = some v) ∧ (∀ (i : Nat) v, ds[i]? = some v → w'.cell? ⟨w.heap.size + 1, i, none⟩ = some v) := by
 constructor
 ·intro i v h
  have h1 := aZ w cs e1 i v h
  have h2 := ((lit_below (w.alloc (.cells cs e1)) (.cells ds e2)).cell (p := ⟨w.heap.size, i, none⟩) (by simp)).trans h1
  exact (hb.cell (p := ⟨w.heap.size, i, none⟩) (by simp <;> omega)).trans h2
 ·intro i v h
  have h1 := aZ (w.alloc (.cells cs e1)) ds e2 i v h
  rw [show (w.alloc (.cells cs e1)).heap.size = w.heap.size + 1 from by simp] at h1
  exact (hb.cell (p := ⟨w.heap.size + 1, i, none⟩) (by simp)).trans h1
theorem WdB.go {w w' : World} {v : Value} {x : Wd} (h : WdB w.heap.size w v x) (hb : Below w.heap.size w w') : WdB w'.heap.size w' v x := by
 obtain ⟨vm, vs, vn, vg, rfl, h1, h2, h3, h4⟩ := h
 exact ⟨_, _, _, _, rfl, h1.go hb, h2.go hb, h3.go hb, h4.go hb⟩
theorem heap_go {w w' : World} {n : Nat} {o : Obj} (hb : Below w.heap.size w w') (h : w.heap[n]? = some o) : w'.heap[n]? = some o :=
 (hb.block n (Array.getElem?_eq_some_iff.1 h).1).trans h
theorem aJ {w w' : World} {n : Nat} {o : Obj} {r : Option Nat} (hg : w.grownBy w' r) (h : w.heap[n]? = some o) (hr : r ≠ some n) : w'.heap[n]? = some o :=
 (hg.block n (Array.getElem?_eq_some_iff.1 h).1 (fun e => hr e.symm)).trans h
end Go.Proofs.YtfmibcofgckldaaGreatDoor
