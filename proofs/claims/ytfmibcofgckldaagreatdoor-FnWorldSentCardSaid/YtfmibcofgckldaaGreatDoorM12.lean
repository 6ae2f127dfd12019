/- Texts that the last file leans on (part 12). -/
import Derived.Test.YtfmibcofgckldaaGreatDoorM11
import Derived.Test.YtfmibcofgckldaaGreatDoorM4
set_option linter.unusedVariables false
set_option linter.unusedSimpArgs false
set_option maxHeartbeats 4000000
set_option maxRecDepth 100000
namespace Go.Proofs.YtfmibcofgckldaaGreatDoor
open Go Go.RowKit
section
variable {g : Nat → Nat × Int} {a b : Nat} {fl : List Pl} {x : Wd}
theorem fy.pl {l : Lt} {t : Tr} {y : Pl} (h : fy g l a t) (hp : aP (bm t.mix.toNat) t.pk = some y) :
  iY g l (a - 1) y ∧ (y.kind = 1 → t.mix.toNat = (g l.num.toNat).1 ∧ ak (bm t.mix.toNat) t.pk.el = (g l.num.toNat).2) := by
 obtain ⟨ms, p, hr, hms, hu, hc⟩ := h
 have key : ∀ z, pkB p = true → aP (bm t.mix.toNat) p = some z → t.pk = p := by
  intro z hb hz
  cases hch : t.ch with
  | false => exact hu hch
  | true =>
   obtain ⟨k, hk, e⟩ := hc hch
   rw [e, chg_none hk hb hz] at hp; cases hp
 cases ms with
 | nil =>
  obtain ⟨h1, h2, hb, q, h3, h4⟩ := hr
  have e := key _ hb h3
  rw [e] at hp ⊢
  rw [hp] at h3; injection h3 with h3; subst h3
  exact ⟨.inl ⟨rfl, h4⟩, fun _ => ⟨h1, h2⟩⟩
 | cons m2 ms =>
  obtain ⟨hb, q, h3, h4⟩ := hr
  have e := key _ hb h3
  rw [e] at hp
  rw [hp] at h3; injection h3 with h3; subst h3
  exact ⟨.inr ⟨rfl, ms, h4, by simp at hms; omega⟩, fun hk => by cases hk⟩
theorem qD {α : Type} {l : List α} {i : Nat} {t s : α} (ht : l[i]? = some t) (hs : s ∈ l) : s ∈ l.eraseIdx i ∨ s = t := by
 have hi := (List.getElem?_eq_some_iff.1 ht)
 have e1 : l = l.take i ++ t :: l.drop (i + 1) := by
  conv => lhs; rw [← List.take_append_drop i l, List.drop_eq_getElem_cons hi.1, hi.2]
 rw [List.eraseIdx_eq_take_drop_succ]
 rw [e1] at hs
 rcases List.mem_append.1 hs with h | h
 ·exact .inl (List.mem_append_left _ h)
 ·rcases List.mem_cons.1 h with h | h
  ·exact .inr h
  ·exact .inl (List.mem_append_right _ h)
theorem sO {α : Type} {l : List α} {k : Nat} {m : α} (h : l[k]? = some m) : l.set k m = l := by
 have hk := List.getElem?_eq_some_iff.1 h
 conv => lhs; rw [← hk.2]
 exact List.set_getElem_self hk.1
theorem IV.hear (h : IV g a b [] x) (v : VD 0 x) (hab : a ≤ b + 1) {i : Nat} {t : Tr} (ht : x.net[i]? = some t) : IV g a b [] (dN (ba x (x.net.eraseIdx i)) t) := by
 have htm := List.mem_of_getElem? ht
 have htb := ar.1 (ct.1 (bH.1 v.nt t htm)).1
 obtain ⟨m, hm, e, _, hs⟩ := eG v.mix (show t.mix.toNat < 3 by omega)
 obtain ⟨l, hl, hT⟩ := h.net t htm
 have hout : IV g a b [] (bU (bo (ba x (x.net.eraseIdx i)) t.mix.toNat m)) := by
  have : bo (ba x (x.net.eraseIdx i)) t.mix.toNat m = ba x (x.net.eraseIdx i) := by
   unfold bo; simp only [ba, sO hm]
  rw [this]
  exact h.lose v.l0 (fun s hs => List.mem_of_mem_eraseIdx hs)
 unfold dN
 rw [show (ba x (x.net.eraseIdx i)).mixes.getD t.mix.toNat kT = m from e]
 dsimp only
 unfold bD
 cases hp : aP m.sec t.pk with
 | none => exact hout
 | some y =>
  dsimp only
  split
  ·rw [if_neg (show ¬ (1 : Int) = 0 by decide)]; exact hout
  ·split
   ·rw [if_neg (show ¬ (3 : Int) = 0 by decide)]; exact hout
   ·rename_i hns hnf
    rw [if_pos rfl]
    rw [hs] at hp hns
    have hy := hT.pl hp
    have hnew : ∀ (k : Lt), cnt [] k (bo (ba x (x.net.eraseIdx i)) t.mix.toNat ⟨m.sec, m.seen ++ [ak m.sec t.pk.el], m.pool ++ [y]⟩) = cnt [] k x + if isL k y = true then 1 else 0 := by
     intro k
     have h1 := mt (l := k) (m := ⟨m.sec, m.seen ++ [ak m.sec t.pk.el], m.pool ++ [y]⟩) hm
     simp only [cnt, bo, ba, List.countP_nil, List.countP_append, List.countP_cons] at h1 ⊢
     omega
    refine ⟨fun s hs => h.net s (List.mem_of_mem_eraseIdx hs), fun m' hm' z hz => ?_, (fun z hz => by cases hz), h.got, fun k hk => ?_, fun h1 k hk => ?_⟩
    ·rcases List.mem_or_eq_of_mem_set hm' with hm' | rfl
     ·exact h.pool m' hm' z hz
     ·rcases List.mem_append.1 hz with hz | hz
      ·exact h.pool m (List.mem_of_getElem? hm) z hz
      ·rw [List.mem_singleton.1 hz]; exact ⟨l, hl, hy.1.mono (by omega)⟩
    ·have ho := h.once k hk
     rw [hnew k]
     by_cases hi : isL k y = true
     ·have hk1 : y.kind = 1 ∧ fe y = some k := by simpa [isL] using hi
      have hlk : l = k := by
       rcases hy.1 with ⟨_, h2⟩ | ⟨h2, _⟩
       ·rw [hk1.2] at h2; injection h2 with h2; exact h2.symm
       ·rw [hk1.1] at h2; exact absurd h2 (by decide)
      subst hlk
      obtain ⟨e1, e2⟩ := hy.2 hk1.1
      have h0 : cnt [] l x = 0 := by
       rcases Nat.eq_zero_or_pos (cnt [] l x) with h0 | h0
       ·exact h0
       ·have := ho.2 h0
        rw [← e1, ← e2, e] at this
        exact absurd this hns
      rw [if_pos hi, h0]
      refine ⟨Nat.le_refl _, fun _ => ?_⟩
      simp only [bo]
      rw [← e1, ← e2, show (ba x (x.net.eraseIdx i)).mixes = x.mixes from rfl, jy hm, if_pos rfl, ← hs]
      exact List.mem_append_right _ List.mem_cons_self
     ·rw [if_neg hi]
      refine ⟨ho.1, fun hp => ?_⟩
      have := ho.2 hp
      simp only [bo]
      rw [show (ba x (x.net.eraseIdx i)).mixes = x.mixes from rfl, jy hm]
      split
      ·rename_i hj; rw [hj, e] at this; exact List.mem_append_left _ this
      ·exact this
    ·rcases h.live h1 k hk with ⟨s, h2, h3⟩ | ⟨m', hm', z, hz, hpz⟩ | ⟨z, hz, _⟩ | h2
     ·rcases qD ht h2 with h4 | rfl
      ·exact .inl ⟨s, h4, h3⟩
      ·exact .inr (.inl ⟨⟨m.sec, m.seen ++ [ak m.sec s.pk.el], m.pool ++ [y]⟩, List.mem_of_getElem? (i := s.mix.toNat) (by simp [bo, ba, (List.getElem?_eq_some_iff.1 hm).1]), y, List.mem_append_right _ List.mem_cons_self, (h3.pl hp).1.mono (by omega)⟩)
     ·obtain ⟨j, hj⟩ := List.getElem?_of_mem hm'
      by_cases ej : j = t.mix.toNat
      ·subst ej
       rw [hm] at hj; injection hj with hj; subst hj
       exact .inr (.inl ⟨⟨m.sec, m.seen ++ [ak m.sec t.pk.el], m.pool ++ [y]⟩, List.mem_of_getElem? (i := t.mix.toNat) (by simp [bo, ba, (List.getElem?_eq_some_iff.1 hm).1]), z, List.mem_append_left _ hz, hpz⟩)
      ·exact .inr (.inl ⟨m', List.mem_of_getElem? (i := j) (by simp [bo, ba, List.getElem?_set_ne (Ne.symm ej), hj]), z, hz, hpz⟩)
     ·cases hz
     ·exact .inr (.inr (.inr h2))
theorem fy.chg {l : Lt} {t : Tr} (h : fy g l a t) (hc : t.ch = false) {k : Nat} (hk : k < 9) : fy g l a ⟨t.mix, kh t.pk k, true⟩ := by
 obtain ⟨ms, p, hr, hms, hu, _⟩ := h
 exact ⟨ms, p, hr, hms, (fun h => by cases h), fun _ => ⟨k, hk, by rw [hu hc]⟩⟩
theorem IV.chg (h : IV g a b [] x) {i : Nat} {t : Tr} (ht : x.net[i]? = some t) (k : Int) : IV g a b [] (eD x i t k) := by
 unfold eD
 split
 ·rename_i hc
  have hk := ar.1 hc.1
  obtain ⟨l, hl, hT⟩ := h.net t (List.mem_of_getElem? ht)
  refine ⟨fun s hs => ?_, h.pool, h.fly, h.got, h.once, fun h1 l' hl' => ?_⟩
  ·rcases List.mem_or_eq_of_mem_set hs with hs | rfl
   ·exact h.net s hs
   ·exact ⟨l, hl, hT.chg hc.2 (by omega)⟩
  ·rcases h.live h1 l' hl' with ⟨s, h2, h3⟩ | h2
   ·obtain ⟨j, hj⟩ := List.getElem?_of_mem h2
    by_cases ej : j = i
    ·subst ej
     rw [ht] at hj; injection hj with hj; subst hj
     exact .inl ⟨⟨t.mix, kh t.pk k.toNat, true⟩, List.mem_of_getElem? (i := j) (by simp [ba, (List.getElem?_eq_some_iff.1 ht).1]), h3.chg hc.2 (by omega)⟩
    ·exact .inl ⟨s, List.mem_of_getElem? (i := j) (by simp [ba, List.getElem?_set_ne (Ne.symm ej), hj]), h3⟩
   ·exact .inr h2
 ·exact h
theorem IV.made (h : IV g a b [] x) (n : Int) : IV g a b [] ⟨x.mixes, x.sent, x.net, x.got, n, x.lost⟩ := ⟨h.net, h.pool, h.fly, h.got, h.once, h.live⟩
theorem IV.pkt (h : IV g a b [] x) (v : VD 0 x) (hab : a ≤ b + 1) (e : Ev) : IV g a b [] (eE x e) := by
 unfold eE
 split
 ·exact h
 ·split
  ·exact h
  ·rename_i t ht
   obtain ⟨l, hl, hT⟩ := h.net t (List.mem_of_getElem? ht)
   split
   ·split
    ·exact (h.made (x.made + 1)).put v.l0 hl hT
    ·exact h
   ·split
    ·exact h.chg ht _
    ·split
     ·exact h.lose v.l0 (fun s hs => List.mem_of_mem_eraseIdx hs)
     ·exact h.hear v hab ht
end
theorem sN {l : List Lt} (h : fw l = true) {i : Nat} {x : Lt} (hx : l[i]? = some x) : x.num = (i : Int) ∧ ltB x = true := by
 unfold fw at h
 have := List.all_eq_true.1 h i (List.mem_range.2 (List.getElem?_eq_some_iff.1 hx).1)
 rw [eJ hx, Bool.and_eq_true, decide_eq_true_eq] at this
 exact ⟨this.2, this.1⟩
theorem tS {l : List Lt} (h : fw l = true) {x : Lt} (hx : x ∈ l) : x.num.toNat < l.length := by
 obtain ⟨i, hi⟩ := List.getElem?_of_mem hx
 have := (sN h hi).1
 have := (List.getElem?_eq_some_iff.1 hi).1
 omega
theorem nN {g : Nat → Nat × Int} {a : Nat} {l : Lt} {t : Tr} {n : Nat} {q : Nat × Int} (hl : l.num.toNat ≠ n) : fy (fun j => if j = n then q else g j) l a t ↔ fy g l a t := by
 unfold fy; simp only [if_neg hl]
theorem nB {g : Nat → Nat × Int} {a : Nat} {l : Lt} {t : Pl} {n : Nat} {q : Nat × Int} (hl : l.num.toNat ≠ n) : iY (fun j => if j = n then q else g j) l a t ↔ iY g l a t := by
 unfold iY; simp only [if_neg hl]
theorem rU {x fr dst n : Int} {names : List Int} (hx : win x 1 996 = true) (hne : names ≠ []) (hl : names.length ≤ 3) (hf : win fr 0 7 = true) (hn : win n 0 11 = true) : pkB (bZ x (bp names) names dst [fr, n]) = true := by
 have hn' := ar.1 hn; have hf' := ar.1 hf
 have h1 : bp names ≠ [] := fun e => hne (List.eq_nil_of_length_eq_zero (by rw [← bR, e]; rfl))
 have h2 : (bp names).length ≤ 3 := by rw [bR]; exact hl
 have h3 : names.length = (bp names).length := (bR _).symm
 have h4 : au [fr, n] = true := aT.2 fun y hy => by
  have hy : y = fr ∨ y = n := by simpa using hy
  rcases hy with rfl | rfl
  ·exact ⟨hf'.1, by omega⟩
  ·exact ⟨hn'.1, by omega⟩
 exact pJ hx h1 h2 h3 (show [fr, n].length ≤ 4 by simp) h4
theorem qI {x fr dst n : Int} {names : List Int} (hx : win x 1 996 = true) (hne : names ≠ []) (hl : names.length ≤ 3) (hm : ∀ m ∈ names, 0 ≤ m ∧ m ≤ 2) (hf : win fr 0 7 = true) (ht : win dst 0 7 = true) (hn : win n 0 11 = true) :
  ∃ mf kf, Rt ⟨fr, dst, n⟩ mf kf names (bZ x (bp names) names dst [fr, n]) := by
 have hp := rU (dst := dst) hx hne hl hf hn
 rcases names with _ | ⟨a, _ | ⟨b, _ | ⟨c, _ | ⟨d, r⟩⟩⟩⟩
 ·exact absurd rfl hne
 ·exact rt1 hx (hm a (by simp)) hf ht hn hp
 ·exact rt2 hx (hm a (by simp)) (hm b (by simp)) hf ht hn hp
 ·exact rt3 hx (hm a (by simp)) (hm b (by simp)) (hm c (by simp)) hf ht hn hp
 ·exact absurd hl (by simp)
theorem names_rt {x fr dst n path : Int} (hx : win x 1 996 = true) (hne : az path ≠ []) (hf : win fr 0 7 = true) (ht : win dst 0 7 = true) (hn : win n 0 11 = true) :
  ∃ mf kf, Rt ⟨fr, dst, n⟩ mf kf (az path) (bZ x (bp (az path)) (az path) dst [fr, n]) := qI hx hne (fX path) jT hf ht hn
theorem IV.send {g : Nat → Nat × Int} {x : Wd} (h : IV g 3 2 [] x) (v : VD 0 x) (fr dst path : Int) : ∃ g', IV g' 3 2 [] (cU x fr dst path) := by
 unfold cU
 split
 ·rename_i hc
  obtain ⟨c1, c2, c3, c4, c5⟩ := hc
  have f1 := ar.1 c1
  obtain ⟨mf, kf, hr⟩ := names_rt (x := 7 + 41 * (x.sent.length : Int)) (ar.2 (by omega)) c3 c1 c2 (n := (x.sent.length : Int)) (ar.2 (by omega))
  have hlet : kI x.sent.length fr dst path = bZ (7 + 41 * (x.sent.length : Int)) (bp (az path)) (az path) dst [fr, (x.sent.length : Int)] := rfl
  rw [← hlet] at hr
  have hpl := fX path
  generalize kI x.sent.length fr dst path = p at *
  obtain ⟨m0, ms, hnm⟩ := List.exists_cons_of_ne_nil c3
  rw [hnm] at hr hpl ⊢
  have hlt : ∀ l ∈ x.sent, l.num.toNat ≠ x.sent.length := fun l hl => Nat.ne_of_lt (tS v.st hl)
  have hlt' : ∀ l ∈ x.sent, l ≠ ⟨fr, dst, (x.sent.length : Int)⟩ := fun l hl e => by have := hlt l hl; rw [e] at this; simp at this
  have hT : fy (fun j => if j = x.sent.length then (mf, kf) else g j) ⟨fr, dst, (x.sent.length : Int)⟩ 3 ⟨m0, p, false⟩ :=
   ⟨ms, p, by simpa using hr, by simpa using hpl, fun _ => rfl, fun h => by cases h⟩
  have h0 : cnt [] ⟨fr, dst, (x.sent.length : Int)⟩ x = 0 := by
   have e1 : ∀ m ∈ x.mixes, m.pool.countP (isL ⟨fr, dst, (x.sent.length : Int)⟩) = 0 := by
    intro m hm
    rw [List.countP_eq_zero]
    intro y hy hi
    have hi : y.kind = 1 ∧ fe y = some ⟨fr, dst, (x.sent.length : Int)⟩ := by simpa [isL] using hi
    obtain ⟨l, hl, hp⟩ := h.pool m hm y hy
    rcases hp with ⟨_, hp⟩ | ⟨hp, _⟩
    ·rw [hi.2] at hp; injection hp with hp; exact hlt' l hl hp.symm
    ·rw [hi.1] at hp; exact absurd hp (by decide)
   have e2 : x.got.countP (isG ⟨fr, dst, (x.sent.length : Int)⟩) = 0 := by
    rw [List.countP_eq_zero]
    intro l hl hi
    exact hlt' l (h.got l hl) (by simpa [isG] using hi)
   have e3 : oc ⟨fr, dst, (x.sent.length : Int)⟩ x.mixes = 0 := by
    unfold oc
    generalize x.mixes = ms at e1
    induction ms with
    | nil => rfl
    | cons m ms ih => rw [List.map_cons, List.sum_cons, e1 m List.mem_cons_self, ih (fun m hm => e1 m (List.mem_cons_of_mem _ hm))]
   simp only [cnt, e2, e3, List.countP_nil]
  refine ⟨fun j => if j = x.sent.length then (mf, kf) else g j, ?_⟩
  have hnet : ∀ t ∈ x.net, ∃ l ∈ x.sent ++ [⟨fr, dst, (x.sent.length : Int)⟩], fy (fun j => if j = x.sent.length then (mf, kf) else g j) l 3 t := fun t ht => by
   obtain ⟨l, hl, h1⟩ := h.net t ht
   exact ⟨l, List.mem_append_left _ hl, (nN (hlt l hl)).2 h1⟩
  have hpool : ∀ m ∈ x.mixes, ∀ y ∈ m.pool, ∃ l ∈ x.sent ++ [⟨fr, dst, (x.sent.length : Int)⟩], iY (fun j => if j = x.sent.length then (mf, kf) else g j) l 2 y := fun m hm y hy => by
   obtain ⟨l, hl, h1⟩ := h.pool m hm y hy
   exact ⟨l, List.mem_append_left _ hl, (nB (hlt l hl)).2 h1⟩
  have honce : ∀ l ∈ x.sent ++ [⟨fr, dst, (x.sent.length : Int)⟩], cnt [] l x ≤ 1 ∧ (0 < cnt [] l x → ((fun j => if j = x.sent.length then (mf, kf) else g j) l.num.toNat).2 ∈ (x.mixes.getD ((fun j => if j = x.sent.length then (mf, kf) else g j) l.num.toNat).1 kT).seen) := by
   intro l hl
   rcases List.mem_append.1 hl with hl | hl
   ·dsimp only; rw [if_neg (hlt l hl)]; exact h.once l hl
   ·rw [List.mem_singleton.1 hl, h0]; exact ⟨by omega, fun h => absurd h (by omega)⟩
  unfold cS
  split
  ·exact ⟨hnet, hpool, (fun y hy => by cases hy), fun l hl => List.mem_append_left _ (h.got l hl), honce, fun h1 => by have := v.l0; simp [bU] at h1; omega⟩
  ·refine ⟨fun t ht => ?_, hpool, (fun y hy => by cases hy), fun l hl => List.mem_append_left _ (h.got l hl), honce, fun h1 l hl => ?_⟩
   ·rcases List.mem_append.1 ht with ht | ht
    ·exact hnet t ht
    ·rw [List.mem_singleton.1 ht]; exact ⟨_, List.mem_append_right _ List.mem_cons_self, hT⟩
   ·rcases List.mem_append.1 hl with hl | hl
    ·rcases h.live h1 l hl with ⟨t, h2, h3⟩ | ⟨m, hm, y, hy, hp⟩ | ⟨y, hy, _⟩ | h2
     ·exact .inl ⟨t, List.mem_append_left _ h2, (nN (hlt l hl)).2 h3⟩
     ·exact .inr (.inl ⟨m, hm, y, hy, (nB (hlt l hl)).2 hp⟩)
     ·cases hy
     ·exact .inr (.inr (.inr h2))
    ·rw [List.mem_singleton.1 hl]
     exact .inl ⟨_, List.mem_append_right _ List.mem_cons_self, hT⟩
 ·exact ⟨g, h⟩
theorem IV.do_ {g : Nat → Nat × Int} {x : Wd} (h : IV g 3 2 [] x) (v : VD 0 x) (e : Ev) : ∃ g', IV g' 3 2 [] (doW x e) := by
 unfold doW
 split
 ·exact h.send v _ _ _
 ·split
  ·exact ⟨g, h.pkt v (by omega) e⟩
  ·split
   ·rename_i hc
    have := ar.1 hc.2
    obtain ⟨m, hm, _⟩ := eG v.mix (show e.a.toNat < 3 by omega)
    exact ⟨g, h.flush (by omega) v.l0 hm _⟩
   ·exact ⟨g, h⟩
theorem yA : IV (fun _ => (0, 0)) 3 2 [] vG :=
 ⟨(fun t ht => by cases ht), (fun m hm y hy => by
  have : m.pool = [] := by
   simp [vG, fP] at hm
   obtain ⟨k, _, rfl⟩ := hm; rfl
  rw [this] at hy; cases hy), (fun y hy => by cases hy), (fun l hl => by cases hl), (fun l hl => by cases hl), (fun _ l hl => by cases hl)⟩
theorem yq (evs : List Ev) {g : Nat → Nat × Int} {x : Wd} (h : IV g 3 2 [] x) (v : VD 0 x) : ∃ g', IV g' 3 2 [] (evs.foldl doW x) := by
 induction evs generalizing g x with
 | nil => exact ⟨g, h⟩
 | cons e evs ih =>
  obtain ⟨g', h'⟩ := h.do_ v e
  exact ih h' (v.do_ e)
theorem ln (evs : List Ev) : ∃ g, IV g 3 2 [] (b6 evs) := yq evs yA vK
def Ext (x z : Wd) : Prop := z.sent = x.sent ∧ z.made = x.made ∧ ∃ l, z.got = x.got ++ l
theorem Ext.refl (x : Wd) : Ext x x := ⟨rfl, rfl, [], by simp⟩
theorem Ext.trans {x y z : Wd} (h : Ext x y) (k : Ext y z) : Ext x z := by
 obtain ⟨h1, h2, l, h3⟩ := h
 obtain ⟨k1, k2, m, k3⟩ := k
 exact ⟨k1.trans h1, k2.trans h2, l ++ m, by rw [k3, h3, List.append_assoc]⟩
theorem xH (x : Wd) : Ext x (bU x) := ⟨rfl, rfl, [], by simp [bU]⟩
theorem x7 (x : Wd) (n : List Tr) : Ext x (ba x n) := ⟨rfl, rfl, [], by simp [ba]⟩
theorem xI (x : Wd) (k : Nat) (m : Mx) : Ext x (bo x k m) := ⟨rfl, rfl, [], by simp [bo]⟩
theorem x8 (x : Wd) (m : Int) (p : Pk) (c : Bool) : Ext x (cS x m p c) := by
 unfold cS; split
 ·exact xH x
 ·exact x7 x _
theorem yk (x : Wd) (y : Pl) : Ext x (bT x y) := by
 unfold bT; split
 ·unfold dP; split
  ·exact xH x
  ·exact ⟨rfl, rfl, _, rfl⟩
 ·exact x8 _ _ _ _
theorem yj (l : List Pl) (x : Wd) : Ext x (l.foldl bT x) := by
 induction l generalizing x with
 | nil => exact Ext.refl x
 | cons y l ih => exact (yk x y).trans (ih _)
theorem p9 (x : Wd) (k : Nat) (all : Bool) : Ext x (cG x k all) := (xI x k _).trans (yj _ _)
theorem xL (x : Wd) (t : Tr) : Ext x (dN x t) := by
 unfold dN; dsimp only; split
 ·exact xI _ _ _
 ·exact (xI _ _ _).trans (xH _)
theorem yu (x : Wd) (m : Int) (p : Pk) (c : Bool) : (cS x m p c).mixes = x.mixes := by unfold cS; split <;> rfl
theorem yn (x : Wd) (y : Pl) : (bT x y).mixes = x.mixes := by
 unfold bT; split
 ·unfold dP; split <;> rfl
 ·exact yu _ _ _ _
theorem ym (l : List Pl) (x : Wd) : (l.foldl bT x).mixes = x.mixes := by
 induction l generalizing x with
 | nil => rfl
 | cons y l ih => rw [List.foldl_cons, ih, yn]
theorem xy (x : Wd) (k : Nat) (all : Bool) : (cG x k all).mixes = x.mixes.set k (bs (x.mixes.getD k kT) all).1 := by unfold cG; rw [ym]; rfl
theorem hear_net (x : Wd) (t : Tr) : (dN x t).net = x.net := by unfold dN; dsimp only; split <;> rfl
theorem calm_ev (x : Wd) : eE x ⟨2, 0, 0, 0⟩ = match x.net with | [] => x | t :: ts => dN (ba x ts) t := by
 unfold eE
 rw [if_neg (by decide)]
 cases h : x.net with
 | nil => rfl
 | cons t ts => simp [h]
theorem yz (x : Wd) : Ext x (eE x ⟨2, 0, 0, 0⟩) := by
 rw [calm_ev]; split
 ·exact Ext.refl x
 ·exact (x7 x _).trans (xL _ _)
theorem xM (n : Nat) (x : Wd) : Ext x (hearAll n x) := by
 induction n generalizing x with
 | zero => exact Ext.refl x
 | succ n ih => exact (yz x).trans (ih _)
theorem yd (x : Wd) : Ext x (roundW x) := (xM _ x).trans ((p9 _ _ _).trans ((p9 _ _ _).trans (p9 _ _ _)))
theorem xF (n : Nat) (x : Wd) : Ext x (calmN n x) := by
 induction n generalizing x with
 | zero => exact Ext.refl x
 | succ n ih => unfold calmN; split; exact (yd x).trans (ih _); exact Ext.refl x
theorem xO (n : Nat) (x : Wd) (h : x.net.length ≤ n) : (hearAll n x).net = [] := by
 induction n generalizing x with
 | zero => exact List.eq_nil_of_length_eq_zero (l := x.net) (by omega)
 | succ n ih =>
  refine ih _ ?_
  rw [calm_ev]
  split
  ·rename_i he; rw [he]; simp
  ·rename_i t ts he
   rw [hear_net]
   rw [he] at h
   simpa [ba] using h
theorem xT {g : Nat → Nat × Int} {a b : Nat} (hab : a ≤ b + 1) (n : Nat) {x : Wd} (h : IV g a b [] x) (v : VD 0 x) : IV g a b [] (hearAll n x) := by
 induction n generalizing x with
 | zero => exact h
 | succ n ih => exact ih (h.pkt v hab _) (v.pkt _)
theorem xD {g : Nat → Nat × Int} {a b : Nat} (hab : b ≤ a) {x : Wd} (h : IV g a b [] x) (v : VD 0 x) {k : Nat} (hk : k < 3) (all : Bool) : IV g a b [] (cG x k all) := by
 obtain ⟨m, hm, _⟩ := eG v.mix hk
 exact h.flush hab v.l0 hm all
theorem xS (m : Mx) : (bs m true).1 = ⟨m.sec, m.seen, []⟩ := by unfold bs; simp
theorem xz {x : Wd} (v : VD 0 x) : ∀ m ∈ (roundW x).mixes, m.pool = [] := by
 have v0 := hearAll_ok x.net.length v
 unfold roundW
 rw [xy, xy, xy]
 obtain ⟨a, b, c, e, _⟩ := oV.1 v0.mix
 rw [e]
 intro m hm
 simp [xS] at hm
 rcases hm with rfl | rfl | rfl <;> rfl
theorem fy.none {g : Nat → Nat × Int} {l : Lt} {t : Tr} (h : fy g l 0 t) : False := by
 obtain ⟨ms, p, _, h, _⟩ := h; omega
theorem yo {g : Nat → Nat × Int} {r : Nat} {x : Wd} (h : IV g (r + 1) r [] x) (v : VD 0 x) : IV g r (r - 1) [] (roundW x) := by
 have h1 := xT (Nat.le_refl _) x.net.length h v
 have hn := xO x.net.length x (Nat.le_refl _)
 have v1 := hearAll_ok x.net.length v
 have h2 : IV g r r [] (hearAll x.net.length x) := h1.netLe (fun t ht => by rw [hn] at ht; cases ht)
 have h3 := xD (Nat.le_refl _) h2 v1 (k := 0) (by omega) true
 have v3 := VD.flush v1 (k := 0) (by omega) true
 have h4 := xD (Nat.le_refl _) h3 v3 (k := 1) (by omega) true
 have v4 := VD.flush v3 (k := 1) (by omega) true
 have h5 := xD (Nat.le_refl _) h4 v4 (k := 2) (by omega) true
 exact IV.poolLe h5 (fun m hm y hy => by rw [xz v m hm] at hy; cases hy)
theorem calm_still (n : Nat) {x : Wd} (h : busyW x = false) : calmN n x = x := by
 cases n with
 | zero => rfl
 | succ n => unfold calmN; rw [h]; rfl
theorem xW {l : List Mx} (h : ∀ m ∈ l, m.pool = []) : aY l = 0 := by
 induction l with
 | nil => rfl
 | cons m l ih =>
  have h1 := h m List.mem_cons_self
  have h2 := ih (fun m hm => h m (List.mem_cons_of_mem _ hm))
  simp only [aY, List.map_cons, List.sum_cons, h1, List.length_nil] at h2 ⊢; omega
theorem xe {g : Nat → Nat × Int} {x : Wd} (h : IV g 3 2 [] x) (v : VD 0 x) : ∃ a b, IV g a b [] (calmW x) ∧ busyW (calmW x) = false := by
 have step : ∀ n r (y : Wd), IV g (r + 1) r [] y → VD 0 y → busyW y = true → calmN (n + 1) y = calmN n (roundW y) ∧ IV g r (r - 1) [] (roundW y) ∧ VD 0 (roundW y) := fun n r y h v hb => ⟨by conv => lhs; unfold calmN; rw [hb, if_pos rfl], yo h v, round_ok v⟩
 unfold calmW
 cases b0 : busyW x with
 | false => rw [calm_still _ b0]; exact ⟨_, _, h, b0⟩
 | true =>
  obtain ⟨e1, h1, v1⟩ := step 59 2 x h v b0
  rw [e1]
  cases b1 : busyW (roundW x) with
  | false => rw [calm_still _ b1]; exact ⟨_, _, h1, b1⟩
  | true =>
   obtain ⟨e2, h2, v2⟩ := step 58 1 _ h1 v1 b1
   rw [e2]
   cases b2 : busyW (roundW (roundW x)) with
   | false => rw [calm_still _ b2]; exact ⟨_, _, h2, b2⟩
   | true =>
    obtain ⟨e3, h3, v3⟩ := step 57 0 _ h2 v2 b2
    rw [e3]
    have b3 : busyW (roundW (roundW (roundW x))) = false := by
     have hn : (roundW (roundW (roundW x))).net = [] := by
      cases e : (roundW (roundW (roundW x))).net with
      | nil => rfl
      | cons t ts =>
       obtain ⟨l, _, hT⟩ := h3.net t (by rw [e]; exact List.mem_cons_self)
       exact hT.none.elim
     unfold busyW
     rw [hn, xW (xz v2)]; rfl
    rw [calm_still _ b3]; exact ⟨_, _, h3, b3⟩
theorem xQ {g : Nat → Nat × Int} {x : Wd} (h : IV g 3 2 [] x) (v : VD 0 x) : calmW (calmW x) = calmW x := by
 obtain ⟨_, _, _, hb⟩ := xe h v
 exact calm_still 60 hb
theorem yF {x : Wd} (h : busyW x = false) : x.net = [] ∧ aY x.mixes = 0 := by
 unfold busyW at h
 have := of_decide_eq_false h
 exact ⟨List.eq_nil_of_length_eq_zero (by omega), by omega⟩
theorem yg {l : List Mx} (h : aY l = 0) : ∀ m ∈ l, m.pool = [] := by
 induction l with
 | nil => intro m hm; cases hm
 | cons k l ih =>
  simp only [aY, List.map_cons, List.sum_cons] at h ih
  intro m hm
  rcases List.mem_cons.1 hm with rfl | hm
  ·exact List.eq_nil_of_length_eq_zero (by omega)
  ·exact ih (by omega) m hm
theorem xV {a b : List Lt} (hd : a.Nodup) (hs : ∀ x ∈ a, x ∈ b) : a.length ≤ b.length := by
 induction a generalizing b with
 | nil => simp
 | cons x a ih =>
  have hx := hs x List.mem_cons_self
  obtain ⟨h1, h2⟩ := List.nodup_cons.1 hd
  have := ih (b := b.erase x) h2 (fun y hy => (List.mem_erase_of_ne (by rintro rfl; exact h1 hy)).2 (hs y (List.mem_cons_of_mem _ hy)))
  rw [List.length_erase_of_mem hx] at this
  have := List.length_pos_of_mem hx
  simp; omega
theorem rd {g : Nat → Nat × Int} {a b : Nat} {x : Wd} (h : IV g a b [] x) : x.got.Nodup := by
 rw [List.nodup_iff_count]
 intro l
 by_cases hl : l ∈ x.got
 ·have := (h.once l (h.got l hl)).1
  have e : x.got.count l = x.got.countP (isG l) := by
   unfold List.count
   congr 1
  rw [e]; unfold cnt at this; omega
 ·rw [List.count_eq_zero_of_not_mem hl]; omega
theorem xZ {l : List Lt} (h : fw l = true) : l.Nodup := by
 refine List.pairwise_iff_getElem.2 fun i j hi hj hij e => ?_
 have h1 := (sN h (List.getElem?_eq_getElem hi)).1
 have h2 := (sN h (List.getElem?_eq_getElem hj)).1
 rw [e] at h1
 omega
theorem xR {g : Nat → Nat × Int} {a b : Nat} {x : Wd} (h : IV g a b [] x) (hb : busyW x = false) (hl : x.lost = 0) : ∀ l ∈ x.sent, l ∈ x.got := by
 intro l hm
 obtain ⟨h1, h2⟩ := yF hb
 rcases h.live hl l hm with ⟨t, ht, _⟩ | ⟨m, hm, y, hy, _⟩ | ⟨y, hy, _⟩ | h
 ·rw [h1] at ht; cases ht
 ·rw [yg h2 m hm] at hy; cases hy
 ·cases hy
 ·exact h
theorem eK {p : Pk} (h : pkB p = true) : jX p := by
 obtain ⟨_, ⟨a, _⟩, ⟨b, _⟩, _⟩ := aw.1 h
 exact ⟨by unfold cd; omega, by unfold cd; omega⟩
theorem tV {x : Pl} (h : plB x = true) : pp x := eK (aO.1 h).2.2
theorem tW {t : Tr} (h : trB t = true) : pq t := eK (ct.1 h).2
theorem tU {m : Mx} (h : mxB m = true) : nD m := by
 obtain ⟨_, a, b, _, c⟩ := bu.1 h
 exact ⟨by unfold cd; omega, by unfold cd; omega, fun x hx => tV (c x hx)⟩
theorem lr {l : List Mx} (h : bh l = true) : ∀ m ∈ l, mxB m = true := by
 obtain ⟨a, b, c, rfl, ha, hb, hc⟩ := oV.1 h
 intro m hm
 simp at hm
 rcases hm with rfl | rfl | rfl
 ·exact ha.1
 ·exact hb.1
 ·exact hc.1
theorem VD.sm {d : Nat} {x : Wd} (h : VD d x) : qS x :=
 ⟨⟨by have := cO h.mix; unfold cd; omega, fun m hm => tU (lr h.mix m hm)⟩, by have := h.sn; unfold cd; omega, ⟨by have := h.nn; unfold cd; omega, fun t ht => tW (bH.1 h.nt t ht)⟩, by have := h.gl; unfold cd; omega⟩
theorem jX.le {p : Pk} (h : jX p) : p.hd.length ≤ 1073741824 ∧ p.bd.length ≤ 1073741824 := by
 obtain ⟨a, b⟩ := h
 unfold cd at a b
 omega
section
variable {α : Type} {T : Ty α} {w w' : World}
theorem Ty.els_mid {cs : List Value} {xs : List α} {F : List Nat} (h : T.els w cs xs F) {i : Nat} {x : α} (hx : xs[i]? = some x) : ∃ c1 c c2 F1 G F2, cs = c1 ++ (c ++ c2) ∧ F = F1 ++ (G ++ F2) ∧ c1.length = i * T.k ∧ T.els w c1 (xs.take i) F1 ∧ T.E w c x G ∧ T.els w c2 (xs.drop (i + 1)) F2 := by
 have hi := (List.getElem?_eq_some_iff.1 hx).1
 obtain ⟨c1, c23, F1, F23, rfl, rfl, hl, h1, h2⟩ := Ty.els_cut h i (by omega)
 rw [cj hx] at h2
 obtain ⟨c, c2, G, F2, rfl, rfl, h3, h4⟩ := h2
 exact ⟨c1, c, c2, F1, G, F2, rfl, rfl, hl, h1, h3, h4⟩
theorem Ty.els_join {c1 c c2 : List Value} {F1 G F2 : List Nat} {xs : List α} {i : Nat} {x' : α} (hi : i < xs.length) (h1 : T.els w c1 (xs.take i) F1) (h2 : T.E w c x' G) (h3 : T.els w c2 (xs.drop (i + 1)) F2) : T.els w (c1 ++ (c ++ c2)) (xs.set i x') (F1 ++ (G ++ F2)) := by
 have e : xs.set i x' = xs.take i ++ ([x'] ++ xs.drop (i + 1)) := by rw [List.set_eq_take_append_cons_drop, if_pos hi]; rfl
 rw [e]
 exact Ty.els_append h1 (Ty.els_append (Ty.els_one h2) h3)
theorem Own.put {e B g n c i : Nat} {xs : List α} {G : List Nat} {x' : α} {cx : List Value} {F' : List Nat} (h : Own T e B w (.slice (some ⟨g, 0, none⟩) n c) xs G) (hi : i < xs.length) (hx : T.E w cx x' F') (hg : g ∉ F') :
  ∃ F1 F0 F2, G = F1 ++ (F0 ++ F2) ∧ Own T e B (cr w g (i * T.k) cx) (.slice (some ⟨g, 0, none⟩) n c) (xs.set i x') (F1 ++ (F' ++ F2)) := by
 obtain ⟨A0, c0, e0, _⟩ := h.form
 injection e0 with e1 e2 e3; subst e2 e3
 obtain ⟨cs, h1, h2, h3⟩ := h
 obtain ⟨x, hx0⟩ := ah hi
 obtain ⟨c1, cm, c2, F1, F0, F2, rfl, rfl, hl, k1, k2, k3⟩ := Ty.els_mid h2 hx0
 have hgG := h3 g rfl
 simp only [List.mem_append, not_or] at hgG
 have bl : ∀ b, b ≠ g → (cr w g (i * T.k) cx).heap[b]? = w.heap[b]? := fun b hb => setMany_block w g _ cx b hb
 refine ⟨F1, F0, F2, rfl, c1 ++ (cx ++ c2), ?_, ?_, ?_⟩
 ·have := dj (i * T.k) cx h1
  rw [← hl, gx _ _ _ _ (by rw [T.len k2, T.len hx]), hl] at this
  rw [List.length_set]; exact this
 ·exact Ty.els_join hi (Ty.els_keep k1 (fun b hb => bl b (fun e => hgG.1 (e ▸ hb)))) (T.keep hx (fun b hb => bl b (fun e => hg (e ▸ hb)))) (Ty.els_keep k3 (fun b hb => bl b (fun e => hgG.2.2 (e ▸ hb))))
 ·intro b hb
  simp [Value.ownBlock] at hb
  subst hb
  simp only [List.mem_append, not_or]
  exact ⟨hgG.1, hg, hgG.2.2⟩
theorem Own.inner {e B g n c i : Nat} {xs : List α} {G : List Nat} {x : α} (h : Own T e B w (.slice (some ⟨g, 0, none⟩) n c) xs G) (hx : xs[i]? = some x) (hnd : G.Nodup) :
  ∃ F1 F0 F2 cx, G = F1 ++ (F0 ++ F2) ∧ T.E w cx x F0 ∧ (∀ j u, cx[j]? = some u → w.cell? ⟨g, i * T.k + j, none⟩ = some u) ∧ ∀ (w' : World) x', T.E w' cx x' F0 → (∀ b, b < w.heap.size → b ∉ F0 → w'.heap[b]? = w.heap[b]?) → Own T e B w' (.slice (some ⟨g, 0, none⟩) n c) (xs.set i x') G := by
 obtain ⟨A0, c0, e0, _⟩ := h.form
 injection e0 with e1 e2 e3; subst e2 e3
 have hi := (List.getElem?_eq_some_iff.1 hx).1
 have hgw := (h.top g rfl).2
 obtain ⟨cs, h1, h2, h3⟩ := h
 obtain ⟨c1, cm, c2, F1, F0, F2, rfl, rfl, hl, k1, k2, k3⟩ := Ty.els_mid h2 hx
 have hgG := h3 g rfl
 have hgG' := hgG
 simp only [List.mem_append, not_or] at hgG'
 obtain ⟨_, n2, d1⟩ := List.nodup_append.1 hnd
 obtain ⟨_, _, d2⟩ := List.nodup_append.1 n2
 refine ⟨F1, F0, F2, cm, rfl, k2, fun j u hj => ?_, fun w' x' hE hk => ⟨c1 ++ (cm ++ c2), ?_, ?_, h3⟩⟩
 ·have hj' : (c1 ++ (cm ++ c2))[c1.length + j]? = some u := by
   have hjl := (List.getElem?_eq_some_iff.1 hj).1
   rw [List.getElem?_append_right (by omega), Nat.add_sub_cancel_left, List.getElem?_append_left hjl]; exact hj
  have hl' := (List.getElem?_eq_some_iff.1 hj').1
  rw [← hl, h1.cellAt (c1.length + j) (by rw [h1.1] at hl'; exact hl')]
  exact hj'
 ·rw [List.length_set]
  exact dU h1 (fun b hb => by simp [Value.ownBlock] at hb; subst hb; exact hk _ hgw hgG'.2.1)
 ·exact Ty.els_join hi (Ty.els_keep k1 (fun b hb => hk b (Ty.els_lt k1 b hb) (fun hm => d1 b hb b (List.mem_append_left _ hm) rfl))) hE (Ty.els_keep k3 (fun b hb => hk b (Ty.els_lt k3 b hb) (fun hm => d2 b hm b hb rfl)))
theorem nA {e n0 s8 : Nat} {v v' : Value} {ys : List α} {G F : List Nat} (ho : Own T e 0 w' v' ys (G ++ F)) (hv : v'.ownBlock = v.ownBlock ∨ v'.ownBlock = some s8) (hn : (v.ownBlock.toList ++ G).Nodup) (hF : F.Nodup) (hlt : ∀ b ∈ v.ownBlock.toList ++ G, b < n0) (hFn : ∀ b ∈ F, n0 ≤ b ∧ b < s8) (hn0 : n0 ≤ s8) :
  (T.own e).E w' [v'] ys (v'.ownBlock.toList ++ (G ++ F)) ∧ (v'.ownBlock.toList ++ (G ++ F)).Nodup ∧ ∀ b ∈ v'.ownBlock.toList ++ (G ++ F), b ∈ v.ownBlock.toList ++ G ∨ n0 ≤ b := by
 have hb' : ∀ b ∈ v'.ownBlock.toList, b ∈ v.ownBlock.toList ∨ b = s8 := fun b hb => by
  rcases hv with h | h
  ·rw [h] at hb; exact .inl hb
  ·rw [h] at hb; simp at hb; exact .inr hb
 refine ⟨⟨v', G ++ F, rfl, ho, rfl⟩, ?_, fun b hb => ?_⟩
 ·obtain ⟨n1, n2, d⟩ := List.nodup_append.1 hn
  rw [List.nodup_append, List.nodup_append]
  refine ⟨dr _, ⟨n2, hF, fun a ha b hb e => ?_⟩, fun a ha b hb e => ?_⟩
  ·have h1 := hlt a (List.mem_append_right _ ha); have h2 := (hFn b hb).1; omega
  ·subst e
   rcases hb' a ha with h | h
   ·rcases List.mem_append.1 hb with hb | hb
    ·exact d a h a hb rfl
    ·have h1 := hlt a (List.mem_append_left _ h); have h2 := (hFn a hb).1; omega
   ·rcases List.mem_append.1 hb with hb | hb
    ·have h1 := hlt a (List.mem_append_right _ hb); omega
    ·have h2 := (hFn a hb).2; omega
 ·rcases List.mem_append.1 hb with hb | hb
  ·rcases hb' b hb with h | h
   ·exact .inl (List.mem_append_left _ h)
   ·exact .inr (by omega)
  ·rcases List.mem_append.1 hb with hb | hb
   ·exact .inl (List.mem_append_right _ hb)
   ·exact .inr (hFn b hb).1
end
theorem dy {w : World} {g t : Nat} {a0 a1 a2 a3 a4 a5 : Value} (b0 b1 b2 b3 b4 b5 : Value) (h : w.heap[g]? = some (.cells #[a0, a1, a2, a3, a4, a5] t (0, 0))) :
  ((((((w.setCell ⟨g, 0, none⟩ b0).setCell ⟨g, 1, none⟩ b1).setCell ⟨g, 2, none⟩ b2).setCell ⟨g, 3, none⟩ b3).setCell ⟨g, 4, none⟩ b4).setCell ⟨g, 5, none⟩ b5).heap[g]? = some (.cells #[b0, b1, b2, b3, b4, b5] t (0, 0)) := by
 exact aK _ _ (aK _ _ (aK _ _ (aK _ _ (aK _ _ (aK _ _ h)))))
theorem bS {w : World} {g : Nat} {b0 b1 b2 b3 b4 b5 : Value} (b : Nat) (hb : b ≠ g) : ((((((w.setCell ⟨g, 0, none⟩ b0).setCell ⟨g, 1, none⟩ b1).setCell ⟨g, 2, none⟩ b2).setCell ⟨g, 3, none⟩ b3).setCell ⟨g, 4, none⟩ b4).setCell ⟨g, 5, none⟩ b5).heap[b]? = w.heap[b]? := by
 repeat rw [Below.heap_setCell _ _ _ _ hb]
section
variable {B b o : Nat} {w w' : World} {x : Wd} {vm vs vn vg : Value} {Fm Fs Fn Fg : List Nat}
theorem Run.cells {L : List Nat} (h : Run B w b o x vm vs vn vg Fm Fs Fn Fg) (ht : Tch L w w') (hb : b ∉ L) : w'.cell? ⟨b, o, none⟩ = some vm ∧ w'.cell? ⟨b, o + 1, none⟩ = some vs ∧ w'.cell? ⟨b, o + 2, none⟩ = some vn ∧ w'.cell? ⟨b, o + 3, none⟩ = some vg ∧ w'.cell? ⟨b, o + 4, none⟩ = some (.int .i64 x.made) ∧ w'.cell? ⟨b, o + 5, none⟩ = some (.int .i64 x.lost) ∧ b < w'.heap.size ∧ ∀ j, w'.frozen? ⟨b, j, none⟩ = false := by
 have hk := ht.block b h.blk hb
 have cc : ∀ j, w'.cell? ⟨b, j, none⟩ = w.cell? ⟨b, j, none⟩ := fun j => World.cell?_of_block (w := w) hk
 exact ⟨(cc _).trans h.c0, (cc _).trans h.c1, (cc _).trans h.c2, (cc _).trans h.c3, (cc _).trans h.c4, (cc _).trans h.c5, Nat.lt_of_lt_of_le h.blk ht.size, fun j => (World.frozen?_of_block (w := w) hk).trans (h.fz j)⟩
theorem qO {t g a4 b3 b8 : Nat} {z0 z1 z2 z3 z4 z5 v3 v8 : Value} (e14 : w.heap[g]? = some (.cells #[z0, z1, z2, z3, z4, z5] t (0, 0))) (h3 : Own tLt 35 0 w v3 x.sent []) (h8 : Own tLt 35 0 w v8 x.got []) (e4 : w.heap[a4]? = some (.cells #[] 42 (0, 0)))
  (o3 : v3.ownBlock = some b3) (o8 : v8.ownBlock = some b8) (d : g ≠ b3 ∧ g ≠ a4 ∧ g ≠ b8 ∧ b3 ≠ a4 ∧ b3 ≠ b8 ∧ a4 ≠ b8) (l : B ≤ g ∧ B ≤ b3 ∧ B ≤ a4 ∧ B ≤ b8) :
  Run B ((((((w.setCell ⟨g, 0, none⟩ (.slice none 0 0)).setCell ⟨g, 1, none⟩ v3).setCell ⟨g, 2, none⟩ (.slice (some ⟨a4, 0, none⟩) 0 0)).setCell ⟨g, 3, none⟩ v8).setCell ⟨g, 4, none⟩ (.int .i64 x.made)).setCell ⟨g, 5, none⟩ (.int .i64 x.lost)) g 0 ⟨[], x.sent, [], x.got, x.made, x.lost⟩ (.slice none 0 0) v3 (.slice (some ⟨a4, 0, none⟩) 0 0) v8 [] [b3] [a4] [b8] := by
 obtain ⟨d1, d2, d3, d4, d5, d6⟩ := d
 obtain ⟨l1, l2, l3, l4⟩ := l
 obtain ⟨q0, q1, q2, q3, q4, q5, qf⟩ := al (dy (.slice none 0 0) v3 (.slice (some ⟨a4, 0, none⟩) 0 0) v8 (.int .i64 x.made) (.int .i64 x.lost) e14)
 have kb : ∀ b, b ≠ g → ((((((w.setCell ⟨g, 0, none⟩ (.slice none 0 0)).setCell ⟨g, 1, none⟩ v3).setCell ⟨g, 2, none⟩ (.slice (some ⟨a4, 0, none⟩) 0 0)).setCell ⟨g, 3, none⟩ v8).setCell ⟨g, 4, none⟩ (.int .i64 x.made)).setCell ⟨g, 5, none⟩ (.int .i64 x.lost)).heap[b]? = w.heap[b]? := fun b hb => bS b hb
 generalize ((((((w.setCell ⟨g, 0, none⟩ (.slice none 0 0)).setCell ⟨g, 1, none⟩ v3).setCell ⟨g, 2, none⟩ (.slice (some ⟨a4, 0, none⟩) 0 0)).setCell ⟨g, 3, none⟩ v8).setCell ⟨g, 4, none⟩ (.int .i64 x.made)).setCell ⟨g, 5, none⟩ (.int .i64 x.lost)) = W at *
 have k3 : Own tLt 35 0 W v3 x.sent [] := h3.keep (fun b hb => by rw [o3] at hb; injection hb with hb; subst hb; exact kb _ (Ne.symm d1)) (fun _ h => by cases h)
 have k8 : Own tLt 35 0 W v8 x.got [] := h8.keep (fun b hb => by rw [o8] at hb; injection hb with hb; subst hb; exact kb _ (Ne.symm d3)) (fun _ h => by cases h)
 have k4 : W.heap[a4]? = some (.cells #[] 42 (0, 0)) := (kb _ (Ne.symm d2)).trans e4
 refine ⟨q0, q1, q2, q3, q4, q5, qf, ⟨_, [], rfl, Own.nil _ _, rfl⟩, ⟨v3, [], rfl, k3, by rw [o3]; rfl⟩, ⟨_, [], rfl, dG k4 (Nat.zero_le _), rfl⟩, ⟨v8, [], rfl, k8, by rw [o8]; rfl⟩, ?_, ?_⟩
 ·simp; omega
 ·intro c hc
  simp at hc
  rcases hc with rfl | rfl | rfl | rfl <;> assumption
theorem Run.newA (h : Run B w b o x vm vs vn vg Fm Fs Fn Fg) : ao oWd B w [vm, vs, vn, vg, .int .i64 x.made, .int .i64 x.lost] x := by
 have hnd := (List.nodup_cons.1 h.nd).2
 refine ⟨Fm ++ (Fs ++ (Fn ++ (Fg ++ ([] ++ [])))), ⟨[vm], _, Fm, _, rfl, rfl, h.em, [vs], _, Fs, _, rfl, rfl, h.es, [vn], _, Fn, _, rfl, rfl, h.en, [vg], _, Fg, _, rfl, rfl, h.eg, [_], [_], [], [], rfl, rfl, ⟨rfl, rfl⟩, ⟨rfl, rfl⟩⟩, ?_, fun c hc => h.lo c ?_⟩
 ·simpa using hnd
 ·simp only [List.append_nil, List.mem_append] at hc
  simp only [List.mem_cons, List.mem_append]
  exact .inr hc
end
theorem Tch.cell {L : List Nat} {W a : World} {b j : Nat} {u : Value} (h : Tch L W a) (hc : W.cell? ⟨b, j, none⟩ = some u) (hb : b ∉ L) : a.cell? ⟨b, j, none⟩ = some u :=
 (World.cell?_of_block (w := W) (h.block b (World.block_lt_of_cell? W _ hc) hb)).trans hc
theorem SlB.tch {α : Type} {T : Ty α} {L : List Nat} {B : Nat} {W a : World} {v : Value} {xs : List α} (h : SlB T B W v xs) (ht : Tch L W a) (hB : B ≤ W.heap.size) (hL : ∀ b ∈ L, B ≤ b) : SlB T a.heap.size a v xs :=
 (h.below (ht.below hB hL) (Nat.le_refl _)).mono (Nat.le_trans hB ht.size)
theorem cN : tLt.isFlat := kY
section
variable {B b s8 : Nat} {w w9 : World} {x : Wd} {vm vs vn vg v' : Value} {Fm Fs Fn Fg G F : List Nat}
theorem Run.cells0 {L : List Nat} {w' : World} (h : Run B w b 0 x vm vs vn vg Fm Fs Fn Fg) (ht : Tch L w w') (hb : b ∉ L) : w'.cell? ⟨b, 0, none⟩ = some vm ∧ w'.cell? ⟨b, 1, none⟩ = some vs ∧ w'.cell? ⟨b, 2, none⟩ = some vn ∧ w'.cell? ⟨b, 3, none⟩ = some vg ∧ w'.cell? ⟨b, 4, none⟩ = some (.int .i64 x.made) ∧ w'.cell? ⟨b, 5, none⟩ = some (.int .i64 x.lost) ∧ b < w'.heap.size ∧ w'.frozen? ⟨b, 0, none⟩ = false ∧ w'.frozen? ⟨b, 1, none⟩ = false ∧ w'.frozen? ⟨b, 2, none⟩ = false ∧ w'.frozen? ⟨b, 3, none⟩ = false ∧ w'.frozen? ⟨b, 4, none⟩ = false ∧ w'.frozen? ⟨b, 5, none⟩ = false := by
 obtain ⟨a0, a1, a2, a3, a4, a5, a6, a7⟩ := h.cells ht hb
 exact ⟨a0, a1, a2, a3, a4, a5, a6, a7 0, a7 1, a7 2, a7 3, a7 4, a7 5⟩
theorem qM {α : Type} {T : Ty α} {e : TypeId} {w : World} {v : Value} {xs : List α} {G : List Nat} (h : (T.own e).E w [v] xs (v.ownBlock.toList ++ G)) : Own T e 0 w v xs G := by
 obtain ⟨u, G', e1, h, e2⟩ := h
 injection e1 with e1; subst e1
 rw [List.append_cancel_left e2]; exact h
theorem ap {α : Type} {T : Ty α} {e : TypeId} {w : World} {v : Value} {xs : List α} {F : List Nat} (h : (T.own e).E w [v] xs F) : ∃ G, F = v.ownBlock.toList ++ G ∧ Own T e 0 w v xs G := by
 obtain ⟨u, G', e1, h, e2⟩ := h
 injection e1 with e1; subst e1
 exact ⟨G', e2, h⟩
theorem Run.pushMix {m : Mx} {o : Nat} (h : Run B w b o x vm vs vn vg (vm.ownBlock.toList ++ G) Fs Fn Fg) (ht : Tch (vm.ownBlock.toList ++ G) w w9) (ho : Own oMx 57 0 w9 v' (x.mixes ++ [m]) (G ++ F)) (hv : v'.ownBlock = vm.ownBlock ∨ v'.ownBlock = some s8) (hF : F.Nodup) (hFn : ∀ c ∈ F, w.heap.size ≤ c ∧ c < s8) (hs : w.heap.size ≤ s8) (hB : B ≤ w.heap.size) :
  Run B (w9.setCell ⟨b, o, none⟩ v') b o ⟨x.mixes ++ [m], x.sent, x.net, x.got, x.made, x.lost⟩ v' vs vn vg (v'.ownBlock.toList ++ (G ++ F)) Fs Fn Fg := by
 have hlt := h.lt
 obtain ⟨a1, a2, a3⟩ := nA (n0 := w.heap.size) ho hv (List.nodup_append.1 (List.nodup_cons.1 h.nd).2).1 hF (fun c hc => hlt c (by simp only [List.mem_cons, List.mem_append] at hc ⊢; exact .inr (.inl hc))) hFn hs
 refine h.mixes' ht a1 a2 (fun c hc => ?_) (fun c hc => ?_)
 ·rcases a3 c hc with h1 | h1
  ·exact .inl h1
  ·exact .inr (fun hm => by have := hlt c hm; omega)
 ·rcases a3 c hc with h1 | h1
  ·exact h.lo c (by simp only [List.mem_cons, List.mem_append] at h1 ⊢; exact .inr (.inl h1))
  ·omega
theorem Run.pushNet {t : Tr} {o : Nat} (h : Run B w b o x vm vs vn vg Fm Fs (vn.ownBlock.toList ++ G) Fg) (ht : Tch (vn.ownBlock.toList ++ G) w w9) (ho : Own oTr 42 0 w9 v' (x.net ++ [t]) (G ++ F)) (hv : v'.ownBlock = vn.ownBlock ∨ v'.ownBlock = some s8) (hF : F.Nodup) (hFn : ∀ c ∈ F, w.heap.size ≤ c ∧ c < s8) (hs : w.heap.size ≤ s8) (hB : B ≤ w.heap.size) :
  Run B (w9.setCell ⟨b, o + 2, none⟩ v') b o ⟨x.mixes, x.sent, x.net ++ [t], x.got, x.made, x.lost⟩ vm vs v' vg Fm Fs (v'.ownBlock.toList ++ (G ++ F)) Fg := by
 have hlt := h.lt
 obtain ⟨a1, a2, a3⟩ := nA (n0 := w.heap.size) ho hv (List.nodup_append.1 (List.nodup_append.1 (List.nodup_append.1 (List.nodup_cons.1 h.nd).2).2.1).2.1).1 hF (fun c hc => hlt c (by simp only [List.mem_cons, List.mem_append] at hc ⊢; exact .inr (.inr (.inr (.inl hc))))) hFn hs
 refine h.net' ht a1 a2 (fun c hc => ?_) (fun c hc => ?_)
 ·rcases a3 c hc with h1 | h1
  ·exact .inl h1
  ·exact .inr (fun hm => by have := hlt c hm; omega)
 ·rcases a3 c hc with h1 | h1
  ·exact h.lo c (by simp only [List.mem_cons, List.mem_append] at h1 ⊢; exact .inr (.inr (.inr (.inl h1))))
  ·omega
end
theorem Own.frozen {α : Type} {T : Ty α} {e B g n c : Nat} {w : World} {xs : List α} {G : List Nat} (h : Own T e B w (.slice (some ⟨g, 0, none⟩) n c) xs G) (j : Nat) : w.frozen? ⟨g, j, none⟩ = false := by
 obtain ⟨A0, c0, e0, _⟩ := h.form
 injection e0 with e1 e2 e3; subst e2 e3
 obtain ⟨cs, h1, _⟩ := h
 exact h1.frozenAt j
theorem eH {B : Nat} {w : World} {x : Wd} {um us un ug : Value} (h : ao oWd B w [um, us, un, ug, .int .i64 x.made, .int .i64 x.lost] x) :
  ∃ Fm Fs Fn Fg, dd.E w [um] x.mixes Fm ∧ bf.E w [us] x.sent Fs ∧ de.E w [un] x.net Fn ∧ bf.E w [ug] x.got Fg ∧ (Fm ++ (Fs ++ (Fn ++ Fg))).Nodup ∧ ∀ c ∈ Fm ++ (Fs ++ (Fn ++ Fg)), B ≤ c := by
 obtain ⟨F, ⟨c1, c2, F1, F2, e1, e2, hm, c3, c4, F3, F4, e3, e4, hs, c5, c6, F5, F6, e5, e6, hn, c7, c8, F7, F8, e7, e8, hg, c9, c10, F9, F10, e9, e10, ⟨rfl, rfl⟩, rfl, rfl⟩, n1, n2⟩ := h
 obtain ⟨vm, G1, rfl, hm', rfl⟩ := hm
 obtain ⟨vs, G2, rfl, hs', rfl⟩ := hs
 obtain ⟨vn, G3, rfl, hn', rfl⟩ := hn
 obtain ⟨vg, G4, rfl, hg', rfl⟩ := hg
 subst e9 e7 e5 e3
 simp at e1
 obtain ⟨rfl, rfl, rfl, rfl⟩ := e1
 subst e10 e8 e6 e4 e2
 simp only [List.append_nil] at n1 n2
 exact ⟨_, _, _, _, ⟨_, G1, rfl, hm', rfl⟩, ⟨_, G2, rfl, hs', rfl⟩, ⟨_, G3, rfl, hn', rfl⟩, ⟨_, G4, rfl, hg', rfl⟩, n1, n2⟩
theorem cL {B : Nat} {w : World} {x : Wd} {um us un ug : Value} (h : ao oWd B w [um, us, un, ug, .int .i64 x.made, .int .i64 x.lost] x) :
  ∃ A1 c1 A2 c2 A3 c3 A4 c4, um = .slice A1 x.mixes.length c1 ∧ us = .slice A2 x.sent.length c2 ∧ un = .slice A3 x.net.length c3 ∧ ug = .slice A4 x.got.length c4 := by
 obtain ⟨_, _, _, _, h1, h2, h3, h4, _⟩ := eH h
 obtain ⟨G1, _, h1⟩ := ap h1
 obtain ⟨G2, _, h2⟩ := ap h2
 obtain ⟨G3, _, h3⟩ := ap h3
 obtain ⟨G4, _, h4⟩ := ap h4
 obtain ⟨A1, c1, e1, _⟩ := h1.form
 obtain ⟨A2, c2, e2, _⟩ := h2.form
 obtain ⟨A3, c3, e3, _⟩ := h3.form
 obtain ⟨A4, c4, e4, _⟩ := h4.form
 exact ⟨_, _, _, _, _, _, _, _, e1, e2, e3, e4⟩
theorem Run.ofNew {B B0 n t : Nat} {w : World} {x : Wd} {um us un ug : Value} (h : ao oWd B w [um, us, un, ug, .int .i64 x.made, .int .i64 x.lost] x) (hr : w.heap[n]? = some (.cells #[um, us, un, ug, .int .i64 x.made, .int .i64 x.lost] t (0, 0))) (hn : n < B) (hB : B0 ≤ n) :
  ∃ Fm Fs Fn Fg, Run B0 w n 0 x um us un ug Fm Fs Fn Fg ∧ ∀ c ∈ Fm ++ (Fs ++ (Fn ++ Fg)), B ≤ c := by
 obtain ⟨Fm, Fs, Fn, Fg, h1, h2, h3, h4, n1, n2⟩ := eH h
 obtain ⟨q0, q1, q2, q3, q4, q5, qf⟩ := al hr
 refine ⟨Fm, Fs, Fn, Fg, ⟨q0, q1, q2, q3, q4, q5, qf, h1, h2, h3, h4, List.nodup_cons.2 ⟨fun hm => by have := n2 n hm; omega, n1⟩, fun c hc => ?_⟩, n2⟩
 rcases List.mem_cons.1 hc with rfl | hc
 ·exact hB
 ·have := n2 c hc; omega
section
variable {B b o : Nat} {w w' : World} {x : Wd} {vm vs vn vg : Value} {Fm Fs Fn Fg : List Nat}
theorem Run.rowMix (h : Run B w b o x vm vs vn vg Fm Fs Fn Fg) (ht : Tch Fm w w') {ys : List Mx} {F' : List Nat} (he : dd.E w' [vm] ys F') (hn : F'.Nodup)
  (hs : ∀ c ∈ F', c ∈ Fm ∨ c ∉ b :: (Fm ++ (Fs ++ (Fn ++ Fg)))) (hB : ∀ c ∈ F', B ≤ c) : Run B w' b o ⟨ys, x.sent, x.net, x.got, x.made, x.lost⟩ vm vs vn vg F' Fs Fn Fg := by
 obtain ⟨n1, n2, n3, n4⟩ := h.nb
 obtain ⟨s1, s2, s3⟩ := h.sep
 have hlt := h.lt
 have hnd : (b :: (F' ++ (Fs ++ (Fn ++ Fg)))).Nodup := by
  have := cP (A := [b]) (F := Fm) (F' := F') (C := (Fs ++ Fn ++ Fg)) (by simpa using h.nd) hn (by simpa using hs)
  simpa using this
 have hbb := ht.block b h.blk n1
 have cc : ∀ j, w'.cell? ⟨b, j, none⟩ = w.cell? ⟨b, j, none⟩ := fun j => World.cell?_of_block (w := w) hbb
 have kp : ∀ c ∈ b :: (Fm ++ (Fs ++ (Fn ++ Fg))), c ∉ Fm → w'.heap[c]? = w.heap[c]? := fun c hc h2 => ht.block c (hlt c hc) h2
 refine ⟨(cc _).trans h.c0, (cc _).trans h.c1, (cc _).trans h.c2, (cc _).trans h.c3, (cc _).trans h.c4, (cc _).trans h.c5, fun j => (World.frozen?_of_block (w := w) hbb).trans (h.fz j), he, bf.keep h.es (fun c hc => kp c (by simp [hc]) (fun e => (s1 c e).1 hc)), de.keep h.en (fun c hc => kp c (by simp [hc]) (fun e => (s1 c e).2.1 hc)), bf.keep h.eg (fun c hc => kp c (by simp [hc]) (fun e => (s1 c e).2.2 hc)), hnd, fun c hc => ?_⟩
 simp only [List.mem_cons, List.mem_append] at hc
 rcases hc with rfl | hc | hc | hc | hc
 ·exact h.lo _ List.mem_cons_self
 ·exact hB c hc
 ·exact h.lo c (by simp [hc])
 ·exact h.lo c (by simp [hc])
 ·exact h.lo c (by simp [hc])
theorem Run.rowNet (h : Run B w b o x vm vs vn vg Fm Fs Fn Fg) (ht : Tch Fn w w') {ys : List Tr} {F' : List Nat} (he : de.E w' [vn] ys F') (hn : F'.Nodup)
  (hs : ∀ c ∈ F', c ∈ Fn ∨ c ∉ b :: (Fm ++ (Fs ++ (Fn ++ Fg)))) (hB : ∀ c ∈ F', B ≤ c) : Run B w' b o ⟨x.mixes, x.sent, ys, x.got, x.made, x.lost⟩ vm vs vn vg Fm Fs F' Fg := by
 obtain ⟨n1, n2, n3, n4⟩ := h.nb
 obtain ⟨s1, s2, s3⟩ := h.sep
 have hlt := h.lt
 have hnd : (b :: (Fm ++ (Fs ++ (F' ++ Fg)))).Nodup := by
  have := cP (A := (b :: (Fm ++ Fs))) (F := Fn) (F' := F') (C := (Fg)) (by simpa using h.nd) hn (by simpa using hs)
  simpa using this
 have hbb := ht.block b h.blk n3
 have cc : ∀ j, w'.cell? ⟨b, j, none⟩ = w.cell? ⟨b, j, none⟩ := fun j => World.cell?_of_block (w := w) hbb
 have kp : ∀ c ∈ b :: (Fm ++ (Fs ++ (Fn ++ Fg))), c ∉ Fn → w'.heap[c]? = w.heap[c]? := fun c hc h2 => ht.block c (hlt c hc) h2
 refine ⟨(cc _).trans h.c0, (cc _).trans h.c1, (cc _).trans h.c2, (cc _).trans h.c3, (cc _).trans h.c4, (cc _).trans h.c5, fun j => (World.frozen?_of_block (w := w) hbb).trans (h.fz j), dd.keep h.em (fun c hc => kp c (by simp [hc]) ((s1 c hc).2.1)), bf.keep h.es (fun c hc => kp c (by simp [hc]) ((s2 c hc).1)), he, bf.keep h.eg (fun c hc => kp c (by simp [hc]) (fun e => s3 c e hc)), hnd, fun c hc => ?_⟩
 simp only [List.mem_cons, List.mem_append] at hc
 rcases hc with rfl | hc | hc | hc | hc
 ·exact h.lo _ List.mem_cons_self
 ·exact h.lo c (by simp [hc])
 ·exact h.lo c (by simp [hc])
 ·exact hB c hc
 ·exact h.lo c (by simp [hc])
theorem Run.setMix {A : Option Addr} {c k : Nat} {m : Mx} {us up : Value} {F' : List Nat} (h : Run B w b o x (.slice A x.mixes.length c) vs vn vg Fm Fs Fn Fg) (hk : k < x.mixes.length) (he : oMx.E w [.int .i64 m.sec, us, up] m F') (hn : F'.Nodup) (hf : ∀ a ∈ F', B ≤ a ∧ a ∉ b :: (Fm ++ (Fs ++ (Fn ++ Fg)))) :
  ∃ g F2, A = some ⟨g, 0, none⟩ ∧ g ∈ Fm ∧ Run B (((w.setCell ⟨g, k * 3, none⟩ (.int .i64 m.sec)).setCell ⟨g, k * 3 + 1, none⟩ us).setCell ⟨g, k * 3 + 2, none⟩ up) b o (bo x k m) (.slice A x.mixes.length c) vs vn vg F2 Fs Fn Fg ∧ ∀ a ∈ F2, a ∈ Fm ∨ a ∈ F' := by
 obtain ⟨G, rfl, ho⟩ := ap h.em
 obtain ⟨g, rfl⟩ := Own.addr ho (by omega)
 have hgm : g ∈ (Value.slice (some ⟨g, 0, none⟩) x.mixes.length c).ownBlock.toList ++ G := by simp [Value.ownBlock]
 have hg : g ∉ F' := fun hm => (hf g hm).2 (by simp [Value.ownBlock])
 obtain ⟨F1, F0, F2, rfl, hp⟩ := Own.put ho hk he hg
 have hnd0 := (List.nodup_append.1 (List.nodup_cons.1 h.nd).2).1
 refine ⟨g, g :: (F1 ++ (F' ++ F2)), rfl, hgm, ?_, ?_⟩
 ·refine h.rowMix (F' := g :: (F1 ++ (F' ++ F2))) ?_ ⟨_, F1 ++ (F' ++ F2), rfl, hp, by simp [Value.ownBlock]⟩ ?_ (fun a ha => ?_) (fun a ha => ?_)
  ·exact ((((Tch.refl _ w).setCell (.inl hgm) _).setCell (.inl hgm) _).setCell (.inl hgm) _)
  ·have h1 : (([g] ++ F1) ++ (F0 ++ F2)).Nodup := by simpa [Value.ownBlock] using hnd0
   have := cP h1 hn (fun a ha => .inr (fun hm => (hf a ha).2 (by
    simp only [List.mem_cons, List.mem_append, Value.ownBlock, Option.toList] at hm ⊢
    rcases hm with (hm | hm) | hm | hm
    ·simp at hm; subst hm; exact .inr (.inl (.inl (by simp)))
    ·exact .inr (.inl (.inr (.inl hm)))
    ·exact .inr (.inl (.inr (.inr (.inl hm))))
    ·exact .inr (.inl (.inr (.inr (.inr hm)))))))
   simpa using this
  ·simp only [List.mem_cons, List.mem_append] at ha
   rcases ha with rfl | ha | ha | ha
   ·exact .inl hgm
   ·exact .inl (by simp [ha])
   ·exact .inr (hf a ha).2
   ·exact .inl (by simp [ha])
  ·simp only [List.mem_cons, List.mem_append] at ha
   rcases ha with rfl | ha | ha | ha
   ·exact h.lo _ (by simp [Value.ownBlock])
   ·exact h.lo _ (by simp [ha])
   ·exact (hf a ha).1
   ·exact h.lo _ (by simp [ha])
 ·intro a ha
  simp only [List.mem_cons, List.mem_append] at ha
  rcases ha with rfl | ha | ha | ha
  ·exact .inl hgm
  ·exact .inl (by simp [ha])
  ·exact .inr ha
  ·exact .inl (by simp [ha])
theorem Run.wdR {P : Nat → Prop} (h : Run B w b o x vm vs vn vg Fm Fs Fn Fg) (hP : ∀ c ∈ Fm ++ (Fs ++ (Fn ++ Fg)), P c) : WdR P w (.agg #[vm, vs, vn, vg, .int .i64 x.made, .int .i64 x.lost]) x := by
 obtain ⟨F1, ⟨_, e1, g1⟩, s1⟩ := (Ty.le_own rO _).2 h.em
 obtain ⟨F2, ⟨_, e2, g2⟩, s2⟩ := (Ty.le_own (Ty.le_refl tLt) _).2 h.es
 obtain ⟨F3, ⟨_, e3, g3⟩, s3⟩ := (Ty.le_own oQ _).2 h.en
 obtain ⟨F4, ⟨_, e4, g4⟩, s4⟩ := (Ty.le_own (Ty.le_refl tLt) _).2 h.eg
 injection e1 with e1; injection e2 with e2; injection e3 with e3; injection e4 with e4
 subst e1 e2 e3 e4
 exact ⟨_, _, _, _, rfl, ⟨F1, g1, fun c hc => hP c (by simp [s1 c hc])⟩, ⟨F2, g2, fun c hc => hP c (by simp [s2 c hc])⟩, ⟨F3, g3, fun c hc => hP c (by simp [s3 c hc])⟩, ⟨F4, g4, fun c hc => hP c (by simp [s4 c hc])⟩⟩
end
section
variable {α : Type} {T : Ty α} {w : World}
theorem Own.cut3 {e B g n c i : Nat} {xs : List α} {G : List Nat} {x : α} (h : Own T e B w (.slice (some ⟨g, 0, none⟩) n c) xs G) (hx : xs[i]? = some x) :
  ∃ F1 F0 F2, G = F1 ++ (F0 ++ F2) ∧ Own T e B w (.slice (some ⟨g, 0, none⟩) i c) (xs.take i) F1 ∧ (∃ cx, T.E w cx x F0 ∧ ∀ j u, cx[j]? = some u → w.cell? ⟨g, i * T.k + j, none⟩ = some u) ∧
   ∀ (A : Option Addr) (cc : Nat), (i + 1 < xs.length → A = some ⟨g, (i + 1) * T.k, none⟩) → xs.length - (i + 1) ≤ cc → cc ≤ maxLen → ∃ F, Sl T w (.slice A (xs.length - (i + 1)) cc) (xs.drop (i + 1)) F ∧ F.tail = F2 := by
 obtain ⟨A0, c0, e0, hc1, hc2, _⟩ := h.form
 injection e0 with e1 e2 e3; subst e2 e3
 have hi := (List.getElem?_eq_some_iff.1 hx).1
 have hgw := (h.top g rfl).2
 obtain ⟨cs, h1, h2, h3⟩ := h
 obtain ⟨c1, cm, c2, F1, F0, F2, rfl, rfl, hl, k1, k2, k3⟩ := Ty.els_mid h2 hx
 have hgG := h3 g rfl
 simp only [List.mem_append, not_or] at hgG
 have hlt : (xs.take i).length = i := by simp; omega
 have hcell : ∀ j u, (c1 ++ (cm ++ c2))[j]? = some u → w.cell? ⟨g, j, none⟩ = some u := fun j u hj => by
  have hl' := (List.getElem?_eq_some_iff.1 hj).1
  rw [h1.cellAt j (by rw [h1.1] at hl'; exact hl')]; exact hj
 refine ⟨F1, F0, F2, rfl, ⟨c1, ⟨by rw [hlt]; exact hl, ?_⟩, k1, fun b hb => by simp [Value.ownBlock] at hb; subst hb; exact hgG.1⟩, ⟨cm, k2, fun j u hj => ?_⟩, fun A cc hA hcc hcm => ?_⟩
 ·rcases h1.2 with ⟨h, _⟩ | ⟨g', cap, cur, e1, hB, hg, hnc, hcm, hsz, htk⟩
  ·cases h
  ·injection e1 with e1 e2 e3
   injection e1 with e1; injection e1 with e1
   subst e1 e3
   refine .inr ⟨g, c, cur, by rw [hlt], hB, hg, by rw [hlt]; omega, hcm, hsz, ?_⟩
   rw [hlt]
   have := congrArg (List.take (i * T.k)) htk
   rw [List.take_take, Nat.min_eq_left (Nat.mul_le_mul_right _ (by omega)), ← hl, List.take_left] at this
   rw [← hl]; exact this
 ·rw [← hl]
  refine hcell _ _ ?_
  have hjl := (List.getElem?_eq_some_iff.1 hj).1
  rw [List.getElem?_append_right (by omega), Nat.add_sub_cancel_left, List.getElem?_append_left hjl]; exact hj
 ·have hlen : (xs.drop (i + 1)).length = xs.length - (i + 1) := by simp
  by_cases h0 : xs.length ≤ i + 1
  ·have hd : xs.drop (i + 1) = [] := List.drop_eq_nil_of_le h0
   rw [hd] at k3
   obtain ⟨_, rfl⟩ := k3
   exact ⟨[], ⟨_, cc, [], by rw [hlen], by omega, hcm, .inl ⟨hd, rfl⟩⟩, rfl⟩
  ·obtain rfl := hA (by omega)
   refine ⟨g :: F2, ⟨_, cc, c2, by rw [hlen], by omega, hcm, .inr ⟨g, (i + 1) * T.k, F2, rfl, rfl, fun e => h0 (by simpa using e), hgw, k3, fun j u hj => ?_⟩⟩, rfl⟩
   have hl2 : (i + 1) * T.k = c1.length + cm.length := by rw [T.len k2, hl, Nat.succ_mul]
   rw [hl2]
   refine hcell _ _ ?_
   rw [List.getElem?_append_right (by omega), List.getElem?_append_right (by omega)]
   rw [show c1.length + cm.length + j - c1.length - cm.length = j from by omega]; exact hj
theorem Own.cell {e B g n c i j : Nat} {xs : List α} {G : List Nat} {x : α} {u : Value} (h : Own T e B w (.slice (some ⟨g, 0, none⟩) n c) xs G) (hx : xs[i]? = some x) (hj : j < T.k) :
  ∃ cx F0, T.E w cx x F0 ∧ (∀ b ∈ F0, b ∈ G) ∧ (∀ k v, cx[k]? = some v → w.cell? ⟨g, i * T.k + k, none⟩ = some v) ∧ ∀ x', (∀ w', T.E w' cx x F0 → T.E w' (cx.set j u) x' F0) → Own T e B (w.setCell ⟨g, i * T.k + j, none⟩ u) (.slice (some ⟨g, 0, none⟩) n c) (xs.set i x') G := by
 obtain ⟨A0, c0, e0, hc1, hc2, _⟩ := h.form
 injection e0 with e1 e2 e3; subst e2 e3
 have hi := (List.getElem?_eq_some_iff.1 hx).1
 obtain ⟨cs, h1, h2, h3⟩ := h
 obtain ⟨c1, cm, c2, F1, F0, F2, rfl, rfl, hl, k1, k2, k3⟩ := Ty.els_mid h2 hx
 have hgG := h3 g rfl
 have hgG' := hgG
 simp only [List.mem_append, not_or] at hgG
 have hcl := T.len k2
 have bl : ∀ b, b ≠ g → (w.setCell ⟨g, i * T.k + j, none⟩ u).heap[b]? = w.heap[b]? := fun b hb => Below.heap_setCell _ _ _ _ hb
 refine ⟨cm, F0, k2, fun b hb => by simp [hb], fun k v hk => ?_, fun x' hE => ?_⟩
 ·have hk' : (c1 ++ (cm ++ c2))[c1.length + k]? = some v := by
   have hkl := (List.getElem?_eq_some_iff.1 hk).1
   rw [List.getElem?_append_right (by omega), Nat.add_sub_cancel_left, List.getElem?_append_left hkl]; exact hk
  have hl' := (List.getElem?_eq_some_iff.1 hk').1
  rw [← hl, h1.cellAt (c1.length + k) (by rw [h1.1] at hl'; exact hl')]
  exact hk'
 ·have hs := iV h1 (i * T.k + j) u
  rw [← hl, List.set_append_right _ _ (by omega), Nat.add_sub_cancel_left, List.set_append_left _ _ (by omega)] at hs
  rw [← hl]
  refine ⟨c1 ++ (cm.set j u ++ c2), by rw [List.length_set]; exact hs, ?_, h3⟩
  rw [hl]
  exact Ty.els_join hi (Ty.els_keep k1 (fun b hb => bl b (fun e => hgG.1 (e ▸ hb)))) (hE _ (T.keep k2 (fun b hb => bl b (fun e => hgG.2.1 (e ▸ hb))))) (Ty.els_keep k3 (fun b hb => bl b (fun e => hgG.2.2 (e ▸ hb))))
end
theorem no {w : World} {cs : List Value} {t : Tr} {F : List Nat} (h : oTr.E w cs t F) : ∃ vh vb Fh Fb, cs = [.int .i64 t.mix, .int .i64 t.pk.el, vh, .int .i64 t.pk.tag, vb, .bool t.ch] ∧ F = Fh ++ Fb ∧ bK.E w [vh] t.pk.hd Fh ∧ bK.E w [vb] t.pk.bd Fb := by
 obtain ⟨c1, c2, F1, F2, rfl, rfl, ⟨rfl, rfl⟩, c3, c4, F3, F4, rfl, rfl, ⟨c5, c6, F5, F6, rfl, rfl, ⟨rfl, rfl⟩, c7, c8, F7, F8, rfl, rfl, ⟨vh, Gh, rfl, hh, rfl⟩, c9, c10, F9, F10, rfl, rfl, ⟨rfl, rfl⟩, ⟨vb, Gb, rfl, hb, rfl⟩⟩, ⟨rfl, rfl⟩⟩ := h
 exact ⟨vh, vb, _, _, rfl, by simp, ⟨vh, Gh, rfl, hh, rfl⟩, ⟨vb, Gb, rfl, hb, rfl⟩⟩
theorem mg {w : World} {t : Tr} {vh vb : Value} {Fh Fb : List Nat} (h1 : bK.E w [vh] t.pk.hd Fh) (h2 : bK.E w [vb] t.pk.bd Fb) : oTr.E w [.int .i64 t.mix, .int .i64 t.pk.el, vh, .int .i64 t.pk.tag, vb, .bool t.ch] t (Fh ++ Fb) :=
 ⟨[_], _, [], _, rfl, rfl, ⟨rfl, rfl⟩, [_, _, _, _], [_], _, [], rfl, by simp, ⟨[_], _, [], _, rfl, rfl, ⟨rfl, rfl⟩, [_], _, Fh, _, rfl, rfl, h1, [_], [_], [], Fb, rfl, rfl, ⟨rfl, rfl⟩, h2⟩, ⟨rfl, rfl⟩⟩
def chT (t : Tr) (k : Nat) (n : Int) : Tr := ⟨t.mix, ⟨t.pk.el, t.pk.hd.set k n, t.pk.tag, t.pk.bd⟩, true⟩
theorem Run.chg {B b o : Nat} {w : World} {x : Wd} {vm vs vg : Value} {A : Option Addr} {c : Nat} {Fm Fs Fn Fg : List Nat} (h : Run B w b o x vm vs (.slice A x.net.length c) vg Fm Fs Fn Fg) {i : Nat} {t : Tr} (hi : x.net[i]? = some t) {k : Nat} {nk : Int} (hk : t.pk.hd[k]? = some nk) :
  ∃ g gh cc vb, A = some ⟨g, 0, none⟩ ∧ g ∈ Fn ∧ gh ∈ Fn ∧ g ≠ gh ∧ w.cell? ⟨g, i * 6, none⟩ = some (.int .i64 t.mix) ∧ w.cell? ⟨g, i * 6 + 1, none⟩ = some (.int .i64 t.pk.el) ∧ w.cell? ⟨g, i * 6 + 2, none⟩ = some (.slice (some ⟨gh, 0, none⟩) t.pk.hd.length cc) ∧ w.cell? ⟨g, i * 6 + 3, none⟩ = some (.int .i64 t.pk.tag) ∧ w.cell? ⟨g, i * 6 + 4, none⟩ = some vb ∧ w.cell? ⟨g, i * 6 + 5, none⟩ = some (.bool t.ch) ∧
   w.cell? ⟨gh, k, none⟩ = some (.int .i64 nk) ∧ (∀ j, w.frozen? ⟨gh, j, none⟩ = false) ∧ (∀ j, w.frozen? ⟨g, j, none⟩ = false) ∧ t.pk.hd.length ≤ cc ∧
   ∀ n, Run B ((w.setCell ⟨gh, k, none⟩ (.int .i64 n)).setCell ⟨g, i * 6 + 5, none⟩ (.bool true)) b o (ba x (x.net.set i (chT t k n))) vm vs (.slice A x.net.length c) vg Fm Fs Fn Fg := by
 have hil := (List.getElem?_eq_some_iff.1 hi).1
 have hkl := (List.getElem?_eq_some_iff.1 hk).1
 obtain ⟨G, rfl, ho⟩ := ap h.en
 obtain ⟨g, rfl⟩ := Own.addr ho (by omega)
 have hnd := (List.nodup_append.1 (List.nodup_append.1 (List.nodup_append.1 (List.nodup_cons.1 h.nd).2).2.1).2.1).1
 have hnG := (List.nodup_append.1 hnd).2.1
 have hgG := ho.choose_spec.2.2 g rfl
 have hgm : g ∈ (Value.slice (some ⟨g, 0, none⟩) x.net.length c).ownBlock.toList ++ G := by simp [Value.ownBlock]
 obtain ⟨F1, F0, F2, cx, hG, hE, hc, hin⟩ := Own.inner ho hi hnG
 obtain ⟨vh, vb, Fh, Fb, rfl, rfl, hh, hb⟩ := no hE
 obtain ⟨Gh, rfl, oh⟩ := ap hh
 obtain rfl := am ai oh
 obtain ⟨gh, rfl'⟩ : ∃ gh, ∃ cc, vh = .slice (some ⟨gh, 0, none⟩) t.pk.hd.length cc ∧ t.pk.hd.length ≤ cc := by
  obtain ⟨Ah, ch, rfl, hle, _⟩ := oh.form
  obtain ⟨gh, rfl⟩ := Own.addr oh (by omega)
  exact ⟨gh, ch, rfl, hle⟩
 obtain ⟨cc, rfl, hcc⟩ := rfl'
 have hghG : gh ∈ G := by rw [hG]; simp [Value.ownBlock]
 have hne : g ≠ gh := fun e => hgG (e ▸ hghG)
 have hd0 : (F1 ++ ((Value.slice (some ⟨gh, 0, none⟩) t.pk.hd.length cc).ownBlock.toList ++ [] ++ Fb ++ F2)).Nodup := hG ▸ hnG
 have hghb : gh ∉ Fb := fun hm => by
  have h1 := (List.nodup_append.1 hd0).2.1
  have h2 := (List.nodup_append.1 h1).1
  exact (List.nodup_append.1 h2).2.2 gh (by simp [Value.ownBlock]) gh hm rfl
 obtain ⟨gh', e1, _, _, hck, hfk⟩ := oh.int hk
 injection e1 with e1; injection e1 with e1; subst e1
 have hc' : ∀ j u, ([.int .i64 t.mix, .int .i64 t.pk.el, .slice (some ⟨gh, 0, none⟩) t.pk.hd.length cc, .int .i64 t.pk.tag, vb, .bool t.ch] : List Value)[j]? = some u → w.cell? ⟨g, i * 6 + j, none⟩ = some u := hc
 refine ⟨g, gh, cc, vb, rfl, hgm, List.mem_append_right _ hghG, hne, hc' 0 _ rfl, hc' 1 _ rfl, hc' 2 _ rfl, hc' 3 _ rfl, hc' 4 _ rfl, hc' 5 _ rfl, hck, fun j => oh.frozen j, fun j => ho.frozen j, hcc, fun n => ?_⟩
 have ob : ∀ b', b' ≠ gh → (w.setCell ⟨gh, k, none⟩ (.int .i64 n)).heap[b']? = w.heap[b']? := fun b' hb' => Below.heap_setCell _ _ _ _ hb'
 have hb1 : bK.E (w.setCell ⟨gh, k, none⟩ (.int .i64 n)) [vb] t.pk.bd Fb := bK.keep hb (fun b' hm => ob b' (fun e => hghb (e ▸ hm)))
 have hi1 := oh.int_set (i := k) n
 have ho1 := hin (w.setCell ⟨gh, k, none⟩ (.int .i64 n)) ⟨t.mix, ⟨t.pk.el, t.pk.hd.set k n, t.pk.tag, t.pk.bd⟩, t.ch⟩
  (mg (t := ⟨t.mix, ⟨t.pk.el, t.pk.hd.set k n, t.pk.tag, t.pk.bd⟩, t.ch⟩) ⟨_, [], rfl, hi1, rfl⟩ hb1) (fun b' _ hm => ob b' (fun e => hm (by subst e; simp [Value.ownBlock])))
 have hx1 : (x.net.set i ⟨t.mix, ⟨t.pk.el, t.pk.hd.set k n, t.pk.tag, t.pk.bd⟩, t.ch⟩)[i]? = some ⟨t.mix, ⟨t.pk.el, t.pk.hd.set k n, t.pk.tag, t.pk.bd⟩, t.ch⟩ := by simp [hil]
 obtain ⟨cx2, F02, hE2, _, _, hs2⟩ := Own.cell (j := 5) (u := .bool true) ho1 hx1 (by decide)
 have ho2 := hs2 (chT t k n) (fun w' hw => by
  obtain ⟨vh2, vb2, Fh2, Fb2, rfl, rfl, q1, q2⟩ := no hw
  exact mg (t := chT t k n) q1 q2)
 rw [List.set_set] at ho2
 refine h.rowNet (ys := x.net.set i (chT t k n)) (F' := (Value.slice (some ⟨g, 0, none⟩) x.net.length c).ownBlock.toList ++ G) ?_ ⟨_, G, rfl, ho2, rfl⟩ hnd (fun a ha => .inl ha) (fun a ha => h.lo a (by simp only [List.mem_cons, List.mem_append] at ha ⊢; exact .inr (.inr (.inr (.inl ha)))))
 exact ((Tch.refl _ w).setCell (.inl (List.mem_append_right _ hghG)) _).setCell (.inl hgm) _
end Go.Proofs.YtfmibcofgckldaaGreatDoor
