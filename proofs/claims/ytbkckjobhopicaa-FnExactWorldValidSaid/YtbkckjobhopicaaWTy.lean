/- Data of a run: packets, mixes, letters and runs, as they lie in memory; read-only, and owned. -/
import Derived.Test.YtbkckjobhopicaaMem
namespace Go.Proofs.Ytbkckjobhopicaa
open Go Go.RowKit
theorem below_drew1 {B : Nat} {w w' : World} (h : Below B w w') : Below B w w'.drew := below_drewN h 1
section
variable {α β γ : Type}
/-- one datum behind the other -/
def Ty.prod (A : Ty α) (B : Ty β) : Ty (α × β) where
  k := A.k + B.k
  E := fun w cs x F => ∃ c1 c2 F1 F2, cs = c1 ++ c2 ∧ F = F1 ++ F2 ∧ A.E w c1 x.1 F1 ∧ B.E w c2 x.2 F2
  len := by rintro w cs x F ⟨c1, c2, F1, F2, rfl, rfl, h1, h2⟩; rw [List.length_append, A.len h1, B.len h2]
  keep := by
    rintro w w' cs x F ⟨c1, c2, F1, F2, rfl, rfl, h1, h2⟩ hk
    exact ⟨c1, c2, F1, F2, rfl, rfl, A.keep h1 (fun b hb => hk b (List.mem_append_left _ hb)), B.keep h2 (fun b hb => hk b (List.mem_append_right _ hb))⟩
  lt := by
    rintro w cs x F ⟨c1, c2, F1, F2, rfl, rfl, h1, h2⟩ b hb
    rcases List.mem_append.1 hb with h | h
    · exact A.lt h1 b h
    · exact B.lt h2 b h
  one := by
    rintro w cs x F ⟨c1, c2, F1, F2, rfl, rfl, h1, h2⟩ u hu
    rcases List.mem_append.1 hu with h | h
    · exact A.one h1 u h
    · exact B.one h2 u h
/-- a record, read as the tuple of its fields -/
def Ty.via (f : α → β) (T : Ty β) : Ty α where
  k := T.k
  E := fun w cs x F => T.E w cs (f x) F
  len := fun h => T.len h
  keep := fun h hk => T.keep h hk
  lt := fun h => T.lt h
  one := fun h => T.one h
/-- a slice that the call owns -/
def Ty.own (T : Ty α) (e : TypeId) : Ty (List α) where
  k := 1
  E := fun w cs xs F => ∃ v G, cs = [v] ∧ Own T e 0 w v xs G ∧ F = v.ownBlock.toList ++ G
  len := by rintro w cs xs F ⟨v, G, rfl, _⟩; rfl
  keep := by
    rintro w w' cs xs F ⟨v, G, rfl, h, rfl⟩ hk
    exact ⟨v, G, rfl, h.keep (fun b hb => hk b (by simp [hb])) (fun b hb => hk b (by simp [hb])), rfl⟩
  lt := by
    rintro w cs xs F ⟨v, G, rfl, h, rfl⟩ b hb
    rcases List.mem_append.1 hb with hb | hb
    · exact (h.top b (by simpa using hb)).2
    · exact h.lt b hb
  one := by
    rintro w cs xs F ⟨v, G, rfl, h, rfl⟩ u hu
    obtain ⟨A, c, rfl, _⟩ := h.form
    simp at hu; subst hu; rfl
/-- whatever reads as T reads as T' -/
def Ty.le (T T' : Ty α) : Prop := T.k = T'.k ∧ ∀ {w cs x F}, T.E w cs x F → ∃ F', T'.E w cs x F' ∧ ∀ b ∈ F', b ∈ F
theorem Ty.le_refl (T : Ty α) : T.le T := ⟨rfl, fun h => ⟨_, h, fun _ hb => hb⟩⟩
theorem Ty.le_prod {A A' : Ty α} {B B' : Ty β} (ha : A.le A') (hb : B.le B') : (A.prod B).le (A'.prod B') := by
  refine ⟨by show A.k + B.k = A'.k + B'.k; rw [ha.1, hb.1], ?_⟩
  rintro w cs x F ⟨c1, c2, F1, F2, rfl, rfl, h1, h2⟩
  obtain ⟨G1, g1, s1⟩ := ha.2 h1
  obtain ⟨G2, g2, s2⟩ := hb.2 h2
  refine ⟨_, ⟨c1, c2, G1, G2, rfl, rfl, g1, g2⟩, fun b hb => ?_⟩
  rcases List.mem_append.1 hb with h | h
  · exact List.mem_append_left _ (s1 b h)
  · exact List.mem_append_right _ (s2 b h)
theorem Ty.le_via {f : α → β} {T T' : Ty β} (h : T.le T') : (T.via f).le (T'.via f) := ⟨h.1, fun hE => h.2 hE⟩
theorem Ty.le_els {T T' : Ty α} (h : T.le T') {w : World} {cs : List Value} {xs : List α} {F : List Nat} (hE : T.els w cs xs F) : ∃ F', T'.els w cs xs F' ∧ ∀ b ∈ F', b ∈ F := by
  induction xs generalizing cs F with
  | nil => obtain ⟨rfl, rfl⟩ := hE; exact ⟨[], ⟨rfl, rfl⟩, fun _ hb => hb⟩
  | cons x xs ih =>
    obtain ⟨c1, c2, F1, F2, rfl, rfl, h1, h2⟩ := hE
    obtain ⟨G1, g1, s1⟩ := h.2 h1
    obtain ⟨G2, g2, s2⟩ := ih h2
    refine ⟨_, ⟨c1, c2, G1, G2, rfl, rfl, g1, g2⟩, fun b hb => ?_⟩
    rcases List.mem_append.1 hb with h | h
    · exact List.mem_append_left _ (s1 b h)
    · exact List.mem_append_right _ (s2 b h)
theorem Sl.le {T T' : Ty α} (h : T.le T') {w : World} {v : Value} {xs : List α} {F : List Nat} (hs : Sl T w v xs F) : ∃ F', Sl T' w v xs F' ∧ ∀ b ∈ F', b ∈ F := by
  obtain ⟨A, c, cs, h1, h2, h3, h4⟩ := hs
  rcases h4 with ⟨rfl, rfl⟩ | ⟨b, o, G, rfl, rfl, hne, hb, hels, hc⟩
  · exact ⟨[], ⟨A, c, cs, h1, h2, h3, .inl ⟨rfl, rfl⟩⟩, fun _ hb => hb⟩
  · obtain ⟨G', hg, hs⟩ := Ty.le_els h hels
    refine ⟨b :: G', ⟨_, c, cs, h1, h2, h3, .inr ⟨b, o, G', rfl, rfl, hne, hb, hg, hc⟩⟩, fun x hx => ?_⟩
    rcases List.mem_cons.1 hx with rfl | hx
    · exact List.mem_cons_self
    · exact List.mem_cons_of_mem _ (hs x hx)
theorem Ty.le_own {T T' : Ty α} (h : T.le T') (e : TypeId) : (T.own e).le T'.sl := by
  refine ⟨rfl, ?_⟩
  rintro w cs xs F ⟨v, G, rfl, ho, rfl⟩
  obtain ⟨F1, hs, hF⟩ := ho.sl
  obtain ⟨F2, hs2, hF2⟩ := hs.le h
  refine ⟨F2, ⟨v, rfl, hs2⟩, fun b hb => ?_⟩
  rcases hF b (hF2 b hb) with h | h
  · exact List.mem_append_left _ (by simp [h])
  · exact List.mem_append_right _ h
theorem Ty.le_sl {T T' : Ty α} (h : T.le T') : T.sl.le T'.sl := by
  refine ⟨rfl, ?_⟩
  rintro w cs xs F ⟨v, rfl, hs⟩
  obtain ⟨F2, hs2, hF2⟩ := hs.le h
  exact ⟨F2, ⟨v, rfl, hs2⟩, hF2⟩
theorem SlB.le {T T' : Ty α} (h : T.le T') {B : Nat} {w : World} {v : Value} {xs : List α} (hs : SlB T B w v xs) : SlB T' B w v xs := by
  obtain ⟨F, hs, hF⟩ := hs
  obtain ⟨F', hs', hF'⟩ := hs.le h
  exact ⟨F', hs', fun b hb => hF b (hF' b hb)⟩
theorem prod_E {A : Ty α} {B : Ty β} {w : World} {cs : List Value} {x : α × β} {F : List Nat} : (A.prod B).E w cs x F ↔ ∃ c1 c2 F1 F2, cs = c1 ++ c2 ∧ F = F1 ++ F2 ∧ A.E w c1 x.1 F1 ∧ B.E w c2 x.2 F2 := Iff.rfl
end

structure Pk where
  el : Int
  hd : List Int
  tag : Int
  bd : List Int
structure Pl where
  kind : Int
  next : Int
  pk : Pk
structure Tr where
  mix : Int
  pk : Pk
  ch : Bool
structure Lt where
  fr : Int
  to : Int
  num : Int
structure Mx where
  sec : Int
  seen : List Int
  pool : List Pl
structure Wd where
  mixes : List Mx
  sent : List Lt
  net : List Tr
  got : List Lt
  made : Int
  lost : Int
def pkTy (L : Ty (List Int)) : Ty Pk := (tInt.prod (L.prod (tInt.prod L))).via fun x => (x.el, x.hd, x.tag, x.bd)
def plTy (P : Ty Pk) : Ty Pl := (tInt.prod (tInt.prod P)).via fun x => (x.kind, x.next, x.pk)
def trTy (P : Ty Pk) : Ty Tr := (tInt.prod (P.prod tBool)).via fun x => (x.mix, x.pk, x.ch)
def tLt : Ty Lt := Ty.flat 3 (fun s => [.int .i64 s.fr, .int .i64 s.to, .int .i64 s.num]) (fun _ => rfl) (fun _ u hu => by simp at hu; rcases hu with rfl | rfl | rfl <;> rfl)
def mxTy (L : Ty (List Int)) (Q : Ty (List Pl)) : Ty Mx := (tInt.prod (L.prod Q)).via fun x => (x.sec, x.seen, x.pool)
def wdTy (M : Ty (List Mx)) (L : Ty (List Lt)) (N : Ty (List Tr)) : Ty Wd := (M.prod (L.prod (N.prod (L.prod (tInt.prod tInt))))).via fun x => (x.mixes, x.sent, x.net, x.got, x.made, x.lost)
/-- read-only -/
def tPk : Ty Pk := pkTy tInt.sl
def tPl : Ty Pl := plTy tPk
def tTr : Ty Tr := trTy tPk
def tMx : Ty Mx := mxTy tInt.sl tPl.sl
def tWd : Ty Wd := wdTy tMx.sl tLt.sl tTr.sl
theorem tPk_E {w : World} {cs : List Value} {x : Pk} {F : List Nat} : tPk.E w cs x F ↔ ∃ vh vb Fh Fb, cs = [.int .i64 x.el, vh, .int .i64 x.tag, vb] ∧ F = Fh ++ Fb ∧ Sl tInt w vh x.hd Fh ∧ Sl tInt w vb x.bd Fb := by
  constructor
  · rintro ⟨c1, c2, F1, F2, rfl, rfl, ⟨rfl, rfl⟩, c3, c4, F3, F4, rfl, rfl, ⟨vh, rfl, hh⟩, c5, c6, F5, F6, rfl, rfl, ⟨rfl, rfl⟩, vb, rfl, hb⟩
    exact ⟨vh, vb, F3, F6, rfl, by simp, hh, hb⟩
  · rintro ⟨vh, vb, Fh, Fb, rfl, rfl, hh, hb⟩
    exact ⟨[_], _, [], _, rfl, by simp, ⟨rfl, rfl⟩, [_], _, Fh, Fb, rfl, rfl, ⟨vh, rfl, hh⟩, [_], [_], [], Fb, rfl, rfl, ⟨rfl, rfl⟩, vb, rfl, hb⟩
theorem tPl_E {w : World} {cs : List Value} {x : Pl} {F : List Nat} : tPl.E w cs x F ↔ ∃ c, cs = .int .i64 x.kind :: .int .i64 x.next :: c ∧ tPk.E w c x.pk F := by
  constructor
  · rintro ⟨c1, c2, F1, F2, rfl, rfl, ⟨rfl, rfl⟩, c3, c4, F3, F4, rfl, rfl, ⟨rfl, rfl⟩, hp⟩
    exact ⟨c4, rfl, by simpa using hp⟩
  · rintro ⟨c, rfl, hp⟩
    exact ⟨[_], _, [], F, rfl, by simp, ⟨rfl, rfl⟩, [_], c, [], F, rfl, by simp, ⟨rfl, rfl⟩, hp⟩
theorem tTr_E {w : World} {cs : List Value} {x : Tr} {F : List Nat} : tTr.E w cs x F ↔ ∃ c, cs = .int .i64 x.mix :: (c ++ [.bool x.ch]) ∧ tPk.E w c x.pk F := by
  constructor
  · rintro ⟨c1, c2, F1, F2, rfl, rfl, ⟨rfl, rfl⟩, c3, c4, F3, F4, rfl, rfl, hp, ⟨rfl, rfl⟩⟩
    exact ⟨c3, rfl, by simpa using hp⟩
  · rintro ⟨c, rfl, hp⟩
    exact ⟨[_], _, [], F, rfl, by simp, ⟨rfl, rfl⟩, c, [_], F, [], rfl, by simp, hp, ⟨rfl, rfl⟩⟩
theorem tMx_E {w : World} {cs : List Value} {x : Mx} {F : List Nat} : tMx.E w cs x F ↔ ∃ vs vp Fs Fp, cs = [.int .i64 x.sec, vs, vp] ∧ F = Fs ++ Fp ∧ Sl tInt w vs x.seen Fs ∧ Sl tPl w vp x.pool Fp := by
  constructor
  · rintro ⟨c1, c2, F1, F2, rfl, rfl, ⟨rfl, rfl⟩, c3, c4, F3, F4, rfl, rfl, ⟨vs, rfl, hs⟩, vp, rfl, hp⟩
    exact ⟨vs, vp, F3, F4, rfl, by simp, hs, hp⟩
  · rintro ⟨vs, vp, Fs, Fp, rfl, rfl, hs, hp⟩
    exact ⟨[_], _, [], _, rfl, by simp, ⟨rfl, rfl⟩, [_], [_], Fs, Fp, rfl, rfl, ⟨vs, rfl, hs⟩, vp, rfl, hp⟩
theorem tWd_E {w : World} {cs : List Value} {x : Wd} {F : List Nat} : tWd.E w cs x F ↔ ∃ vm vs vn vg Fm Fs Fn Fg, cs = [vm, vs, vn, vg, .int .i64 x.made, .int .i64 x.lost] ∧ F = Fm ++ (Fs ++ (Fn ++ Fg)) ∧ Sl tMx w vm x.mixes Fm ∧ Sl tLt w vs x.sent Fs ∧ Sl tTr w vn x.net Fn ∧ Sl tLt w vg x.got Fg := by
  constructor
  · rintro ⟨c1, c2, F1, F2, rfl, rfl, ⟨vm, rfl, hm⟩, c3, c4, F3, F4, rfl, rfl, ⟨vs, rfl, hs⟩, c5, c6, F5, F6, rfl, rfl, ⟨vn, rfl, hn⟩, c7, c8, F7, F8, rfl, rfl, ⟨vg, rfl, hg⟩, c9, c10, F9, F10, rfl, rfl, ⟨rfl, rfl⟩, rfl, rfl⟩
    exact ⟨vm, vs, vn, vg, F1, F3, F5, F7, rfl, by simp, hm, hs, hn, hg⟩
  · rintro ⟨vm, vs, vn, vg, Fm, Fs, Fn, Fg, rfl, rfl, hm, hs, hn, hg⟩
    exact ⟨[_], _, Fm, _, rfl, rfl, ⟨vm, rfl, hm⟩, [_], _, Fs, _, rfl, rfl, ⟨vs, rfl, hs⟩, [_], _, Fn, _, rfl, rfl, ⟨vn, rfl, hn⟩, [_], _, Fg, [], rfl, by simp, ⟨vg, rfl, hg⟩, [_], [_], [], [], rfl, rfl, ⟨rfl, rfl⟩, ⟨rfl, rfl⟩⟩
section
variable {B : Nat} {w : World} {A : Option Addr} {n c : Nat}
theorem SlB.pl {xs : List Pl} (h : SlB tPl B w (.slice A n c) xs) {i : Nat} {x : Pl} (hx : xs[i]? = some x) :
    ∃ b o vh vb, A = some ⟨b, o, none⟩ ∧ b < B ∧ b < w.heap.size ∧ SlB tInt B w vh x.pk.hd ∧ SlB tInt B w vb x.pk.bd ∧ w.cell? ⟨b, o + i * 6, none⟩ = some (.int .i64 x.kind) ∧ w.cell? ⟨b, o + i * 6 + 1, none⟩ = some (.int .i64 x.next) ∧
      w.cell? ⟨b, o + i * 6 + 2, none⟩ = some (.int .i64 x.pk.el) ∧ w.cell? ⟨b, o + i * 6 + 3, none⟩ = some vh ∧ w.cell? ⟨b, o + i * 6 + 4, none⟩ = some (.int .i64 x.pk.tag) ∧ w.cell? ⟨b, o + i * 6 + 5, none⟩ = some vb := by
  obtain ⟨b, o, cs, G, h1, h2, h2', hE, hG, h5⟩ := h.at_ hx
  obtain ⟨c, rfl, hp⟩ := tPl_E.1 hE
  obtain ⟨vh, vb, Fh, Fb, rfl, rfl, hh, hb⟩ := tPk_E.1 hp
  exact ⟨b, o, vh, vb, h1, h2, h2', ⟨Fh, hh, fun b hb => hG b (List.mem_append_left _ hb)⟩, ⟨Fb, hb, fun b hb => hG b (List.mem_append_right _ hb)⟩, h5 0 _ rfl, h5 1 _ rfl, h5 2 _ rfl, h5 3 _ rfl, h5 4 _ rfl, h5 5 _ rfl⟩
theorem SlB.tr {xs : List Tr} (h : SlB tTr B w (.slice A n c) xs) {i : Nat} {x : Tr} (hx : xs[i]? = some x) :
    ∃ b o vh vb, A = some ⟨b, o, none⟩ ∧ b < B ∧ b < w.heap.size ∧ SlB tInt B w vh x.pk.hd ∧ SlB tInt B w vb x.pk.bd ∧ w.cell? ⟨b, o + i * 6, none⟩ = some (.int .i64 x.mix) ∧ w.cell? ⟨b, o + i * 6 + 1, none⟩ = some (.int .i64 x.pk.el) ∧
      w.cell? ⟨b, o + i * 6 + 2, none⟩ = some vh ∧ w.cell? ⟨b, o + i * 6 + 3, none⟩ = some (.int .i64 x.pk.tag) ∧ w.cell? ⟨b, o + i * 6 + 4, none⟩ = some vb ∧ w.cell? ⟨b, o + i * 6 + 5, none⟩ = some (.bool x.ch) := by
  obtain ⟨b, o, cs, G, h1, h2, h2', hE, hG, h5⟩ := h.at_ hx
  obtain ⟨c, rfl, hp⟩ := tTr_E.1 hE
  obtain ⟨vh, vb, Fh, Fb, rfl, rfl, hh, hb⟩ := tPk_E.1 hp
  exact ⟨b, o, vh, vb, h1, h2, h2', ⟨Fh, hh, fun b hb => hG b (List.mem_append_left _ hb)⟩, ⟨Fb, hb, fun b hb => hG b (List.mem_append_right _ hb)⟩, h5 0 _ rfl, h5 1 _ rfl, h5 2 _ rfl, h5 3 _ rfl, h5 4 _ rfl, h5 5 _ rfl⟩
theorem SlB.lt3 {xs : List Lt} (h : SlB tLt B w (.slice A n c) xs) {i : Nat} {x : Lt} (hx : xs[i]? = some x) :
    ∃ b o, A = some ⟨b, o, none⟩ ∧ b < B ∧ b < w.heap.size ∧ w.cell? ⟨b, o + i * 3, none⟩ = some (.int .i64 x.fr) ∧ w.cell? ⟨b, o + i * 3 + 1, none⟩ = some (.int .i64 x.to) ∧ w.cell? ⟨b, o + i * 3 + 2, none⟩ = some (.int .i64 x.num) := by
  obtain ⟨b, o, cs, G, h1, h2, h2', ⟨rfl, _⟩, _, h5⟩ := h.at_ hx
  exact ⟨b, o, h1, h2, h2', h5 0 _ rfl, h5 1 _ rfl, h5 2 _ rfl⟩
theorem SlB.mx {xs : List Mx} (h : SlB tMx B w (.slice A n c) xs) {i : Nat} {x : Mx} (hx : xs[i]? = some x) :
    ∃ b o vs vp, A = some ⟨b, o, none⟩ ∧ b < B ∧ b < w.heap.size ∧ SlB tInt B w vs x.seen ∧ SlB tPl B w vp x.pool ∧ w.cell? ⟨b, o + i * 3, none⟩ = some (.int .i64 x.sec) ∧ w.cell? ⟨b, o + i * 3 + 1, none⟩ = some vs ∧ w.cell? ⟨b, o + i * 3 + 2, none⟩ = some vp := by
  obtain ⟨b, o, cs, G, h1, h2, h2', hE, hG, h5⟩ := h.at_ hx
  obtain ⟨vs, vp, Fs, Fp, rfl, rfl, hs, hp⟩ := tMx_E.1 hE
  exact ⟨b, o, vs, vp, h1, h2, h2', ⟨Fs, hs, fun b hb => hG b (List.mem_append_left _ hb)⟩, ⟨Fp, hp, fun b hb => hG b (List.mem_append_right _ hb)⟩, h5 0 _ rfl, h5 1 _ rfl, h5 2 _ rfl⟩
end
/-- a run that reads as x, all below block B -/
def WdB (B : Nat) (w : World) (v : Value) (x : Wd) : Prop :=
  ∃ vm vs vn vg, v = .agg #[vm, vs, vn, vg, .int .i64 x.made, .int .i64 x.lost] ∧ SlB tMx B w vm x.mixes ∧ SlB tLt B w vs x.sent ∧ SlB tTr B w vn x.net ∧ SlB tLt B w vg x.got
end Go.Proofs.Ytbkckjobhopicaa
