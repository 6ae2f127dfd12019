/- Texts that the last file leans on (part 1). -/
import Derived.Deep.RegionHeld3
import Derived.Outline
import Derived.StillTailTactics
import Derived.Test.YtfaeojmndaplcaaGreatDoorM0
set_option linter.unusedVariables false
set_option linter.unusedSimpArgs false
set_option maxHeartbeats 4000000
set_option maxRecDepth 100000
namespace Go.Proofs.YtfaeojmndaplcaaGreatDoor
open Go Go.RowKit
theorem ae {B : Nat} {w w' : World} (h : Below B w w') : Below B w w'.drew := below_drewN h 1
theorem bA {B : Nat} {w w' : World} {o : Obj} (h : Below B w w') (hB : B ≤ w.heap.size) : Below B w (w'.alloc o) := h.alloc (Nat.le_trans hB h.size) o
section
variable {α β γ : Type}
def Ty.prod (A : Ty α) (B : Ty β) : Ty (α × β) where
 k := A.k + B.k
 E := fun w cs x F => ∃ c1 c2 F1 F2, cs = c1 ++ c2 ∧ F = F1 ++ F2 ∧ A.E w c1 x.1 F1 ∧ B.E w c2 x.2 F2
 len := by rintro w cs x F ⟨c1, c2, F1, F2, rfl, rfl, h1, h2⟩; rw [List.length_append, A.len h1, B.len h2]
 keep := by
  rintro w w' cs x F ⟨c1, c2, F1, F2, rfl, rfl, h1, h2⟩ hk
  exact ⟨c1, c2, F1, F2, rfl, rfl, A.keep h1 (fun b hb => hk b (List.mem_append_left _ hb)), B.keep h2 (fun b hb => hk b (List.mem_append_right _ hb))⟩
 lt := by
  rintro w cs x F ⟨c1, c2, F1, F2, rfl, rfl, h1, h2⟩ b hb
  rcases List.mem_append.1 hb with h | h
  ·exact A.lt h1 b h
  ·exact B.lt h2 b h
 one := by
  rintro w cs x F ⟨c1, c2, F1, F2, rfl, rfl, h1, h2⟩ u hu
  rcases List.mem_append.1 hu with h | h
  ·exact A.one h1 u h
  ·exact B.one h2 u h
def Ty.via (f : α → β) (T : Ty β) : Ty α where
 k := T.k
 E := fun w cs x F => T.E w cs (f x) F
 len := fun h => T.len h
 keep := fun h hk => T.keep h hk
 lt := fun h => T.lt h
 one := fun h => T.one h
def Ty.own (T : Ty α) (e : TypeId) : Ty (List α) where
 k := 1
 E := fun w cs xs F => ∃ v G, cs = [v] ∧ Own T e 0 w v xs G ∧ F = v.ownBlock.toList ++ G
 len := by rintro w cs xs F ⟨v, G, rfl, _⟩; rfl
 keep := by
  rintro w w' cs xs F ⟨v, G, rfl, h, rfl⟩ hk
  exact ⟨v, G, rfl, h.keep (fun b hb => hk b (by simp [hb])) (fun b hb => hk b (by simp [hb])), rfl⟩
 lt := by
  rintro w cs xs F ⟨v, G, rfl, h, rfl⟩ b hb
  rcases List.mem_append.1 hb with hb | hb
  ·exact (h.top b (by simpa using hb)).2
  ·exact h.lt b hb
 one := by
  rintro w cs xs F ⟨v, G, rfl, h, rfl⟩ u hu
  obtain ⟨A, c, rfl, _⟩ := h.form
  simp at hu; subst hu; rfl
def Ty.le (T T' : Ty α) : Prop := T.k = T'.k ∧ ∀ {w cs x F}, T.E w cs x F → ∃ F', T'.E w cs x F' ∧ ∀ b ∈ F', b ∈ F
theorem Ty.le_refl (T : Ty α) : T.le T := ⟨rfl, fun h => ⟨_, h, fun _ hb => hb⟩⟩
theorem Ty.le_prod {A A' : Ty α} {B B' : Ty β} (ha : A.le A') (hb : B.le B') : (A.prod B).le (A'.prod B') := by
 refine ⟨by show A.k + B.k = A'.k + B'.k; rw [ha.1, hb.1], ?_⟩
 rintro w cs x F ⟨c1, c2, F1, F2, rfl, rfl, h1, h2⟩
 obtain ⟨G1, g1, s1⟩ := ha.2 h1
 obtain ⟨G2, g2, s2⟩ := hb.2 h2
 refine ⟨_, ⟨c1, c2, G1, G2, rfl, rfl, g1, g2⟩, fun b hb => ?_⟩
 rcases List.mem_append.1 hb with h | h
 ·exact List.mem_append_left _ (s1 b h)
 ·exact List.mem_append_right _ (s2 b h)
theorem Ty.le_via {f : α → β} {T T' : Ty β} (h : T.le T') : (T.via f).le (T'.via f) := ⟨h.1, fun hE => h.2 hE⟩
theorem Ty.le_els {T T' : Ty α} (h : T.le T') {w : World} {cs : List Value} {xs : List α} {F : List Nat} (hE : T.els w cs xs F) : ∃ F', T'.els w cs xs F' ∧ ∀ b ∈ F', b ∈ F := by
 induction xs generalizing cs F with
 | nil => obtain ⟨rfl, rfl⟩ := hE; exact ⟨[], ⟨rfl, rfl⟩, fun _ hb => hb⟩
 | cons x xs ih =>
  obtain ⟨c1, c2, F1, F2, rfl, rfl, h1, h2⟩ := hE
  obtain ⟨G1, g1, s1⟩ := h.2 h1
  obtain ⟨G2, g2, s2⟩ := ih h2
  refine ⟨_, ⟨c1, c2, G1, G2, rfl, rfl, g1, g2⟩, fun b hb => ?_⟩
  rcases List.mem_append.1 hb with h | h
  ·exact List.mem_append_left _ (s1 b h)
  ·exact List.mem_append_right _ (s2 b h)
theorem Sl.le {T T' : Ty α} (h : T.le T') {w : World} {v : Value} {xs : List α} {F : List Nat} (hs : Sl T w v xs F) : ∃ F', Sl T' w v xs F' ∧ ∀ b ∈ F', b ∈ F := by
 obtain ⟨A, c, cs, h1, h2, h3, h4⟩ := hs
 rcases h4 with ⟨rfl, rfl⟩ | ⟨b, o, G, rfl, rfl, hne, hb, hels, hc⟩
 ·exact ⟨[], ⟨A, c, cs, h1, h2, h3, .inl ⟨rfl, rfl⟩⟩, fun _ hb => hb⟩
 ·obtain ⟨G', hg, hs⟩ := Ty.le_els h hels
  refine ⟨b :: G', ⟨_, c, cs, h1, h2, h3, .inr ⟨b, o, G', rfl, rfl, hne, hb, hg, hc⟩⟩, fun x hx => ?_⟩
  rcases List.mem_cons.1 hx with rfl | hx
  ·exact List.mem_cons_self
  ·exact List.mem_cons_of_mem _ (hs x hx)
theorem Ty.le_own {T T' : Ty α} (h : T.le T') (e : TypeId) : (T.own e).le T'.sl := by
 refine ⟨rfl, ?_⟩
 rintro w cs xs F ⟨v, G, rfl, ho, rfl⟩
 obtain ⟨F1, hs, hF⟩ := ho.sl
 obtain ⟨F2, hs2, hF2⟩ := hs.le h
 refine ⟨F2, ⟨v, rfl, hs2⟩, fun b hb => ?_⟩
 rcases hF b (hF2 b hb) with h | h
 ·exact List.mem_append_left _ (by simp [h])
 ·exact List.mem_append_right _ h
end
structure Pk where
 el : Int
 hd : List Int
 tag : Int
 bd : List Int
structure Pl where
 kind : Int
 next : Int
 pk : Pk
structure Tr where
 mix : Int
 pk : Pk
 ch : Bool
structure Lt where
 fr : Int
 to : Int
 num : Int
structure Mx where
 sec : Int
 seen : List Int
 pool : List Pl
structure Wd where
 mixes : List Mx
 sent : List Lt
 net : List Tr
 got : List Lt
 made : Int
 lost : Int
def y6 (L : Ty (List Int)) : Ty Pk := (af.prod (L.prod (af.prod L))).via fun x => (x.el, x.hd, x.tag, x.bd)
def y8 (P : Ty Pk) : Ty Pl := (af.prod (af.prod P)).via fun x => (x.kind, x.next, x.pk)
def zk (P : Ty Pk) : Ty Tr := (af.prod (P.prod zj)).via fun x => (x.mix, x.pk, x.ch)
def tLt : Ty Lt := Ty.flat 3 (fun s => [.int .i64 s.fr, .int .i64 s.to, .int .i64 s.num]) (fun _ => rfl) (fun _ u hu => by simp at hu; rcases hu with rfl | rfl | rfl <;> rfl)
def yY (L : Ty (List Int)) (Q : Ty (List Pl)) : Ty Mx := (af.prod (L.prod Q)).via fun x => (x.sec, x.seen, x.pool)
def zl (M : Ty (List Mx)) (L : Ty (List Lt)) (N : Ty (List Tr)) : Ty Wd := (M.prod (L.prod (N.prod (L.prod (af.prod af))))).via fun x => (x.mixes, x.sent, x.net, x.got, x.made, x.lost)
def tPk : Ty Pk := y6 af.sl
def tPl : Ty Pl := y8 tPk
def tTr : Ty Tr := zk tPk
def tMx : Ty Mx := yY af.sl tPl.sl
def tWd : Ty Wd := zl tMx.sl tLt.sl tTr.sl
theorem tw {w : World} {cs : List Value} {x : Pk} {F : List Nat} : tPk.E w cs x F ↔ ∃ vh vb Fh Fb, cs = [.int .i64 x.el, vh, .int .i64 x.tag, vb] ∧ F = Fh ++ Fb ∧ Sl af w vh x.hd Fh ∧ Sl af w vb x.bd Fb := by
 constructor
 ·rintro ⟨c1, c2, F1, F2, rfl, rfl, ⟨rfl, rfl⟩, c3, c4, F3, F4, rfl, rfl, ⟨vh, rfl, hh⟩, c5, c6, F5, F6, rfl, rfl, ⟨rfl, rfl⟩, vb, rfl, hb⟩
  exact ⟨vh, vb, F3, F6, rfl, by simp, hh, hb⟩
 ·rintro ⟨vh, vb, Fh, Fb, rfl, rfl, hh, hb⟩
  exact ⟨[_], _, [], _, rfl, by simp, ⟨rfl, rfl⟩, [_], _, Fh, Fb, rfl, rfl, ⟨vh, rfl, hh⟩, [_], [_], [], Fb, rfl, rfl, ⟨rfl, rfl⟩, vb, rfl, hb⟩
theorem x6 {w : World} {cs : List Value} {x : Pl} {F : List Nat} : tPl.E w cs x F ↔ ∃ c, cs = .int .i64 x.kind :: .int .i64 x.next :: c ∧ tPk.E w c x.pk F := by
 constructor
 ·rintro ⟨c1, c2, F1, F2, rfl, rfl, ⟨rfl, rfl⟩, c3, c4, F3, F4, rfl, rfl, ⟨rfl, rfl⟩, hp⟩
  exact ⟨c4, rfl, by simpa using hp⟩
 ·rintro ⟨c, rfl, hp⟩
  exact ⟨[_], _, [], F, rfl, by simp, ⟨rfl, rfl⟩, [_], c, [], F, rfl, by simp, ⟨rfl, rfl⟩, hp⟩
theorem x7 {w : World} {cs : List Value} {x : Tr} {F : List Nat} : tTr.E w cs x F ↔ ∃ c, cs = .int .i64 x.mix :: (c ++ [.bool x.ch]) ∧ tPk.E w c x.pk F := by
 constructor
 ·rintro ⟨c1, c2, F1, F2, rfl, rfl, ⟨rfl, rfl⟩, c3, c4, F3, F4, rfl, rfl, hp, ⟨rfl, rfl⟩⟩
  exact ⟨c3, rfl, by simpa using hp⟩
 ·rintro ⟨c, rfl, hp⟩
  exact ⟨[_], _, [], F, rfl, by simp, ⟨rfl, rfl⟩, c, [_], F, [], rfl, by simp, hp, ⟨rfl, rfl⟩⟩
theorem x5 {w : World} {cs : List Value} {x : Mx} {F : List Nat} : tMx.E w cs x F ↔ ∃ vs vp Fs Fp, cs = [.int .i64 x.sec, vs, vp] ∧ F = Fs ++ Fp ∧ Sl af w vs x.seen Fs ∧ Sl tPl w vp x.pool Fp := by
 constructor
 ·rintro ⟨c1, c2, F1, F2, rfl, rfl, ⟨rfl, rfl⟩, c3, c4, F3, F4, rfl, rfl, ⟨vs, rfl, hs⟩, vp, rfl, hp⟩
  exact ⟨vs, vp, F3, F4, rfl, by simp, hs, hp⟩
 ·rintro ⟨vs, vp, Fs, Fp, rfl, rfl, hs, hp⟩
  exact ⟨[_], _, [], _, rfl, by simp, ⟨rfl, rfl⟩, [_], [_], Fs, Fp, rfl, rfl, ⟨vs, rfl, hs⟩, vp, rfl, hp⟩
theorem x8 {w : World} {cs : List Value} {x : Wd} {F : List Nat} : tWd.E w cs x F ↔ ∃ vm vs vn vg Fm Fs Fn Fg, cs = [vm, vs, vn, vg, .int .i64 x.made, .int .i64 x.lost] ∧ F = Fm ++ (Fs ++ (Fn ++ Fg)) ∧ Sl tMx w vm x.mixes Fm ∧ Sl tLt w vs x.sent Fs ∧ Sl tTr w vn x.net Fn ∧ Sl tLt w vg x.got Fg := by
 constructor
 ·rintro ⟨c1, c2, F1, F2, rfl, rfl, ⟨vm, rfl, hm⟩, c3, c4, F3, F4, rfl, rfl, ⟨vs, rfl, hs⟩, c5, c6, F5, F6, rfl, rfl, ⟨vn, rfl, hn⟩, c7, c8, F7, F8, rfl, rfl, ⟨vg, rfl, hg⟩, c9, c10, F9, F10, rfl, rfl, ⟨rfl, rfl⟩, rfl, rfl⟩
  exact ⟨vm, vs, vn, vg, F1, F3, F5, F7, rfl, by simp, hm, hs, hn, hg⟩
 ·rintro ⟨vm, vs, vn, vg, Fm, Fs, Fn, Fg, rfl, rfl, hm, hs, hn, hg⟩
  exact ⟨[_], _, Fm, _, rfl, rfl, ⟨vm, rfl, hm⟩, [_], _, Fs, _, rfl, rfl, ⟨vs, rfl, hs⟩, [_], _, Fn, _, rfl, rfl, ⟨vn, rfl, hn⟩, [_], _, Fg, [], rfl, by simp, ⟨vg, rfl, hg⟩, [_], [_], [], [], rfl, rfl, ⟨rfl, rfl⟩, ⟨rfl, rfl⟩⟩
section
variable {B : Nat} {w : World} {A : Option Addr} {n c : Nat}
theorem SlB.pl {xs : List Pl} (h : SlB tPl B w (.slice A n c) xs) {i : Nat} {x : Pl} (hx : xs[i]? = some x) :
  ∃ b o vh vb, A = some ⟨b, o, none⟩ ∧ b < B ∧ b < w.heap.size ∧ SlB af B w vh x.pk.hd ∧ SlB af B w vb x.pk.bd ∧ w.cell? ⟨b, o + i * 6, none⟩ = some (.int .i64 x.kind) ∧ w.cell? ⟨b, o + i * 6 + 1, none⟩ = some (.int .i64 x.next) ∧
   w.cell? ⟨b, o + i * 6 + 2, none⟩ = some (.int .i64 x.pk.el) ∧ w.cell? ⟨b, o + i * 6 + 3, none⟩ = some vh ∧ w.cell? ⟨b, o + i * 6 + 4, none⟩ = some (.int .i64 x.pk.tag) ∧ w.cell? ⟨b, o + i * 6 + 5, none⟩ = some vb := by
 obtain ⟨b, o, cs, G, h1, h2, h2', hE, hG, h5⟩ := h.at_ hx
 obtain ⟨c, rfl, hp⟩ := x6.1 hE
 obtain ⟨vh, vb, Fh, Fb, rfl, rfl, hh, hb⟩ := tw.1 hp
 exact ⟨b, o, vh, vb, h1, h2, h2', ⟨Fh, hh, fun b hb => hG b (List.mem_append_left _ hb)⟩, ⟨Fb, hb, fun b hb => hG b (List.mem_append_right _ hb)⟩, h5 0 _ rfl, h5 1 _ rfl, h5 2 _ rfl, h5 3 _ rfl, h5 4 _ rfl, h5 5 _ rfl⟩
theorem SlB.tr {xs : List Tr} (h : SlB tTr B w (.slice A n c) xs) {i : Nat} {x : Tr} (hx : xs[i]? = some x) :
  ∃ b o vh vb, A = some ⟨b, o, none⟩ ∧ b < B ∧ b < w.heap.size ∧ SlB af B w vh x.pk.hd ∧ SlB af B w vb x.pk.bd ∧ w.cell? ⟨b, o + i * 6, none⟩ = some (.int .i64 x.mix) ∧ w.cell? ⟨b, o + i * 6 + 1, none⟩ = some (.int .i64 x.pk.el) ∧
   w.cell? ⟨b, o + i * 6 + 2, none⟩ = some vh ∧ w.cell? ⟨b, o + i * 6 + 3, none⟩ = some (.int .i64 x.pk.tag) ∧ w.cell? ⟨b, o + i * 6 + 4, none⟩ = some vb ∧ w.cell? ⟨b, o + i * 6 + 5, none⟩ = some (.bool x.ch) := by
 obtain ⟨b, o, cs, G, h1, h2, h2', hE, hG, h5⟩ := h.at_ hx
 obtain ⟨c, rfl, hp⟩ := x7.1 hE
 obtain ⟨vh, vb, Fh, Fb, rfl, rfl, hh, hb⟩ := tw.1 hp
 exact ⟨b, o, vh, vb, h1, h2, h2', ⟨Fh, hh, fun b hb => hG b (List.mem_append_left _ hb)⟩, ⟨Fb, hb, fun b hb => hG b (List.mem_append_right _ hb)⟩, h5 0 _ rfl, h5 1 _ rfl, h5 2 _ rfl, h5 3 _ rfl, h5 4 _ rfl, h5 5 _ rfl⟩
theorem SlB.lt3 {xs : List Lt} (h : SlB tLt B w (.slice A n c) xs) {i : Nat} {x : Lt} (hx : xs[i]? = some x) :
  ∃ b o, A = some ⟨b, o, none⟩ ∧ b < B ∧ b < w.heap.size ∧ w.cell? ⟨b, o + i * 3, none⟩ = some (.int .i64 x.fr) ∧ w.cell? ⟨b, o + i * 3 + 1, none⟩ = some (.int .i64 x.to) ∧ w.cell? ⟨b, o + i * 3 + 2, none⟩ = some (.int .i64 x.num) := by
 obtain ⟨b, o, cs, G, h1, h2, h2', ⟨rfl, _⟩, _, h5⟩ := h.at_ hx
 exact ⟨b, o, h1, h2, h2', h5 0 _ rfl, h5 1 _ rfl, h5 2 _ rfl⟩
theorem SlB.mx {xs : List Mx} (h : SlB tMx B w (.slice A n c) xs) {i : Nat} {x : Mx} (hx : xs[i]? = some x) :
  ∃ b o vs vp, A = some ⟨b, o, none⟩ ∧ b < B ∧ b < w.heap.size ∧ SlB af B w vs x.seen ∧ SlB tPl B w vp x.pool ∧ w.cell? ⟨b, o + i * 3, none⟩ = some (.int .i64 x.sec) ∧ w.cell? ⟨b, o + i * 3 + 1, none⟩ = some vs ∧ w.cell? ⟨b, o + i * 3 + 2, none⟩ = some vp := by
 obtain ⟨b, o, cs, G, h1, h2, h2', hE, hG, h5⟩ := h.at_ hx
 obtain ⟨vs, vp, Fs, Fp, rfl, rfl, hs, hp⟩ := x5.1 hE
 exact ⟨b, o, vs, vp, h1, h2, h2', ⟨Fs, hs, fun b hb => hG b (List.mem_append_left _ hb)⟩, ⟨Fp, hp, fun b hb => hG b (List.mem_append_right _ hb)⟩, h5 0 _ rfl, h5 1 _ rfl, h5 2 _ rfl⟩
end
def WdB (B : Nat) (w : World) (v : Value) (x : Wd) : Prop :=
 ∃ vm vs vn vg, v = .agg #[vm, vs, vn, vg, .int .i64 x.made, .int .i64 x.lost] ∧ SlB tMx B w vm x.mixes ∧ SlB tLt B w vs x.sent ∧ SlB tTr B w vn x.net ∧ SlB tLt B w vg x.got
def aM (l : List Int) : Bool := l.all fun x => win x 0 990
def fw (l : List Int) (n : Int) : Bool := decide ((l.length : Int) = n) && aM l
def bU (l : List Int) : Bool := decide (l.length ≤ 24) && aM l
def pkB (p : Pk) : Bool := win p.el 1 996 && (fw p.hd 9 && (fw p.bd 6 && win p.tag 0 990))
def plB (x : Pl) : Bool := win x.kind 0 1 && (win x.next 0 7 && pkB x.pk)
def ku (l : List Int) (k : Nat) : Bool := win (l.getD k 0) 1 996 && !decide (l.getD k 0 ∈ l.take k)
def jT (l : List Int) : Bool := (List.range l.length).all (ku l)
def nc (l : List Pl) : Bool := l.all plB
def mxB (m : Mx) : Bool := win m.sec 1 996 && (decide (m.seen.length ≤ 12) && (decide (m.pool.length ≤ 5) && (jT m.seen && nc m.pool)))
theorem aH {n a b : Int} : win n a b = true ↔ a ≤ n ∧ n ≤ b := by simp [win]
abbrev okQ (b : Bool) (w : World) (e : Ending) (w' : World) : Prop := e = .returned (.bool b) ∧ w = w'
theorem dV {α : Type} {f : α → Bool} {xs : List α} {x : α} (h : xs.all f = true) (hx : f x = true) : (xs ++ [x]).all f = true := by rw [List.all_append, h]; simp [hx]
theorem fK {α : Type} {f : α → Bool} {xs : List α} {k : Nat} {x : α} (hx : xs[k]? = some x) (h : f x = false) : xs.all f = false := by
 cases ha : xs.all f with
 | false => rfl
 | true => rw [List.all_eq_true.1 ha x (List.mem_of_getElem? hx)] at h; cases h
theorem fg {f : Nat → Bool} {n : Nat} (h : ∀ j, j < n → f j = true) : (List.range n).all f = true := List.all_eq_true.2 fun x hx => h x (List.mem_range.1 hx)
theorem dq {f : Nat → Bool} {n k : Nat} (hk : k < n) (h : f k = false) : (List.range n).all f = false := by
 cases ha : (List.range n).all f with
 | false => rfl
 | true => rw [List.all_eq_true.1 ha k (List.mem_range.2 hk)] at h; cases h
theorem oJ {l : List Int} {n : Int} (hn : n ≤ 24) (h : (l.length : Int) = n) : bU l = fw l n := by
 unfold bU fw; rw [decide_eq_true h, decide_eq_true (show l.length ≤ 24 by omega)]
theorem aF (n : Int) (w : World) : Calls Tryz.prog 90 #[.int .i64 n] w (okQ (win n 1 996) w) := by
 go_enter Tryz.func90, Tryz.ntmps90
 go_wp2_with (go_at_call 78; refine (a8 _ _ _ _).mono ?_; rintro e w' ⟨rfl, rfl⟩)
 go_ret
 exact ⟨rfl, rfl⟩
theorem bP (n : Int) (w : World) : Calls Tryz.prog 126 #[.int .i64 n] w (okQ (win n 0 7) w) := by
 go_enter Tryz.func126, Tryz.ntmps126
 go_wp2_with (go_at_call 78; refine (a8 _ _ _ _).mono ?_; rintro e w' ⟨rfl, rfl⟩)
 go_ret
 exact ⟨rfl, rfl⟩
theorem dR (n : Int) (w : World) : Calls Tryz.prog 128 #[.int .i64 n] w (okQ (win n 0 990) w) := by
 go_enter Tryz.func128, Tryz.ntmps128
 go_wp2_with (go_at_call 78; refine (a8 _ _ _ _).mono ?_; rintro e w' ⟨rfl, rfl⟩)
 go_ret
 exact ⟨rfl, rfl⟩
theorem gM (n : Int) (w : World) : Calls Tryz.prog 80 #[.int .i64 n] w (okQ (win n 0 2) w) := by
 go_enter Tryz.func80, Tryz.ntmps80
 go_wp2_with (go_at_call 78; refine (a8 _ _ _ _).mono ?_; rintro e w' ⟨rfl, rfl⟩)
 go_ret
 exact ⟨rfl, rfl⟩
theorem dI (n : Int) (w : World) : Calls Tryz.prog 106 #[.int .i64 n] w (okQ (win n 1 996) w) := by
 go_enter Tryz.func106, Tryz.ntmps106
 go_wp2_with (go_at_call 68; refine (aU _ _ _ _).mono ?_; rintro e w' ⟨rfl, rfl⟩)
 go_ret
 exact ⟨rfl, rfl⟩
theorem iP (v : Value) (xs : List Int) (w : World) (h : SlB af w.heap.size w v xs) : Calls Tryz.prog 168 #[v] w (okQ (bU xs) w) := by
 obtain ⟨A, c, rfl, a1, a2, a3⟩ := h.form
 clear a2
 by_cases hl : 24 < xs.length
 ·go_enter Tryz.func168, Tryz.ntmps168
  go_wp2
  go_ret
  exact ⟨ah (by simp [bU]; omega), rfl⟩
 ·have Hs := hid (show bU xs = aM xs from by unfold bU; rw [decide_eq_true (by omega)]; rfl)
  go_enter Tryz.func168, Tryz.ntmps168
  go_wp2
  go_loop [10] (fun i => ∃ k : Nat, k ≤ xs.length ∧ i = .int .i64 k ∧ aM (xs.take k) = true) (fun i => xs.length - (intOf i).toNat)
  case atStart => exact ⟨0, by omega, rfl, rfl⟩
  case round =>
   obtain ⟨k, hk, rfl, hall⟩ := hrel
   have Hall := hid hall
   clear hall
   by_cases hlt : k < xs.length
   ·obtain ⟨x, hx⟩ := ai hlt
    obtain ⟨b, o, rfl, _, _, hcx⟩ := h.int hx
    have Hx := hid hx
    clear hx
    cases hw : win x 0 990 with
    | true =>
     go_wp2_with (go_at_call 128; refine (dR _ _).mono ?_; rintro e w' ⟨rfl, rfl⟩)
     go_round
     case rel => exact ⟨k + 1, by omega, by go_num, by rw [aK Hx.out]; exact dV Hall.out hw⟩
     case measure => simp [intOf]; omega
    | false =>
     go_wp2_with (go_at_call 128; refine (dR _ _).mono ?_; rintro e w' ⟨rfl, rfl⟩)
     go_ret
     exact ⟨ah (by rw [Hs.out]; exact (fK Hx.out hw).symm), rfl⟩
   ·go_wp2
    go_ret
    exact ⟨ah (by rw [Hs.out, ← aV hk hlt]; exact Hall.out.symm), rfl⟩
theorem bV (v : Value) (xs : List Int) (w : World) (h : SlB af w.heap.size w v xs) : Calls Tryz.prog 208 #[v] w (okQ (bU xs) w) := by
 obtain ⟨A, c, rfl, a1, a2, a3⟩ := h.form
 clear a2
 go_enter Tryz.func208, Tryz.ntmps208
 go_wp2
 go_loop [3] (fun i => ∃ k : Nat, k ≤ xs.length ∧ i = .int .i64 k ∧ aM (xs.take k) = true) (fun i => xs.length - (intOf i).toNat)
 case atStart => exact ⟨0, by omega, rfl, rfl⟩
 case round =>
  obtain ⟨k, hk, rfl, hall⟩ := hrel
  have Hall := hid hall
  clear hall
  by_cases hlt : k < xs.length
  ·obtain ⟨x, hx⟩ := ai hlt
   obtain ⟨b, o, rfl, _, _, hcx⟩ := h.int hx
   have Hx := hid hx
   clear hx
   cases hw : win x 0 990 with
   | true =>
    go_wp2_with (go_at_call 68; refine (aU _ _ _ _).mono ?_; rintro e w' ⟨rfl, rfl⟩)
    go_round
    case rel => exact ⟨k + 1, by omega, by go_num, by rw [aK Hx.out]; exact dV Hall.out hw⟩
    case measure => simp [intOf]; omega
   | false =>
    have Hf := hid (show bU xs = false from by unfold bU; rw [show aM xs = false from fK Hx.out hw]; simp)
    go_wp2_with (go_at_call 68; refine (aU _ _ _ _).mono ?_; rintro e w' ⟨rfl, rfl⟩)
    go_ret
    exact ⟨ah Hf.out.symm, rfl⟩
  ·have Ha := hid (show bU xs = decide (xs.length ≤ 24) from by unfold bU; rw [show aM xs = true from by rw [← aV hk hlt]; exact Hall.out]; simp)
   go_wp2
   go_ret
   exact ⟨ah (by rw [Ha.out]; simp; try omega), rfl⟩
theorem kQ (v : Value) (xs : List Int) (n : Int) (w : World) (h : SlB af w.heap.size w v xs) (hn : n ≤ 24) : Calls Tryz.prog 127 #[v, .int .i64 n] w (okQ (fw xs n) w) := by
 obtain ⟨A, c, rfl, a1, a2, a3⟩ := h.form
 clear a2
 by_cases hl : (xs.length : Int) = n
 ·have hl2 : ((xs.length : Int) == n) = true := by simp [hl]
  have Hs := hid (oJ hn hl)
  clear hl
  go_enter Tryz.func127, Tryz.ntmps127
  go_wp2_with (go_at_call 168; refine (iP _ _ _ h).mono ?_; rintro e w' ⟨rfl, rfl⟩)
  go_ret
  exact ⟨ah Hs.out, rfl⟩
 ·have hl2 : ((xs.length : Int) == n) = false := by simp [hl]
  have Hs := hid (show fw xs n = false from by unfold fw; rw [decide_eq_false hl]; rfl)
  clear hl
  go_enter Tryz.func127, Tryz.ntmps127
  go_wp2
  go_ret
  exact ⟨ah Hs.out.symm, rfl⟩
theorem gn (v : Value) (xs : List Int) (w : World) (h : SlB af w.heap.size w v xs) : Calls Tryz.prog 127 #[v, .int .i64 9] w (okQ (fw xs 9) w) := kQ v xs 9 w h (by decide)
theorem gj (v : Value) (xs : List Int) (w : World) (h : SlB af w.heap.size w v xs) : Calls Tryz.prog 127 #[v, .int .i64 6] w (okQ (fw xs 6) w) := kQ v xs 6 w h (by decide)
theorem kO (v : Value) (xs : List Int) (n : Int) (w : World) (h : SlB af w.heap.size w v xs) : Calls Tryz.prog 165 #[v, .int .i64 n] w (okQ (decide (n ∈ xs)) w) := by
 obtain ⟨A, c, rfl, a1, a2, a3⟩ := h.form
 clear a2
 go_enter Tryz.func165, Tryz.ntmps165
 go_wp2
 go_loop [5] (fun i => ∃ k : Nat, k ≤ xs.length ∧ i = .int .i64 k ∧ n ∉ xs.take k) (fun i => xs.length - (intOf i).toNat)
 case atStart => exact ⟨0, by omega, rfl, by simp⟩
 case round =>
  obtain ⟨k, hk, rfl, hall⟩ := hrel
  have Hall := hid hall
  clear hall
  by_cases hlt : k < xs.length
  ·obtain ⟨x, hx⟩ := ai hlt
   obtain ⟨b, o, rfl, _, _, hcx⟩ := h.int hx
   have Hx := hid hx
   clear hx
   go_wp2
   ·have hxy : (x == n) = true := by assumption
    go_ret
    exact ⟨ah (decide_eq_true (by rw [← show x = n from by simpa using hxy]; exact List.mem_of_getElem? Hx.out)).symm, rfl⟩
   ·have hxy : (x == n) = false := by assumption
    go_round
    case rel => exact ⟨k + 1, by omega, by go_num, by rw [aK Hx.out]; simp; exact ⟨Hall.out, fun h => by simp [h] at hxy⟩⟩
    case measure => simp [intOf]; omega
  ·go_wp2
   go_ret
   exact ⟨ah (decide_eq_false (by rw [← aV hk hlt]; exact Hall.out)).symm, rfl⟩
theorem xa (v : Value) (xs : List Int) (n : Int) (w : World) (h : SlB af w.heap.size w v xs) : Calls Tryz.prog 215 #[v, .int .i64 n] w fun e w' => ∃ k : Int, e = .returned (.int .i64 k) ∧ decide (0 ≤ k) = decide (n ∈ xs) ∧ w = w' := by
 obtain ⟨A, c, rfl, a1, a2, a3⟩ := h.form
 clear a2
 go_enter Tryz.func215, Tryz.ntmps215
 go_wp2
 go_loop [8] (fun i => ∃ k : Nat, k ≤ xs.length ∧ i = .int .i64 k ∧ n ∉ xs.take k) (fun i => xs.length - (intOf i).toNat)
 case atStart => exact ⟨0, by omega, rfl, by simp⟩
 case round =>
  obtain ⟨k, hk, rfl, hall⟩ := hrel
  have Hall := hid hall
  clear hall
  by_cases hlt : k < xs.length
  ·obtain ⟨x, hx⟩ := ai hlt
   obtain ⟨b, o, rfl, _, _, hcx⟩ := h.int hx
   have Hx := hid hx
   clear hx
   by_cases hxn : n = x
   ·subst hxn
    go_wp2
    go_ret
    exact ⟨k, rfl, ⟨fun _ => List.mem_of_getElem? Hx.out, fun _ => by omega⟩, rfl⟩
   ·have hxy : (n == x) = false := by simp [hxn]
    have Hxn := hid hxn
    clear hxn
    go_wp2
    go_round
    case rel => exact ⟨k + 1, by omega, by go_num, by rw [aK Hx.out]; simp; exact ⟨Hall.out, Hxn.out⟩⟩
    case measure => simp [intOf]; omega
  ·go_wp2
   go_ret
   exact ⟨-1, rfl, ⟨fun h => by omega, fun h => absurd h (by rw [← aV hk hlt]; exact Hall.out)⟩, rfl⟩
theorem ey (v : Value) (xs : List Int) (n : Int) (w : World) (h : SlB af w.heap.size w v xs) : Calls Tryz.prog 166 #[v, .int .i64 n] w (okQ (decide (n ∈ xs)) w) := by
 go_enter Tryz.func166, Tryz.ntmps166
 go_wp2_with (go_at_call 215; refine (xa _ _ _ _ h).mono ?_; rintro e w' ⟨k, rfl, hk, rfl⟩)
 go_ret
 exact ⟨rfl, rfl⟩
theorem fx (p : Pk) : pkB p = (win p.el 1 996 && (bU p.hd && (((p.hd.length : Int) == 9) && (win p.tag 0 990 && (bU p.bd && ((p.bd.length : Int) == 6)))))) := by
 have key : ∀ (l : List Int) (n : Int), n ≤ 24 → fw l n = (bU l && ((l.length : Int) == n)) := by
  intro l n hn
  by_cases h : (l.length : Int) = n
  ·rw [← oJ hn h, show ((l.length : Int) == n) = true from by simp [h]]; simp
  ·rw [show ((l.length : Int) == n) = false from by simp [h], show fw l n = false from by unfold fw; rw [decide_eq_false h]; rfl]; simp
 unfold pkB
 rw [key p.hd 9 (by decide), key p.bd 6 (by decide)]
 cases win p.el 1 996 <;> cases bU p.hd <;> cases ((p.hd.length : Int) == 9) <;> cases win p.tag 0 990 <;> cases bU p.bd <;> cases ((p.bd.length : Int) == 6) <;> rfl
theorem ct (p : Pk) (vh vb : Value) (w : World) (h1 : SlB af w.heap.size w vh p.hd) (h2 : SlB af w.heap.size w vb p.bd) : Calls Tryz.prog 81 #[.agg #[.int .i64 p.el, vh, .int .i64 p.tag, vb]] w (ok (pkB p) w.heap.size w) := by
 have H1 := hid (fun (wx : World) (hb : Below w.heap.size w wx) => (h1.below hb (Nat.le_refl _)).mono hb.size)
 have H2 := hid (fun (wx : World) (hb : Below w.heap.size w wx) => (h2.below hb (Nat.le_refl _)).mono hb.size)
 clear h1 h2
 cases g1 : win p.el 1 996 with
 | false =>
  go_enter Tryz.func81, Tryz.ntmps81
  go_wp2_with (first | (go_at_call 90; refine (aF _ _).mono ?_; rintro e w' ⟨rfl, rfl⟩) | (go_at_call 128; refine (dR _ _).mono ?_; rintro e w' ⟨rfl, rfl⟩) | (go_at_call 127; with_reducible refine (gn vh p.hd _ ?_).mono ?_; (refine H1.out _ ?_; (repeat (first | exact zm | refine Below.alloc ?_ (by simp <;> omega) _))); rintro e w' ⟨rfl, rfl⟩) | (go_at_call 127; with_reducible refine (gj vb p.bd _ ?_).mono ?_; (refine H2.out _ ?_; (repeat (first | exact zm | refine Below.alloc ?_ (by simp <;> omega) _))); rintro e w' ⟨rfl, rfl⟩))
  go_ret
  exact ⟨ah (by rw [pkB, g1]; rfl), by (repeat (first | exact zm | refine Below.alloc ?_ (by simp <;> omega) _))⟩
 | true =>
 cases g2 : fw p.hd 9 with
 | false =>
  go_enter Tryz.func81, Tryz.ntmps81
  go_wp2_with (first | (go_at_call 90; refine (aF _ _).mono ?_; rintro e w' ⟨rfl, rfl⟩) | (go_at_call 128; refine (dR _ _).mono ?_; rintro e w' ⟨rfl, rfl⟩) | (go_at_call 127; with_reducible refine (gn vh p.hd _ ?_).mono ?_; (refine H1.out _ ?_; (repeat (first | exact zm | refine Below.alloc ?_ (by simp <;> omega) _))); rintro e w' ⟨rfl, rfl⟩) | (go_at_call 127; with_reducible refine (gj vb p.bd _ ?_).mono ?_; (refine H2.out _ ?_; (repeat (first | exact zm | refine Below.alloc ?_ (by simp <;> omega) _))); rintro e w' ⟨rfl, rfl⟩))
  go_ret
  exact ⟨ah (by rw [pkB, g1, g2]; rfl), by (repeat (first | exact zm | refine Below.alloc ?_ (by simp <;> omega) _))⟩
 | true =>
 cases g3 : fw p.bd 6 with
 | false =>
  go_enter Tryz.func81, Tryz.ntmps81
  go_wp2_with (first | (go_at_call 90; refine (aF _ _).mono ?_; rintro e w' ⟨rfl, rfl⟩) | (go_at_call 128; refine (dR _ _).mono ?_; rintro e w' ⟨rfl, rfl⟩) | (go_at_call 127; with_reducible refine (gn vh p.hd _ ?_).mono ?_; (refine H1.out _ ?_; (repeat (first | exact zm | refine Below.alloc ?_ (by simp <;> omega) _))); rintro e w' ⟨rfl, rfl⟩) | (go_at_call 127; with_reducible refine (gj vb p.bd _ ?_).mono ?_; (refine H2.out _ ?_; (repeat (first | exact zm | refine Below.alloc ?_ (by simp <;> omega) _))); rintro e w' ⟨rfl, rfl⟩))
  go_ret
  exact ⟨ah (by rw [pkB, g1, g2, g3]; rfl), by (repeat (first | exact zm | refine Below.alloc ?_ (by simp <;> omega) _))⟩
 | true =>
 cases g4 : win p.tag 0 990 with
 | false =>
  go_enter Tryz.func81, Tryz.ntmps81
  go_wp2_with (first | (go_at_call 90; refine (aF _ _).mono ?_; rintro e w' ⟨rfl, rfl⟩) | (go_at_call 128; refine (dR _ _).mono ?_; rintro e w' ⟨rfl, rfl⟩) | (go_at_call 127; with_reducible refine (gn vh p.hd _ ?_).mono ?_; (refine H1.out _ ?_; (repeat (first | exact zm | refine Below.alloc ?_ (by simp <;> omega) _))); rintro e w' ⟨rfl, rfl⟩) | (go_at_call 127; with_reducible refine (gj vb p.bd _ ?_).mono ?_; (refine H2.out _ ?_; (repeat (first | exact zm | refine Below.alloc ?_ (by simp <;> omega) _))); rintro e w' ⟨rfl, rfl⟩))
  go_ret
  exact ⟨ah (by rw [pkB, g1, g2, g3, g4]; rfl), by (repeat (first | exact zm | refine Below.alloc ?_ (by simp <;> omega) _))⟩
 | true =>
 ·go_enter Tryz.func81, Tryz.ntmps81
  go_wp2_with (first | (go_at_call 90; refine (aF _ _).mono ?_; rintro e w' ⟨rfl, rfl⟩) | (go_at_call 128; refine (dR _ _).mono ?_; rintro e w' ⟨rfl, rfl⟩) | (go_at_call 127; with_reducible refine (gn vh p.hd _ ?_).mono ?_; (refine H1.out _ ?_; (repeat (first | exact zm | refine Below.alloc ?_ (by simp <;> omega) _))); rintro e w' ⟨rfl, rfl⟩) | (go_at_call 127; with_reducible refine (gj vb p.bd _ ?_).mono ?_; (refine H2.out _ ?_; (repeat (first | exact zm | refine Below.alloc ?_ (by simp <;> omega) _))); rintro e w' ⟨rfl, rfl⟩))
  go_ret
  exact ⟨ah (by rw [pkB, g1, g2, g3, g4]; rfl), by (repeat (first | exact zm | refine Below.alloc ?_ (by simp <;> omega) _))⟩
theorem gB (p : Pk) (vh vb : Value) (w : World) (h1 : SlB af w.heap.size w vh p.hd) (h2 : SlB af w.heap.size w vb p.bd) : Calls Tryz.prog 154 #[.agg #[.int .i64 p.el, vh, .int .i64 p.tag, vb]] w (ok (pkB p) w.heap.size w) := by
 obtain ⟨A1, c1, rfl, _, _, b1⟩ := h1.form
 obtain ⟨A2, c2, rfl, _, _, b2⟩ := h2.form
 have H1 := hid (fun (wx : World) (hb : Below w.heap.size w wx) => (h1.below hb (Nat.le_refl _)).mono hb.size)
 have H2 := hid (fun (wx : World) (hb : Below w.heap.size w wx) => (h2.below hb (Nat.le_refl _)).mono hb.size)
 clear h1 h2
 cases g1 : win p.el 1 996 with
 | false =>
  go_enter Tryz.func154, Tryz.ntmps154
  go_wp2_with (first | (go_at_call 68; refine (aU _ _ _ _).mono ?_; rintro e w' ⟨rfl, rfl⟩) | (go_at_call 106; refine (dI _ _).mono ?_; rintro e w' ⟨rfl, rfl⟩) | (go_at_call 208; with_reducible refine (bV (.slice A1 p.hd.length c1) p.hd _ ?_).mono ?_; (refine H1.out _ ?_; (repeat (first | exact zm | refine Below.alloc ?_ (by simp <;> omega) _))); rintro e w' ⟨rfl, rfl⟩) | (go_at_call 208; with_reducible refine (bV (.slice A2 p.bd.length c2) p.bd _ ?_).mono ?_; (refine H2.out _ ?_; (repeat (first | exact zm | refine Below.alloc ?_ (by simp <;> omega) _))); rintro e w' ⟨rfl, rfl⟩))
  go_ret
  exact ⟨ah (by rw [fx, g1]; rfl), by (repeat (first | exact zm | refine Below.alloc ?_ (by simp <;> omega) _))⟩
 | true =>
 cases g2 : bU p.hd with
 | false =>
  go_enter Tryz.func154, Tryz.ntmps154
  go_wp2_with (first | (go_at_call 68; refine (aU _ _ _ _).mono ?_; rintro e w' ⟨rfl, rfl⟩) | (go_at_call 106; refine (dI _ _).mono ?_; rintro e w' ⟨rfl, rfl⟩) | (go_at_call 208; with_reducible refine (bV (.slice A1 p.hd.length c1) p.hd _ ?_).mono ?_; (refine H1.out _ ?_; (repeat (first | exact zm | refine Below.alloc ?_ (by simp <;> omega) _))); rintro e w' ⟨rfl, rfl⟩) | (go_at_call 208; with_reducible refine (bV (.slice A2 p.bd.length c2) p.bd _ ?_).mono ?_; (refine H2.out _ ?_; (repeat (first | exact zm | refine Below.alloc ?_ (by simp <;> omega) _))); rintro e w' ⟨rfl, rfl⟩))
  go_ret
  exact ⟨ah (by rw [fx, g1, g2]; rfl), by (repeat (first | exact zm | refine Below.alloc ?_ (by simp <;> omega) _))⟩
 | true =>
 cases g3 : ((p.hd.length : Int) == 9) with
 | false =>
  go_enter Tryz.func154, Tryz.ntmps154
  go_wp2_with (first | (go_at_call 68; refine (aU _ _ _ _).mono ?_; rintro e w' ⟨rfl, rfl⟩) | (go_at_call 106; refine (dI _ _).mono ?_; rintro e w' ⟨rfl, rfl⟩) | (go_at_call 208; with_reducible refine (bV (.slice A1 p.hd.length c1) p.hd _ ?_).mono ?_; (refine H1.out _ ?_; (repeat (first | exact zm | refine Below.alloc ?_ (by simp <;> omega) _))); rintro e w' ⟨rfl, rfl⟩) | (go_at_call 208; with_reducible refine (bV (.slice A2 p.bd.length c2) p.bd _ ?_).mono ?_; (refine H2.out _ ?_; (repeat (first | exact zm | refine Below.alloc ?_ (by simp <;> omega) _))); rintro e w' ⟨rfl, rfl⟩))
  go_ret
  exact ⟨ah (by rw [fx, g1, g2, g3]; rfl), by (repeat (first | exact zm | refine Below.alloc ?_ (by simp <;> omega) _))⟩
 | true =>
 cases g4 : win p.tag 0 990 with
 | false =>
  go_enter Tryz.func154, Tryz.ntmps154
  go_wp2_with (first | (go_at_call 68; refine (aU _ _ _ _).mono ?_; rintro e w' ⟨rfl, rfl⟩) | (go_at_call 106; refine (dI _ _).mono ?_; rintro e w' ⟨rfl, rfl⟩) | (go_at_call 208; with_reducible refine (bV (.slice A1 p.hd.length c1) p.hd _ ?_).mono ?_; (refine H1.out _ ?_; (repeat (first | exact zm | refine Below.alloc ?_ (by simp <;> omega) _))); rintro e w' ⟨rfl, rfl⟩) | (go_at_call 208; with_reducible refine (bV (.slice A2 p.bd.length c2) p.bd _ ?_).mono ?_; (refine H2.out _ ?_; (repeat (first | exact zm | refine Below.alloc ?_ (by simp <;> omega) _))); rintro e w' ⟨rfl, rfl⟩))
  go_ret
  exact ⟨ah (by rw [fx, g1, g2, g3, g4]; rfl), by (repeat (first | exact zm | refine Below.alloc ?_ (by simp <;> omega) _))⟩
 | true =>
 cases g5 : bU p.bd with
 | false =>
  go_enter Tryz.func154, Tryz.ntmps154
  go_wp2_with (first | (go_at_call 68; refine (aU _ _ _ _).mono ?_; rintro e w' ⟨rfl, rfl⟩) | (go_at_call 106; refine (dI _ _).mono ?_; rintro e w' ⟨rfl, rfl⟩) | (go_at_call 208; with_reducible refine (bV (.slice A1 p.hd.length c1) p.hd _ ?_).mono ?_; (refine H1.out _ ?_; (repeat (first | exact zm | refine Below.alloc ?_ (by simp <;> omega) _))); rintro e w' ⟨rfl, rfl⟩) | (go_at_call 208; with_reducible refine (bV (.slice A2 p.bd.length c2) p.bd _ ?_).mono ?_; (refine H2.out _ ?_; (repeat (first | exact zm | refine Below.alloc ?_ (by simp <;> omega) _))); rintro e w' ⟨rfl, rfl⟩))
  go_ret
  exact ⟨ah (by rw [fx, g1, g2, g3, g4, g5]; rfl), by (repeat (first | exact zm | refine Below.alloc ?_ (by simp <;> omega) _))⟩
 | true =>
 cases g6 : ((p.bd.length : Int) == 6) with
 | false =>
  go_enter Tryz.func154, Tryz.ntmps154
  go_wp2_with (first | (go_at_call 68; refine (aU _ _ _ _).mono ?_; rintro e w' ⟨rfl, rfl⟩) | (go_at_call 106; refine (dI _ _).mono ?_; rintro e w' ⟨rfl, rfl⟩) | (go_at_call 208; with_reducible refine (bV (.slice A1 p.hd.length c1) p.hd _ ?_).mono ?_; (refine H1.out _ ?_; (repeat (first | exact zm | refine Below.alloc ?_ (by simp <;> omega) _))); rintro e w' ⟨rfl, rfl⟩) | (go_at_call 208; with_reducible refine (bV (.slice A2 p.bd.length c2) p.bd _ ?_).mono ?_; (refine H2.out _ ?_; (repeat (first | exact zm | refine Below.alloc ?_ (by simp <;> omega) _))); rintro e w' ⟨rfl, rfl⟩))
  go_ret
  exact ⟨ah (by rw [fx, g1, g2, g3, g4, g5, g6]; rfl), by (repeat (first | exact zm | refine Below.alloc ?_ (by simp <;> omega) _))⟩
 | true =>
 ·go_enter Tryz.func154, Tryz.ntmps154
  go_wp2_with (first | (go_at_call 68; refine (aU _ _ _ _).mono ?_; rintro e w' ⟨rfl, rfl⟩) | (go_at_call 106; refine (dI _ _).mono ?_; rintro e w' ⟨rfl, rfl⟩) | (go_at_call 208; with_reducible refine (bV (.slice A1 p.hd.length c1) p.hd _ ?_).mono ?_; (refine H1.out _ ?_; (repeat (first | exact zm | refine Below.alloc ?_ (by simp <;> omega) _))); rintro e w' ⟨rfl, rfl⟩) | (go_at_call 208; with_reducible refine (bV (.slice A2 p.bd.length c2) p.bd _ ?_).mono ?_; (refine H2.out _ ?_; (repeat (first | exact zm | refine Below.alloc ?_ (by simp <;> omega) _))); rintro e w' ⟨rfl, rfl⟩))
  go_ret
  exact ⟨ah (by rw [fx, g1, g2, g3, g4, g5, g6]; rfl), by (repeat (first | exact zm | refine Below.alloc ?_ (by simp <;> omega) _))⟩
theorem qh (x : Pl) (vh vb : Value) (w : World) (h1 : SlB af w.heap.size w vh x.pk.hd) (h2 : SlB af w.heap.size w vb x.pk.bd) : Calls Tryz.prog 167 #[.agg #[.int .i64 x.kind, .int .i64 x.next, .int .i64 x.pk.el, vh, .int .i64 x.pk.tag, vb]] w (ok (plB x) w.heap.size w) := by
 have H1 := hid (fun (wx : World) (hb : Below w.heap.size w wx) => (h1.below hb (Nat.le_refl _)).mono hb.size)
 have H2 := hid (fun (wx : World) (hb : Below w.heap.size w wx) => (h2.below hb (Nat.le_refl _)).mono hb.size)
 clear h1 h2
 cases g1 : win x.kind 0 1 with
 | false =>
  go_enter Tryz.func167, Tryz.ntmps167
  go_wp2_with (first | (go_at_call 78; refine (a8 _ _ _ _).mono ?_; rintro e w' ⟨rfl, rfl⟩) | (go_at_call 126; refine (bP _ _).mono ?_; rintro e w' ⟨rfl, rfl⟩) | (go_at_call 81; refine (ct x.pk vh vb _ ?_ ?_).mono ?_; (refine H1.out _ ?_; (repeat (first | exact zm | refine Below.alloc ?_ (by simp <;> omega) _))); (refine H2.out _ ?_; (repeat (first | exact zm | refine Below.alloc ?_ (by simp <;> omega) _))); rintro e w' ⟨rfl, hb⟩))
  go_ret
  exact ⟨ah (by rw [plB, g1]; rfl), by (repeat (first | exact zm | refine Below.alloc ?_ (by simp <;> omega) _))⟩
 | true =>
 cases g2 : win x.next 0 7 with
 | false =>
  go_enter Tryz.func167, Tryz.ntmps167
  go_wp2_with (first | (go_at_call 78; refine (a8 _ _ _ _).mono ?_; rintro e w' ⟨rfl, rfl⟩) | (go_at_call 126; refine (bP _ _).mono ?_; rintro e w' ⟨rfl, rfl⟩) | (go_at_call 81; refine (ct x.pk vh vb _ ?_ ?_).mono ?_; (refine H1.out _ ?_; (repeat (first | exact zm | refine Below.alloc ?_ (by simp <;> omega) _))); (refine H2.out _ ?_; (repeat (first | exact zm | refine Below.alloc ?_ (by simp <;> omega) _))); rintro e w' ⟨rfl, hb⟩))
  go_ret
  exact ⟨ah (by rw [plB, g1, g2]; rfl), by (repeat (first | exact zm | refine Below.alloc ?_ (by simp <;> omega) _))⟩
 | true =>
 cases g3 : pkB x.pk with
 | false =>
  go_enter Tryz.func167, Tryz.ntmps167
  go_wp2_with (first | (go_at_call 78; refine (a8 _ _ _ _).mono ?_; rintro e w' ⟨rfl, rfl⟩) | (go_at_call 126; refine (bP _ _).mono ?_; rintro e w' ⟨rfl, rfl⟩) | (go_at_call 81; refine (ct x.pk vh vb _ ?_ ?_).mono ?_; (refine H1.out _ ?_; (repeat (first | exact zm | refine Below.alloc ?_ (by simp <;> omega) _))); (refine H2.out _ ?_; (repeat (first | exact zm | refine Below.alloc ?_ (by simp <;> omega) _))); rintro e w' ⟨rfl, hb⟩))
  go_ret
  exact ⟨ah (by rw [plB, g1, g2, g3]; rfl), by (repeat (first | exact hb | exact zm | refine Below.trans ?_ (Below.mono hb ?_) | refine Below.alloc ?_ (by simp <;> omega) _ | (simp; done) | (simp; omega)))⟩
 | true =>
 ·go_enter Tryz.func167, Tryz.ntmps167
  go_wp2_with (first | (go_at_call 78; refine (a8 _ _ _ _).mono ?_; rintro e w' ⟨rfl, rfl⟩) | (go_at_call 126; refine (bP _ _).mono ?_; rintro e w' ⟨rfl, rfl⟩) | (go_at_call 81; refine (ct x.pk vh vb _ ?_ ?_).mono ?_; (refine H1.out _ ?_; (repeat (first | exact zm | refine Below.alloc ?_ (by simp <;> omega) _))); (refine H2.out _ ?_; (repeat (first | exact zm | refine Below.alloc ?_ (by simp <;> omega) _))); rintro e w' ⟨rfl, hb⟩))
  go_ret
  exact ⟨ah (by rw [plB, g1, g2, g3]; rfl), by (repeat (first | exact hb | exact zm | refine Below.trans ?_ (Below.mono hb ?_) | refine Below.alloc ?_ (by simp <;> omega) _ | (simp; done) | (simp; omega)))⟩
theorem qV (x : Pl) (vh vb : Value) (w : World) (h1 : SlB af w.heap.size w vh x.pk.hd) (h2 : SlB af w.heap.size w vb x.pk.bd) : Calls Tryz.prog 207 #[.agg #[.int .i64 x.kind, .int .i64 x.next, .int .i64 x.pk.el, vh, .int .i64 x.pk.tag, vb]] w (ok (plB x) w.heap.size w) := by
 have H1 := hid (fun (wx : World) (hb : Below w.heap.size w wx) => (h1.below hb (Nat.le_refl _)).mono hb.size)
 have H2 := hid (fun (wx : World) (hb : Below w.heap.size w wx) => (h2.below hb (Nat.le_refl _)).mono hb.size)
 clear h1 h2
 cases g1 : win x.kind 0 1 with
 | false =>
  go_enter Tryz.func207, Tryz.ntmps207
  go_wp2_with (first | (go_at_call 68; refine (aU _ _ _ _).mono ?_; rintro e w' ⟨rfl, rfl⟩) | (go_at_call 154; refine (gB x.pk vh vb _ ?_ ?_).mono ?_; (refine H1.out _ ?_; (repeat (first | exact zm | refine Below.alloc ?_ (by simp <;> omega) _))); (refine H2.out _ ?_; (repeat (first | exact zm | refine Below.alloc ?_ (by simp <;> omega) _))); rintro e w' ⟨rfl, hb⟩))
  go_ret
  exact ⟨ah (by rw [plB, g1]; rfl), by (repeat (first | exact zm | refine Below.alloc ?_ (by simp <;> omega) _))⟩
 | true =>
 cases g2 : win x.next 0 7 with
 | false =>
  go_enter Tryz.func207, Tryz.ntmps207
  go_wp2_with (first | (go_at_call 68; refine (aU _ _ _ _).mono ?_; rintro e w' ⟨rfl, rfl⟩) | (go_at_call 154; refine (gB x.pk vh vb _ ?_ ?_).mono ?_; (refine H1.out _ ?_; (repeat (first | exact zm | refine Below.alloc ?_ (by simp <;> omega) _))); (refine H2.out _ ?_; (repeat (first | exact zm | refine Below.alloc ?_ (by simp <;> omega) _))); rintro e w' ⟨rfl, hb⟩))
  go_ret
  exact ⟨ah (by rw [plB, g1, g2]; rfl), by (repeat (first | exact zm | refine Below.alloc ?_ (by simp <;> omega) _))⟩
 | true =>
 cases g3 : pkB x.pk with
 | false =>
  go_enter Tryz.func207, Tryz.ntmps207
  go_wp2_with (first | (go_at_call 68; refine (aU _ _ _ _).mono ?_; rintro e w' ⟨rfl, rfl⟩) | (go_at_call 154; refine (gB x.pk vh vb _ ?_ ?_).mono ?_; (refine H1.out _ ?_; (repeat (first | exact zm | refine Below.alloc ?_ (by simp <;> omega) _))); (refine H2.out _ ?_; (repeat (first | exact zm | refine Below.alloc ?_ (by simp <;> omega) _))); rintro e w' ⟨rfl, hb⟩))
  go_ret
  exact ⟨ah (by rw [plB, g1, g2, g3]; rfl), by (repeat (first | exact hb | exact zm | refine Below.trans ?_ (Below.mono hb ?_) | refine Below.alloc ?_ (by simp <;> omega) _ | (simp; done) | (simp; omega)))⟩
 | true =>
 ·go_enter Tryz.func207, Tryz.ntmps207
  go_wp2_with (first | (go_at_call 68; refine (aU _ _ _ _).mono ?_; rintro e w' ⟨rfl, rfl⟩) | (go_at_call 154; refine (gB x.pk vh vb _ ?_ ?_).mono ?_; (refine H1.out _ ?_; (repeat (first | exact zm | refine Below.alloc ?_ (by simp <;> omega) _))); (refine H2.out _ ?_; (repeat (first | exact zm | refine Below.alloc ?_ (by simp <;> omega) _))); rintro e w' ⟨rfl, hb⟩))
  go_ret
  exact ⟨ah (by rw [plB, g1, g2, g3]; rfl), by (repeat (first | exact hb | exact zm | refine Below.trans ?_ (Below.mono hb ?_) | refine Below.alloc ?_ (by simp <;> omega) _ | (simp; done) | (simp; omega)))⟩
theorem fF {l : List Int} {k : Nat} {x : Int} (hx : l[k]? = some x) : ku l k = (win x 1 996 && !decide (x ∈ l.take k)) := by
 have : l.getD k 0 = x := by simp [List.getD, hx]
 unfold ku; rw [this]
theorem lW {m : Mx} (h : jT m.seen = false) : mxB m = false := by unfold mxB; rw [h]; simp
theorem te {m : Mx} (h : nc m.pool = false) : mxB m = false := by unfold mxB; rw [h]; simp
theorem wH {m : Mx} (h : win m.sec 1 996 = false) : mxB m = false := by unfold mxB; rw [h]; rfl
theorem tc {m : Mx} (h : ¬ m.seen.length ≤ 12) : mxB m = false := by unfold mxB; rw [decide_eq_false h]; simp
theorem td {m : Mx} (h : ¬ m.pool.length ≤ 5) : mxB m = false := by unfold mxB; rw [decide_eq_false h]; simp
theorem wG {m : Mx} (h1 : win m.sec 1 996 = true) (h2 : m.seen.length ≤ 12) (h3 : m.pool.length ≤ 5) (h4 : jT m.seen = true) (h5 : nc m.pool = true) : mxB m = true := by unfold mxB; rw [h1, h4, h5, decide_eq_true h2, decide_eq_true h3]; rfl
theorem cZ (m : Mx) (vs vp : Value) (w : World) (h1 : SlB af w.heap.size w vs m.seen) (h2 : SlB tPl w.heap.size w vp m.pool) : Calls Tryz.prog 125 #[.agg #[.int .i64 m.sec, vs, vp]] w (ok (mxB m) w.heap.size w) := by
 obtain ⟨A1, c1, rfl, a1, a2, a3⟩ := h1.form
 obtain ⟨A2, c2, rfl, b1, b2, b3⟩ := h2.form
 clear a2 b2
 cases g1 : win m.sec 1 996 with
 | false =>
  go_enter Tryz.func125, Tryz.ntmps125
  go_wp2_with (go_at_call 90; refine (aF _ _).mono ?_; rintro e w' ⟨rfl, rfl⟩)
  go_ret
  exact ⟨ah (wH g1).symm, by (repeat (first | exact zm | refine Below.alloc ?_ (by simp <;> omega) _))⟩
 | true =>
 by_cases g2 : m.seen.length ≤ 12
 ·by_cases g3 : m.pool.length ≤ 5
  ·go_enter Tryz.func125, Tryz.ntmps125
   go_wp2_with (go_at_call 90; refine (aF _ _).mono ?_; rintro e w' ⟨rfl, rfl⟩)
   have hB : Below w.heap.size w (w.alloc (Obj.cells #[Value.int IntKind.i64 m.sec, Value.slice A1 m.seen.length c1, Value.slice A2 m.pool.length c2] 70)) := by (repeat (first | exact zm | refine Below.alloc ?_ (by simp <;> omega) _))
   have r1 := h1.go hB
   have hc1 : (w.alloc (Obj.cells #[Value.int IntKind.i64 m.sec, Value.slice A1 m.seen.length c1, Value.slice A2 m.pool.length c2] 70)).cell? ⟨w.heap.size, 1, none⟩ = some (Value.slice A1 m.seen.length c1) := bZ _ _ _ 1 _ rfl
   have hc2 : (w.alloc (Obj.cells #[Value.int IntKind.i64 m.sec, Value.slice A1 m.seen.length c1, Value.slice A2 m.pool.length c2] 70)).cell? ⟨w.heap.size, 2, none⟩ = some (Value.slice A2 m.pool.length c2) := bZ _ _ _ 2 _ rfl
   have r2 := h2.go hB
   generalize w.alloc (Obj.cells #[Value.int IntKind.i64 m.sec, Value.slice A1 m.seen.length c1, Value.slice A2 m.pool.length c2] 70) = W at *
   have HB := hid hB; have R2 := hid r2
   clear hB r2 h1 h2
   go_loop [26] (fun i => ∃ k : Nat, k ≤ m.seen.length ∧ i = .int .i64 k ∧ ∀ j, j < k → ku m.seen j = true) (fun i => m.seen.length - (intOf i).toNat)
   case atStart => exact ⟨0, by omega, rfl, fun j hj => absurd hj (by omega)⟩
   case round =>
    obtain ⟨k, hk, rfl, hall⟩ := hrel
    have Hall := hid hall
    clear hall
    by_cases hlt : k < m.seen.length
    ·obtain ⟨x, hx⟩ := ai hlt
     obtain ⟨b, o, rfl, _, _, hcx⟩ := r1.int hx
     have Hx := hid hx
     have hkc : (k : Int) ≤ (c1 : Int) := by omega
     have Rt := hid (r1.take k (by omega))
     clear hx
     cases hw : win x 1 996 with
     | false =>
      have Hf := hid (lW (dq hlt (by rw [fF Hx.out, hw]; rfl)))
      go_wp2_with (go_at_call 90; refine (aF _ _).mono ?_; rintro e w' ⟨rfl, rfl⟩)
      go_ret
      exact ⟨ah Hf.out.symm, HB.out⟩
     | true =>
      cases hd : decide (x ∈ m.seen.take k) with
      | true =>
       have Hf := hid (lW (dq hlt (by rw [fF Hx.out, hw, hd]; rfl)))
       go_wp2_with (first | (go_at_call 90; refine (aF _ _).mono ?_; rintro e w' ⟨rfl, rfl⟩) | (go_at_call 166; refine (ey _ _ _ _ Rt.out).mono ?_; rw [hd]; rintro e w' ⟨rfl, rfl⟩))
       go_ret
       exact ⟨ah Hf.out.symm, HB.out⟩
      | false =>
       have Hf := hid (show ku m.seen k = true from by rw [fF Hx.out, hw, hd]; rfl)
       go_wp2_with (first | (go_at_call 90; refine (aF _ _).mono ?_; rintro e w' ⟨rfl, rfl⟩) | (go_at_call 166; refine (ey _ _ _ _ Rt.out).mono ?_; rw [hd]; rintro e w' ⟨rfl, rfl⟩))
       go_round
       case rel => exact ⟨k + 1, by omega, by go_num, fun j hj => by rcases Nat.lt_or_ge j k with h | h; exact Hall.out j h; rw [show j = k from by omega]; exact Hf.out⟩
       case measure => simp [intOf]; omega
    ·have Hs := hid (show jT m.seen = true from fg fun j hj => Hall.out j (by omega))
     clear Hall r1
     go_wp2
     go_loopw [46] (fun i wr => ∃ k : Nat, k ≤ m.pool.length ∧ i = .int .i64 k ∧ nc (m.pool.take k) = true ∧ Below W.heap.size W wr) (fun i _ => m.pool.length - (intOf i).toNat)
     case atStart => exact ⟨0, by omega, rfl, rfl, zm⟩
     case round =>
      obtain ⟨j, hj, rfl, hall, hb⟩ := hrel
      have Hall := hid hall
      have r2 := R2.out.go hb
      have Hb := hid hb
      clear hall hb
      by_cases hlt2 : j < m.pool.length
      ·obtain ⟨x, hx⟩ := ai hlt2
       obtain ⟨b, o, vh, vb, rfl, _, _, s1, s2, q0, q1, q2, q3, q4, q5⟩ := r2.pl hx
       obtain ⟨Ah, ch, rfl, _, _, _⟩ := s1.form
       obtain ⟨Ab, cb, rfl, _, _, _⟩ := s2.form
       have Hx := hid hx; have S1 := hid s1; have S2 := hid s2
       clear hx r2 s1 s2
       cases hw : plB x with
       | false =>
        have Hf := hid (te (fK Hx.out hw))
        go_wp2_with (go_at_call 167; with_reducible refine (qh x _ _ _ ?_ ?_).mono ?_; exact S1.out.go (ab _ _); exact S2.out.go (ab _ _); rw [hw]; rintro e w' ⟨rfl, hb5⟩)
        go_ret
        exact ⟨ah Hf.out.symm, bt HB.out (bt Hb.out (bt (ab _ _) hb5))⟩
       | true =>
        go_wp2_with (go_at_call 167; with_reducible refine (qh x _ _ _ ?_ ?_).mono ?_; exact S1.out.go (ab _ _); exact S2.out.go (ab _ _); rw [hw]; rintro e w' ⟨rfl, hb5⟩)
        go_roundw
        case rel => exact ⟨j + 1, by omega, by go_num, by rw [aK Hx.out]; exact dV Hall.out hw, bt Hb.out (bt (ab _ _) hb5)⟩
        case measure => simp [intOf]; omega
      ·have Hf := hid (wG g1 g2 g3 Hs.out (by rw [← aV hj hlt2]; exact Hall.out))
       go_wp2
       go_ret
       exact ⟨ah Hf.out.symm, bt HB.out Hb.out⟩
  ·go_enter Tryz.func125, Tryz.ntmps125
   go_wp2_with (go_at_call 90; refine (aF _ _).mono ?_; rintro e w' ⟨rfl, rfl⟩)
   go_ret
   exact ⟨ah (td g3).symm, by (repeat (first | exact zm | refine Below.alloc ?_ (by simp <;> omega) _))⟩
 ·go_enter Tryz.func125, Tryz.ntmps125
  go_wp2_with (go_at_call 90; refine (aF _ _).mono ?_; rintro e w' ⟨rfl, rfl⟩)
  go_ret
  exact ⟨ah (tc g2).symm, by (repeat (first | exact zm | refine Below.alloc ?_ (by simp <;> omega) _))⟩
theorem rP (n : Int) (b : Bool) (h : win n 1 996 = b) (w : World) (k : Nat) : Calls Tryz.prog 106 #[.int .i64 n] (w.drewN k) fun e w' => e = .returned (.bool b) ∧ w' = w.drewN k := by
 subst h; exact (dI n _).mono fun _ _ ⟨h1, h2⟩ => ⟨h1, h2.symm⟩
theorem sY (v : Value) (xs : List Int) (n : Int) (b : Bool) (hb : decide (n ∈ xs) = b) (w : World) (k : Nat) (h : SlB af w.heap.size w v xs) : Calls Tryz.prog 165 #[v, .int .i64 n] (w.drewN k) fun e w' => e = .returned (.bool b) ∧ w' = w.drewN k := by
 subst hb; exact (kO v xs n _ (h.drewN (Nat.le_refl _) k)).mono fun _ _ ⟨h1, h2⟩ => ⟨h1, h2.symm⟩
theorem ld (m : Mx) (vs vp : Value) (w : World) (h1 : SlB af w.heap.size w vs m.seen) (h2 : SlB tPl w.heap.size w vp m.pool) : Calls Tryz.prog 153 #[.agg #[.int .i64 m.sec, vs, vp]] w (ok (mxB m) w.heap.size w) := by
 obtain ⟨A1, c1, rfl, a1, a2, a3⟩ := h1.form
 obtain ⟨A2, c2, rfl, b1, b2, b3⟩ := h2.form
 clear a2 b2
 go_enter Tryz.func153, Tryz.ntmps153
 go_wp2_with fail
 have hB : Below w.heap.size w (w.alloc (Obj.cells #[Value.int IntKind.i64 m.sec, Value.slice A1 m.seen.length c1, Value.slice A2 m.pool.length c2] 70)) := by (repeat (first | exact zm | refine Below.alloc ?_ (by simp <;> omega) _))
 have r1 := h1.go hB
 have hc0 : (w.alloc (Obj.cells #[Value.int IntKind.i64 m.sec, Value.slice A1 m.seen.length c1, Value.slice A2 m.pool.length c2] 70)).cell? ⟨w.heap.size, 0, none⟩ = some (Value.int IntKind.i64 m.sec) := bZ _ _ _ 0 _ rfl
 have hc1 : (w.alloc (Obj.cells #[Value.int IntKind.i64 m.sec, Value.slice A1 m.seen.length c1, Value.slice A2 m.pool.length c2] 70)).cell? ⟨w.heap.size, 1, none⟩ = some (Value.slice A1 m.seen.length c1) := bZ _ _ _ 1 _ rfl
 have hc2 : (w.alloc (Obj.cells #[Value.int IntKind.i64 m.sec, Value.slice A1 m.seen.length c1, Value.slice A2 m.pool.length c2] 70)).cell? ⟨w.heap.size, 2, none⟩ = some (Value.slice A2 m.pool.length c2) := bZ _ _ _ 2 _ rfl
 have r2 := h2.go hB
 have hz : w.heap.size < (w.alloc (Obj.cells #[Value.int IntKind.i64 m.sec, Value.slice A1 m.seen.length c1, Value.slice A2 m.pool.length c2] 70)).heap.size := by simp
 generalize w.alloc (Obj.cells #[Value.int IntKind.i64 m.sec, Value.slice A1 m.seen.length c1, Value.slice A2 m.pool.length c2] 70) = W at *
 have HB := hid hB; have R2 := hid r2; have R1 := hid r1; have Hc0 := hid hc0; have Hc1 := hid hc1; have Hc2 := hid hc2
 clear hB r2 h1 h2 r1 hc0 hc1 hc2
 go_loopw [3] (fun i wr => ∃ k : Nat, k ≤ m.seen.length ∧ i = .int .i64 k ∧ (∀ j, j < k → ku m.seen j = true) ∧ Below W.heap.size W wr) (fun i _ => m.seen.length - (intOf i).toNat)
 case atStart => exact ⟨0, by omega, rfl, fun j hj => absurd hj (by omega), zm⟩
 case round =>
  obtain ⟨k, hk, rfl, hall, hb⟩ := hrel
  have Hall := hid hall; have Hb := hid hb
  have r1 := R1.out.go hb
  have hc1 := (hb.cell (p := ⟨w.heap.size, 1, none⟩) hz).trans Hc1.out
  have hc2 := (hb.cell (p := ⟨w.heap.size, 2, none⟩) hz).trans Hc2.out
  clear hall hb
  by_cases hlt : k < m.seen.length
  ·obtain ⟨x, hx⟩ := ai hlt
   obtain ⟨b, o, rfl, _, _, hcx⟩ := r1.int hx
   have Hx := hid hx
   have hkc : (k : Int) ≤ (c1 : Int) := by omega
   have Rt := hid (r1.take k (by omega))
   clear hx r1
   cases hw : win x 1 996 with
   | false =>
    have Hf := hid (lW (dq hlt (by rw [fF Hx.out, hw]; rfl)))
    go_wp2
    go_quiet ((go_at_call 106; exact Calls.quiet_of_same (rP _ false hw _ _)))
    go_wp2
    go_ret
    exact ⟨ah Hf.out.symm, below_drewN (bt HB.out Hb.out) _⟩
   | true =>
    cases hd : decide (x ∈ m.seen.take k) with
    | true =>
     have Hf := hid (lW (dq hlt (by rw [fF Hx.out, hw, hd]; rfl)))
     go_wp2
     go_quiet ((first | (go_at_call 106; exact Calls.quiet_of_same (rP _ true hw _ _)) | (go_at_call 165; exact Calls.quiet_of_same (sY _ _ _ true hd _ _ (by exact Rt.out)))))
     go_wp2
     go_ret
     exact ⟨ah Hf.out.symm, below_drewN (bt HB.out Hb.out) _⟩
    | false =>
     have Hf := hid (show ku m.seen k = true from by rw [fF Hx.out, hw, hd]; rfl)
     go_wp2
     go_quiet ((first | (go_at_call 106; exact Calls.quiet_of_same (rP _ true hw _ _)) | (go_at_call 165; exact Calls.quiet_of_same (sY _ _ _ false hd _ _ (by exact Rt.out)))))
     go_wp2
     go_roundw
     case rel => exact ⟨k + 1, by omega, by go_num, fun j hj => by rcases Nat.lt_or_ge j k with h | h; exact Hall.out j h; rw [show j = k from by omega]; exact Hf.out, below_drewN Hb.out _⟩
     case measure => simp [intOf]; omega
  ·have Hs := hid (show jT m.seen = true from fg fun j hj => Hall.out j (by omega))
   have HB := hid (bt HB.out Hb.out)
   have R2 := hid (R2.out.go Hb.out)
   have Hd0 := hid ((Hb.out.cell (p := ⟨w.heap.size, 0, none⟩) hz).trans Hc0.out)
   have Hd1 := hid ((Hb.out.cell (p := ⟨w.heap.size, 1, none⟩) hz).trans Hc1.out)
   have Hd2 := hid hc2
   have hz := Nat.lt_of_lt_of_le hz Hb.out.size
   clear Hall r1 Hc0 Hc1 Hc2 Hb R1
   obtain ⟨wo, rfl⟩ : ∃ wo : World, wo = wr := ⟨_, rfl⟩
   go_wp2
   clear hc1 hc2
   go_loopw [4] (fun i wr => ∃ k : Nat, k ≤ m.pool.length ∧ i = .int .i64 k ∧ nc (m.pool.take k) = true ∧ Below wo.heap.size wo wr) (fun i _ => m.pool.length - (intOf i).toNat)
   case atStart => exact ⟨0, by omega, rfl, rfl, zm⟩
   case round =>
    obtain ⟨j, hj, rfl, hall, hb⟩ := hrel
    have Hall := hid hall
    have r2 := R2.out.go hb
    have Hb := hid hb
    have hc0 := (hb.cell (p := ⟨w.heap.size, 0, none⟩) hz).trans Hd0.out
    have hc1 := (hb.cell (p := ⟨w.heap.size, 1, none⟩) hz).trans Hd1.out
    have hc2 := (hb.cell (p := ⟨w.heap.size, 2, none⟩) hz).trans Hd2.out
    clear hall hb
    by_cases hlt2 : j < m.pool.length
    ·obtain ⟨x, hx⟩ := ai hlt2
     obtain ⟨b, o, vh, vb, rfl, _, _, s1, s2, q0, q1, q2, q3, q4, q5⟩ := r2.pl hx
     obtain ⟨Ah, ch, rfl, _, _, _⟩ := s1.form
     obtain ⟨Ab, cb, rfl, _, _, _⟩ := s2.form
     have Hx := hid hx; have S1 := hid s1; have S2 := hid s2
     clear hx r2 s1 s2
     cases hw : plB x with
     | false =>
      have Hf := hid (te (fK Hx.out hw))
      go_wp2_with (go_at_call 207; with_reducible refine (qV x _ _ _ ?_ ?_).mono ?_; exact S1.out; exact S2.out; rw [hw]; rintro e w' ⟨rfl, hb5⟩)
      go_ret
      exact ⟨ah Hf.out.symm, bt HB.out (bt Hb.out hb5)⟩
     | true =>
      go_wp2_with (go_at_call 207; with_reducible refine (qV x _ _ _ ?_ ?_).mono ?_; exact S1.out; exact S2.out; rw [hw]; rintro e w' ⟨rfl, hb5⟩)
      go_roundw
      case rel => exact ⟨j + 1, by omega, by go_num, by rw [aK Hx.out]; exact dV Hall.out hw, bt Hb.out hb5⟩
      case measure => simp [intOf]; omega
    ·have hp : nc m.pool = true := by rw [← aV hj hlt2]; exact Hall.out
     have Hp := hid hp
     clear hp r2
     cases g1 : win m.sec 1 996 with
     | false =>
      have Hf := hid (wH g1)
      go_wp2_with (go_at_call 106; refine (dI _ _).mono ?_; rw [g1]; rintro e w' ⟨rfl, rfl⟩)
      go_ret
      exact ⟨ah Hf.out.symm, bt HB.out Hb.out⟩
     | true =>
     by_cases g2 : m.seen.length ≤ 12
     ·by_cases g3 : m.pool.length ≤ 5
      ·have Hf := hid (wG g1 g2 g3 Hs.out Hp.out)
       go_wp2_with (go_at_call 106; refine (dI _ _).mono ?_; rw [g1]; rintro e w' ⟨rfl, rfl⟩)
       go_ret
       exact ⟨ah (by rw [Hf.out]; simp; try omega), bt HB.out Hb.out⟩
      ·have Hf := hid (td g3)
       go_wp2_with (go_at_call 106; refine (dI _ _).mono ?_; rw [g1]; rintro e w' ⟨rfl, rfl⟩)
       go_ret
       exact ⟨ah (by rw [Hf.out]; simp; try omega), bt HB.out Hb.out⟩
     ·have Hf := hid (tc g2)
      go_wp2_with (go_at_call 106; refine (dI _ _).mono ?_; rw [g1]; rintro e w' ⟨rfl, rfl⟩)
      go_ret
      exact ⟨ah Hf.out.symm, bt HB.out Hb.out⟩
def ltB (l : Lt) : Bool := win l.fr 0 7 && (win l.to 0 7 && win l.num 0 11)
def trB (t : Tr) : Bool := win t.mix 0 2 && pkB t.pk
def cS (k : Nat) : Int := 100 + 37 * (k : Int)
def iU (l : List Mx) (k : Nat) : Bool := match l[k]? with | some m => mxB m && decide (m.sec = cS k) | none => false
def bu (l : List Mx) : Bool := decide (l.length = 3) && (List.range l.length).all (iU l)
def je (l : List Lt) (k : Nat) : Bool := match l[k]? with | some x => ltB x && decide (x.num = (k : Int)) | none => false
def kZ (l : List Lt) : Bool := (List.range l.length).all (je l)
def nE (l : List Lt) : Bool := l.all ltB
def lR (l : List Tr) : Bool := l.all trB
def aO (l : List Mx) : Nat := (l.map (fun m => m.pool.length)).sum
def dH (x : Wd) : Int := (x.net.length : Int) + x.got.length + x.lost + aO x.mixes
def wdB (x : Wd) : Bool := bu x.mixes && (decide (x.sent.length ≤ 12) && (decide (x.net.length ≤ 10) && (decide (x.made ≤ 999) && (win x.lost 0 x.made && (kZ x.sent && (nE x.got && (lR x.net && decide (dH x = x.made))))))))
theorem ft (l : Lt) (w : World) : Calls Tryz.prog 79 #[.agg #[.int .i64 l.fr, .int .i64 l.to, .int .i64 l.num]] w (ok (ltB l) w.heap.size w) := by
 cases g1 : win l.fr 0 7 with
 | false =>
  go_enter Tryz.func79, Tryz.ntmps79
  go_wp2_with (first | (go_at_call 78; refine (a8 _ _ _ _).mono ?_; rintro e w' ⟨rfl, rfl⟩) | (go_at_call 126; refine (bP _ _).mono ?_; rintro e w' ⟨rfl, rfl⟩))
  go_ret
  exact ⟨ah (by rw [ltB, g1]; rfl), by (repeat (first | exact zm | refine ae ?_ | refine Below.alloc ?_ (by simp <;> omega) _))⟩
 | true =>
 cases g2 : win l.to 0 7 with
 | false =>
  go_enter Tryz.func79, Tryz.ntmps79
  go_wp2_with (first | (go_at_call 78; refine (a8 _ _ _ _).mono ?_; rintro e w' ⟨rfl, rfl⟩) | (go_at_call 126; refine (bP _ _).mono ?_; rintro e w' ⟨rfl, rfl⟩))
  go_ret
  exact ⟨ah (by rw [ltB, g1, g2]; rfl), by (repeat (first | exact zm | refine ae ?_ | refine Below.alloc ?_ (by simp <;> omega) _))⟩
 | true =>
  go_enter Tryz.func79, Tryz.ntmps79
  go_wp2_with (first | (go_at_call 78; refine (a8 _ _ _ _).mono ?_; rintro e w' ⟨rfl, rfl⟩) | (go_at_call 126; refine (bP _ _).mono ?_; rintro e w' ⟨rfl, rfl⟩))
  go_ret
  exact ⟨ah (by rw [ltB, g1, g2]; rfl), by (repeat (first | exact zm | refine ae ?_ | refine Below.alloc ?_ (by simp <;> omega) _))⟩
theorem ej (l : Lt) (w : World) : Calls Tryz.prog 110 #[.agg #[.int .i64 l.fr, .int .i64 l.to, .int .i64 l.num]] w (ok (ltB l) w.heap.size w) := by
 cases g1 : win l.fr 0 7 with
 | false =>
  go_enter Tryz.func110, Tryz.ntmps110
  go_wp2_with (go_at_call 68; refine (aU _ _ _ _).mono ?_; rintro e w' ⟨rfl, rfl⟩)
  go_ret
  exact ⟨ah (by rw [ltB, g1]; rfl), by (repeat (first | exact zm | refine ae ?_ | refine Below.alloc ?_ (by simp <;> omega) _))⟩
 | true =>
 cases g2 : win l.to 0 7 with
 | false =>
  go_enter Tryz.func110, Tryz.ntmps110
  go_wp2_with (go_at_call 68; refine (aU _ _ _ _).mono ?_; rintro e w' ⟨rfl, rfl⟩)
  go_ret
  exact ⟨ah (by rw [ltB, g1, g2]; rfl), by (repeat (first | exact zm | refine ae ?_ | refine Below.alloc ?_ (by simp <;> omega) _))⟩
 | true =>
  go_enter Tryz.func110, Tryz.ntmps110
  go_wp2_with (go_at_call 68; refine (aU _ _ _ _).mono ?_; rintro e w' ⟨rfl, rfl⟩)
  go_ret
  exact ⟨ah (by rw [ltB, g1, g2]; rfl), by (repeat (first | exact zm | refine ae ?_ | refine Below.alloc ?_ (by simp <;> omega) _))⟩
theorem fX (k : Nat) (hk : k ≤ 1000) (w : World) : Calls Tryz.prog 52 #[.int .i64 k] w fun e w' => e = .returned (.int .i64 (cS k)) ∧ w = w' := by
 go_enter Tryz.func52, Tryz.ntmps52
 go_wp2
 go_ret
 exact ⟨rfl, rfl⟩
theorem jw (k : Nat) (hk : k ≤ 1000) (w : World) : Calls Tryz.prog 60 #[.int .i64 k] w fun e w' => e = .returned (.int .i64 (cS k)) ∧ w = w' := by
 go_enter Tryz.func60, Tryz.ntmps60
 go_wp2
 go_ret
 exact ⟨rfl, rfl⟩
theorem kj {l : List Mx} {k : Nat} {m : Mx} (hm : l[k]? = some m) : iU l k = (mxB m && decide (m.sec = cS k)) := by unfold iU; rw [hm]
theorem gS {l : List Lt} {k : Nat} {m : Lt} (hm : l[k]? = some m) : je l k = (ltB m && decide (m.num = (k : Int))) := by unfold je; rw [hm]
theorem pV {w w' : World} {cs : Array Value} {e i : Nat} {v : Value} (hb : Below (w.alloc (.cells cs e)).drew.heap.size (w.alloc (.cells cs e)).drew w') (h : cs[i]? = some v) : w'.cell? ⟨w.heap.size, i, none⟩ = some v :=
 (hb.cell (p := ⟨w.heap.size, i, none⟩) (by show _ < (w.alloc _).heap.size; simp)).trans (bZ w cs e i v h)
theorem pE (v : Value) (l : List Mx) (w : World) (h : SlB tMx w.heap.size w v l) : Calls Tryz.prog 77 #[v] w (ok (bu l) w.heap.size w) := by
 obtain ⟨A, c, rfl, a1, a2, a3⟩ := h.form
 clear a2
 by_cases hl : l.length = 3
 ·have hl2 : ((l.length : Int) != 3) = false := by simp [hl]
  have Hl := hid hl
  have Hm := hid (show bu l = (List.range l.length).all (iU l) from by unfold bu; rw [decide_eq_true hl]; rfl)
  clear hl
  go_enter Tryz.func77, Tryz.ntmps77
  go_wp2
  go_loopw [10] (fun i wr => ∃ k : Nat, k ≤ l.length ∧ i = .int .i64 k ∧ (∀ j, j < k → iU l j = true) ∧ Below w.heap.size w wr) (fun i _ => l.length - (intOf i).toNat)
  case atStart => exact ⟨0, by omega, rfl, fun j hj => absurd hj (by omega), zm⟩
  case round =>
   obtain ⟨k, hk, rfl, hall, hb⟩ := hrel
   have Hall := hid hall; have Hb := hid hb
   have r1 := h.go hb
   clear hall hb
   by_cases hlt : k < l.length
   ·obtain ⟨x, hx⟩ := ai hlt
    obtain ⟨b, o, vs, vp, rfl, _, _, s1, s2, q0, q1, q2⟩ := r1.mx hx
    obtain ⟨Ah, ch, rfl, _, _, _⟩ := s1.form
    obtain ⟨Ab, cb, rfl, _, _, _⟩ := s2.form
    have Hx := hid hx; have S1 := hid s1; have S2 := hid s2
    have hk9 : k ≤ 1000 := by have := Hl.out; omega
    clear hx r1 s1 s2 h
    cases hw : mxB x with
    | false =>
     have Hf := hid (show bu l = false from by rw [Hm.out]; exact dq hlt (by rw [kj Hx.out, hw]; rfl))
     go_wp2
     first
      | (go_region_with (first | (go_at_call 125; with_reducible refine (cZ x _ _ _ ?_ ?_).mono ?_; (refine S1.out.go ?_; (repeat (first | exact zm | refine ae ?_ | refine Below.alloc ?_ (by simp <;> omega) _))); (refine S2.out.go ?_; (repeat (first | exact zm | refine ae ?_ | refine Below.alloc ?_ (by simp <;> omega) _))); rw [hw]; rintro e w' ⟨rfl, hb5⟩) | (go_at_call 52; refine (fX _ ?_ _).mono ?_; omega; rintro e w' ⟨rfl, rfl⟩)))
      | fail
     all_goals go_wp2
     all_goals go_ret
     all_goals exact ⟨ah Hf.out.symm, bt Hb.out (bt (by (repeat (first | exact zm | refine ae ?_ | refine Below.alloc ?_ (by simp <;> omega) _))) hb5)⟩
    | true =>
     by_cases hs : x.sec = cS k
     ·have hsB : (x.sec != cS k) = false := by simp [hs]
      have Hf := hid (show iU l k = true from by rw [kj Hx.out, hw, decide_eq_true hs]; rfl)
      clear hs
      go_wp2
      go_region_with (first | (go_at_call 125; with_reducible refine (cZ x _ _ _ ?_ ?_).mono ?_; (refine S1.out.go ?_; (repeat (first | exact zm | refine ae ?_ | refine Below.alloc ?_ (by simp <;> omega) _))); (refine S2.out.go ?_; (repeat (first | exact zm | refine ae ?_ | refine Below.alloc ?_ (by simp <;> omega) _))); rw [hw]; rintro e w' ⟨rfl, hb5⟩; have k0 := pV (i := 0) hb5 rfl) | (go_at_call 52; refine (fX _ ?_ _).mono ?_; omega; rintro e w' ⟨rfl, rfl⟩))
      all_goals go_wp2
      all_goals (go_roundw; (case rel => exact ⟨k + 1, by omega, by go_num, fun j hj => by rcases Nat.lt_or_ge j k with h | h; exact Hall.out j h; rw [show j = k from by omega]; exact Hf.out, bt Hb.out (bt (by (repeat (first | exact zm | refine ae ?_ | refine Below.alloc ?_ (by simp <;> omega) _))) hb5)⟩); (case measure => simp [intOf]; omega))
     ·have hsB : (x.sec != cS k) = true := by simp [hs]
      have Hf := hid (show bu l = false from by rw [Hm.out]; exact dq hlt (by rw [kj Hx.out, hw, decide_eq_false hs]; rfl))
      clear hs
      go_wp2
      go_region_with (first | (go_at_call 125; with_reducible refine (cZ x _ _ _ ?_ ?_).mono ?_; (refine S1.out.go ?_; (repeat (first | exact zm | refine ae ?_ | refine Below.alloc ?_ (by simp <;> omega) _))); (refine S2.out.go ?_; (repeat (first | exact zm | refine ae ?_ | refine Below.alloc ?_ (by simp <;> omega) _))); rw [hw]; rintro e w' ⟨rfl, hb5⟩; have k0 := pV (i := 0) hb5 rfl) | (go_at_call 52; refine (fX _ ?_ _).mono ?_; omega; rintro e w' ⟨rfl, rfl⟩))
      all_goals go_wp2
      all_goals go_ret
      all_goals exact ⟨ah Hf.out.symm, bt Hb.out (bt (by (repeat (first | exact zm | refine ae ?_ | refine Below.alloc ?_ (by simp <;> omega) _))) hb5)⟩
   ·have Hf := hid (show bu l = true from by rw [Hm.out]; exact fg fun j hj => Hall.out j (by omega))
    go_wp2
    go_ret
    exact ⟨ah Hf.out.symm, Hb.out⟩
 ·have hl2 : ((l.length : Int) != 3) = true := by simp; omega
  have Hm := hid (show bu l = false from by unfold bu; rw [decide_eq_false hl]; rfl)
  clear hl
  go_enter Tryz.func77, Tryz.ntmps77
  go_wp2
  go_ret
  exact ⟨ah Hm.out.symm, zm⟩
end Go.Proofs.YtfaeojmndaplcaaGreatDoor
