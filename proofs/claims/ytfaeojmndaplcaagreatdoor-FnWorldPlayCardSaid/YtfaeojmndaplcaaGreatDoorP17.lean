/- Texts that the last file leans on (part 17). -/
import Derived.Test.YtfaeojmndaplcaaGreatDoorP0
import Derived.Test.YtfaeojmndaplcaaGreatDoorP10
import Derived.Test.YtfaeojmndaplcaaGreatDoorP13
import Derived.Test.YtfaeojmndaplcaaGreatDoorP14
import Derived.Test.YtfaeojmndaplcaaGreatDoorP15
import Derived.Test.YtfaeojmndaplcaaGreatDoorP16
import Derived.Test.YtfaeojmndaplcaaGreatDoorP6
import Derived.Test.YtfaeojmndaplcaaGreatDoorP9
set_option linter.unusedVariables false
set_option linter.unusedSimpArgs false
set_option maxHeartbeats 4000000
set_option maxRecDepth 100000
namespace Go.Proofs.YtfaeojmndaplcaaGreatDoor
open Go Go.RowKit
def Rn (B : Nat) (w : World) (b o : Nat) (x : Wd) (F : List Nat) : Prop := ∃ vm vs vn vg Fm Fs Fn Fg, Run B w b o x vm vs vn vg Fm Fs Fn Fg ∧ F = b :: (Fm ++ (Fs ++ (Fn ++ Fg)))
def ar (b o : Nat) (w w' : World) : Prop := ∀ j, j < o → w'.cell? ⟨b, j, none⟩ = w.cell? ⟨b, j, none⟩
section
variable {b o : Nat} {a w w' : World}
theorem ar.refl (b o : Nat) (w : World) : ar b o w w := fun _ _ => rfl
theorem ar.trans (h : ar b o a w) (k : ar b o w w') : ar b o a w' := fun j hj => (k j hj).trans (h j hj)
theorem ar.below (hb : Below w.heap.size w w') (hbw : b < w.heap.size) : ar b o w w' := fun _ _ => hb.cell hbw
theorem ar.tch {L : List Nat} (h : Tch L w w') (hn : b ∉ L) (hbw : b < w.heap.size) : ar b o w w' := fun j _ => World.cell?_of_block (w := w) (a := ⟨b, j, none⟩) (h.block b hbw hn)
theorem ar.set {k : Nat} (h : ar b o a w) (hk : o ≤ k) (u : Value) : ar b o a (w.setCell ⟨b, k, none⟩ u) := fun j hj => (an _ _ _ _ _ (by omega)).trans (h j hj)
theorem ar.setne {p : Addr} (h : ar b o a w) (hp : b ≠ p.block) (u : Value) : ar b o a (w.setCell p u) := fun j hj => (World.cell?_of_block (w := w) (a := ⟨b, j, none⟩) (Below.heap_setCell _ _ _ _ hp)).trans (h j hj)
end
def dL (B : Nat) (w : World) (b o : Nat) (F P : List Nat) (y : Wd) (e : Ending) (w' : World) : Prop :=
 e = .returned (.tuple #[]) ∧ ∃ F', Rn B w' b o y F' ∧ (∀ c ∈ F', c ∈ F ∨ c ∈ P ∨ w.heap.size ≤ c) ∧ Tch F w w' ∧ ar b o w w'
theorem fu {α : Type} {T : Ty α} {w' : World} {e s8 : Nat} {v v' : Value} {ys : List α} {G F : List Nat} (ho : Own T e 0 w' v' ys (G ++ F)) (hv : v'.ownBlock = v.ownBlock ∨ v'.ownBlock = some s8) (hn : (v.ownBlock.toList ++ G).Nodup) (hF : F.Nodup) (hlt : ∀ b ∈ v.ownBlock.toList ++ G, b < s8) (hFn : ∀ b ∈ F, b < s8 ∧ b ∉ v.ownBlock.toList ++ G) :
  (T.own e).E w' [v'] ys (v'.ownBlock.toList ++ (G ++ F)) ∧ (v'.ownBlock.toList ++ (G ++ F)).Nodup ∧ ∀ b ∈ v'.ownBlock.toList ++ (G ++ F), b ∈ v.ownBlock.toList ++ G ∨ b ∈ F ∨ b = s8 := by
 have hb' : ∀ b ∈ v'.ownBlock.toList, b ∈ v.ownBlock.toList ∨ b = s8 := fun b hb => by
  rcases hv with h | h
  ·rw [h] at hb; exact .inl hb
  ·rw [h] at hb; simp at hb; exact .inr hb
 refine ⟨⟨v', G ++ F, rfl, ho, rfl⟩, ?_, fun b hb => ?_⟩
 ·obtain ⟨n1, n2, d⟩ := List.nodup_append.1 hn
  rw [List.nodup_append, List.nodup_append]
  refine ⟨bQ _, ⟨n2, hF, fun a ha b hb e => ?_⟩, fun a ha b hb e => ?_⟩
  ·subst e; exact (hFn a hb).2 (List.mem_append_right _ ha)
  ·subst e
   rcases hb' a ha with h | h
   ·rcases List.mem_append.1 hb with hb | hb
    ·exact d a h a hb rfl
    ·exact (hFn a hb).2 (List.mem_append_left _ h)
   ·rcases List.mem_append.1 hb with hb | hb
    ·have h1 := hlt a (List.mem_append_right _ hb); omega
    ·have h2 := (hFn a hb).1; omega
 ·rcases List.mem_append.1 hb with hb | hb
  ·rcases hb' b hb with h | h
   ·exact .inl (List.mem_append_left _ h)
   ·exact .inr (.inr h)
  ·rcases List.mem_append.1 hb with hb | hb
   ·exact .inl (List.mem_append_right _ hb)
   ·exact .inr (.inl hb)
theorem Run.pushNetG {B b o s8 : Nat} {w w9 : World} {x : Wd} {vm vs vn vg v' : Value} {Fm Fs G Fg F : List Nat} {t : Tr} (h : Run B w b o x vm vs vn vg Fm Fs (vn.ownBlock.toList ++ G) Fg) (ht : Tch (vn.ownBlock.toList ++ G) w w9) (ho : Own oTr 74 0 w9 v' (x.net ++ [t]) (G ++ F)) (hv : v'.ownBlock = vn.ownBlock ∨ v'.ownBlock = some s8) (hF : F.Nodup) (hFn : ∀ c ∈ F, B ≤ c ∧ c < s8 ∧ c ∉ b :: (Fm ++ (Fs ++ ((vn.ownBlock.toList ++ G) ++ Fg)))) (hs : w.heap.size ≤ s8) (hB : B ≤ w.heap.size) :
  Run B (w9.setCell ⟨b, o + 2, none⟩ v') b o ⟨x.mixes, x.sent, x.net ++ [t], x.got, x.made, x.lost⟩ vm vs v' vg Fm Fs (v'.ownBlock.toList ++ (G ++ F)) Fg ∧ ∀ c ∈ v'.ownBlock.toList ++ (G ++ F), c ∈ vn.ownBlock.toList ++ G ∨ c ∈ F ∨ c = s8 := by
 have hlt := h.lt
 obtain ⟨a1, a2, a3⟩ := fu (s8 := s8) ho hv (List.nodup_append.1 (List.nodup_append.1 (List.nodup_append.1 (List.nodup_cons.1 h.nd).2).2.1).2.1).1 hF (fun c hc => Nat.lt_of_lt_of_le (hlt c (by simp only [List.mem_cons, List.mem_append] at hc ⊢; exact .inr (.inr (.inr (.inl hc))))) hs)
  (fun c hc => ⟨(hFn c hc).2.1, fun hm => (hFn c hc).2.2 (by simp only [List.mem_cons, List.mem_append] at hm ⊢; exact .inr (.inr (.inr (.inl hm))))⟩)
 refine ⟨h.net' ht a1 a2 (fun c hc => ?_) (fun c hc => ?_), a3⟩
 ·rcases a3 c hc with h1 | h1 | h1
  ·exact .inl h1
  ·exact .inr (hFn c h1).2.2
  ·exact .inr (fun hm => by have := hlt c hm; omega)
 ·rcases a3 c hc with h1 | h1 | h1
  ·exact h.lo c (by simp only [List.mem_cons, List.mem_append] at h1 ⊢; exact .inr (.inr (.inr (.inl h1))))
  ·exact (hFn c h1).1
  ·omega
theorem kr (B b o : Nat) (x : Wd) (F P : List Nat) (t : Tr) (Ah Ab : Option Addr) (ch cb : Nat) (w : World) (h : Rn B w b o x F) (hl : Lim x) (hd : x.net.length = 10 ∨ win t.mix 0 2 = false) :
  Calls Tryz.prog 136 #[.pointer (some ⟨b, o, none⟩), .agg #[.int .i64 t.mix, .int .i64 t.pk.el, .slice Ah t.pk.hd.length ch, .int .i64 t.pk.tag, .slice Ab t.pk.bd.length cb, .bool t.ch]] w (dL B w b o F P (cK x)) := by
 obtain ⟨vm, vs, vn, vg, Fm, Fs, Fn, Fg, hr, rfl⟩ := h
 obtain ⟨Gn, _, on⟩ := ax hr.en
 obtain ⟨An, cn, rfl, _, _, _⟩ := on.form
 clear on
 obtain ⟨l1, l2, _, _⟩ := hl
 have iw : IntKind.i64.wrap (x.lost + 1) = x.lost + 1 := aX (by omega)
 have hbw := hr.blk
 have g2 := hr.c2
 have g5 := hr.c5
 have gz5 := hr.fz (o + 5)
 have Hr := hid hr
 clear hr
 go_enter Tryz.func136, Tryz.ntmps136
 by_cases h10 : x.net.length = 10
 ·have i1 : ((x.net.length : Int) == 10) = true := by simp; omega
  clear hd h10
  go_wp2_with fail
  exact bodyPost_ret (results_none rfl _ _ _) rfl ⟨rfl, _, ⟨_, _, _, _, _, _, _, _, (Hr.out.lost _).go (ab _ _), rfl⟩, fun c hc => .inl hc, ((Tch.refl (b :: (Fm ++ (Fs ++ (Fn ++ Fg)))) w).setCell (p := ⟨b, o + 5, none⟩) (.inl List.mem_cons_self) _).trans (Tch.of (ab _ _)), ((ar.refl b o w).set (by omega) _).trans (ar.below (ab _ _) (by simp only [ao]; exact hbw))⟩
 ·have i1 : ((x.net.length : Int) == 10) = false := by simp; omega
  have hw : win t.mix 0 2 = false := by rcases hd with h | h; exact absurd h h10; exact h
  clear hd h10
  go_wp2_with (go_at_call 80; refine (eQ _ _).mono ?_; rw [hw]; rintro e w' ⟨rfl, rfl⟩)
  exact bodyPost_ret (results_none rfl _ _ _) rfl ⟨rfl, _, ⟨_, _, _, _, _, _, _, _, (Hr.out.lost _).go (ab _ _), rfl⟩, fun c hc => .inl hc, ((Tch.refl (b :: (Fm ++ (Fs ++ (Fn ++ Fg)))) w).setCell (p := ⟨b, o + 5, none⟩) (.inl List.mem_cons_self) _).trans (Tch.of (ab _ _)), ((ar.refl b o w).set (by omega) _).trans (ar.below (ab _ _) (by simp only [ao]; exact hbw))⟩
theorem iO {b : Nat} {Fm Fs Fn Fg : List Nat} {c : Nat} (h : c ∈ Fn) : c ∈ b :: (Fm ++ (Fs ++ (Fn ++ Fg))) := by
 simp only [List.mem_cons, List.mem_append]; exact .inr (.inr (.inr (.inl h)))
theorem qr {b : Nat} {Fm Fs Fn Fn' Fg P : List Nat} {n c : Nat} (h : ∀ c ∈ Fn', c ∈ Fn ∨ c ∈ P ∨ n ≤ c) (hc : c ∈ b :: (Fm ++ (Fs ++ (Fn' ++ Fg)))) : c ∈ b :: (Fm ++ (Fs ++ (Fn ++ Fg))) ∨ c ∈ P ∨ n ≤ c := by
 simp only [List.mem_cons, List.mem_append] at hc ⊢
 rcases hc with h1 | h1 | h1 | h1 | h1
 ·exact .inl (.inl h1)
 ·exact .inl (.inr (.inl h1))
 ·exact .inl (.inr (.inr (.inl h1)))
 ·rcases h c h1 with h2 | h2 | h2
  ·exact .inl (.inr (.inr (.inr (.inl h2))))
  ·exact .inr (.inl h2)
  ·exact .inr (.inr h2)
 ·exact .inl (.inr (.inr (.inr (.inr h1))))
theorem lO (B b o : Nat) (x : Wd) (F P : List Nat) (t : Tr) (Ah Ab : Option Addr) (ch cb : Nat) (w : World) (h : Rn B w b o x F) (hlt : x.net.length < 10) (hd : win t.mix 0 2 = true) (hB : B ≤ w.heap.size)
  (hP : oTr.E w [.int .i64 t.mix, .int .i64 t.pk.el, .slice Ah t.pk.hd.length ch, .int .i64 t.pk.tag, .slice Ab t.pk.bd.length cb, .bool t.ch] t P) (hn : P.Nodup) (hPF : ∀ c ∈ P, B ≤ c ∧ c ∉ F) :
  Calls Tryz.prog 136 #[.pointer (some ⟨b, o, none⟩), .agg #[.int .i64 t.mix, .int .i64 t.pk.el, .slice Ah t.pk.hd.length ch, .int .i64 t.pk.tag, .slice Ab t.pk.bd.length cb, .bool t.ch]] w (dL B w b o F P (bG x (x.net ++ [t]))) := by
 obtain ⟨k0, ki, kz0, kz1, kz2⟩ := info_parts fW
 obtain ⟨vm, vs, vn, vg, Fm, Fs, Fn, Fg, hr, rfl⟩ := h
 obtain ⟨Gn, rfl, on⟩ := ax hr.en
 obtain ⟨An, cn, rfl, _, _, _⟩ := on.form
 have hbw := hr.blk
 have i1 : ((x.net.length : Int) == 10) = false := by simp; omega
 have HO := hid (on.go (ab w (.cells #[.int .i64 t.mix, .int .i64 t.pk.el, .slice Ah t.pk.hd.length ch, .int .i64 t.pk.tag, .slice Ab t.pk.bd.length cb, .bool t.ch] 74)))
 have HE := hid (oTr.keep hP (fun b hb => (ab w (.cells #[.int .i64 t.mix, .int .i64 t.pk.el, .slice Ah t.pk.hd.length ch, .int .i64 t.pk.tag, .slice Ab t.pk.bd.length cb, .bool t.ch] 74)).block b (oTr.lt hP b hb)))
 have HD := hid (fun c (hc : c ∈ P) (hm : c ∈ (Value.slice An x.net.length cn).ownBlock.toList) => (hPF c hc).2 (iO (List.mem_append_left _ hm)))
 have HPF := hid hPF; have HPn := hid hn; have HPl := hid (oTr.lt hP)
 have hr0 := hr.go (ab w (.cells #[.int .i64 t.mix, .int .i64 t.pk.el, .slice Ah t.pk.hd.length ch, .int .i64 t.pk.tag, .slice Ab t.pk.bd.length cb, .bool t.ch] 74))
 have hnb := hr.nb.2.2.1
 have eb := heap_alloc_new w (.cells #[.int .i64 t.mix, .int .i64 t.pk.el, .slice Ah t.pk.hd.length ch, .int .i64 t.pk.tag, .slice Ab t.pk.bd.length cb, .bool t.ch] 74)
 have nbox : w.heap.size ∉ (Value.slice An x.net.length cn).ownBlock.toList ++ Gn := fun hm => by have := hr.lt _ (iO hm); omega
 have Hr := hid hr
 have g2 := hr.c2
 have hD := hid hd
 clear hr on hP hn hPF hd
 go_enter Tryz.func136, Tryz.ntmps136
 go_wp2_with (go_at_call 80; refine (eQ _ _).mono ?_; rw [hD.out]; rintro e w' ⟨rfl, rfl⟩)
 have HTW := hid (Tch.of (S := (Value.slice An x.net.length cn).ownBlock.toList ++ Gn) (ab w (.cells #[.int .i64 t.mix, .int .i64 t.pk.el, .slice Ah t.pk.hd.length ch, .int .i64 t.pk.tag, .slice Ab t.pk.bd.length cb, .bool t.ch] 74)))
 have hsW : w.heap.size < (w.alloc (.cells #[.int .i64 t.mix, .int .i64 t.pk.el, .slice Ah t.pk.hd.length ch, .int .i64 t.pk.tag, .slice Ab t.pk.bd.length cb, .bool t.ch] 74)).heap.size := by simp
 generalize hgn : w.heap.size = nW at eb nbox ⊢
 generalize w.alloc (.cells #[.int .i64 t.mix, .int .i64 t.pk.el, .slice Ah t.pk.hd.length ch, .int .i64 t.pk.tag, .slice Ab t.pk.bd.length cb, .bool t.ch] 74) = W at *
 have HS := hid (fun (wx : World) (hT : Tch ((Value.slice An x.net.length cn).ownBlock.toList ++ Gn) W wx) => And.intro (hr0.cells hT hnb) (And.intro (az (hT.row eb nbox)) (show nW < wx.heap.size by have := hT.size; have := (aL eb); omega)))
 clear hr0 eb nbox g2
 refine rgN ((Value.slice An x.net.length cn).ownBlock.toList ++ Gn) 11 (by kernel_rfl) rfl (fun | none, _, _, _, _ => id | some _, _, _, _, _ => id) fun wd hH hbwd swd => ?_
 simp only [pw]
 refine ag [0, 1, 2, 3, 4, 5] ?_
 iterate 6 (refine ra HS.out rfl (by kernel_rfl) rfl (fun _ f => by go_simp; try with_reducible rfl) ?_; try simp only [pw])
 refine rq 6 (by kernel_rfl) rfl fun K hK => ?_
 go_simp
 refine hK.out _ _ (hH.trans (Tch.of (ab _ _))) (fun hH => ?_)
 clear hK K
 refine rq 7 (by kernel_rfl) rfl fun K hK => ?_
 (refine aT rfl (.tmp 27) (.tmp 29) 31 rfl oTr (B := 0) Tryz.underlying31 ki kz0 kz1 kz2 rfl (by decide) (v := .slice An x.net.length cn) rfl ((HO.out.go hbwd).go (ab _ _)) (some ⟨_, 0, none⟩) 1 1 rfl (cz (cs := [.int .i64 t.mix, .int .i64 t.pk.el, .slice Ah t.pk.hd.length ch, .int .i64 t.pk.tag, .slice Ab t.pk.bd.length cb, .bool t.ch]) (heap_alloc_new _ _) (oTr.keep HE.out (fun b hb => (bt hbwd (ab _ _)).block b (oTr.lt HE.out b hb)))) (fun b hb hm => HD.out b hm (aA.2 hb)) (by simp; omega) (by simp [maxLen]; omega) (Nat.zero_le _) ?_; intro v9 w9 ho9 hg9 hv9; have hbP := hH.grow hg9 (fun k hk hlt => List.mem_append_left _ (aA.2 hk)); simp only [List.tail_cons] at ho9; obtain ⟨A9, c9, e9, _, _, _⟩ := ho9.form; rw [show (x.net ++ [t]).length = x.net.length + 1 from by simp] at e9; subst e9)
 refine hK.out _ _ (hbP) (fun hH => ?_)
 clear hK K
 refine ag [8, 9] ?_
 iterate 2 (refine ra HS.out rfl (by kernel_rfl) rfl (fun _ f => by go_simp; try with_reducible rfl) ?_; try simp only [pw])
 refine rz 10 (by kernel_rfl) rfl fun K hK => ?_
 have fC := HS.out _ hH
 go_simp
 clear fC
 refine hK.out _ _ ?_
 clear hK K
 have hTw := HTW.out.trans hH
 obtain ⟨hr9, hf9⟩ := Hr.out.pushNetG hTw ho9 hv9 HPn.out (fun c hc => ⟨(HPF.out c hc).1, by have := HPl.out c hc; simp only [World.size_alloc]; omega, (HPF.out c hc).2⟩) (by simp only [World.size_alloc]; omega) hB
 exact bodyPost_end (results_none rfl _ _ _) rfl ⟨rfl, _, ⟨_, _, _, _, _, _, _, _, hr9, rfl⟩, fun c hc => qr (P := P) (fun c hc => by
  rcases hf9 c hc with h | h | h
  ·exact .inl h
  ·exact .inr (.inl h)
  ·refine .inr (.inr ?_); simp only [World.size_alloc] at h; omega) hc, (hTw.mono (fun b hb => iO hb)).setCell (p := ⟨b, o + 2, none⟩) (.inl List.mem_cons_self) _, (ar.tch hTw hnb hbw).set (by omega) _⟩
theorem gq (B b o : Nat) (x : Wd) (F P : List Nat) (t : Tr) (Ah Ab : Option Addr) (ch cb : Nat) (w : World) (h : Rn B w b o x F) (hl : Lim x) (h10 : x.net.length ≤ 10) (hB : B ≤ w.heap.size)
  (hP : oTr.E w [.int .i64 t.mix, .int .i64 t.pk.el, .slice Ah t.pk.hd.length ch, .int .i64 t.pk.tag, .slice Ab t.pk.bd.length cb, .bool t.ch] t P) (hn : P.Nodup) (hPF : ∀ c ∈ P, B ≤ c ∧ c ∉ F) :
  Calls Tryz.prog 136 #[.pointer (some ⟨b, o, none⟩), .agg #[.int .i64 t.mix, .int .i64 t.pk.el, .slice Ah t.pk.hd.length ch, .int .i64 t.pk.tag, .slice Ab t.pk.bd.length cb, .bool t.ch]] w (dL B w b o F P (dk x t.mix t.pk t.ch)) := by
 unfold dk
 by_cases hd : 10 ≤ x.net.length ∨ win t.mix 0 2 = false
 ·rw [if_pos hd]
  exact kr B b o x F P t Ah Ab ch cb w h hl (hd.imp (fun h => by omega) id)
 ·rw [if_neg hd]
  refine lO B b o x F P t Ah Ab ch cb w h (by omega) ?_ hB hP hn hPF
  cases hw : win t.mix 0 2 with
  | true => rfl
  | false => exact absurd (.inr hw) hd
theorem Run.pushGot {B b o s8 : Nat} {w w9 : World} {x : Wd} {vm vs vn vg v' : Value} {Fm Fs Fn G : List Nat} {l : Lt} (h : Run B w b o x vm vs vn vg Fm Fs Fn (vg.ownBlock.toList ++ G)) (ht : Tch (vg.ownBlock.toList ++ G) w w9) (ho : Own tLt 56 0 w9 v' (x.got ++ [l]) (G ++ [])) (hv : v'.ownBlock = vg.ownBlock ∨ v'.ownBlock = some s8) (hs : w.heap.size ≤ s8) (hB : B ≤ w.heap.size) :
  Run B (w9.setCell ⟨b, o + 3, none⟩ v') b o ⟨x.mixes, x.sent, x.net, x.got ++ [l], x.made, x.lost⟩ vm vs vn v' Fm Fs Fn (v'.ownBlock.toList ++ (G ++ [])) ∧ ∀ c ∈ v'.ownBlock.toList ++ (G ++ []), c ∈ vg.ownBlock.toList ++ G ∨ c = s8 := by
 have hlt := h.lt
 obtain ⟨a1, a2, a3⟩ := fu (s8 := s8) ho hv (List.nodup_append.1 (List.nodup_append.1 (List.nodup_append.1 (List.nodup_cons.1 h.nd).2).2.1).2.1).2.1 List.nodup_nil (fun c hc => Nat.lt_of_lt_of_le (hlt c (by simp only [List.mem_cons, List.mem_append] at hc ⊢; exact .inr (.inr (.inr (.inr hc))))) hs)
  (fun c hc => by cases hc)
 have a4 : ∀ c ∈ v'.ownBlock.toList ++ (G ++ []), c ∈ vg.ownBlock.toList ++ G ∨ c = s8 := fun c hc => by
  rcases a3 c hc with h1 | h1 | h1
  ·exact .inl h1
  ·cases h1
  ·exact .inr h1
 refine ⟨h.got' ht a1 a2 (fun c hc => ?_) (fun c hc => ?_), a4⟩
 ·rcases a4 c hc with h1 | h1
  ·exact .inl h1
  ·exact .inr (fun hm => by have := hlt c hm; omega)
 ·rcases a4 c hc with h1 | h1
  ·exact h.lo c (by simp only [List.mem_cons, List.mem_append] at h1 ⊢; exact .inr (.inr (.inr (.inr h1))))
  ·omega
theorem lY {b : Nat} {Fm Fs Fn Fg : List Nat} {c : Nat} (h : c ∈ Fg) : c ∈ b :: (Fm ++ (Fs ++ (Fn ++ Fg))) := by
 simp only [List.mem_cons, List.mem_append]; exact .inr (.inr (.inr (.inr h)))
theorem px {b : Nat} {Fm Fs Fn Fg Fg' P : List Nat} {n c : Nat} (h : ∀ c ∈ Fg', c ∈ Fg ∨ n ≤ c) (hc : c ∈ b :: (Fm ++ (Fs ++ (Fn ++ Fg')))) : c ∈ b :: (Fm ++ (Fs ++ (Fn ++ Fg))) ∨ c ∈ P ∨ n ≤ c := by
 simp only [List.mem_cons, List.mem_append] at hc ⊢
 rcases hc with h1 | h1 | h1 | h1 | h1
 ·exact .inl (.inl h1)
 ·exact .inl (.inr (.inl h1))
 ·exact .inl (.inr (.inr (.inl h1)))
 ·exact .inl (.inr (.inr (.inr (.inl h1))))
 ·rcases h c h1 with h2 | h2
  ·exact .inl (.inr (.inr (.inr (.inr h2))))
  ·exact .inr (.inr h2)
theorem lT (B rb ro : Nat) (x : Wd) (F P : List Nat) (y : Pl) (Ah Ab : Option Addr) (nh ch cb : Nat) (w : World) (h : Rn B w rb ro x F) (hl : Lim x) (hg : x.got.length ≤ 1000000) (hB : B ≤ w.heap.size) (hbd : SlB af w.heap.size w (.slice Ab y.pk.bd.length cb) y.pk.bd) (hp : plB y = true) (ho : df y.pk.bd = none) :
  Calls Tryz.prog 140 #[.pointer (some ⟨rb, ro, none⟩), .agg #[.int .i64 y.kind, .int .i64 y.next, .int .i64 y.pk.el, .slice Ah nh ch, .int .i64 y.pk.tag, .slice Ab y.pk.bd.length cb]] w (dL B w rb ro F P (cK x)) := by
 obtain ⟨vm, vs, vn, vg, Fm, Fs, Fn, Fg, hr, rfl⟩ := h
 obtain ⟨_, _, hk⟩ := aV.1 hp
 obtain ⟨_, _, ⟨hb6, hbn⟩, _⟩ := aD.1 hk
 obtain ⟨l1, l2, _, _⟩ := hl
 have iw : IntKind.i64.wrap (x.lost + 1) = x.lost + 1 := aX (by omega)
 have HB := hid (fun (wx : World) (hb : Below w.heap.size w wx) => hbd.go hb)
 have Hb6 := hid hb6; have Hbn := hid hbn; have Ho := hid ho; have Hr := hid hr
 clear hr hbd hp hk hb6 hbn ho
 go_enter Tryz.func140, Tryz.ntmps140
 go_wp2_with fail
 refine (eN _ y.pk.bd _ (HB.out _ (by repeat (first | exact ah | apply ae | refine bA ?_ (by omega) | refine Below.setCell ?_ (by first | omega | simp <;> omega) _))) Hb6.out Hbn.out).mono ?_
 rw [Ho.out]
 rintro e w1 ⟨v1, rfl, n1, hb1⟩
 have e0 := ac hb1 (heap_alloc_new w _)
 have Hc1 := hid (bt (ab w _) hb1)
 have s1 : w.heap.size < w1.heap.size := (aL e0)
 (try simp only [Option.getD_some] at n1)
 have hbot := n1.top
 obtain ⟨A5, c5, rfl, _, _, _⟩ := n1.slB.form
 have HS := hid (fun (wx : World) (hT : Tch [] w1 wx) => az (hT.row e0 (by simp)))
 clear e0 n1 hb1
 go_wp2_with fail
 refine rgN [] 20 (by kernel_rfl) rfl (fun | none, _, _, _, _ => id | some _, _, _, _, _ => id) fun wd hH hbwd swd => ?_
 simp only [pw]
 refine ag [0, 1, 2] ?_
 iterate 3 (refine ra HS.out rfl (by kernel_rfl) rfl (fun _ f => by go_simp; try with_reducible rfl) ?_; try simp only [pw])
 refine tu 3 rfl (by kernel_rfl) rfl ?_
 refine tu 4 rfl (by kernel_rfl) rfl ?_
 refine tu 5 rfl (by kernel_rfl) rfl ?_
 try simp only [pw]
 refine ag [6, 7] ?_
 iterate 2 (refine ra HS.out rfl (by kernel_rfl) rfl (fun _ f => by go_simp; try with_reducible rfl) ?_; try simp only [pw])
 refine tu 8 rfl (by kernel_rfl) rfl ?_
 try simp only [pw]
 refine tu 9 rfl (by kernel_rfl) rfl ?_
 refine tu 10 rfl (by kernel_rfl) rfl ?_
 refine tu 11 rfl (by kernel_rfl) rfl ?_
 try simp only [pw]
 refine tu 12 rfl (by kernel_rfl) rfl ?_
 refine tu 13 rfl (by kernel_rfl) rfl ?_
 refine tu 14 rfl (by kernel_rfl) rfl ?_
 try simp only [pw]
 refine tu 15 rfl (by kernel_rfl) rfl ?_
 refine tu 16 rfl (by kernel_rfl) rfl ?_
 refine tu 17 rfl (by kernel_rfl) rfl ?_
 try simp only [pw]
 refine tu 18 rfl (by kernel_rfl) rfl ?_
 refine tr 19 HS.out rfl (by kernel_rfl) rfl (fun _ f => by go_simp; try with_reducible rfl) ?_
 try simp only [pw]
 refine dm (by kernel_rfl) ?_
 have HcL := hid (bt Hc1.out hH.nil)
 clear hH
 have hrL := Hr.out.go HcL.out
 have g5 := hrL.c5
 have gz5 := hrL.fz (ro + 5)
 have HrL := hid hrL
 clear hrL
 go_wp2_with fail
 exact bodyPost_ret (results_none rfl _ _ _) rfl ⟨rfl, _, ⟨_, _, _, _, _, _, _, _, HrL.out.lost _, rfl⟩, fun c hc => .inl hc, ((Tch.of (S := rb :: (Fm ++ (Fs ++ (Fn ++ Fg)))) HcL.out).setCell (p := ⟨rb, ro + 5, none⟩) (.inl List.mem_cons_self) _), (ar.below HcL.out Hr.out.blk).set (by omega) _⟩
theorem nc (B rb ro : Nat) (x : Wd) (F P : List Nat) (y : Pl) (Ah Ab : Option Addr) (nh ch cb : Nat) (w : World) (h : Rn B w rb ro x F) (hl : Lim x) (hg : x.got.length ≤ 1000000) (hB : B ≤ w.heap.size) (hbd : SlB af w.heap.size w (.slice Ab y.pk.bd.length cb) y.pk.bd) (hp : plB y = true) (l : List Int) (ho : df y.pk.bd = some l) (hn : ¬ l.length = 2) :
  Calls Tryz.prog 140 #[.pointer (some ⟨rb, ro, none⟩), .agg #[.int .i64 y.kind, .int .i64 y.next, .int .i64 y.pk.el, .slice Ah nh ch, .int .i64 y.pk.tag, .slice Ab y.pk.bd.length cb]] w (dL B w rb ro F P (cK x)) := by
 obtain ⟨vm, vs, vn, vg, Fm, Fs, Fn, Fg, hr, rfl⟩ := h
 obtain ⟨_, _, hk⟩ := aV.1 hp
 obtain ⟨_, _, ⟨hb6, hbn⟩, _⟩ := aD.1 hk
 obtain ⟨l1, l2, _, _⟩ := hl
 have iw : IntKind.i64.wrap (x.lost + 1) = x.lost + 1 := aX (by omega)
 have HB := hid (fun (wx : World) (hb : Below w.heap.size w wx) => hbd.go hb)
 have Hb6 := hid hb6; have Hbn := hid hbn; have Ho := hid ho; have Hr := hid hr
 clear hr hbd hp hk hb6 hbn ho
 go_enter Tryz.func140, Tryz.ntmps140
 go_wp2_with fail
 refine (eN _ y.pk.bd _ (HB.out _ (by repeat (first | exact ah | apply ae | refine bA ?_ (by omega) | refine Below.setCell ?_ (by first | omega | simp <;> omega) _))) Hb6.out Hbn.out).mono ?_
 rw [Ho.out]
 rintro e w1 ⟨v1, rfl, n1, hb1⟩
 have e0 := ac hb1 (heap_alloc_new w _)
 have Hc1 := hid (bt (ab w _) hb1)
 have s1 : w.heap.size < w1.heap.size := (aL e0)
 (try simp only [Option.getD_some] at n1)
 have hbot := n1.top
 obtain ⟨A5, c5, rfl, _, _, _⟩ := n1.slB.form
 have hnB : ((l.length : Int) != 2) = true := by simp; omega
 have HS := hid (fun (wx : World) (hT : Tch [] w1 wx) => az (hT.row e0 (by simp)))
 clear e0 n1 hb1
 go_wp2_with fail
 refine rgN [] 20 (by kernel_rfl) rfl (fun | none, _, _, _, _ => id | some _, _, _, _, _ => id) fun wd hH hbwd swd => ?_
 simp only [pw]
 refine ag [0, 1, 2, 3, 4, 5, 6, 7] ?_
 iterate 8 (refine ra HS.out rfl (by kernel_rfl) rfl (fun _ f => by go_simp; try with_reducible rfl) ?_; try simp only [pw])
 refine tu 8 rfl (by kernel_rfl) rfl ?_
 try simp only [pw]
 refine tu 9 rfl (by kernel_rfl) rfl ?_
 refine tu 10 rfl (by kernel_rfl) rfl ?_
 refine tu 11 rfl (by kernel_rfl) rfl ?_
 try simp only [pw]
 refine tu 12 rfl (by kernel_rfl) rfl ?_
 refine tu 13 rfl (by kernel_rfl) rfl ?_
 refine tu 14 rfl (by kernel_rfl) rfl ?_
 try simp only [pw]
 refine tu 15 rfl (by kernel_rfl) rfl ?_
 refine tu 16 rfl (by kernel_rfl) rfl ?_
 refine tu 17 rfl (by kernel_rfl) rfl ?_
 try simp only [pw]
 refine tu 18 rfl (by kernel_rfl) rfl ?_
 refine tr 19 HS.out rfl (by kernel_rfl) rfl (fun _ f => by go_simp; try with_reducible rfl) ?_
 try simp only [pw]
 refine dm (by kernel_rfl) ?_
 have HcL := hid (bt Hc1.out hH.nil)
 clear hH
 have hrL := Hr.out.go HcL.out
 have g5 := hrL.c5
 have gz5 := hrL.fz (ro + 5)
 have HrL := hid hrL
 clear hrL
 go_wp2_with fail
 exact bodyPost_ret (results_none rfl _ _ _) rfl ⟨rfl, _, ⟨_, _, _, _, _, _, _, _, HrL.out.lost _, rfl⟩, fun c hc => .inl hc, ((Tch.of (S := rb :: (Fm ++ (Fs ++ (Fn ++ Fg)))) HcL.out).setCell (p := ⟨rb, ro + 5, none⟩) (.inl List.mem_cons_self) _), (ar.below HcL.out Hr.out.blk).set (by omega) _⟩
theorem mY (B rb ro : Nat) (x : Wd) (F P : List Nat) (y : Pl) (Ah Ab : Option Addr) (nh ch cb : Nat) (w : World) (h : Rn B w rb ro x F) (hl : Lim x) (hg : x.got.length ≤ 1000000) (hB : B ≤ w.heap.size) (hbd : SlB af w.heap.size w (.slice Ab y.pk.bd.length cb) y.pk.bd) (hp : plB y = true) (a b : Int) (ho : df y.pk.bd = some [a, b]) (hn : ltB ⟨a, y.next, b⟩ = false) :
  Calls Tryz.prog 140 #[.pointer (some ⟨rb, ro, none⟩), .agg #[.int .i64 y.kind, .int .i64 y.next, .int .i64 y.pk.el, .slice Ah nh ch, .int .i64 y.pk.tag, .slice Ab y.pk.bd.length cb]] w (dL B w rb ro F P (cK x)) := by
 have Hn := hid hn
 clear hn
 obtain ⟨vm, vs, vn, vg, Fm, Fs, Fn, Fg, hr, rfl⟩ := h
 obtain ⟨_, _, hk⟩ := aV.1 hp
 obtain ⟨_, _, ⟨hb6, hbn⟩, _⟩ := aD.1 hk
 obtain ⟨l1, l2, _, _⟩ := hl
 have iw : IntKind.i64.wrap (x.lost + 1) = x.lost + 1 := aX (by omega)
 have HB := hid (fun (wx : World) (hb : Below w.heap.size w wx) => hbd.go hb)
 have Hb6 := hid hb6; have Hbn := hid hbn; have Ho := hid ho; have Hr := hid hr
 clear hr hbd hp hk hb6 hbn ho
 go_enter Tryz.func140, Tryz.ntmps140
 go_wp2_with fail
 refine (eN _ y.pk.bd _ (HB.out _ (by repeat (first | exact ah | apply ae | refine bA ?_ (by omega) | refine Below.setCell ?_ (by first | omega | simp <;> omega) _))) Hb6.out Hbn.out).mono ?_
 rw [Ho.out]
 rintro e w1 ⟨v1, rfl, n1, hb1⟩
 have e0 := ac hb1 (heap_alloc_new w _)
 have Hc1 := hid (bt (ab w _) hb1)
 have s1 : w.heap.size < w1.heap.size := (aL e0)
 (try simp only [Option.getD_some] at n1)
 have hbot := n1.top
 obtain ⟨A5, c5, rfl, _, _, _⟩ := n1.slB.form
 have hnB : (((2 : Nat) : Int) != 2) = false := by simp
 obtain ⟨bb, ob, rfl, hbz, hbz', hc0⟩ := n1.slB.int (i := 0) (x := a) rfl
 obtain ⟨bb', ob', e', _, _, hcc1⟩ := n1.slB.int (i := 1) (x := b) rfl
 injection e' with e'; injection e' with ee1 ee2; subst ee1 ee2
 rw [Nat.add_zero] at hc0
 have HS := hid (fun (wx : World) (hT : Tch [] w1 wx) => And.intro (hT.cell hc0 (by simp)) (And.intro (hT.cell hcc1 (by simp)) (az (hT.row e0 (by simp)))))
 clear hb1 n1 e0 hc0 hcc1
 go_wp2_with fail
 refine rgN [] 20 (by kernel_rfl) rfl (fun | none, _, _, _, _ => id | some _, _, _, _, _ => id) fun wd hH hbwd swd => ?_
 simp only [pw]
 refine ag [0, 1, 2, 3, 4, 5, 6, 7, 8, 9, 10, 11, 12, 13, 14, 15, 16] ?_
 iterate 17 (refine ra HS.out rfl (by kernel_rfl) rfl (fun _ f => by go_simp; try with_reducible rfl) ?_; try simp only [pw])
 refine rq 17 (by kernel_rfl) rfl fun K hK => ?_
 go_simp
 (go_at_call 79; refine (dP ⟨a, y.next, b⟩ _).mono ?_; rw [Hn.out]; rintro e w3 ⟨rfl, hbC⟩)
 refine hK.out _ _ (hH.trans (Tch.of hbC)) (fun hH => ?_)
 clear hK K
 refine ag [18, 19] ?_
 iterate 2 (refine ra HS.out rfl (by kernel_rfl) rfl (fun _ f => by go_simp; try with_reducible rfl) ?_; try simp only [pw])
 refine dm (by kernel_rfl) ?_
 have HcL := hid (bt Hc1.out hH.nil)
 clear hH hbC
 have hrL := Hr.out.go HcL.out
 have g5 := hrL.c5
 have gz5 := hrL.fz (ro + 5)
 have HrL := hid hrL
 clear hrL
 go_wp2_with fail
 exact bodyPost_ret (results_none rfl _ _ _) rfl ⟨rfl, _, ⟨_, _, _, _, _, _, _, _, HrL.out.lost _, rfl⟩, fun c hc => .inl hc, ((Tch.of (S := rb :: (Fm ++ (Fs ++ (Fn ++ Fg)))) HcL.out).setCell (p := ⟨rb, ro + 5, none⟩) (.inl List.mem_cons_self) _), (ar.below HcL.out Hr.out.blk).set (by omega) _⟩
theorem mZ (B rb ro : Nat) (x : Wd) (F P : List Nat) (y : Pl) (Ah Ab : Option Addr) (nh ch cb : Nat) (w : World) (h : Rn B w rb ro x F) (hl : Lim x) (hg : x.got.length ≤ 1000000) (hB : B ≤ w.heap.size) (hbd : SlB af w.heap.size w (.slice Ab y.pk.bd.length cb) y.pk.bd) (hp : plB y = true) (a b : Int) (ho : df y.pk.bd = some [a, b]) (hn : ltB ⟨a, y.next, b⟩ = true) :
  Calls Tryz.prog 140 #[.pointer (some ⟨rb, ro, none⟩), .agg #[.int .i64 y.kind, .int .i64 y.next, .int .i64 y.pk.el, .slice Ah nh ch, .int .i64 y.pk.tag, .slice Ab y.pk.bd.length cb]] w (dL B w rb ro F P ⟨x.mixes, x.sent, x.net, x.got ++ [⟨a, y.next, b⟩], x.made, x.lost⟩) := by
 obtain ⟨i0, hi, hz0, hz1, hz2⟩ := info_parts gY
 have Hn := hid hn
 clear hn
 obtain ⟨vm, vs, vn, vg, Fm, Fs, Fn, Fg, hr, rfl⟩ := h
 obtain ⟨_, _, hk⟩ := aV.1 hp
 obtain ⟨_, _, ⟨hb6, hbn⟩, _⟩ := aD.1 hk
 obtain ⟨l1, l2, _, _⟩ := hl
 have iw : IntKind.i64.wrap (x.lost + 1) = x.lost + 1 := aX (by omega)
 have HB := hid (fun (wx : World) (hb : Below w.heap.size w wx) => hbd.go hb)
 have Hb6 := hid hb6; have Hbn := hid hbn; have Ho := hid ho; have Hr := hid hr
 clear hr hbd hp hk hb6 hbn ho
 go_enter Tryz.func140, Tryz.ntmps140
 go_wp2_with fail
 refine (eN _ y.pk.bd _ (HB.out _ (by repeat (first | exact ah | apply ae | refine bA ?_ (by omega) | refine Below.setCell ?_ (by first | omega | simp <;> omega) _))) Hb6.out Hbn.out).mono ?_
 rw [Ho.out]
 rintro e w1 ⟨v1, rfl, n1, hb1⟩
 have e0 := ac hb1 (heap_alloc_new w _)
 have Hc1 := hid (bt (ab w _) hb1)
 have s1 : w.heap.size < w1.heap.size := (aL e0)
 (try simp only [Option.getD_some] at n1)
 have hbot := n1.top
 obtain ⟨A5, c5, rfl, _, _, _⟩ := n1.slB.form
 have hnB : (((2 : Nat) : Int) != 2) = false := by simp
 obtain ⟨bb, ob, rfl, hbz, hbz', hc0⟩ := n1.slB.int (i := 0) (x := a) rfl
 obtain ⟨bb', ob', e', _, _, hcc1⟩ := n1.slB.int (i := 1) (x := b) rfl
 injection e' with e'; injection e' with ee1 ee2; subst ee1 ee2
 rw [Nat.add_zero] at hc0
 have HS := hid (fun (wx : World) (hT : Tch [] w1 wx) => And.intro (hT.cell hc0 (by simp)) (And.intro (hT.cell hcc1 (by simp)) (az (hT.row e0 (by simp)))))
 clear hb1 n1 e0 hc0 hcc1
 go_wp2_with fail
 refine rgN [] 20 (by kernel_rfl) rfl (fun | none, _, _, _, _ => id | some _, _, _, _, _ => id) fun wd hH hbwd swd => ?_
 simp only [pw]
 refine ag [0, 1, 2, 3, 4, 5, 6, 7, 8, 9, 10, 11, 12, 13, 14, 15, 16] ?_
 iterate 17 (refine ra HS.out rfl (by kernel_rfl) rfl (fun _ f => by go_simp; try with_reducible rfl) ?_; try simp only [pw])
 refine rq 17 (by kernel_rfl) rfl fun K hK => ?_
 go_simp
 (go_at_call 79; refine (dP ⟨a, y.next, b⟩ _).mono ?_; rw [Hn.out]; rintro e w3 ⟨rfl, hbC⟩)
 refine hK.out _ _ (hH.trans (Tch.of hbC)) (fun hH => ?_)
 clear hK K
 refine ag [18, 19] ?_
 iterate 2 (refine ra HS.out rfl (by kernel_rfl) rfl (fun _ f => by go_simp; try with_reducible rfl) ?_; try simp only [pw])
 refine dm (by kernel_rfl) ?_
 have HcL := hid (bt Hc1.out hH.nil)
 have hr3 := Hr.out.go HcL.out
 have s3 := HcL.out.size
 obtain ⟨Gg, rfl, og⟩ := ax hr3.eg
 obtain ⟨Ag, cg, rfl, _, _, _⟩ := og.form
 obtain ⟨cA, cB, b0, b1, b2, b3, b4, b5, _⟩ := HS.out _ hH
 have hbb := (hbot bb rfl).1
 rw [World.size_alloc] at hbb
 have hL : ∀ c ∈ (Value.slice Ag x.got.length cg).ownBlock.toList ++ Gg, c < w.heap.size := fun c hc => Hr.out.lt c (lY hc)
 have HS3 := hid (fun (wx : World) (hT : Tch ((Value.slice Ag x.got.length cg).ownBlock.toList ++ Gg) w3 wx) => And.intro (hr3.cells hT hr3.nb.2.2.2) (And.intro (hT.cell cA (fun hm => by have := hL _ hm; omega)) (And.intro (hT.cell cB (fun hm => by have := hL _ hm; omega)) (hT.cell b1 (fun hm => by have := hL _ hm; omega)))))
 have HO := hid og; have Hr3 := hid hr3
 clear hH hbC cA cB b0 b1 b2 b3 b4 b5 og hbot hr3 hL
 go_wp2_with fail
 refine rgN ((Value.slice Ag x.got.length cg).ownBlock.toList ++ Gg) 19 (by kernel_rfl) rfl (fun | none, _, _, _, _ => id | some _, _, _, _, _ => id) fun wf hH hbwf swf => ?_
 simp only [pw]
 refine ag [0, 1, 2, 3, 4, 5, 6, 7, 8, 9, 10, 11, 12, 13] ?_
 iterate 14 (refine ra HS3.out rfl (by kernel_rfl) rfl (fun _ f => by go_simp; try with_reducible rfl) ?_; try simp only [pw])
 refine rq 14 (by kernel_rfl) rfl fun K hK => ?_
 go_simp
 refine hK.out _ _ (hH.trans (Tch.of (ab _ _))) (fun hH => ?_)
 clear hK K
 refine rq 15 (by kernel_rfl) rfl fun K hK => ?_
 (refine aT rfl (.tmp 44) (.tmp 54) 30 rfl tLt (B := 0) Tryz.underlying30 hi hz0 hz1 hz2 rfl (by decide) (v := .slice Ag x.got.length cg) rfl ((HO.out.go hbwf).go (ab _ _)) (some ⟨_, 0, none⟩) 1 1 rfl (cz (cs := [.int .i64 a, .int .i64 y.next, .int .i64 b]) (x := (⟨a, y.next, b⟩ : Lt)) (heap_alloc_new _ _) ⟨rfl, rfl⟩) (fun b hb hm => by cases hm) (by simp; omega) (by simp [maxLen]; omega) (Nat.zero_le _) ?_; intro v9 w9 ho9 hg9 hv9; have hbP := hH.grow hg9 (fun k hk hlt => List.mem_append_left _ (aA.2 hk)); simp only [List.tail_cons] at ho9; obtain ⟨A9, c9, e9, _, _, _⟩ := ho9.form; rw [show (x.got ++ [(⟨a, y.next, b⟩ : Lt)]).length = x.got.length + 1 from by simp] at e9; subst e9)
 refine hK.out _ _ (hbP) (fun hH => ?_)
 clear hK K
 refine ag [16, 17] ?_
 iterate 2 (refine ra HS3.out rfl (by kernel_rfl) rfl (fun _ f => by go_simp; try with_reducible rfl) ?_; try simp only [pw])
 refine rz 18 (by kernel_rfl) rfl fun K hK => ?_
 have fC := HS3.out _ hH
 go_simp
 clear fC
 refine hK.out _ _ ?_
 clear hK K
 obtain ⟨hr9, hf9⟩ := Hr3.out.pushGot hH ho9 hv9 (by have := hbwf.size; simp only [World.size_alloc]; omega) (by omega)
 exact bodyPost_end (results_none rfl _ _ _) rfl ⟨rfl, _, ⟨_, _, _, _, _, _, _, _, hr9, rfl⟩, fun c hc => px (fun c hc => by
  rcases hf9 c hc with h | h
  ·exact .inl h
  ·refine .inr ?_; have := hbwf.size; (try simp only [World.size_alloc] at h s3); omega) hc, ((Tch.of (S := rb :: (Fm ++ (Fs ++ (Fn ++ ((Value.slice Ag x.got.length cg).ownBlock.toList ++ Gg))))) HcL.out).trans (hH.mono (fun b hb => lY hb))).setCell (p := ⟨rb, ro + 3, none⟩) (.inl List.mem_cons_self) _, ((ar.below HcL.out Hr.out.blk).trans (ar.tch hH Hr3.out.nb.2.2.2 Hr3.out.blk)).set (by omega) _⟩
theorem qe (B rb ro : Nat) (x : Wd) (F P : List Nat) (y : Pl) (Ah Ab : Option Addr) (nh ch cb : Nat) (w : World) (h : Rn B w rb ro x F) (hl : Lim x) (hg : x.got.length ≤ 1000000) (hB : B ≤ w.heap.size) (hbd : SlB af w.heap.size w (.slice Ab y.pk.bd.length cb) y.pk.bd) (hp : plB y = true) :
  Calls Tryz.prog 140 #[.pointer (some ⟨rb, ro, none⟩), .agg #[.int .i64 y.kind, .int .i64 y.next, .int .i64 y.pk.el, .slice Ah nh ch, .int .i64 y.pk.tag, .slice Ab y.pk.bd.length cb]] w (dL B w rb ro F P (dN x y)) := by
 cases ho : df y.pk.bd with
 | none =>
  have hr : dN x y = cK x := by unfold dN iA; rw [ho]
  rw [hr]; exact lT B rb ro x F P y Ah Ab nh ch cb w h hl hg hB hbd hp ho
 | some l =>
  by_cases hl2 : l.length = 2
  ·obtain ⟨a, b, rfl⟩ : ∃ a b, l = [a, b] := by
    match l, hl2 with
    | [a, b], _ => exact ⟨a, b, rfl⟩
   cases hn : ltB ⟨a, y.next, b⟩ with
   | false =>
    have hr : dN x y = cK x := by unfold dN iA; rw [ho]; simp [hn]
    rw [hr]; exact mY B rb ro x F P y Ah Ab nh ch cb w h hl hg hB hbd hp a b ho hn
   | true =>
    have hr : dN x y = ⟨x.mixes, x.sent, x.net, x.got ++ [⟨a, y.next, b⟩], x.made, x.lost⟩ := by unfold dN iA; rw [ho]; simp [hn]
    rw [hr]; exact mZ B rb ro x F P y Ah Ab nh ch cb w h hl hg hB hbd hp a b ho hn
  ·have hr : dN x y = cK x := by unfold dN iA; rw [ho]; simp [hl2]
   rw [hr]; exact nc B rb ro x F P y Ah Ab nh ch cb w h hl hg hB hbd hp l ho hl2
theorem lD (m : Mx) (vs vp : Value) (p : Pk) (vh vb : Value) (w : World) (h1 : SlB af w.heap.size w vs m.seen) (h2 : SlB tPl w.heap.size w vp m.pool) (h3 : SlB af w.heap.size w vh p.hd) (h4 : SlB af w.heap.size w vb p.bd) (hm : mxB m = true) (hp : pkB p = true) (y : Pl) (hr : aW m.sec p = some y) (hin : aq m.sec p.el ∉ m.seen) (hf : ¬ 12 ≤ m.seen.length) (hf2 : ¬ 5 ≤ m.pool.length) :
  Calls Tryz.prog 188 #[.agg #[.int .i64 m.sec, vs, vp], .agg #[.int .i64 p.el, vh, .int .i64 p.tag, vb]] w (dX w (bB m p)) := by
 obtain ⟨m1, m2, m3, m4, m5⟩ := bh.1 hm
 have Hpool := hid (fun (x : Pl) (hx : x ∈ m.pool) => show x.pk.hd.length ≤ 1073741824 ∧ x.pk.bd.length ≤ 1073741824 by
  obtain ⟨_, _, hk⟩ := aV.1 (m5 x hx)
  obtain ⟨_, ⟨a, _⟩, ⟨b, _⟩, _⟩ := aD.1 hk
  omega)
 have p1 := (aD.1 hp).1
 have H1 := hid (fun (wx : World) (hb : Below w.heap.size w wx) => h1.go hb)
 have H2 := hid (fun (wx : World) (hb : Below w.heap.size w wx) => h2.go hb)
 have H3 := hid (fun (wx : World) (hb : Below w.heap.size w wx) => h3.go hb)
 have H4 := hid (fun (wx : World) (hb : Below w.heap.size w wx) => h4.go hb)
 obtain ⟨As, cs, rfl, _, _, _⟩ := h1.form
 obtain ⟨Ap, cp, rfl, _, _, _⟩ := h2.form
 obtain ⟨Ah, ch, rfl, _, _, _⟩ := h3.form
 obtain ⟨Ab, cb, rfl, _, _, _⟩ := h4.form
 have Hp := hid hp; have Hm := hid hm
 clear h1 h2 h3 h4 hm m4 m5 hp
 have hkw := bu m1 p1
 rw [pa hr hin (by omega)]
 have Hr := hid hr
 have hdin : decide (aq m.sec p.el ∈ m.seen) = false := decide_eq_false hin
 have i1 : ((m.seen.length : Int) == 12) = false := by simp; omega
 have i2 : ((m.pool.length : Int) == 5) = false := by simp; omega
 clear hr hin
 go_enter Tryz.func188, Tryz.ntmps188
 go_wp2_with fail
 refine (ci m _ _ _ (H1.out _ (by repeat (first | exact ah | apply ae | refine bA ?_ (by omega) | refine Below.setCell ?_ (by first | omega | simp <;> omega) _))) (H2.out _ (by repeat (first | exact ah | apply ae | refine bA ?_ (by omega) | refine Below.setCell ?_ (by first | omega | simp <;> omega) _)))).mono ?_
 rw [Hm.out]
 rintro e wa ⟨rfl, hba⟩
 obtain ⟨a0, a1, a2⟩ := eJ hba
 have hca := hid (bt (by repeat (first | exact ah | apply ae | refine bA ?_ (by omega) | refine Below.setCell ?_ (by first | omega | simp <;> omega) _)) hba : Below w.heap.size w wa)
 have sa : w.heap.size + 1 + 1 < wa.heap.size := (aL a2)
 have sa0 : w.heap.size < wa.heap.size := by omega
 have sa1 : w.heap.size + 1 < wa.heap.size := by omega
 obtain ⟨k0, k1, k2, _⟩ := aE a0
 obtain ⟨l0, l1, l2, l3, _⟩ := aN a1
 have EA0 := hid a0; have EA1 := hid a1; have EA2 := hid a2
 clear hba a0 a1 a2
 go_wp2_with fail
 refine (bJ p _ _ _ (H3.out _ hca.out) (H4.out _ hca.out)).mono ?_
 rw [Hp.out]
 rintro e wb ⟨rfl, hbb⟩
 have hcb := hid (bt hca.out hbb)
 have EB0 := hid (ac hbb EA0.out); have EB1 := hid (ac hbb EA1.out); have EB2 := hid (ac hbb EA2.out)
 have sb := hbb.size
 have sb0 : w.heap.size < wb.heap.size := by omega
 clear k0 k1 k2 l0 l1 l2 l3 hbb
 obtain ⟨k0, k1, k2, _⟩ := aE EB0.out
 go_wp2_with fail
 refine (ct m _ _ _ (H1.out _ hcb.out) (H2.out _ hcb.out) (by omega) (by omega) Hpool.out).mono ?_
 rintro e w1 ⟨us, up, rfl, n1, hb1⟩
 obtain ⟨A1, c1, A2, c2, rfl, rfl⟩ := aQ n1
 have b0 := ac hb1 EB0.out
 have b1 := ac hb1 EB1.out
 have b2 := ac hb1 EB2.out
 have hc1 : Below w.heap.size w w1 := bt hcb.out hb1
 have s1 : w.heap.size + 1 + 1 < w1.heap.size := (aL b2)
 have s1a : w.heap.size < w1.heap.size := by omega
 have s1b : w.heap.size + 1 < w1.heap.size := by omega
 clear k0 k1 k2
 obtain ⟨k0, k1, k2, _⟩ := aE b0
 obtain ⟨l0, l1, l2, l3, _⟩ := aN b1
 have N1 := hid (n1.base (B' := w.heap.size + 1 + 1 + 1) (by omega)); have Hc1 := hid hc1; have E0 := hid b0; have E1 := hid b1; have E2 := hid b2
 clear n1 hb1 hc1 b0 b1 b2 EA0 EA1 EA2 EB0 EB1 EB2 sa sa0 sa1 sb sb0
 go_wp2_with fail
 refine (dy m.sec p y _ _ _ (H3.out _ (bt Hc1.out (ab _ _))) (H4.out _ (bt Hc1.out (ab _ _))) m1 Hp.out Hr.out).mono ?_
 rintro e w2 ⟨uh, ub, rfl, n2, hb2⟩
 obtain ⟨A3, c3, A4, c4, rfl, rfl⟩ := cj n2
 have hb2' := bt (ab w1 _) hb2
 clear k0 k1 k2 l0 l1 l2 l3
 obtain ⟨k0, k1, k2, _⟩ := aE (ac hb2' E0.out)
 obtain ⟨l0, l1, l2, l3, _⟩ := aN (ac hb2' E1.out)
 obtain ⟨q0, q1, q2, qf⟩ := aE (ac hb2' E2.out)
 obtain ⟨o0, o1, o2, of⟩ := aE (ac hb2 (heap_alloc_new w1 _))
 have qf0 := qf 0; have qf1 := qf 1; have qf2 := qf 2
 have of0 := of 0; have of1 := of 1; have of2 := of 2
 have s2 : w1.heap.size < w2.heap.size := (Array.getElem?_eq_some_iff.1 (ac hb2 (heap_alloc_new w1 _))).1
 have s2a : w.heap.size < w2.heap.size := by omega
 have s2b : w.heap.size + 1 + 1 < w2.heap.size := by omega
 have s2c : w.heap.size + 1 < w2.heap.size := by omega
 have Hc2 := hid (bt Hc1.out hb2')
 have N2 := hid (N1.out.go hb2' (Nat.le_refl _))
 have S2 := hid (ej (H1.out _ Hc1.out) hb2')
 have Hq := hid hb2
 have e6 := ac hb2 (heap_alloc_new w1 (.cells #[.int .i64 m.sec, .slice A1 m.seen.length c1, .slice A2 m.pool.length c2] 70))
 simp only [World.size_alloc] at n2
 obtain ⟨G, F, t1⟩ := TkS.of (P := fun b => w.heap.size + 1 + 1 + 1 ≤ b ∧ b ≠ w1.heap.size ∧ b ≠ w2.heap.size) (C := w1.heap.size + 1) N1.out hb2' n2 (Nat.le_succ _) (fun b _ _ => by omega) (fun b _ _ => by omega)
 have E6 := hid (ac (ab w2 (.cells #[.int .i64 y.kind, .int .i64 y.next, .int .i64 y.pk.el, .slice A3 y.pk.hd.length c3, .int .i64 y.pk.tag, .slice A4 y.pk.bd.length c4] 144)) e6)
 have E8 := hid (heap_alloc_new w2 (.cells #[.int .i64 y.kind, .int .i64 y.next, .int .i64 y.pk.el, .slice A3 y.pk.hd.length c3, .int .i64 y.pk.tag, .slice A4 y.pk.bd.length c4] 144))
 have ER := hid (ac (ab w2 (.cells #[.int .i64 y.kind, .int .i64 y.next, .int .i64 y.pk.el, .slice A3 y.pk.hd.length c3, .int .i64 y.pk.tag, .slice A4 y.pk.bd.length c4] 144)) (ac hb2' E2.out))
 have T1 := hid (t1.go (ab w2 (.cells #[.int .i64 y.kind, .int .i64 y.next, .int .i64 y.pk.el, .slice A3 y.pk.hd.length c3, .int .i64 y.pk.tag, .slice A4 y.pk.bd.length c4] 144)))
 have HC := hid (bt Hc2.out (ab w2 (.cells #[.int .i64 y.kind, .int .i64 y.next, .int .i64 y.pk.el, .slice A3 y.pk.hd.length c3, .int .i64 y.pk.tag, .slice A4 y.pk.bd.length c4] 144)))
 clear hb2 hb2' qf of n2 t1 e6
 obtain ⟨i0, hi, hz0, hz1, hz2⟩ := info_parts aY
 obtain ⟨j0, gi, gz0, gz1, gz2⟩ := info_parts iU
 have sz2 := hid (show w2.heap.size + 1 = (w2.alloc (.cells #[.int .i64 y.kind, .int .i64 y.next, .int .i64 y.pk.el, .slice A3 y.pk.hd.length c3, .int .i64 y.pk.tag, .slice A4 y.pk.bd.length c4] 144)).heap.size by simp)
 have hPn : ∀ n, w2.heap.size < n → (fun b => w.heap.size + 1 + 1 + 1 ≤ b ∧ b ≠ w1.heap.size ∧ b ≠ w2.heap.size) n := fun n hn => by dsimp only; omega
 have HPn := hid hPn
 have lA := hid m2
 clear hPn
 go_wp2_with (first
  | (go_at_call 224; refine (cS _ _ _ m1 p1).mono ?_; rintro e w' ⟨rfl, rfl⟩)
  | (go_at_call 166; refine (dl _ m.seen _ _ (S2.out.go (ab _ _))).mono ?_; rw [hdin]; rintro e w' ⟨rfl, rfl⟩)
  | (at_builtin; go_loud (refine aw rfl (.tmp 56) (.tmp 58) 67 rfl af ai (B := 0) Tryz.underlying67 hi hz0 hz1 hz2 rfl (by decide) (by decide) (v := .slice A1 m.seen.length c1) rfl (T1.out.hu.go (ab _ _)) (some ⟨w2.heap.size + 1, 0, none⟩) 1 1 rfl (fA (kJ (B := 0) (aq m.sec p.el) _ sz2.out (Nat.zero_le _))) ?_ ?_ ?_; (simp; have := lA.out; omega); (simp); intro v5 w5 ho5 hg5 hv5; have t5 := (T1.out.go (ab _ (.cells #[.int .i64 (aq m.sec p.el)] 3))).seen' ho5 hg5 hv5 (HPn.out _ (by simp; omega)); obtain ⟨A5, c5, rfl, _, _⟩ := ho5.formN (n := m.seen.length + 1) (by simp); have e65 := au hg5 (ac (ab _ _) E6.out) (T1.out.off (fun h => by have h1 := h.1; have h2 := h.2.1; have h3 := h.2.2; omega)).1; have e85 := au hg5 (ac (ab _ _) E8.out) (T1.out.off (fun h => by have h1 := h.1; have h2 := h.2.1; have h3 := h.2.2; omega)).1; have eR5 := au hg5 (ac (ab _ _) ER.out) (T1.out.off (fun h => by have h1 := h.1; have h2 := h.2.1; have h3 := h.2.2; omega)).1; obtain ⟨k0, k1, k2, kf⟩ := aE e65; have kf1 := kf 1; have kf2 := kf 2; obtain ⟨o0, o1, o2, o3, o4, o5, _⟩ := az e85; have sz5 := hg5.size; simp only [World.size_alloc] at sz5; have T5 := hid t5; have ER5 := hid eR5; have E65 := hid e65; have BG5 := hid (((ab (w2.alloc (.cells #[.int .i64 y.kind, .int .i64 y.next, .int .i64 y.pk.el, .slice A3 y.pk.hd.length c3, .int .i64 y.pk.tag, .slice A4 y.pk.bd.length c4] 144)) (.cells #[.int .i64 (aq m.sec p.el)] 3)).mono (by rw [World.size_alloc]; omega : w.heap.size ≤ (w2.alloc (.cells #[.int .i64 y.kind, .int .i64 y.next, .int .i64 y.pk.el, .slice A3 y.pk.hd.length c3, .int .i64 y.pk.tag, .slice A4 y.pk.bd.length c4] 144)).heap.size)).grown hg5 (by simp; omega) (fun q hq => by have := (T1.out.hP q (by simp [hq])).1; omega)); clear t5 ho5 hg5 hv5 e65 e85 eR5 kf))
  | (at_builtin; go_loud (obtain ⟨z1, z2, z3⟩ := (T5.out.set (p := ⟨w1.heap.size, 1, none⟩) (u := .slice A5 (m.seen.length + 1) c5) (fun h => by have h1 := h.1; have h2 := h.2.1; have h3 := h.2.2; dsimp only at h1 h2 h3; omega)).src 144 w5.heap.size (by simp [ao]); refine cW rfl (.tmp 62) (.tmp 64) 68 rfl oPl (B := 0) Tryz.underlying68 gi gz0 gz1 gz2 rfl (by decide) (v := .slice A2 m.pool.length c2) rfl z1 (some ⟨w5.heap.size, 0, none⟩) 1 1 rfl z2 z3 ?_ ?_ (Nat.zero_le _) ?_; (simp; omega); (simp [maxLen]; omega); intro v7 w7 ho7 hg7 hv7; have t7 := ((T5.out.set (p := ⟨w1.heap.size, 1, none⟩) (u := .slice A5 (m.seen.length + 1) c5) (fun h => by have h1 := h.1; have h2 := h.2.1; have h3 := h.2.2; dsimp only at h1 h2 h3; omega)).go (ab _ (.cells #[.int .i64 y.kind, .int .i64 y.next, .int .i64 y.pk.el, .slice A3 y.pk.hd.length c3, .int .i64 y.pk.tag, .slice A4 y.pk.bd.length c4] 144))).pool' ho7 hg7 hv7 (HPn.out _ (by simp [ao]; omega)) m.sec; have uo := (T5.out.off (n := w1.heap.size) (fun h => by have h1 := h.1; have h2 := h.2.1; have h3 := h.2.2; omega)).2; have ur := (T5.out.off (n := w.heap.size + 1 + 1) (fun h => by have h1 := h.1; have h2 := h.2.1; have h3 := h.2.2; omega)).2; have e67 := au hg7 (ac (ab _ (.cells #[.int .i64 y.kind, .int .i64 y.next, .int .i64 y.pk.el, .slice A3 y.pk.hd.length c3, .int .i64 y.pk.tag, .slice A4 y.pk.bd.length c4] 144)) (heap_setCell_same w5 w1.heap.size 1 _ _ (.slice A5 (m.seen.length + 1) c5) E65.out)) uo; have eR7 := au hg7 (ac (ab _ (.cells #[.int .i64 y.kind, .int .i64 y.next, .int .i64 y.pk.el, .slice A3 y.pk.hd.length c3, .int .i64 y.pk.tag, .slice A4 y.pk.bd.length c4] 144)) ((Below.heap_setCell w5 ⟨w1.heap.size, 1, none⟩ (.slice A5 (m.seen.length + 1) c5) (w.heap.size + 1 + 1) (by dsimp only; omega)).trans ER5.out)) ur; obtain ⟨k0, k1, k2, kf⟩ := aE (a := .int .i64 m.sec) (b := .slice A5 (m.seen.length + 1) c5) (c := .slice A2 m.pool.length c2) e67; have kf1 := kf 1; have kf2 := kf 2; obtain ⟨q0, q1, q2, qf⟩ := aE eR7; have qf0 := qf 0; have qf1 := qf 1; have qf2 := qf 2; obtain ⟨A7, c7, e7, _, _⟩ := ho7.form; rw [show (m.pool ++ [y]).length = m.pool.length + 1 by simp] at e7; subst e7; have T7 := hid t7; have BG7 := hid ((((BG5.out.setCell (p := ⟨w1.heap.size, 1, none⟩) (by dsimp only; omega) (.slice A5 (m.seen.length + 1) c5)).alloc (by simp only [ao]; omega) (.cells #[.int .i64 y.kind, .int .i64 y.next, .int .i64 y.pk.el, .slice A3 y.pk.hd.length c3, .int .i64 y.pk.tag, .slice A4 y.pk.bd.length c4] 144))).grown hg7 (by simp [ao]; omega) (fun q hq => by have := (T5.out.hP q (by simp [hq])).1; omega)); clear t7 ho7 hg7 hv7 e67 eR7 kf qf)))
 have sz7 : w.heap.size + 1 + 1 < w7.heap.size := by have := BG7.out.size; simp only [World.size_alloc] at this; omega
 refine bodyPost_ret (v := .tuple #[.agg #[.int .i64 m.sec, .slice A5 (m.seen.length + 1) c5, .slice A7 (m.pool.length + 1) c7], .int .i64 0]) (by simp [results, Tryz.results188, go_sem, q0, q1, q2, sz7]) rfl ?_
 have key : ∃ K, oMx.E w7 [.int .i64 m.sec, .slice A5 (m.seen.length + 1) c5, .slice A7 (m.pool.length + 1) c7] ⟨m.sec, m.seen ++ [aq m.sec p.el], m.pool ++ [y]⟩ K ∧ K.Nodup ∧ ∀ b ∈ K, w.heap.size + 1 + 1 + 1 ≤ b ∧ b ≠ w1.heap.size ∧ b ≠ w2.heap.size := T7.out
 refine ⟨_, _, rfl, ?_, ?_⟩
 ·obtain ⟨K, h1, h2, h3⟩ := bc (bc (bc (bc key (p := ⟨w1.heap.size, 2, none⟩) (u := .slice A7 (m.pool.length + 1) c7) (by dsimp only; omega)) (p := ⟨w.heap.size + 1 + 1, 0, none⟩) (u := .int .i64 m.sec) (by dsimp only; omega)) (p := ⟨w.heap.size + 1 + 1, 1, none⟩) (u := .slice A5 (m.seen.length + 1) c5) (by dsimp only; omega)) (p := ⟨w.heap.size + 1 + 1, 2, none⟩) (u := .slice A7 (m.pool.length + 1) c7) (by dsimp only; omega)
  exact ⟨K, h1, h2, fun b hb => by have := (h3 b hb).1; omega⟩
 ·repeat (refine Below.setCell ?_ (by dsimp only; omega) _)
  exact HC.out.trans BG7.out
theorem pM (m : Mx) (vs vp : Value) (p : Pk) (vh vb : Value) (w : World) (h1 : SlB af w.heap.size w vs m.seen) (h2 : SlB tPl w.heap.size w vp m.pool) (h3 : SlB af w.heap.size w vh p.hd) (h4 : SlB af w.heap.size w vb p.bd) (hm : mxB m = true) (hp : pkB p = true) :
  Calls Tryz.prog 188 #[.agg #[.int .i64 m.sec, vs, vp], .agg #[.int .i64 p.el, vh, .int .i64 p.tag, vb]] w (dX w (bB m p)) := by
 cases hr : aW m.sec p with
 | none => exact lE m vs vp p vh vb w h1 h2 h3 h4 hm hp hr
 | some y =>
  by_cases hin : aq m.sec p.el ∈ m.seen
  ·exact mv m vs vp p vh vb w h1 h2 h3 h4 hm hp y hr hin
  ·by_cases hf : 12 ≤ m.seen.length
   ·exact j8 m vs vp p vh vb w h1 h2 h3 h4 hm hp y hr hin hf
   ·by_cases hf2 : 5 ≤ m.pool.length
    ·exact j9 m vs vp p vh vb w h1 h2 h3 h4 hm hp y hr hin hf hf2
    ·exact lD m vs vp p vh vb w h1 h2 h3 h4 hm hp y hr hin hf hf2
theorem Tch.frozen {L : List Nat} {W a : World} {b j : Nat} (h : Tch L W a) (hf : W.frozen? ⟨b, j, none⟩ = false) (hb : b < W.heap.size) (hn : b ∉ L) : a.frozen? ⟨b, j, none⟩ = false :=
 (World.frozen?_of_block (w := W) (a := ⟨b, j, none⟩) (h.block b hb hn)).trans hf
def tj (B : Nat) (w : World) (b o : Nat) (F : List Nat) (x y : Wd) (code : Int) (e : Ending) (w' : World) : Prop :=
 (code = 0 ∧ e = .returned .nilIface ∧ ∃ F', Rn B w' b o y F' ∧ (∀ c ∈ F', c ∈ F ∨ w.heap.size ≤ c) ∧ Tch F w w' ∧ ar b o w w') ∨
 (code ≠ 0 ∧ ∃ bb, e = .returned (.iface 159 (.pointer (some ⟨bb, 0, none⟩))) ∧ w'.heap[bb]? = some (.cells #[.int .i64 code] 208 (0, 0)) ∧ w.heap.size ≤ bb ∧ Rn B w' b o x F ∧ Below w.heap.size w w')
theorem qv (B rb ro : Nat) (x : Wd) (F : List Nat) (k : Nat) (p : Pk) (cg : Bool) (m m2 : Mx) (code : Int) (Ah Ab : Option Addr) (ch cb : Nat) (w : World) (h : Rn B w rb ro x F) (hk : k < x.mixes.length) (hk3 : k ≤ 1000) (hm1 : x.mixes[k]? = some m) (hm3 : mxB m = true) (hpk : pkB p = true) (hrr : bB m p = (m2, code)) (h3 : SlB af w.heap.size w (.slice Ah p.hd.length ch) p.hd) (h4 : SlB af w.heap.size w (.slice Ab p.bd.length cb) p.bd) (hB : B ≤ w.heap.size) :
  Calls Tryz.prog 138 #[.pointer (some ⟨rb, ro, none⟩), .agg #[.int .i64 (k : Int), .int .i64 p.el, .slice Ah p.hd.length ch, .int .i64 p.tag, .slice Ab p.bd.length cb, .bool cg]] w (tj B w rb ro F x (b9 x k m2) code) := by
 obtain ⟨vm, vs, vn, vg, Fm, Fs, Fn, Fg, hr, rfl⟩ := h
 obtain ⟨Gm, hFm, hO⟩ := ax hr.em
 clear hFm
 obtain ⟨A1, d1, rfl, _, _, _⟩ := hO.form
 obtain ⟨g, rfl⟩ := Own.addr hO (by omega)
 have hgw := (hO.top g rfl).2
 have hrbw := hr.blk
 have HM3 := hid hm3; have Hpk := hid hpk; have Hrr := hid hrr; have HM1 := hid hm1
 have hr1 := hr.go (ab w (.cells #[.int .i64 (k : Int), .int .i64 p.el, .slice Ah p.hd.length ch, .int .i64 p.tag, .slice Ab p.bd.length cb, .bool cg] 74))
 have eb := heap_alloc_new w (.cells #[.int .i64 (k : Int), .int .i64 p.el, .slice Ah p.hd.length ch, .int .i64 p.tag, .slice Ab p.bd.length cb, .bool cg] 74)
 have HTW := hid (ab w (.cells #[.int .i64 (k : Int), .int .i64 p.el, .slice Ah p.hd.length ch, .int .i64 p.tag, .slice Ab p.bd.length cb, .bool cg] 74))
 have hsW : w.heap.size < (w.alloc (.cells #[.int .i64 (k : Int), .int .i64 p.el, .slice Ah p.hd.length ch, .int .i64 p.tag, .slice Ab p.bd.length cb, .bool cg] 74)).heap.size := by simp
 have G3 := hid (h3.go (ab w (.cells #[.int .i64 (k : Int), .int .i64 p.el, .slice Ah p.hd.length ch, .int .i64 p.tag, .slice Ab p.bd.length cb, .bool cg] 74))); have G4 := hid (h4.go (ab w (.cells #[.int .i64 (k : Int), .int .i64 p.el, .slice Ah p.hd.length ch, .int .i64 p.tag, .slice Ab p.bd.length cb, .bool cg] 74)))
 have hlo : ∀ c ∈ Fm ++ (Fs ++ (Fn ++ Fg)), (fun _ : Nat => True) c := fun _ _ => trivial
 clear hr hO hm1 hm3 hpk hrr h3 h4
 go_enter Tryz.func138, Tryz.ntmps138
 go_wp2_with fail
 generalize hgn : w.heap.size = nW at eb ⊢
 generalize w.alloc (.cells #[.int .i64 (k : Int), .int .i64 p.el, .slice Ah p.hd.length ch, .int .i64 p.tag, .slice Ab p.bd.length cb, .bool cg] 74) = W1 at *
 obtain ⟨bb, o, us, up, e, _, _, hvs, hvp, q0, q1, q2⟩ := ((hr1.wdR hlo).un.1.slB).mx HM1.out
 injection e with e; injection e with e1 e2; subst e1 e2
 simp only [Nat.zero_add] at q0 q1 q2
 obtain ⟨As, cs, rfl, _, _, _⟩ := hvs.form
 obtain ⟨Ap, cp, rfl, _, _, _⟩ := hvp.form
 have Hvs := hid (fun (wx : World) (hT : Tch [] W1 wx) => hvs.go hT.nil)
 have Hvp := hid (fun (wx : World) (hT : Tch [] W1 wx) => hvp.go hT.nil)
 have H3 := hid (fun (wx : World) (hT : Tch [] W1 wx) => G3.out.go hT.nil)
 have H4 := hid (fun (wx : World) (hT : Tch [] W1 wx) => G4.out.go hT.nil)
 have HS := hid (fun (wx : World) (hT : Tch [] W1 wx) => And.intro (hr1.cells hT (by simp)) (And.intro (az (hT.row eb (by simp))) (And.intro (hT.cell q0 (by simp)) (And.intro (hT.cell q1 (by simp)) (hT.cell q2 (by simp))))))
 have Hr := hid hr1; have Eb := hid eb
 clear hvs hvp hr1 q0 q1 q2 eb
 have u1 : (0 : Int) ≤ (k : Int) := by omega
 have u2 : ((k : Int)).toNat = k := by omega
 have u3 : (k : Int) < (x.mixes.length : Int) := by omega
 refine rgN [] 17 (by kernel_rfl) rfl (fun | none, _, _, _, _ => id | some _, _, _, _, _ => id) fun wd hH hbwd swd => ?_
 simp only [pw]
 refine ag [0, 1, 2, 3, 4, 5, 6, 7, 8, 9] ?_
 iterate 10 (refine ra HS.out rfl (by kernel_rfl) rfl (fun _ f => by go_simp; try with_reducible rfl) ?_; try simp only [pw])
 repeat' (first
  | (have t10 := hK10; clear t10; go_simp; (go_at_call 188; refine (pM m _ _ p _ _ _ (Hvs.out _ hH) (Hvp.out _ hH) (H3.out _ hH) (H4.out _ hH) HM3.out Hpk.out).mono ?_; rw [Hrr.out]; rintro e w5 ⟨us5, up5, rfl, n5, hbC⟩; obtain ⟨A5, c5, A6, c6, rfl, rfl⟩ := aQ n5; have sb5 := hbC.size; (try replace ea := ac hbC ea); obtain ⟨F5, h5E, h5n, h5l⟩ := n5; (try have h5 : ∀ b ∈ F5, W1.heap.size ≤ b ∧ b ≠ ga := fun b hb => by have h1 := h5l b hb; have h2 := oMx.lt h5E b hb; omega)); refine hK10.out _ _ (hH.trans (Tch.of hbC)) (fun hH => ?_); clear hK10 K10; try simp only [pw])
  | (have t14 := hK14; clear t14; go_simp; (have la := hH.size; generalize hgw : World.alloc _ _ = wa; obtain ⟨ea, hbC, sa⟩ := al hgw; clear hgw; (first | (generalize hga : w5.heap.size = ga at ea ⊢) | (generalize hga : wd.heap.size = ga at ea ⊢)); (try have h5 : ∀ b ∈ F5, W1.heap.size ≤ b ∧ b ≠ ga := fun b hb => by have h1 := h5l b hb; have h2 := oMx.lt h5E b hb; omega); (try replace h5E := oMx.keep h5E (fun b hb => hbC.block b (oMx.lt h5E b hb))); have hga1 : W1.heap.size ≤ ga := (by omega); have hga2 : ga < wa.heap.size := (by omega); clear hga); refine hK14.out _ _ (hH.trans (Tch.of hbC)) (fun hH => ?_); clear hK14 K14; try simp only [pw])
  | (have t15 := hK15; clear t15; (obtain ⟨z0, z1, z2, zf⟩ := aE ea; have zf0 := zf 0; have zf1 := zf 1; have zf2 := zf 2; have hga3 := World.block_lt_of_cell? _ _ z0; dsimp only at hga3); have fC := HS.out _ hH; go_simp; clear fC; (have hbT := ((hH.put (p := ⟨ga, 0, none⟩) (.inr hga1) (.int .i64 m2.sec)).put (p := ⟨ga, 1, none⟩) (.inr hga1) (.slice A5 m2.seen.length c5)).put (p := ⟨ga, 2, none⟩) (.inr hga1) (.slice A6 m2.pool.length c6)); refine hK15.out _ _ (hbT) (fun hH => ?_); clear hK15 K15; try simp only [pw])
  | (refine tr 11 HS.out rfl (by decide +kernel) rfl (fun _ f => by go_simp; try with_reducible rfl) ?_; try simp only [pw])
  | (refine tr 12 HS.out rfl (by decide +kernel) rfl (fun _ f => by go_simp; try with_reducible rfl) ?_; try simp only [pw])
  | (refine tr 13 HS.out rfl (by decide +kernel) rfl (fun _ f => by go_simp; try with_reducible rfl) ?_; try simp only [pw])
  | (refine tr 16 HS.out rfl (by decide +kernel) rfl (fun _ f => by go_simp; try with_reducible rfl) ?_; try simp only [pw])
  | (refine rk (i := 10) [14] (by decide +kernel) (rc rfl (fun K10 hK10 => ?_) (rc rfl (fun K14 hK14 => ?_) rn)))
  | (refine rk (i := 10) [] (by decide +kernel) (rc rfl (fun K10 hK10 => ?_) rn))
  | (refine rk (i := 14) [] (by decide +kernel) (rc rfl (fun K14 hK14 => ?_) rn))
  | (refine rk (i := 15) [] (by decide +kernel) (rc rfl (fun K15 hK15 => ?_) rn))
  | fail)
 all_goals refine dm (by kernel_rfl) ?_
 all_goals
  have e9 := aB 2 (.slice A6 m2.pool.length c6) (aB 1 (.slice A5 m2.seen.length c5) (aB 0 (.int .i64 m2.sec) ea))
  have h9E := oMx.keep h5E (fun b hb => ((Below.heap_setCell _ ⟨ga, 2, none⟩ (.slice A6 m2.pool.length c6) b (h5 b hb).2).trans (Below.heap_setCell _ ⟨ga, 1, none⟩ (.slice A5 m2.seen.length c5) b (h5 b hb).2)).trans (Below.heap_setCell _ ⟨ga, 0, none⟩ (.int .i64 m2.sec) b (h5 b hb).2))
  clear z0 z1 z2 zf zf0 zf1 zf2 ea h5E hbC hbT h5l hga3
  generalize World.setCell (World.setCell (World.setCell _ _ _) _ _) _ _ = w9 at *
  have hb9 := hH.nil
  have eb9 := ac hb9 Eb.out
  have hr9 := Hr.out.go hb9
  obtain ⟨Gm', hFm, hO⟩ := ax hr9.em
  clear hFm
  have fz0 := hO.frozen (k * 3); have fz1 := hO.frozen (k * 3 + 1); have fz2 := hO.frozen (k * 3 + 2)
  obtain ⟨bb, o, us, up, e, _, _, _, _, y0, y1, y2⟩ := ((hr9.wdR hlo).un.1.slB).mx HM1.out
  injection e with e; injection e with e1 e2; subst e1 e2
  simp only [Nat.zero_add] at y0 y1 y2
  have s9 := hb9.size
  have hg9 : g < w9.heap.size := by omega
  have Hr9 := hid hr9; have He9 := hid h9E; have Hb9 := hid hb9; have H5 := hid h5; have H5n := hid h5n
  have HS9 := hid (fun (wx : World) (hT : Tch [] w9 wx) => And.intro (hr9.cells hT (by simp)) (And.intro (az (hT.row eb9 (by simp))) (And.intro (aE (hT.row e9 (by simp))) (And.intro (hT.cell y0 (by simp)) (And.intro (hT.cell y1 (by simp)) (And.intro (hT.cell y2 (by simp)) (And.intro (hT.frozen fz0 hg9 (by simp)) (And.intro (hT.frozen fz1 hg9 (by simp)) (And.intro (hT.frozen fz2 hg9 (by simp)) (show g < wx.heap.size by have := hT.size; omega))))))))))
  clear hr9 h9E hb9 eb9 e9 hH hO h5 h5n swd y0 y1 y2 fz0 fz1 fz2
  by_cases hcd : code = 0
  ·have i1 : (code != 0) = false := by simp [hcd]
   have Hcd := hid hcd
   clear hcd
   go_wp2_with fail
   refine rgN [] 9 (by kernel_rfl) rfl (fun | none, _, _, _, _ => id | some _, _, _, _, _ => id) fun we hH hbwe swe => ?_
   simp only [pw]
   refine ag [0, 1, 2, 3, 4, 5, 6, 7] ?_
   iterate 8 (refine ra HS9.out rfl (by kernel_rfl) rfl (fun _ f => by go_simp; try with_reducible rfl) ?_; try simp only [pw])
   refine rz 8 (by kernel_rfl) rfl fun K hK => ?_
   have fC := HS9.out _ hH
   go_simp
   clear fC
   refine hK.out _ _ ?_
   clear hK K
   have hbe := hH.nil
   obtain ⟨g', F2, e, hgm, hr3, hF2⟩ := Run.setMix (m := m2) (Hr9.out.go hbe) hk (oMx.keep He9.out (fun b hb => hbe.block b (oMx.lt He9.out b hb))) H5n.out (fun a ha => ⟨by have := (H5.out a ha).1; omega, fun hm => by have h1 := (H5.out a ha).1; have h2 := Hr.out.lt a hm; omega⟩)
   injection e with e; injection e with e1 e2; subst e1
   have HR3 := hid hr3; have HBE := hid (bt (bt HTW.out Hb9.out) hbe)
   clear hH hbe hr3
   go_wp2_with fail
   refine bodyPost_ret (v := .nilIface) (by simp [results, Tryz.results138, go_sem]) rfl (.inl ⟨Hcd.out, rfl, _, ⟨_, _, _, _, _, _, _, _, HR3.out, rfl⟩, fun c hc => ?_, ?_, ?_⟩)
   ·simp only [List.mem_cons, List.mem_append] at hc ⊢
    rcases hc with h1 | h1 | h1
    ·exact .inl (.inl h1)
    ·rcases hF2 c h1 with h2 | h2
     ·exact .inl (.inr (.inl h2))
     ·exact .inr (by have := (H5.out c h2).1; omega)
    ·exact .inl (.inr (.inr h1))
   ·have hgF : g ∈ rb :: (Fm ++ (Fs ++ (Fn ++ Fg))) := List.mem_cons_of_mem _ (List.mem_append_left _ hgm)
    exact (((Tch.of HBE.out).setCell (p := ⟨g, k * 3, none⟩) (.inl hgF) _).setCell (p := ⟨g, k * 3 + 1, none⟩) (.inl hgF) _).setCell (p := ⟨g, k * 3 + 2, none⟩) (.inl hgF) _
   ·have hne : rb ≠ g := fun e => Hr.out.nb.1 (e ▸ hgm)
    exact (((ar.below HBE.out hrbw).setne (p := ⟨g, k * 3, none⟩) hne _).setne (p := ⟨g, k * 3 + 1, none⟩) hne _).setne (p := ⟨g, k * 3 + 2, none⟩) hne _
  ·have i1 : (code != 0) = true := by simp [hcd]
   have Hcd := hid hcd
   clear hcd
   go_wp2_with fail
   exact bodyPost_ret (v := .iface 159 (.pointer (some ⟨w9.heap.size, 0, none⟩))) (by simp [results, Tryz.results138, go_sem]) rfl (.inr ⟨Hcd.out, w9.heap.size, rfl, heap_alloc_new _ _, by omega, ⟨_, _, _, _, _, _, _, _, Hr9.out.go (ab _ _), rfl⟩, bt (bt HTW.out Hb9.out) (ab _ _)⟩)
theorem Rn.go {B b o : Nat} {w w' : World} {x : Wd} {F : List Nat} (h : Rn B w b o x F) (hb : Below w.heap.size w w') : Rn B w' b o x F := by
 obtain ⟨_, _, _, _, _, _, _, _, hr, e⟩ := h
 exact ⟨_, _, _, _, _, _, _, _, hr.go hb, e⟩
theorem Rn.lt {B b o : Nat} {w : World} {x : Wd} {F : List Nat} (h : Rn B w b o x F) : ∀ c ∈ F, c < w.heap.size := by
 obtain ⟨_, _, _, _, _, _, _, _, hr, rfl⟩ := h
 exact hr.lt
theorem Rn.blk {B b o : Nat} {w : World} {x : Wd} {F : List Nat} (h : Rn B w b o x F) : b < w.heap.size := by
 obtain ⟨_, _, _, _, _, _, _, _, hr, _⟩ := h
 exact hr.blk
def jJ (B : Nat) (w : World) (gl j : Nat) (l : List Pl) (F : List Nat) : Prop :=
 ∃ cs G, oPl.els w cs l G ∧ (∀ i u, cs[i]? = some u → w.cell? ⟨gl, j * 6 + i, none⟩ = some u) ∧ G.Nodup ∧ gl < w.heap.size ∧ gl ∉ F ∧ gl ∉ G ∧ ∀ c ∈ G, B ≤ c ∧ c ∉ F
theorem jJ.step {B gl j : Nat} {w : World} {z : Pl} {l : List Pl} {F : List Nat} (h : jJ B w gl j (z :: l) F) :
  ∃ A c A' d Gz, oPl.E w [.int .i64 z.kind, .int .i64 z.next, .int .i64 z.pk.el, .slice A z.pk.hd.length c, .int .i64 z.pk.tag, .slice A' z.pk.bd.length d] z Gz ∧ Gz.Nodup ∧ (∀ c ∈ Gz, B ≤ c ∧ c ∉ F) ∧
   w.cell? ⟨gl, j * 6, none⟩ = some (.int .i64 z.kind) ∧ w.cell? ⟨gl, j * 6 + 1, none⟩ = some (.int .i64 z.next) ∧ w.cell? ⟨gl, j * 6 + 2, none⟩ = some (.int .i64 z.pk.el) ∧ w.cell? ⟨gl, j * 6 + 3, none⟩ = some (.slice A z.pk.hd.length c) ∧ w.cell? ⟨gl, j * 6 + 4, none⟩ = some (.int .i64 z.pk.tag) ∧ w.cell? ⟨gl, j * 6 + 5, none⟩ = some (.slice A' z.pk.bd.length d) ∧
   ∀ (w' : World) (F' : List Nat), Tch F w w' → (∀ c ∈ F', c ∈ F ∨ c ∈ Gz ∨ w.heap.size ≤ c) → jJ B w' gl (j + 1) l F' := by
 obtain ⟨cs, G, hE, hc, hn, hg, hgF, hgG, hG⟩ := h
 obtain ⟨c1, c2, G1, G2, rfl, rfl, h1, h2⟩ := hE
 obtain ⟨A, c, A', d, rfl⟩ := fq h1
 obtain ⟨n1, n2, n3⟩ := List.nodup_append.1 hn
 have l1 := oPl.lt h1
 have l2 := Ty.els_lt h2
 refine ⟨A, c, A', d, G1, h1, n1, fun b hb => hG b (List.mem_append_left _ hb), hc 0 _ rfl, hc 1 _ rfl, hc 2 _ rfl, hc 3 _ rfl, hc 4 _ rfl, hc 5 _ rfl, fun w' F' hT hF => ?_⟩
 refine ⟨c2, G2, Ty.els_keep h2 (fun b hb => hT.block b (l2 b hb) (hG b (List.mem_append_right _ hb)).2), fun i u hi => ?_, n2, Nat.lt_of_lt_of_le hg hT.size, fun hm => ?_, fun hm => hgG (List.mem_append_right _ hm), fun b hb => ⟨(hG b (List.mem_append_right _ hb)).1, fun hm => ?_⟩⟩
 ·have e := hc (6 + i) u (by rw [Nat.add_comm]; exact hi)
  refine (World.cell?_of_block (w := w) (a := ⟨gl, _, none⟩) (hT.block gl hg hgF)).trans ?_
  rw [show (j + 1) * 6 + i = j * 6 + (6 + i) from by omega]; exact e
 ·rcases hF gl hm with h | h | h
  ·exact hgF h
  ·exact hgG (List.mem_append_left _ h)
  ·omega
 ·rcases hF b hm with h | h | h
  ·exact (hG b (List.mem_append_right _ hb)).2 h
  ·exact n3 b h b hb rfl
  ·have := l2 b hb; omega
theorem jJ.start {B gl n c : Nat} {w : World} {l : List Pl} {F G : List Nat} (h : Own oPl 144 0 w (.slice (some ⟨gl, 0, none⟩) n c) l G) (hn : G.Nodup) (hF : ∀ b ∈ gl :: G, B ≤ b ∧ b ∉ F) : jJ B w gl 0 l F := by
 have hg := (h.top gl rfl).2
 obtain ⟨A0, c0, e0, _⟩ := h.form
 injection e0 with e1 e2 e3; subst e2 e3
 obtain ⟨cs, h1, h2, h3⟩ := h
 refine ⟨cs, G, h2, fun i u hi => ?_, hn, hg, (hF gl List.mem_cons_self).2, h3 gl rfl, fun b hb => hF b (List.mem_cons_of_mem _ hb)⟩
 have hl' := (List.getElem?_eq_some_iff.1 hi).1
 rw [Nat.zero_mul, Nat.zero_add, h1.cellAt i (by rw [h1.1] at hl'; exact hl')]; exact hi
theorem jt {w : World} {z : Pl} {A A' : Option Addr} {c d : Nat} {G : List Nat} (h : oPl.E w [.int .i64 z.kind, .int .i64 z.next, .int .i64 z.pk.el, .slice A z.pk.hd.length c, .int .i64 z.pk.tag, .slice A' z.pk.bd.length d] z G) (cg : Bool) :
  oTr.E w [.int .i64 z.next, .int .i64 z.pk.el, .slice A z.pk.hd.length c, .int .i64 z.pk.tag, .slice A' z.pk.bd.length d, .bool cg] ⟨z.next, z.pk, cg⟩ G ∧ SlB af w.heap.size w (.slice A' z.pk.bd.length d) z.pk.bd := by
 obtain ⟨c1, c2, F1, F2, e1, rfl, ⟨rfl, rfl⟩, c3, c4, F3, F4, rfl, rfl, ⟨rfl, rfl⟩, ⟨c5, c6, F5, F6, rfl, rfl, ⟨rfl, rfl⟩, c7, c8, F7, F8, rfl, rfl, ⟨vh, Gh, rfl, hh, rfl⟩, c9, c10, F9, F10, rfl, rfl, ⟨rfl, rfl⟩, ⟨vb, Gb, rfl, hb, rfl⟩⟩⟩ := h
 simp at e1
 obtain ⟨rfl, rfl⟩ := e1
 have := nY (t := ⟨z.next, z.pk, cg⟩) (w := w) (Fh := _) (Fb := _) ⟨_, Gh, rfl, hh, rfl⟩ ⟨_, Gb, rfl, hb, rfl⟩
 exact ⟨by simpa using this, hb.slB⟩
theorem Tch.seq {F F' : List Nat} {w a b : World} (h : Tch F w a) (k : Tch F' a b) (hF : ∀ c ∈ F', c ∈ F ∨ w.heap.size ≤ c) : Tch F w b :=
 ⟨k.os.trans h.os, k.tape.trans h.tape, k.output.trans h.output, Nat.le_trans h.size k.size, fun c hc hn => (k.block c (Nat.lt_of_lt_of_le hc h.size) (fun hm => by
  rcases hF c hm with h1 | h1
  ·exact hn h1
  ·omega)).trans (h.block c hc hn)⟩
theorem qt {B : Nat} {w : World} {a us up vl : Value} {m : Mx} {l : List Pl} (h : aC (oMx.prod eh) B w [a, us, up, vl] (m, l)) : ∃ F1 Gl, oMx.E w [a, us, up] m F1 ∧ Own oPl 144 0 w vl l Gl ∧ F1.Nodup ∧ (vl.ownBlock.toList ++ Gl).Nodup ∧ (∀ c ∈ F1, B ≤ c ∧ c ∉ vl.ownBlock.toList ++ Gl) ∧ ∀ c ∈ vl.ownBlock.toList ++ Gl, B ≤ c := by
 obtain ⟨Fa, ⟨c1, c2, F1, F2, e1, rfl, hm, ⟨v', Gl, rfl, hl, rfl⟩⟩, hn, hlo⟩ := h
 obtain ⟨rfl, e2⟩ := List.append_inj' (s₁ := [a, us, up]) (t₁ := [vl]) e1 rfl
 injection e2 with e2; subst e2
 obtain ⟨n1, n2, n3⟩ := List.nodup_append.1 hn
 exact ⟨F1, Gl, hm, hl, n1, n2, fun c hc => ⟨hlo c (List.mem_append_left _ hc), fun hm => n3 c hc c hm rfl⟩, fun c hc => hlo c (List.mem_append_right _ hc)⟩
theorem ry (B rb ro : Nat) (x : Wd) (F : List Nat) (k : Nat) (all : Bool) (w : World) (h : Rn B w rb ro x F) (hx : VD 0 x) (hk : k < 3) (hB : B ≤ w.heap.size) :
  Calls Tryz.prog 89 #[.pointer (some ⟨rb, ro, none⟩), .int .i64 k, .bool all] w (dL B w rb ro F [] (cT x k all)) := by
 obtain ⟨m, hm1, hm2, hm3, hm4⟩ := fI hx.mix hk
 have hml := bX hx.mix
 have hkl : k < x.mixes.length := by omega
 obtain ⟨m2, list, hrr⟩ : ∃ m2 list, cF m all = (m2, list) := ⟨_, _, rfl⟩
 have hok := fe hm3 all
 rw [hrr] at hok
 obtain ⟨o1, o2, o3, o4⟩ := hok
 dsimp only at o1 o2 o3 o4
 have hV := VD.set hx hk hm1 (m := m2) o1 (o2.trans hm4) (d' := list.length) (by omega)
 have Hfin := hid (show cT x k all = list.foldl cN (b9 x k m2) by unfold cT; rw [hm2, hrr])
 have hl5 : list.length ≤ 1000000 := by have := (bh.1 hm3).2.2.1; omega
 have Hml := hid hml; have Hrr := hid hrr; have HV := hid hV; have O3 := hid o3
 have HM1 := hid hm1; have HM3 := hid hm3
 obtain ⟨vm, vs, vn, vg, Fm, Fs, Fn, Fg, hr, rfl⟩ := h
 obtain ⟨Gm, hFm, hO⟩ := ax hr.em
 clear hFm
 obtain ⟨A1, d1, rfl, _, _, _⟩ := hO.form
 obtain ⟨g, rfl⟩ := Own.addr hO (by omega)
 have hgw := (hO.top g rfl).2
 have hrbw := hr.blk
 have hlo : ∀ c ∈ Fm ++ (Fs ++ (Fn ++ Fg)), (fun _ : Nat => True) c := fun _ _ => trivial
 obtain ⟨bb, o, us, up, e, _, _, hvs, hvp, q0, q1, q2⟩ := ((hr.wdR hlo).un.1.slB).mx HM1.out
 injection e with e; injection e with e1 e2; subst e1 e2
 simp only [Nat.zero_add] at q0 q1 q2
 obtain ⟨As, cs, rfl, _, _, _⟩ := hvs.form
 obtain ⟨Ap, cp, rfl, _, _, _⟩ := hvp.form
 obtain ⟨g0, g1, g2, g3, g4, g5, _⟩ := hr.cells (Tch.refl [] _) (by simp)
 have Hvs := hid hvs; have Hvp := hid hvp; have Hr := hid hr
 have u1 : (0 : Int) ≤ (k : Int) := by omega
 have u2 : ((k : Int)).toNat = k := by omega
 have u3 : (k : Int) < (x.mixes.length : Int) := by omega
 clear hvs hvp hr hx hm1 hm2 hm3 hm4 hml hrr o1 o2 o3 o4 hV hO
 go_enter Tryz.func89, Tryz.ntmps89
 go_wp2_with fail
 refine (nQ m _ _ all _ Hvs.out Hvp.out HM3.out).mono ?_
 rw [Hrr.out]
 rintro e w2 ⟨us2, up2, vl, rfl, n3, hb3⟩
 dsimp only at n3 ⊢
 obtain ⟨F1, Gl, hE, hL, hn1, hnl, hF1, hGl⟩ := qt n3
 obtain ⟨A5, c5, A6, c6, rfl, rfl⟩ := aQ ⟨F1, hE, hn1, fun c hc => (hF1 c hc).1⟩
 obtain ⟨Al, cl, rfl, _, _, _⟩ := hL.form
 have hr2 := Hr.out.go hb3
 have s3 := hb3.size
 clear g0 g1 g2 g3 g4 g5 q0 q1 q2 n3
 go_wp2_with fail
 have HW4 := hid (bt hb3 (ab w2 (.cells #[.int .i64 m2.sec, .slice A5 m2.seen.length c5, .slice A6 m2.pool.length c6] 70)))
 have hr4 := hr2.go (ab w2 (.cells #[.int .i64 m2.sec, .slice A5 m2.seen.length c5, .slice A6 m2.pool.length c6] 70))
 have eb := heap_alloc_new w2 (.cells #[.int .i64 m2.sec, .slice A5 m2.seen.length c5, .slice A6 m2.pool.length c6] 70)
 have hE4 := oMx.keep hE (fun b hb => (ab w2 (.cells #[.int .i64 m2.sec, .slice A5 m2.seen.length c5, .slice A6 m2.pool.length c6] 70)).block b (oMx.lt hE b hb))
 have hL4 := hL.go (ab w2 (.cells #[.int .i64 m2.sec, .slice A5 m2.seen.length c5, .slice A6 m2.pool.length c6] 70))
 have s4 : w2.heap.size < (w2.alloc (.cells #[.int .i64 m2.sec, .slice A5 m2.seen.length c5, .slice A6 m2.pool.length c6] 70)).heap.size := by simp
 clear hE hL hr2 hb3
 generalize hgn : w2.heap.size = nW at eb ⊢
 generalize w2.alloc (.cells #[.int .i64 m2.sec, .slice A5 m2.seen.length c5, .slice A6 m2.pool.length c6] 70) = W4 at *
 obtain ⟨Gm', hFm, hO⟩ := ax hr4.em
 clear hFm
 have fz0 := hO.frozen (k * 3); have fz1 := hO.frozen (k * 3 + 1); have fz2 := hO.frozen (k * 3 + 2)
 obtain ⟨bb, o, us, up, e, _, _, _, _, y0, y1, y2⟩ := ((hr4.wdR hlo).un.1.slB).mx HM1.out
 injection e with e; injection e with e1 e2; subst e1 e2
 simp only [Nat.zero_add] at y0 y1 y2
 have hg4 : g < W4.heap.size := by omega
 have HS9 := hid (fun (wx : World) (hT : Tch [] W4 wx) => And.intro (hr4.cells hT (by simp)) (And.intro (aE (hT.row eb (by simp))) (And.intro (hT.cell y0 (by simp)) (And.intro (hT.cell y1 (by simp)) (And.intro (hT.cell y2 (by simp)) (And.intro (hT.frozen fz0 hg4 (by simp)) (And.intro (hT.frozen fz1 hg4 (by simp)) (And.intro (hT.frozen fz2 hg4 (by simp)) (show g < wx.heap.size by have := hT.size; omega)))))))))
 have Hr4 := hid hr4; have He4 := hid hE4; have HL4 := hid hL4; have Hn1 := hid hn1; have Hnl := hid hnl; have HF1 := hid hF1; have HGl := hid hGl
 clear hr4 eb hE4 hL4 hO y0 y1 y2 fz0 fz1 fz2 hn1 hnl hF1 hGl
 refine rgN [] 8 (by kernel_rfl) rfl (fun | none, _, _, _, _ => id | some _, _, _, _, _ => id) fun we hH hbwe swe => ?_
 simp only [pw]
 refine ag [0, 1, 2, 3, 4, 5, 6] ?_
 iterate 7 (refine ra HS9.out rfl (by kernel_rfl) rfl (fun _ f => by go_simp; try with_reducible rfl) ?_; try simp only [pw])
 refine rz 7 (by kernel_rfl) rfl fun K hK => ?_
 have fC := HS9.out _ hH
 go_simp
 clear fC
 refine hK.out _ _ ?_
 clear hK K
 have hbe := hH.nil
 obtain ⟨g', F2, e, hgm, hr3, hF2⟩ := Run.setMix (m := m2) (Hr4.out.go hbe) hkl (oMx.keep He4.out (fun b hb => hbe.block b (oMx.lt He4.out b hb))) Hn1.out (fun a ha => ⟨by have := (HF1.out a ha).1; omega, fun hm => by have h1 := (HF1.out a ha).1; have h2 := Hr.out.lt a hm; omega⟩)
 injection e with e; injection e with e1 e2; subst e1
 have hgF : g ∈ rb :: (Fm ++ (Fs ++ (Fn ++ Fg))) := List.mem_cons_of_mem _ (List.mem_append_left _ hgm)
 have hT5 := (((Tch.of (bt HW4.out hbe)).setCell (p := ⟨g, k * 3, none⟩) (.inl hgF) (.int .i64 m2.sec)).setCell (p := ⟨g, k * 3 + 1, none⟩) (.inl hgF) (.slice A5 m2.seen.length c5)).setCell (p := ⟨g, k * 3 + 2, none⟩) (.inl hgF) (.slice A6 m2.pool.length c6)
 have hne : rb ≠ g := fun e => Hr.out.nb.1 (e ▸ hgm)
 have hKL5 := (((ar.below (o := ro) (bt HW4.out hbe) hrbw).setne (p := ⟨g, k * 3, none⟩) hne (.int .i64 m2.sec)).setne (p := ⟨g, k * 3 + 1, none⟩) hne (.slice A5 m2.seen.length c5)).setne (p := ⟨g, k * 3 + 2, none⟩) hne (.slice A6 m2.pool.length c6)
 have hF5 : ∀ c ∈ rb :: (F2 ++ (Fs ++ (Fn ++ Fg))), c ∈ rb :: (Fm ++ (Fs ++ (Fn ++ Fg))) ∨ (c ∈ F1 ∧ w.heap.size ≤ c) := fun c hc => by
  simp only [List.mem_cons, List.mem_append] at hc ⊢
  rcases hc with h1 | h1 | h1
  ·exact .inl (.inl h1)
  ·rcases hF2 c h1 with h2 | h2
   ·exact .inl (.inr (.inl h2))
   ·exact .inr ⟨h2, (HF1.out c h2).1⟩
  ·exact .inl (.inr (.inr h1))
 have P0 : eh.E we [.slice Al list.length cl] list ((Value.slice Al list.length cl).ownBlock.toList ++ Gl) := ⟨_, Gl, rfl, HL4.out.go hbe, rfl⟩
 have hgl : ∀ c ∈ (Value.slice Al list.length cl).ownBlock.toList ++ Gl, c ≠ g := fun c hc => by have := HGl.out c hc; omega
 have hL5 := lJ (eh.keep P0 (fun c hc => ((Below.heap_setCell _ ⟨g, k * 3 + 2, none⟩ (.slice A6 m2.pool.length c6) c (hgl c hc)).trans (Below.heap_setCell _ ⟨g, k * 3 + 1, none⟩ (.slice A5 m2.seen.length c5) c (hgl c hc))).trans (Below.heap_setCell we ⟨g, k * 3, none⟩ (.int .i64 m2.sec) c (hgl c hc))))
 clear P0 hgl hH hbwe hbe
 generalize ((we.setCell ⟨g, k * 3, none⟩ (.int .i64 m2.sec)).setCell ⟨g, k * 3 + 1, none⟩ (.slice A5 m2.seen.length c5)).setCell ⟨g, k * 3 + 2, none⟩ (.slice A6 m2.pool.length c6) = W5 at *
 have hres : 0 < list.length → ∃ gl, Al = some ⟨gl, 0, none⟩ ∧ jJ w.heap.size W5 gl 0 (list.drop 0) (rb :: (F2 ++ (Fs ++ (Fn ++ Fg)))) := fun h0 => by
  obtain ⟨gl, rfl⟩ := Own.addr hL5 h0
  refine ⟨gl, rfl, jJ.start hL5 (List.nodup_append.1 Hnl.out).2.1 (fun c hc => ?_)⟩
  have hc' : c ∈ (Value.slice (some ⟨gl, 0, none⟩) list.length cl).ownBlock.toList ++ Gl := by simpa [Value.ownBlock] using hc
  refine ⟨HGl.out c hc', fun hm => ?_⟩
  rcases hF5 c hm with h | h
  ·have h1 := Hr.out.lt c h; have h2 := HGl.out c hc'; omega
  ·exact (HF1.out c h.1).2 hc'
 have H0 := hid (show Rn B W5 rb ro (b9 x k m2) (rb :: (F2 ++ (Fs ++ (Fn ++ Fg)))) ∧ (∀ c ∈ rb :: (F2 ++ (Fs ++ (Fn ++ Fg))), c ∈ rb :: (Fm ++ (Fs ++ (Fn ++ Fg))) ∨ w.heap.size ≤ c) ∧ Tch (rb :: (Fm ++ (Fs ++ (Fn ++ Fg)))) w W5 ∧ ar rb ro w W5 from ⟨⟨_, _, _, _, _, _, _, _, hr3, rfl⟩, fun c hc => (hF5 c hc).imp id And.right, hT5, hKL5⟩)
 have Hres := hid hres
 clear hr3 hF5 hT5 hKL5 hres hL5 hF2 hgm hgF
 go_wp2_with fail
 go_loopw [9, 31] (fun bv iv wr => ∃ (j : Nat) (y : Wd) (F' : List Nat), j ≤ list.length ∧ iv = .int .i64 j ∧ (list.take j).foldl cN (b9 x k m2) = y ∧ VD (list.length - j) y ∧ Rn B wr rb ro y F' ∧ (∀ c ∈ F', c ∈ rb :: (Fm ++ (Fs ++ (Fn ++ Fg))) ∨ w.heap.size ≤ c) ∧ Tch (rb :: (Fm ++ (Fs ++ (Fn ++ Fg)))) w wr ∧ ar rb ro w wr ∧ (j < list.length → ∃ gl, Al = some ⟨gl, 0, none⟩ ∧ jJ w.heap.size wr gl j (list.drop j) F')) (fun _ iv _ => list.length - (intOf iv).toNat)
 case atStart => exact ⟨0, _, _, by omega, rfl, rfl, HV.out, H0.out.1, H0.out.2.1, H0.out.2.2.1, H0.out.2.2.2, Hres.out⟩
 case round =>
  obtain ⟨j, y, F', hj, rfl, hy, hv, hR, hF, hT, hKL, hres⟩ := hrel
  clear Hres H0
  by_cases hlt : j < list.length
  ·obtain ⟨z, hz⟩ := ak hlt
   obtain ⟨gl, rfl, hrest⟩ := hres hlt
   rw [cC hz] at hrest
   obtain ⟨A, c, A', d, Gz, hEz, hnz, hGz, t0, t1, t2, t3, t4, t5, hstep⟩ := hrest.step
   have hglw : gl < wr.heap.size := World.block_lt_of_cell? _ _ t0
   have hpz := O3.out z (List.mem_of_getElem? hz)
   have hvs := VD.pass (x := y) (d := list.length - (j + 1)) (by have := hv; rwa [show list.length - (j + 1) + 1 = list.length - j from by omega]) hpz
   have hst : (list.take (j + 1)).foldl cN (b9 x k m2) = cN y z := by rw [aP hz, List.foldl_append, hy]; rfl
   have Hst := hid hst; have Hvs := hid hvs; have HR := hid hR; have HF := hid hF; have HT := hid hT; have HKL := hid hKL; have Hstep := hid hstep; have HE := hid hEz; have Hn := hid hnz; have Hz := hid hGz; have Hv := hid hv; have Hpz := hid hpz
   have hBw : B ≤ (wr.alloc (.cells #[.int .i64 z.kind, .int .i64 z.next, .int .i64 z.pk.el, .slice A z.pk.hd.length c, .int .i64 z.pk.tag, .slice A' z.pk.bd.length d] 144)).heap.size := by have := hT.size; simp only [World.size_alloc]; omega
   clear hz hrest hvs hst hR hF hT hKL hres hstep hEz hnz hGz hv hy hpz
   by_cases hkd : z.kind = 1
   ·have Hp := hid (show cN y z = dN y z by unfold cN; rw [if_pos hkd])
    have i1 : (z.kind == 0) = false := by simp [hkd]
    clear hkd
    go_wp2_with (go_at_call 140; refine (qe B rb ro y F' [] z A A' z.pk.hd.length c d _ (HR.out.go (ab _ _)) Hv.out.lim (by have := Hv.out.gl; omega) hBw ((jt HE.out false).2.go (ab _ _)) Hpz.out).mono ?_; rintro e w5 ⟨rfl, F5, hr5, hF5, ht5, hk5⟩)
    have hK5 : ar rb ro w w5 := HKL.out.trans ((ar.below (ab wr (.cells #[.int .i64 z.kind, .int .i64 z.next, .int .i64 z.pk.el, .slice A z.pk.hd.length c, .int .i64 z.pk.tag, .slice A' z.pk.bd.length d] 144)) HR.out.blk).trans hk5)
    have hT5 := (Tch.of (S := F') (ab wr (.cells #[.int .i64 z.kind, .int .i64 z.next, .int .i64 z.pk.el, .slice A z.pk.hd.length c, .int .i64 z.pk.tag, .slice A' z.pk.bd.length d] 144))).trans ht5
    have hF6 : ∀ c ∈ F5, c ∈ F' ∨ c ∈ Gz ∨ wr.heap.size ≤ c := fun c hc => by
     rcases hF5 c hc with h | h | h
     ·exact .inl h
     ·cases h
     ·simp only [World.size_alloc] at h; exact .inr (.inr (by omega))
    have hsw := HT.out.size
    have HX := hid (show Rn B w5 rb ro (cN y z) F5 ∧ (∀ c ∈ F5, c ∈ rb :: (Fm ++ (Fs ++ (Fn ++ Fg))) ∨ w.heap.size ≤ c) ∧ Tch (rb :: (Fm ++ (Fs ++ (Fn ++ Fg)))) w w5 ∧ ar rb ro w w5 ∧ jJ w.heap.size w5 gl (j + 1) (list.drop (j + 1)) F5 from
     ⟨by rw [Hp.out]; exact hr5, fun c hc => by
      rcases hF6 c hc with h | h | h
      ·exact HF.out c h
      ·exact .inr (Hz.out c h).1
      ·exact .inr (by omega), HT.out.seq hT5 HF.out, hK5, Hstep.out w5 F5 hT5 hF6⟩)
    clear hr5 hF5 ht5 hT5 hF6 hk5 hK5 i1
    go_wp2_with fail
    go_roundw
    case rel => exact ⟨j + 1, _, F5, by omega, by go_num, Hst.out, Hvs.out, HX.out.1, HX.out.2.1, HX.out.2.2.1, HX.out.2.2.2.1, fun _ => ⟨gl, rfl, HX.out.2.2.2.2⟩⟩
    case measure => simp [intOf]; omega
   ·have Hp := hid (show cN y z = dk y z.next z.pk false by unfold cN; rw [if_neg hkd])
    have i1 : (z.kind == 0) = true := by have := aK.1 (aV.1 Hpz.out).1; simp; omega
    clear hkd
    go_wp2_with (go_at_call 136; refine (gq B rb ro y F' Gz ⟨z.next, z.pk, false⟩ A A' c d _ (HR.out.go (ab _ _)) Hv.out.lim (by have := Hv.out.nn; omega) hBw (oTr.keep (jt HE.out false).1 (fun b hb => (ab _ _).block b (oTr.lt (jt HE.out false).1 b hb))) Hn.out (fun c hc => ⟨by have := (Hz.out c hc).1; omega, (Hz.out c hc).2⟩)).mono ?_; rintro e w5 ⟨rfl, F5, hr5, hF5, ht5, hk5⟩)
    have hK5 : ar rb ro w w5 := HKL.out.trans ((ar.below (ab wr (.cells #[.int .i64 z.kind, .int .i64 z.next, .int .i64 z.pk.el, .slice A z.pk.hd.length c, .int .i64 z.pk.tag, .slice A' z.pk.bd.length d] 144)) HR.out.blk).trans hk5)
    have hT5 := (Tch.of (S := F') (ab wr (.cells #[.int .i64 z.kind, .int .i64 z.next, .int .i64 z.pk.el, .slice A z.pk.hd.length c, .int .i64 z.pk.tag, .slice A' z.pk.bd.length d] 144))).trans ht5
    have hF6 : ∀ c ∈ F5, c ∈ F' ∨ c ∈ Gz ∨ wr.heap.size ≤ c := fun c hc => by
     rcases hF5 c hc with h | h | h
     ·exact .inl h
     ·exact .inr (.inl h)
     ·simp only [World.size_alloc] at h; exact .inr (.inr (by omega))
    have hsw := HT.out.size
    have HX := hid (show Rn B w5 rb ro (cN y z) F5 ∧ (∀ c ∈ F5, c ∈ rb :: (Fm ++ (Fs ++ (Fn ++ Fg))) ∨ w.heap.size ≤ c) ∧ Tch (rb :: (Fm ++ (Fs ++ (Fn ++ Fg)))) w w5 ∧ ar rb ro w w5 ∧ jJ w.heap.size w5 gl (j + 1) (list.drop (j + 1)) F5 from
     ⟨by rw [Hp.out]; exact hr5, fun c hc => by
      rcases hF6 c hc with h | h | h
      ·exact HF.out c h
      ·exact .inr (Hz.out c h).1
      ·exact .inr (by omega), HT.out.seq hT5 HF.out, hK5, Hstep.out w5 F5 hT5 hF6⟩)
    clear hr5 hF5 ht5 hT5 hF6 hk5 hK5 i1
    go_wp2_with fail
    go_roundw
    case rel => exact ⟨j + 1, _, F5, by omega, by go_num, Hst.out, Hvs.out, HX.out.1, HX.out.2.1, HX.out.2.2.1, HX.out.2.2.2.1, fun _ => ⟨gl, rfl, HX.out.2.2.2.2⟩⟩
    case measure => simp [intOf]; omega
  ·have hje : list.take j = list := List.take_of_length_le (by omega)
   have Hres := hid (show cT x k all = y by rw [Hfin.out, ← hy, hje])
   clear hy hje hv hres
   go_wp2_with fail
   exact bodyPost_end (results_none rfl _ _ _) rfl ⟨rfl, F', by rw [Hres.out]; exact hR, fun c hc => (hF c hc).imp id .inr, hT, hKL⟩
end Go.Proofs.YtfaeojmndaplcaaGreatDoor
