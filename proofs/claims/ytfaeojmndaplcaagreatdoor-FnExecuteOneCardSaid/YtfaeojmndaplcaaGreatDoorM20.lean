/- Texts that the last file leans on (part 20). -/
import Derived.Test.YtfaeojmndaplcaaGreatDoorM1
import Derived.Test.YtfaeojmndaplcaaGreatDoorM10
import Derived.Test.YtfaeojmndaplcaaGreatDoorM11
import Derived.Test.YtfaeojmndaplcaaGreatDoorM15
import Derived.Test.YtfaeojmndaplcaaGreatDoorM16
import Derived.Test.YtfaeojmndaplcaaGreatDoorM17
import Derived.Test.YtfaeojmndaplcaaGreatDoorM7
set_option linter.unusedVariables false
set_option linter.unusedSimpArgs false
set_option maxHeartbeats 4000000
set_option maxRecDepth 100000
namespace Go.Proofs.YtfaeojmndaplcaaGreatDoor
open Go Go.RowKit
def Rn (B : Nat) (w : World) (b o : Nat) (x : Wd) (F : List Nat) : Prop := ∃ vm vs vn vg Fm Fs Fn Fg, Run B w b o x vm vs vn vg Fm Fs Fn Fg ∧ F = b :: (Fm ++ (Fs ++ (Fn ++ Fg)))
def an (b o : Nat) (w w' : World) : Prop := ∀ j, j < o → w'.cell? ⟨b, j, none⟩ = w.cell? ⟨b, j, none⟩
section
variable {b o : Nat} {a w w' : World}
theorem an.refl (b o : Nat) (w : World) : an b o w w := fun _ _ => rfl
theorem an.trans (h : an b o a w) (k : an b o w w') : an b o a w' := fun j hj => (k j hj).trans (h j hj)
theorem an.below (hb : Below w.heap.size w w') (hbw : b < w.heap.size) : an b o w w' := fun _ _ => hb.cell hbw
theorem an.tch {L : List Nat} (h : Tch L w w') (hn : b ∉ L) (hbw : b < w.heap.size) : an b o w w' := fun j _ => World.cell?_of_block (w := w) (a := ⟨b, j, none⟩) (h.block b hbw hn)
theorem an.set {k : Nat} (h : an b o a w) (hk : o ≤ k) (u : Value) : an b o a (w.setCell ⟨b, k, none⟩ u) := fun j hj => (ak _ _ _ _ _ (by omega)).trans (h j hj)
theorem an.setne {p : Addr} (h : an b o a w) (hp : b ≠ p.block) (u : Value) : an b o a (w.setCell p u) := fun j hj => (World.cell?_of_block (w := w) (a := ⟨b, j, none⟩) (Below.heap_setCell _ _ _ _ hp)).trans (h j hj)
end
def eN (B : Nat) (w : World) (b o : Nat) (F P : List Nat) (y : Wd) (e : Ending) (w' : World) : Prop :=
 e = .returned (.tuple #[]) ∧ ∃ F', Rn B w' b o y F' ∧ (∀ c ∈ F', c ∈ F ∨ c ∈ P ∨ w.heap.size ≤ c) ∧ Tch F w w' ∧ an b o w w'
theorem ja {α : Type} {T : Ty α} {w' : World} {e s8 : Nat} {v v' : Value} {ys : List α} {G F : List Nat} (ho : Own T e 0 w' v' ys (G ++ F)) (hv : v'.ownBlock = v.ownBlock ∨ v'.ownBlock = some s8) (hn : (v.ownBlock.toList ++ G).Nodup) (hF : F.Nodup) (hlt : ∀ b ∈ v.ownBlock.toList ++ G, b < s8) (hFn : ∀ b ∈ F, b < s8 ∧ b ∉ v.ownBlock.toList ++ G) :
  (T.own e).E w' [v'] ys (v'.ownBlock.toList ++ (G ++ F)) ∧ (v'.ownBlock.toList ++ (G ++ F)).Nodup ∧ ∀ b ∈ v'.ownBlock.toList ++ (G ++ F), b ∈ v.ownBlock.toList ++ G ∨ b ∈ F ∨ b = s8 := by
 have hb' : ∀ b ∈ v'.ownBlock.toList, b ∈ v.ownBlock.toList ∨ b = s8 := fun b hb => by
  rcases hv with h | h
  ·rw [h] at hb; exact .inl hb
  ·rw [h] at hb; simp at hb; exact .inr hb
 refine ⟨⟨v', G ++ F, rfl, ho, rfl⟩, ?_, fun b hb => ?_⟩
 ·obtain ⟨n1, n2, d⟩ := List.nodup_append.1 hn
  rw [List.nodup_append, List.nodup_append]
  refine ⟨dD _, ⟨n2, hF, fun a ha b hb e => ?_⟩, fun a ha b hb e => ?_⟩
  ·subst e; exact (hFn a hb).2 (List.mem_append_right _ ha)
  ·subst e
   rcases hb' a ha with h | h
   ·rcases List.mem_append.1 hb with hb | hb
    ·exact d a h a hb rfl
    ·exact (hFn a hb).2 (List.mem_append_left _ h)
   ·rcases List.mem_append.1 hb with hb | hb
    ·have h1 := hlt a (List.mem_append_right _ hb); omega
    ·have h2 := (hFn a hb).1; omega
 ·rcases List.mem_append.1 hb with hb | hb
  ·rcases hb' b hb with h | h
   ·exact .inl (List.mem_append_left _ h)
   ·exact .inr (.inr h)
  ·rcases List.mem_append.1 hb with hb | hb
   ·exact .inl (List.mem_append_right _ hb)
   ·exact .inr (.inl hb)
theorem Run.pushNetG {B b o s8 : Nat} {w w9 : World} {x : Wd} {vm vs vn vg v' : Value} {Fm Fs G Fg F : List Nat} {t : Tr} (h : Run B w b o x vm vs vn vg Fm Fs (vn.ownBlock.toList ++ G) Fg) (ht : Tch (vn.ownBlock.toList ++ G) w w9) (ho : Own oTr 74 0 w9 v' (x.net ++ [t]) (G ++ F)) (hv : v'.ownBlock = vn.ownBlock ∨ v'.ownBlock = some s8) (hF : F.Nodup) (hFn : ∀ c ∈ F, B ≤ c ∧ c < s8 ∧ c ∉ b :: (Fm ++ (Fs ++ ((vn.ownBlock.toList ++ G) ++ Fg)))) (hs : w.heap.size ≤ s8) (hB : B ≤ w.heap.size) :
  Run B (w9.setCell ⟨b, o + 2, none⟩ v') b o ⟨x.mixes, x.sent, x.net ++ [t], x.got, x.made, x.lost⟩ vm vs v' vg Fm Fs (v'.ownBlock.toList ++ (G ++ F)) Fg ∧ ∀ c ∈ v'.ownBlock.toList ++ (G ++ F), c ∈ vn.ownBlock.toList ++ G ∨ c ∈ F ∨ c = s8 := by
 have hlt := h.lt
 obtain ⟨a1, a2, a3⟩ := ja (s8 := s8) ho hv (List.nodup_append.1 (List.nodup_append.1 (List.nodup_append.1 (List.nodup_cons.1 h.nd).2).2.1).2.1).1 hF (fun c hc => Nat.lt_of_lt_of_le (hlt c (by simp only [List.mem_cons, List.mem_append] at hc ⊢; exact .inr (.inr (.inr (.inl hc))))) hs)
  (fun c hc => ⟨(hFn c hc).2.1, fun hm => (hFn c hc).2.2 (by simp only [List.mem_cons, List.mem_append] at hm ⊢; exact .inr (.inr (.inr (.inl hm))))⟩)
 refine ⟨h.net' ht a1 a2 (fun c hc => ?_) (fun c hc => ?_), a3⟩
 ·rcases a3 c hc with h1 | h1 | h1
  ·exact .inl h1
  ·exact .inr (hFn c h1).2.2
  ·exact .inr (fun hm => by have := hlt c hm; omega)
 ·rcases a3 c hc with h1 | h1 | h1
  ·exact h.lo c (by simp only [List.mem_cons, List.mem_append] at h1 ⊢; exact .inr (.inr (.inr (.inl h1))))
  ·exact (hFn c h1).1
  ·omega
theorem om (B b o : Nat) (x : Wd) (F P : List Nat) (t : Tr) (Ah Ab : Option Addr) (ch cb : Nat) (w : World) (h : Rn B w b o x F) (hl : Lim x) (hd : x.net.length = 10 ∨ win t.mix 0 2 = false) :
  Calls Tryz.prog 136 #[.pointer (some ⟨b, o, none⟩), .agg #[.int .i64 t.mix, .int .i64 t.pk.el, .slice Ah t.pk.hd.length ch, .int .i64 t.pk.tag, .slice Ab t.pk.bd.length cb, .bool t.ch]] w (eN B w b o F P (dA x)) := by
 obtain ⟨vm, vs, vn, vg, Fm, Fs, Fn, Fg, hr, rfl⟩ := h
 obtain ⟨Gn, _, on⟩ := aG hr.en
 obtain ⟨An, cn, rfl, _, _, _⟩ := on.form
 clear on
 obtain ⟨l1, l2, _, _⟩ := hl
 have iw : IntKind.i64.wrap (x.lost + 1) = x.lost + 1 := a9 (by omega)
 have hbw := hr.blk
 have g2 := hr.c2
 have g5 := hr.c5
 have gz5 := hr.fz (o + 5)
 have Hr := hid hr
 clear hr
 go_enter Tryz.func136, Tryz.ntmps136
 by_cases h10 : x.net.length = 10
 ·have i1 : ((x.net.length : Int) == 10) = true := by simp; omega
  clear hd h10
  go_wp2_with fail
  exact bodyPost_ret (results_none rfl _ _ _) rfl ⟨rfl, _, ⟨_, _, _, _, _, _, _, _, (Hr.out.lost _).go (ab _ _), rfl⟩, fun c hc => .inl hc, ((Tch.refl (b :: (Fm ++ (Fs ++ (Fn ++ Fg)))) w).setCell (p := ⟨b, o + 5, none⟩) (.inl List.mem_cons_self) _).trans (Tch.of (ab _ _)), ((an.refl b o w).set (by omega) _).trans (an.below (ab _ _) (by simp only [al]; exact hbw))⟩
 ·have i1 : ((x.net.length : Int) == 10) = false := by simp; omega
  have hw : win t.mix 0 2 = false := by rcases hd with h | h; exact absurd h h10; exact h
  clear hd h10
  go_wp2_with (go_at_call 80; refine (gM _ _).mono ?_; rw [hw]; rintro e w' ⟨rfl, rfl⟩)
  exact bodyPost_ret (results_none rfl _ _ _) rfl ⟨rfl, _, ⟨_, _, _, _, _, _, _, _, (Hr.out.lost _).go (ab _ _), rfl⟩, fun c hc => .inl hc, ((Tch.refl (b :: (Fm ++ (Fs ++ (Fn ++ Fg)))) w).setCell (p := ⟨b, o + 5, none⟩) (.inl List.mem_cons_self) _).trans (Tch.of (ab _ _)), ((an.refl b o w).set (by omega) _).trans (an.below (ab _ _) (by simp only [al]; exact hbw))⟩
theorem mq {b : Nat} {Fm Fs Fn Fg : List Nat} {c : Nat} (h : c ∈ Fn) : c ∈ b :: (Fm ++ (Fs ++ (Fn ++ Fg))) := by
 simp only [List.mem_cons, List.mem_append]; exact .inr (.inr (.inr (.inl h)))
theorem vK {b : Nat} {Fm Fs Fn Fn' Fg P : List Nat} {n c : Nat} (h : ∀ c ∈ Fn', c ∈ Fn ∨ c ∈ P ∨ n ≤ c) (hc : c ∈ b :: (Fm ++ (Fs ++ (Fn' ++ Fg)))) : c ∈ b :: (Fm ++ (Fs ++ (Fn ++ Fg))) ∨ c ∈ P ∨ n ≤ c := by
 simp only [List.mem_cons, List.mem_append] at hc ⊢
 rcases hc with h1 | h1 | h1 | h1 | h1
 ·exact .inl (.inl h1)
 ·exact .inl (.inr (.inl h1))
 ·exact .inl (.inr (.inr (.inl h1)))
 ·rcases h c h1 with h2 | h2 | h2
  ·exact .inl (.inr (.inr (.inr (.inl h2))))
  ·exact .inr (.inl h2)
  ·exact .inr (.inr h2)
 ·exact .inl (.inr (.inr (.inr (.inr h1))))
theorem pL (B b o : Nat) (x : Wd) (F P : List Nat) (t : Tr) (Ah Ab : Option Addr) (ch cb : Nat) (w : World) (h : Rn B w b o x F) (hlt : x.net.length < 10) (hd : win t.mix 0 2 = true) (hB : B ≤ w.heap.size)
  (hP : oTr.E w [.int .i64 t.mix, .int .i64 t.pk.el, .slice Ah t.pk.hd.length ch, .int .i64 t.pk.tag, .slice Ab t.pk.bd.length cb, .bool t.ch] t P) (hn : P.Nodup) (hPF : ∀ c ∈ P, B ≤ c ∧ c ∉ F) :
  Calls Tryz.prog 136 #[.pointer (some ⟨b, o, none⟩), .agg #[.int .i64 t.mix, .int .i64 t.pk.el, .slice Ah t.pk.hd.length ch, .int .i64 t.pk.tag, .slice Ab t.pk.bd.length cb, .bool t.ch]] w (eN B w b o F P (bS x (x.net ++ [t]))) := by
 obtain ⟨k0, ki, kz0, kz1, kz2⟩ := info_parts lr
 obtain ⟨vm, vs, vn, vg, Fm, Fs, Fn, Fg, hr, rfl⟩ := h
 obtain ⟨Gn, rfl, on⟩ := aG hr.en
 obtain ⟨An, cn, rfl, _, _, _⟩ := on.form
 have hbw := hr.blk
 have i1 : ((x.net.length : Int) == 10) = false := by simp; omega
 have HO := hid (on.go (ab w (.cells #[.int .i64 t.mix, .int .i64 t.pk.el, .slice Ah t.pk.hd.length ch, .int .i64 t.pk.tag, .slice Ab t.pk.bd.length cb, .bool t.ch] 74)))
 have HE := hid (oTr.keep hP (fun b hb => (ab w (.cells #[.int .i64 t.mix, .int .i64 t.pk.el, .slice Ah t.pk.hd.length ch, .int .i64 t.pk.tag, .slice Ab t.pk.bd.length cb, .bool t.ch] 74)).block b (oTr.lt hP b hb)))
 have HD := hid (fun c (hc : c ∈ P) (hm : c ∈ (Value.slice An x.net.length cn).ownBlock.toList) => (hPF c hc).2 (mq (List.mem_append_left _ hm)))
 have HPF := hid hPF; have HPn := hid hn; have HPl := hid (oTr.lt hP)
 have hr0 := hr.go (ab w (.cells #[.int .i64 t.mix, .int .i64 t.pk.el, .slice Ah t.pk.hd.length ch, .int .i64 t.pk.tag, .slice Ab t.pk.bd.length cb, .bool t.ch] 74))
 have hnb := hr.nb.2.2.1
 have eb := heap_alloc_new w (.cells #[.int .i64 t.mix, .int .i64 t.pk.el, .slice Ah t.pk.hd.length ch, .int .i64 t.pk.tag, .slice Ab t.pk.bd.length cb, .bool t.ch] 74)
 have nbox : w.heap.size ∉ (Value.slice An x.net.length cn).ownBlock.toList ++ Gn := fun hm => by have := hr.lt _ (mq hm); omega
 have Hr := hid hr
 have g2 := hr.c2
 have hD := hid hd
 clear hr on hP hn hPF hd
 go_enter Tryz.func136, Tryz.ntmps136
 go_wp2_with (go_at_call 80; refine (gM _ _).mono ?_; rw [hD.out]; rintro e w' ⟨rfl, rfl⟩)
 have HTW := hid (Tch.of (S := (Value.slice An x.net.length cn).ownBlock.toList ++ Gn) (ab w (.cells #[.int .i64 t.mix, .int .i64 t.pk.el, .slice Ah t.pk.hd.length ch, .int .i64 t.pk.tag, .slice Ab t.pk.bd.length cb, .bool t.ch] 74)))
 have hsW : w.heap.size < (w.alloc (.cells #[.int .i64 t.mix, .int .i64 t.pk.el, .slice Ah t.pk.hd.length ch, .int .i64 t.pk.tag, .slice Ab t.pk.bd.length cb, .bool t.ch] 74)).heap.size := by simp
 generalize hgn : w.heap.size = nW at eb nbox ⊢
 generalize w.alloc (.cells #[.int .i64 t.mix, .int .i64 t.pk.el, .slice Ah t.pk.hd.length ch, .int .i64 t.pk.tag, .slice Ab t.pk.bd.length cb, .bool t.ch] 74) = W at *
 have HS := hid (fun (wx : World) (hT : Tch ((Value.slice An x.net.length cn).ownBlock.toList ++ Gn) W wx) => And.intro (hr0.cells hT hnb) (And.intro (aC (hT.row eb nbox)) (show nW < wx.heap.size by have := hT.size; have := (zn eb); omega)))
 clear hr0 eb nbox g2
 refine rgN ((Value.slice An x.net.length cn).ownBlock.toList ++ Gn) 11 (by kernel_rfl) rfl (fun | none, _, _, _, _ => id | some _, _, _, _, _ => id) fun wd hH hbwd swd => ?_
 simp only [pw]
 refine ag [0, 1, 2, 3, 4, 5] ?_
 iterate 6 (refine ra HS.out rfl (by kernel_rfl) rfl (fun _ f => by go_simp; try with_reducible rfl) ?_; try simp only [pw])
 refine rq 6 (by kernel_rfl) rfl fun K hK => ?_
 go_simp
 refine hK.out _ _ (hH.trans (Tch.of (ab _ _))) (fun hH => ?_)
 clear hK K
 refine rq 7 (by kernel_rfl) rfl fun K hK => ?_
 (refine aZ rfl (.tmp 27) (.tmp 29) 31 rfl oTr (B := 0) Tryz.underlying31 ki kz0 kz1 kz2 rfl (by decide) (v := .slice An x.net.length cn) rfl ((HO.out.go hbwd).go (ab _ _)) (some ⟨_, 0, none⟩) 1 1 rfl (ez (cs := [.int .i64 t.mix, .int .i64 t.pk.el, .slice Ah t.pk.hd.length ch, .int .i64 t.pk.tag, .slice Ab t.pk.bd.length cb, .bool t.ch]) (heap_alloc_new _ _) (oTr.keep HE.out (fun b hb => (bt hbwd (ab _ _)).block b (oTr.lt HE.out b hb)))) (fun b hb hm => HD.out b hm (aW.2 hb)) (by simp; omega) (by simp [maxLen]; omega) (Nat.zero_le _) ?_; intro v9 w9 ho9 hg9 hv9; have hbP := hH.grow hg9 (fun k hk hlt => List.mem_append_left _ (aW.2 hk)); simp only [List.tail_cons] at ho9; obtain ⟨A9, c9, e9, _, _, _⟩ := ho9.form; rw [show (x.net ++ [t]).length = x.net.length + 1 from by simp] at e9; subst e9)
 refine hK.out _ _ (hbP) (fun hH => ?_)
 clear hK K
 refine ag [8, 9] ?_
 iterate 2 (refine ra HS.out rfl (by kernel_rfl) rfl (fun _ f => by go_simp; try with_reducible rfl) ?_; try simp only [pw])
 refine rz 10 (by kernel_rfl) rfl fun K hK => ?_
 have fC := HS.out _ hH
 go_simp
 clear fC
 refine hK.out _ _ ?_
 clear hK K
 have hTw := HTW.out.trans hH
 obtain ⟨hr9, hf9⟩ := Hr.out.pushNetG hTw ho9 hv9 HPn.out (fun c hc => ⟨(HPF.out c hc).1, by have := HPl.out c hc; simp only [World.size_alloc]; omega, (HPF.out c hc).2⟩) (by simp only [World.size_alloc]; omega) hB
 exact bodyPost_end (results_none rfl _ _ _) rfl ⟨rfl, _, ⟨_, _, _, _, _, _, _, _, hr9, rfl⟩, fun c hc => vK (P := P) (fun c hc => by
  rcases hf9 c hc with h | h | h
  ·exact .inl h
  ·exact .inr (.inl h)
  ·refine .inr (.inr ?_); simp only [World.size_alloc] at h; omega) hc, (hTw.mono (fun b hb => mq hb)).setCell (p := ⟨b, o + 2, none⟩) (.inl List.mem_cons_self) _, (an.tch hTw hnb hbw).set (by omega) _⟩
theorem kx (B b o : Nat) (x : Wd) (F P : List Nat) (t : Tr) (Ah Ab : Option Addr) (ch cb : Nat) (w : World) (h : Rn B w b o x F) (hl : Lim x) (h10 : x.net.length ≤ 10) (hB : B ≤ w.heap.size)
  (hP : oTr.E w [.int .i64 t.mix, .int .i64 t.pk.el, .slice Ah t.pk.hd.length ch, .int .i64 t.pk.tag, .slice Ab t.pk.bd.length cb, .bool t.ch] t P) (hn : P.Nodup) (hPF : ∀ c ∈ P, B ≤ c ∧ c ∉ F) :
  Calls Tryz.prog 136 #[.pointer (some ⟨b, o, none⟩), .agg #[.int .i64 t.mix, .int .i64 t.pk.el, .slice Ah t.pk.hd.length ch, .int .i64 t.pk.tag, .slice Ab t.pk.bd.length cb, .bool t.ch]] w (eN B w b o F P (ew x t.mix t.pk t.ch)) := by
 unfold ew
 by_cases hd : 10 ≤ x.net.length ∨ win t.mix 0 2 = false
 ·rw [if_pos hd]
  exact om B b o x F P t Ah Ab ch cb w h hl (hd.imp (fun h => by omega) id)
 ·rw [if_neg hd]
  refine pL B b o x F P t Ah Ab ch cb w h (by omega) ?_ hB hP hn hPF
  cases hw : win t.mix 0 2 with
  | true => rfl
  | false => exact absurd (.inr hw) hd
theorem Run.pushGot {B b o s8 : Nat} {w w9 : World} {x : Wd} {vm vs vn vg v' : Value} {Fm Fs Fn G : List Nat} {l : Lt} (h : Run B w b o x vm vs vn vg Fm Fs Fn (vg.ownBlock.toList ++ G)) (ht : Tch (vg.ownBlock.toList ++ G) w w9) (ho : Own tLt 56 0 w9 v' (x.got ++ [l]) (G ++ [])) (hv : v'.ownBlock = vg.ownBlock ∨ v'.ownBlock = some s8) (hs : w.heap.size ≤ s8) (hB : B ≤ w.heap.size) :
  Run B (w9.setCell ⟨b, o + 3, none⟩ v') b o ⟨x.mixes, x.sent, x.net, x.got ++ [l], x.made, x.lost⟩ vm vs vn v' Fm Fs Fn (v'.ownBlock.toList ++ (G ++ [])) ∧ ∀ c ∈ v'.ownBlock.toList ++ (G ++ []), c ∈ vg.ownBlock.toList ++ G ∨ c = s8 := by
 have hlt := h.lt
 obtain ⟨a1, a2, a3⟩ := ja (s8 := s8) ho hv (List.nodup_append.1 (List.nodup_append.1 (List.nodup_append.1 (List.nodup_cons.1 h.nd).2).2.1).2.1).2.1 List.nodup_nil (fun c hc => Nat.lt_of_lt_of_le (hlt c (by simp only [List.mem_cons, List.mem_append] at hc ⊢; exact .inr (.inr (.inr (.inr hc))))) hs)
  (fun c hc => by cases hc)
 have a4 : ∀ c ∈ v'.ownBlock.toList ++ (G ++ []), c ∈ vg.ownBlock.toList ++ G ∨ c = s8 := fun c hc => by
  rcases a3 c hc with h1 | h1 | h1
  ·exact .inl h1
  ·cases h1
  ·exact .inr h1
 refine ⟨h.got' ht a1 a2 (fun c hc => ?_) (fun c hc => ?_), a4⟩
 ·rcases a4 c hc with h1 | h1
  ·exact .inl h1
  ·exact .inr (fun hm => by have := hlt c hm; omega)
 ·rcases a4 c hc with h1 | h1
  ·exact h.lo c (by simp only [List.mem_cons, List.mem_append] at h1 ⊢; exact .inr (.inr (.inr (.inr h1))))
  ·omega
theorem qc {b : Nat} {Fm Fs Fn Fg : List Nat} {c : Nat} (h : c ∈ Fg) : c ∈ b :: (Fm ++ (Fs ++ (Fn ++ Fg))) := by
 simp only [List.mem_cons, List.mem_append]; exact .inr (.inr (.inr (.inr h)))
theorem tW {b : Nat} {Fm Fs Fn Fg Fg' P : List Nat} {n c : Nat} (h : ∀ c ∈ Fg', c ∈ Fg ∨ n ≤ c) (hc : c ∈ b :: (Fm ++ (Fs ++ (Fn ++ Fg')))) : c ∈ b :: (Fm ++ (Fs ++ (Fn ++ Fg))) ∨ c ∈ P ∨ n ≤ c := by
 simp only [List.mem_cons, List.mem_append] at hc ⊢
 rcases hc with h1 | h1 | h1 | h1 | h1
 ·exact .inl (.inl h1)
 ·exact .inl (.inr (.inl h1))
 ·exact .inl (.inr (.inr (.inl h1)))
 ·exact .inl (.inr (.inr (.inr (.inl h1))))
 ·rcases h c h1 with h2 | h2
  ·exact .inl (.inr (.inr (.inr (.inr h2))))
  ·exact .inr (.inr h2)
theorem pS (B rb ro : Nat) (x : Wd) (F P : List Nat) (y : Pl) (Ah Ab : Option Addr) (nh ch cb : Nat) (w : World) (h : Rn B w rb ro x F) (hl : Lim x) (hg : x.got.length ≤ 1000000) (hB : B ≤ w.heap.size) (hbd : SlB af w.heap.size w (.slice Ab y.pk.bd.length cb) y.pk.bd) (hp : plB y = true) (ho : ef y.pk.bd = none) :
  Calls Tryz.prog 140 #[.pointer (some ⟨rb, ro, none⟩), .agg #[.int .i64 y.kind, .int .i64 y.next, .int .i64 y.pk.el, .slice Ah nh ch, .int .i64 y.pk.tag, .slice Ab y.pk.bd.length cb]] w (eN B w rb ro F P (dA x)) := by
 obtain ⟨vm, vs, vn, vg, Fm, Fs, Fn, Fg, hr, rfl⟩ := h
 obtain ⟨_, _, hk⟩ := bc.1 hp
 obtain ⟨_, _, ⟨hb6, hbn⟩, _⟩ := aA.1 hk
 obtain ⟨l1, l2, _, _⟩ := hl
 have iw : IntKind.i64.wrap (x.lost + 1) = x.lost + 1 := a9 (by omega)
 have HB := hid (fun (wx : World) (hb : Below w.heap.size w wx) => hbd.go hb)
 have Hb6 := hid hb6; have Hbn := hid hbn; have Ho := hid ho; have Hr := hid hr
 clear hr hbd hp hk hb6 hbn ho
 go_enter Tryz.func140, Tryz.ntmps140
 go_wp2_with fail
 refine (gL _ y.pk.bd _ (HB.out _ (by repeat (first | exact zm | apply ae | refine bA ?_ (by omega) | refine Below.setCell ?_ (by first | omega | simp <;> omega) _))) Hb6.out Hbn.out).mono ?_
 rw [Ho.out]
 rintro e w1 ⟨v1, rfl, n1, hb1⟩
 have e0 := ac hb1 (heap_alloc_new w _)
 have Hc1 := hid (bt (ab w _) hb1)
 have s1 : w.heap.size < w1.heap.size := (zn e0)
 (try simp only [Option.getD_some] at n1)
 have hbot := n1.top
 obtain ⟨A5, c5, rfl, _, _, _⟩ := n1.slB.form
 have HS := hid (fun (wx : World) (hT : Tch [] w1 wx) => aC (hT.row e0 (by simp)))
 clear e0 n1 hb1
 go_wp2_with fail
 refine rgN [] 20 (by kernel_rfl) rfl (fun | none, _, _, _, _ => id | some _, _, _, _, _ => id) fun wd hH hbwd swd => ?_
 simp only [pw]
 refine ag [0, 1, 2] ?_
 iterate 3 (refine ra HS.out rfl (by kernel_rfl) rfl (fun _ f => by go_simp; try with_reducible rfl) ?_; try simp only [pw])
 refine tu 3 rfl (by kernel_rfl) rfl ?_
 refine tu 4 rfl (by kernel_rfl) rfl ?_
 refine tu 5 rfl (by kernel_rfl) rfl ?_
 try simp only [pw]
 refine ag [6, 7] ?_
 iterate 2 (refine ra HS.out rfl (by kernel_rfl) rfl (fun _ f => by go_simp; try with_reducible rfl) ?_; try simp only [pw])
 refine tu 8 rfl (by kernel_rfl) rfl ?_
 try simp only [pw]
 refine tu 9 rfl (by kernel_rfl) rfl ?_
 refine tu 10 rfl (by kernel_rfl) rfl ?_
 refine tu 11 rfl (by kernel_rfl) rfl ?_
 try simp only [pw]
 refine tu 12 rfl (by kernel_rfl) rfl ?_
 refine tu 13 rfl (by kernel_rfl) rfl ?_
 refine tu 14 rfl (by kernel_rfl) rfl ?_
 try simp only [pw]
 refine tu 15 rfl (by kernel_rfl) rfl ?_
 refine tu 16 rfl (by kernel_rfl) rfl ?_
 refine tu 17 rfl (by kernel_rfl) rfl ?_
 try simp only [pw]
 refine tu 18 rfl (by kernel_rfl) rfl ?_
 refine tr 19 HS.out rfl (by kernel_rfl) rfl (fun _ f => by go_simp; try with_reducible rfl) ?_
 try simp only [pw]
 refine dm (by kernel_rfl) ?_
 have HcL := hid (bt Hc1.out hH.nil)
 clear hH
 have hrL := Hr.out.go HcL.out
 have g5 := hrL.c5
 have gz5 := hrL.fz (ro + 5)
 have HrL := hid hrL
 clear hrL
 go_wp2_with fail
 exact bodyPost_ret (results_none rfl _ _ _) rfl ⟨rfl, _, ⟨_, _, _, _, _, _, _, _, HrL.out.lost _, rfl⟩, fun c hc => .inl hc, ((Tch.of (S := rb :: (Fm ++ (Fs ++ (Fn ++ Fg)))) HcL.out).setCell (p := ⟨rb, ro + 5, none⟩) (.inl List.mem_cons_self) _), (an.below HcL.out Hr.out.blk).set (by omega) _⟩
theorem rp (B rb ro : Nat) (x : Wd) (F P : List Nat) (y : Pl) (Ah Ab : Option Addr) (nh ch cb : Nat) (w : World) (h : Rn B w rb ro x F) (hl : Lim x) (hg : x.got.length ≤ 1000000) (hB : B ≤ w.heap.size) (hbd : SlB af w.heap.size w (.slice Ab y.pk.bd.length cb) y.pk.bd) (hp : plB y = true) (l : List Int) (ho : ef y.pk.bd = some l) (hn : ¬ l.length = 2) :
  Calls Tryz.prog 140 #[.pointer (some ⟨rb, ro, none⟩), .agg #[.int .i64 y.kind, .int .i64 y.next, .int .i64 y.pk.el, .slice Ah nh ch, .int .i64 y.pk.tag, .slice Ab y.pk.bd.length cb]] w (eN B w rb ro F P (dA x)) := by
 obtain ⟨vm, vs, vn, vg, Fm, Fs, Fn, Fg, hr, rfl⟩ := h
 obtain ⟨_, _, hk⟩ := bc.1 hp
 obtain ⟨_, _, ⟨hb6, hbn⟩, _⟩ := aA.1 hk
 obtain ⟨l1, l2, _, _⟩ := hl
 have iw : IntKind.i64.wrap (x.lost + 1) = x.lost + 1 := a9 (by omega)
 have HB := hid (fun (wx : World) (hb : Below w.heap.size w wx) => hbd.go hb)
 have Hb6 := hid hb6; have Hbn := hid hbn; have Ho := hid ho; have Hr := hid hr
 clear hr hbd hp hk hb6 hbn ho
 go_enter Tryz.func140, Tryz.ntmps140
 go_wp2_with fail
 refine (gL _ y.pk.bd _ (HB.out _ (by repeat (first | exact zm | apply ae | refine bA ?_ (by omega) | refine Below.setCell ?_ (by first | omega | simp <;> omega) _))) Hb6.out Hbn.out).mono ?_
 rw [Ho.out]
 rintro e w1 ⟨v1, rfl, n1, hb1⟩
 have e0 := ac hb1 (heap_alloc_new w _)
 have Hc1 := hid (bt (ab w _) hb1)
 have s1 : w.heap.size < w1.heap.size := (zn e0)
 (try simp only [Option.getD_some] at n1)
 have hbot := n1.top
 obtain ⟨A5, c5, rfl, _, _, _⟩ := n1.slB.form
 have hnB : ((l.length : Int) != 2) = true := by simp; omega
 have HS := hid (fun (wx : World) (hT : Tch [] w1 wx) => aC (hT.row e0 (by simp)))
 clear e0 n1 hb1
 go_wp2_with fail
 refine rgN [] 20 (by kernel_rfl) rfl (fun | none, _, _, _, _ => id | some _, _, _, _, _ => id) fun wd hH hbwd swd => ?_
 simp only [pw]
 refine ag [0, 1, 2, 3, 4, 5, 6, 7] ?_
 iterate 8 (refine ra HS.out rfl (by kernel_rfl) rfl (fun _ f => by go_simp; try with_reducible rfl) ?_; try simp only [pw])
 refine tu 8 rfl (by kernel_rfl) rfl ?_
 try simp only [pw]
 refine tu 9 rfl (by kernel_rfl) rfl ?_
 refine tu 10 rfl (by kernel_rfl) rfl ?_
 refine tu 11 rfl (by kernel_rfl) rfl ?_
 try simp only [pw]
 refine tu 12 rfl (by kernel_rfl) rfl ?_
 refine tu 13 rfl (by kernel_rfl) rfl ?_
 refine tu 14 rfl (by kernel_rfl) rfl ?_
 try simp only [pw]
 refine tu 15 rfl (by kernel_rfl) rfl ?_
 refine tu 16 rfl (by kernel_rfl) rfl ?_
 refine tu 17 rfl (by kernel_rfl) rfl ?_
 try simp only [pw]
 refine tu 18 rfl (by kernel_rfl) rfl ?_
 refine tr 19 HS.out rfl (by kernel_rfl) rfl (fun _ f => by go_simp; try with_reducible rfl) ?_
 try simp only [pw]
 refine dm (by kernel_rfl) ?_
 have HcL := hid (bt Hc1.out hH.nil)
 clear hH
 have hrL := Hr.out.go HcL.out
 have g5 := hrL.c5
 have gz5 := hrL.fz (ro + 5)
 have HrL := hid hrL
 clear hrL
 go_wp2_with fail
 exact bodyPost_ret (results_none rfl _ _ _) rfl ⟨rfl, _, ⟨_, _, _, _, _, _, _, _, HrL.out.lost _, rfl⟩, fun c hc => .inl hc, ((Tch.of (S := rb :: (Fm ++ (Fs ++ (Fn ++ Fg)))) HcL.out).setCell (p := ⟨rb, ro + 5, none⟩) (.inl List.mem_cons_self) _), (an.below HcL.out Hr.out.blk).set (by omega) _⟩
theorem rl (B rb ro : Nat) (x : Wd) (F P : List Nat) (y : Pl) (Ah Ab : Option Addr) (nh ch cb : Nat) (w : World) (h : Rn B w rb ro x F) (hl : Lim x) (hg : x.got.length ≤ 1000000) (hB : B ≤ w.heap.size) (hbd : SlB af w.heap.size w (.slice Ab y.pk.bd.length cb) y.pk.bd) (hp : plB y = true) (a b : Int) (ho : ef y.pk.bd = some [a, b]) (hn : ltB ⟨a, y.next, b⟩ = false) :
  Calls Tryz.prog 140 #[.pointer (some ⟨rb, ro, none⟩), .agg #[.int .i64 y.kind, .int .i64 y.next, .int .i64 y.pk.el, .slice Ah nh ch, .int .i64 y.pk.tag, .slice Ab y.pk.bd.length cb]] w (eN B w rb ro F P (dA x)) := by
 have Hn := hid hn
 clear hn
 obtain ⟨vm, vs, vn, vg, Fm, Fs, Fn, Fg, hr, rfl⟩ := h
 obtain ⟨_, _, hk⟩ := bc.1 hp
 obtain ⟨_, _, ⟨hb6, hbn⟩, _⟩ := aA.1 hk
 obtain ⟨l1, l2, _, _⟩ := hl
 have iw : IntKind.i64.wrap (x.lost + 1) = x.lost + 1 := a9 (by omega)
 have HB := hid (fun (wx : World) (hb : Below w.heap.size w wx) => hbd.go hb)
 have Hb6 := hid hb6; have Hbn := hid hbn; have Ho := hid ho; have Hr := hid hr
 clear hr hbd hp hk hb6 hbn ho
 go_enter Tryz.func140, Tryz.ntmps140
 go_wp2_with fail
 refine (gL _ y.pk.bd _ (HB.out _ (by repeat (first | exact zm | apply ae | refine bA ?_ (by omega) | refine Below.setCell ?_ (by first | omega | simp <;> omega) _))) Hb6.out Hbn.out).mono ?_
 rw [Ho.out]
 rintro e w1 ⟨v1, rfl, n1, hb1⟩
 have e0 := ac hb1 (heap_alloc_new w _)
 have Hc1 := hid (bt (ab w _) hb1)
 have s1 : w.heap.size < w1.heap.size := (zn e0)
 (try simp only [Option.getD_some] at n1)
 have hbot := n1.top
 obtain ⟨A5, c5, rfl, _, _, _⟩ := n1.slB.form
 have hnB : (((2 : Nat) : Int) != 2) = false := by simp
 obtain ⟨bb, ob, rfl, hbz, hbz', hc0⟩ := n1.slB.int (i := 0) (x := a) rfl
 obtain ⟨bb', ob', e', _, _, hcc1⟩ := n1.slB.int (i := 1) (x := b) rfl
 injection e' with e'; injection e' with ee1 ee2; subst ee1 ee2
 rw [Nat.add_zero] at hc0
 have HS := hid (fun (wx : World) (hT : Tch [] w1 wx) => And.intro (hT.cell hc0 (by simp)) (And.intro (hT.cell hcc1 (by simp)) (aC (hT.row e0 (by simp)))))
 clear hb1 n1 e0 hc0 hcc1
 go_wp2_with fail
 refine rgN [] 20 (by kernel_rfl) rfl (fun | none, _, _, _, _ => id | some _, _, _, _, _ => id) fun wd hH hbwd swd => ?_
 simp only [pw]
 refine ag [0, 1, 2, 3, 4, 5, 6, 7, 8, 9, 10, 11, 12, 13, 14, 15, 16] ?_
 iterate 17 (refine ra HS.out rfl (by kernel_rfl) rfl (fun _ f => by go_simp; try with_reducible rfl) ?_; try simp only [pw])
 refine rq 17 (by kernel_rfl) rfl fun K hK => ?_
 go_simp
 (go_at_call 79; refine (ft ⟨a, y.next, b⟩ _).mono ?_; rw [Hn.out]; rintro e w3 ⟨rfl, hbC⟩)
 refine hK.out _ _ (hH.trans (Tch.of hbC)) (fun hH => ?_)
 clear hK K
 refine ag [18, 19] ?_
 iterate 2 (refine ra HS.out rfl (by kernel_rfl) rfl (fun _ f => by go_simp; try with_reducible rfl) ?_; try simp only [pw])
 refine dm (by kernel_rfl) ?_
 have HcL := hid (bt Hc1.out hH.nil)
 clear hH hbC
 have hrL := Hr.out.go HcL.out
 have g5 := hrL.c5
 have gz5 := hrL.fz (ro + 5)
 have HrL := hid hrL
 clear hrL
 go_wp2_with fail
 exact bodyPost_ret (results_none rfl _ _ _) rfl ⟨rfl, _, ⟨_, _, _, _, _, _, _, _, HrL.out.lost _, rfl⟩, fun c hc => .inl hc, ((Tch.of (S := rb :: (Fm ++ (Fs ++ (Fn ++ Fg)))) HcL.out).setCell (p := ⟨rb, ro + 5, none⟩) (.inl List.mem_cons_self) _), (an.below HcL.out Hr.out.blk).set (by omega) _⟩
theorem rm (B rb ro : Nat) (x : Wd) (F P : List Nat) (y : Pl) (Ah Ab : Option Addr) (nh ch cb : Nat) (w : World) (h : Rn B w rb ro x F) (hl : Lim x) (hg : x.got.length ≤ 1000000) (hB : B ≤ w.heap.size) (hbd : SlB af w.heap.size w (.slice Ab y.pk.bd.length cb) y.pk.bd) (hp : plB y = true) (a b : Int) (ho : ef y.pk.bd = some [a, b]) (hn : ltB ⟨a, y.next, b⟩ = true) :
  Calls Tryz.prog 140 #[.pointer (some ⟨rb, ro, none⟩), .agg #[.int .i64 y.kind, .int .i64 y.next, .int .i64 y.pk.el, .slice Ah nh ch, .int .i64 y.pk.tag, .slice Ab y.pk.bd.length cb]] w (eN B w rb ro F P ⟨x.mixes, x.sent, x.net, x.got ++ [⟨a, y.next, b⟩], x.made, x.lost⟩) := by
 obtain ⟨i0, hi, hz0, hz1, hz2⟩ := info_parts lq
 have Hn := hid hn
 clear hn
 obtain ⟨vm, vs, vn, vg, Fm, Fs, Fn, Fg, hr, rfl⟩ := h
 obtain ⟨_, _, hk⟩ := bc.1 hp
 obtain ⟨_, _, ⟨hb6, hbn⟩, _⟩ := aA.1 hk
 obtain ⟨l1, l2, _, _⟩ := hl
 have iw : IntKind.i64.wrap (x.lost + 1) = x.lost + 1 := a9 (by omega)
 have HB := hid (fun (wx : World) (hb : Below w.heap.size w wx) => hbd.go hb)
 have Hb6 := hid hb6; have Hbn := hid hbn; have Ho := hid ho; have Hr := hid hr
 clear hr hbd hp hk hb6 hbn ho
 go_enter Tryz.func140, Tryz.ntmps140
 go_wp2_with fail
 refine (gL _ y.pk.bd _ (HB.out _ (by repeat (first | exact zm | apply ae | refine bA ?_ (by omega) | refine Below.setCell ?_ (by first | omega | simp <;> omega) _))) Hb6.out Hbn.out).mono ?_
 rw [Ho.out]
 rintro e w1 ⟨v1, rfl, n1, hb1⟩
 have e0 := ac hb1 (heap_alloc_new w _)
 have Hc1 := hid (bt (ab w _) hb1)
 have s1 : w.heap.size < w1.heap.size := (zn e0)
 (try simp only [Option.getD_some] at n1)
 have hbot := n1.top
 obtain ⟨A5, c5, rfl, _, _, _⟩ := n1.slB.form
 have hnB : (((2 : Nat) : Int) != 2) = false := by simp
 obtain ⟨bb, ob, rfl, hbz, hbz', hc0⟩ := n1.slB.int (i := 0) (x := a) rfl
 obtain ⟨bb', ob', e', _, _, hcc1⟩ := n1.slB.int (i := 1) (x := b) rfl
 injection e' with e'; injection e' with ee1 ee2; subst ee1 ee2
 rw [Nat.add_zero] at hc0
 have HS := hid (fun (wx : World) (hT : Tch [] w1 wx) => And.intro (hT.cell hc0 (by simp)) (And.intro (hT.cell hcc1 (by simp)) (aC (hT.row e0 (by simp)))))
 clear hb1 n1 e0 hc0 hcc1
 go_wp2_with fail
 refine rgN [] 20 (by kernel_rfl) rfl (fun | none, _, _, _, _ => id | some _, _, _, _, _ => id) fun wd hH hbwd swd => ?_
 simp only [pw]
 refine ag [0, 1, 2, 3, 4, 5, 6, 7, 8, 9, 10, 11, 12, 13, 14, 15, 16] ?_
 iterate 17 (refine ra HS.out rfl (by kernel_rfl) rfl (fun _ f => by go_simp; try with_reducible rfl) ?_; try simp only [pw])
 refine rq 17 (by kernel_rfl) rfl fun K hK => ?_
 go_simp
 (go_at_call 79; refine (ft ⟨a, y.next, b⟩ _).mono ?_; rw [Hn.out]; rintro e w3 ⟨rfl, hbC⟩)
 refine hK.out _ _ (hH.trans (Tch.of hbC)) (fun hH => ?_)
 clear hK K
 refine ag [18, 19] ?_
 iterate 2 (refine ra HS.out rfl (by kernel_rfl) rfl (fun _ f => by go_simp; try with_reducible rfl) ?_; try simp only [pw])
 refine dm (by kernel_rfl) ?_
 have HcL := hid (bt Hc1.out hH.nil)
 have hr3 := Hr.out.go HcL.out
 have s3 := HcL.out.size
 obtain ⟨Gg, rfl, og⟩ := aG hr3.eg
 obtain ⟨Ag, cg, rfl, _, _, _⟩ := og.form
 obtain ⟨cA, cB, b0, b1, b2, b3, b4, b5, _⟩ := HS.out _ hH
 have hbb := (hbot bb rfl).1
 rw [World.size_alloc] at hbb
 have hL : ∀ c ∈ (Value.slice Ag x.got.length cg).ownBlock.toList ++ Gg, c < w.heap.size := fun c hc => Hr.out.lt c (qc hc)
 have HS3 := hid (fun (wx : World) (hT : Tch ((Value.slice Ag x.got.length cg).ownBlock.toList ++ Gg) w3 wx) => And.intro (hr3.cells hT hr3.nb.2.2.2) (And.intro (hT.cell cA (fun hm => by have := hL _ hm; omega)) (And.intro (hT.cell cB (fun hm => by have := hL _ hm; omega)) (hT.cell b1 (fun hm => by have := hL _ hm; omega)))))
 have HO := hid og; have Hr3 := hid hr3
 clear hH hbC cA cB b0 b1 b2 b3 b4 b5 og hbot hr3 hL
 go_wp2_with fail
 refine rgN ((Value.slice Ag x.got.length cg).ownBlock.toList ++ Gg) 19 (by kernel_rfl) rfl (fun | none, _, _, _, _ => id | some _, _, _, _, _ => id) fun wf hH hbwf swf => ?_
 simp only [pw]
 refine ag [0, 1, 2, 3, 4, 5, 6, 7, 8, 9, 10, 11, 12, 13] ?_
 iterate 14 (refine ra HS3.out rfl (by kernel_rfl) rfl (fun _ f => by go_simp; try with_reducible rfl) ?_; try simp only [pw])
 refine rq 14 (by kernel_rfl) rfl fun K hK => ?_
 go_simp
 refine hK.out _ _ (hH.trans (Tch.of (ab _ _))) (fun hH => ?_)
 clear hK K
 refine rq 15 (by kernel_rfl) rfl fun K hK => ?_
 (refine aZ rfl (.tmp 44) (.tmp 54) 30 rfl tLt (B := 0) Tryz.underlying30 hi hz0 hz1 hz2 rfl (by decide) (v := .slice Ag x.got.length cg) rfl ((HO.out.go hbwf).go (ab _ _)) (some ⟨_, 0, none⟩) 1 1 rfl (ez (cs := [.int .i64 a, .int .i64 y.next, .int .i64 b]) (x := (⟨a, y.next, b⟩ : Lt)) (heap_alloc_new _ _) ⟨rfl, rfl⟩) (fun b hb hm => by cases hm) (by simp; omega) (by simp [maxLen]; omega) (Nat.zero_le _) ?_; intro v9 w9 ho9 hg9 hv9; have hbP := hH.grow hg9 (fun k hk hlt => List.mem_append_left _ (aW.2 hk)); simp only [List.tail_cons] at ho9; obtain ⟨A9, c9, e9, _, _, _⟩ := ho9.form; rw [show (x.got ++ [(⟨a, y.next, b⟩ : Lt)]).length = x.got.length + 1 from by simp] at e9; subst e9)
 refine hK.out _ _ (hbP) (fun hH => ?_)
 clear hK K
 refine ag [16, 17] ?_
 iterate 2 (refine ra HS3.out rfl (by kernel_rfl) rfl (fun _ f => by go_simp; try with_reducible rfl) ?_; try simp only [pw])
 refine rz 18 (by kernel_rfl) rfl fun K hK => ?_
 have fC := HS3.out _ hH
 go_simp
 clear fC
 refine hK.out _ _ ?_
 clear hK K
 obtain ⟨hr9, hf9⟩ := Hr3.out.pushGot hH ho9 hv9 (by have := hbwf.size; simp only [World.size_alloc]; omega) (by omega)
 exact bodyPost_end (results_none rfl _ _ _) rfl ⟨rfl, _, ⟨_, _, _, _, _, _, _, _, hr9, rfl⟩, fun c hc => tW (fun c hc => by
  rcases hf9 c hc with h | h
  ·exact .inl h
  ·refine .inr ?_; have := hbwf.size; (try simp only [World.size_alloc] at h s3); omega) hc, ((Tch.of (S := rb :: (Fm ++ (Fs ++ (Fn ++ ((Value.slice Ag x.got.length cg).ownBlock.toList ++ Gg))))) HcL.out).trans (hH.mono (fun b hb => qc hb))).setCell (p := ⟨rb, ro + 3, none⟩) (.inl List.mem_cons_self) _, ((an.below HcL.out Hr.out.blk).trans (an.tch hH Hr3.out.nb.2.2.2 Hr3.out.blk)).set (by omega) _⟩
theorem aRv (B rb ro : Nat) (x : Wd) (F P : List Nat) (y : Pl) (Ah Ab : Option Addr) (nh ch cb : Nat) (w : World) (h : Rn B w rb ro x F) (hl : Lim x) (hg : x.got.length ≤ 1000000) (hB : B ≤ w.heap.size) (hbd : SlB af w.heap.size w (.slice Ab y.pk.bd.length cb) y.pk.bd) (hp : plB y = true) :
  Calls Tryz.prog 140 #[.pointer (some ⟨rb, ro, none⟩), .agg #[.int .i64 y.kind, .int .i64 y.next, .int .i64 y.pk.el, .slice Ah nh ch, .int .i64 y.pk.tag, .slice Ab y.pk.bd.length cb]] w (eN B w rb ro F P (fj x y)) := by
 cases ho : ef y.pk.bd with
 | none =>
  have hr : fj x y = dA x := by unfold fj lO; rw [ho]
  rw [hr]; exact pS B rb ro x F P y Ah Ab nh ch cb w h hl hg hB hbd hp ho
 | some l =>
  by_cases hl2 : l.length = 2
  ·obtain ⟨a, b, rfl⟩ : ∃ a b, l = [a, b] := by
    match l, hl2 with
    | [a, b], _ => exact ⟨a, b, rfl⟩
   cases hn : ltB ⟨a, y.next, b⟩ with
   | false =>
    have hr : fj x y = dA x := by unfold fj lO; rw [ho]; simp [hn]
    rw [hr]; exact rl B rb ro x F P y Ah Ab nh ch cb w h hl hg hB hbd hp a b ho hn
   | true =>
    have hr : fj x y = ⟨x.mixes, x.sent, x.net, x.got ++ [⟨a, y.next, b⟩], x.made, x.lost⟩ := by unfold fj lO; rw [ho]; simp [hn]
    rw [hr]; exact rm B rb ro x F P y Ah Ab nh ch cb w h hl hg hB hbd hp a b ho hn
  ·have hr : fj x y = dA x := by unfold fj lO; rw [ho]; simp [hl2]
   rw [hr]; exact rp B rb ro x F P y Ah Ab nh ch cb w h hl hg hB hbd hp l ho hl2
theorem pC (m : Mx) (vs vp : Value) (p : Pk) (vh vb : Value) (w : World) (h1 : SlB af w.heap.size w vs m.seen) (h2 : SlB tPl w.heap.size w vp m.pool) (h3 : SlB af w.heap.size w vh p.hd) (h4 : SlB af w.heap.size w vb p.bd) (hm : mxB m = true) (hp : pkB p = true) (y : Pl) (hr : bJ m.sec p = some y) (hin : ao m.sec p.el ∉ m.seen) (hf : ¬ 12 ≤ m.seen.length) (hf2 : ¬ 5 ≤ m.pool.length) :
  Calls Tryz.prog 188 #[.agg #[.int .i64 m.sec, vs, vp], .agg #[.int .i64 p.el, vh, .int .i64 p.tag, vb]] w (gX w (bW m p)) := by
 obtain ⟨m1, m2, m3, m4, m5⟩ := bN.1 hm
 have Hpool := hid (fun (x : Pl) (hx : x ∈ m.pool) => show x.pk.hd.length ≤ 1073741824 ∧ x.pk.bd.length ≤ 1073741824 by
  obtain ⟨_, _, hk⟩ := bc.1 (m5 x hx)
  obtain ⟨_, ⟨a, _⟩, ⟨b, _⟩, _⟩ := aA.1 hk
  omega)
 have p1 := (aA.1 hp).1
 have H1 := hid (fun (wx : World) (hb : Below w.heap.size w wx) => h1.go hb)
 have H2 := hid (fun (wx : World) (hb : Below w.heap.size w wx) => h2.go hb)
 have H3 := hid (fun (wx : World) (hb : Below w.heap.size w wx) => h3.go hb)
 have H4 := hid (fun (wx : World) (hb : Below w.heap.size w wx) => h4.go hb)
 obtain ⟨As, cs, rfl, _, _, _⟩ := h1.form
 obtain ⟨Ap, cp, rfl, _, _, _⟩ := h2.form
 obtain ⟨Ah, ch, rfl, _, _, _⟩ := h3.form
 obtain ⟨Ab, cb, rfl, _, _, _⟩ := h4.form
 have Hp := hid hp; have Hm := hid hm
 clear h1 h2 h3 h4 hm m4 m5 hp
 have hkw := bQ m1 p1
 rw [tx hr hin (by omega)]
 have Hr := hid hr
 have hdin : decide (ao m.sec p.el ∈ m.seen) = false := decide_eq_false hin
 have i1 : ((m.seen.length : Int) == 12) = false := by simp; omega
 have i2 : ((m.pool.length : Int) == 5) = false := by simp; omega
 clear hr hin
 go_enter Tryz.func188, Tryz.ntmps188
 go_wp2_with fail
 refine (cZ m _ _ _ (H1.out _ (by repeat (first | exact zm | apply ae | refine bA ?_ (by omega) | refine Below.setCell ?_ (by first | omega | simp <;> omega) _))) (H2.out _ (by repeat (first | exact zm | apply ae | refine bA ?_ (by omega) | refine Below.setCell ?_ (by first | omega | simp <;> omega) _)))).mono ?_
 rw [Hm.out]
 rintro e wa ⟨rfl, hba⟩
 obtain ⟨a0, a1, a2⟩ := gH hba
 have hca := hid (bt (by repeat (first | exact zm | apply ae | refine bA ?_ (by omega) | refine Below.setCell ?_ (by first | omega | simp <;> omega) _)) hba : Below w.heap.size w wa)
 have sa : w.heap.size + 1 + 1 < wa.heap.size := (zn a2)
 have sa0 : w.heap.size < wa.heap.size := by omega
 have sa1 : w.heap.size + 1 < wa.heap.size := by omega
 obtain ⟨k0, k1, k2, _⟩ := aN a0
 obtain ⟨l0, l1, l2, l3, _⟩ := bh a1
 have EA0 := hid a0; have EA1 := hid a1; have EA2 := hid a2
 clear hba a0 a1 a2
 go_wp2_with fail
 refine (ct p _ _ _ (H3.out _ hca.out) (H4.out _ hca.out)).mono ?_
 rw [Hp.out]
 rintro e wb ⟨rfl, hbb⟩
 have hcb := hid (bt hca.out hbb)
 have EB0 := hid (ac hbb EA0.out); have EB1 := hid (ac hbb EA1.out); have EB2 := hid (ac hbb EA2.out)
 have sb := hbb.size
 have sb0 : w.heap.size < wb.heap.size := by omega
 clear k0 k1 k2 l0 l1 l2 l3 hbb
 obtain ⟨k0, k1, k2, _⟩ := aN EB0.out
 go_wp2_with fail
 refine (db m _ _ _ (H1.out _ hcb.out) (H2.out _ hcb.out) (by omega) (by omega) Hpool.out).mono ?_
 rintro e w1 ⟨us, up, rfl, n1, hb1⟩
 obtain ⟨A1, c1, A2, c2, rfl, rfl⟩ := bo n1
 have b0 := ac hb1 EB0.out
 have b1 := ac hb1 EB1.out
 have b2 := ac hb1 EB2.out
 have hc1 : Below w.heap.size w w1 := bt hcb.out hb1
 have s1 : w.heap.size + 1 + 1 < w1.heap.size := (zn b2)
 have s1a : w.heap.size < w1.heap.size := by omega
 have s1b : w.heap.size + 1 < w1.heap.size := by omega
 clear k0 k1 k2
 obtain ⟨k0, k1, k2, _⟩ := aN b0
 obtain ⟨l0, l1, l2, l3, _⟩ := bh b1
 have N1 := hid (n1.base (B' := w.heap.size + 1 + 1 + 1) (by omega)); have Hc1 := hid hc1; have E0 := hid b0; have E1 := hid b1; have E2 := hid b2
 clear n1 hb1 hc1 b0 b1 b2 EA0 EA1 EA2 EB0 EB1 EB2 sa sa0 sa1 sb sb0
 go_wp2_with fail
 refine (eJ m.sec p y _ _ _ (H3.out _ (bt Hc1.out (ab _ _))) (H4.out _ (bt Hc1.out (ab _ _))) m1 Hp.out Hr.out).mono ?_
 rintro e w2 ⟨uh, ub, rfl, n2, hb2⟩
 obtain ⟨A3, c3, A4, c4, rfl, rfl⟩ := dL n2
 have hb2' := bt (ab w1 _) hb2
 clear k0 k1 k2 l0 l1 l2 l3
 obtain ⟨k0, k1, k2, _⟩ := aN (ac hb2' E0.out)
 obtain ⟨l0, l1, l2, l3, _⟩ := bh (ac hb2' E1.out)
 obtain ⟨q0, q1, q2, qf⟩ := aN (ac hb2' E2.out)
 obtain ⟨o0, o1, o2, of⟩ := aN (ac hb2 (heap_alloc_new w1 _))
 have qf0 := qf 0; have qf1 := qf 1; have qf2 := qf 2
 have of0 := of 0; have of1 := of 1; have of2 := of 2
 have s2 : w1.heap.size < w2.heap.size := (Array.getElem?_eq_some_iff.1 (ac hb2 (heap_alloc_new w1 _))).1
 have s2a : w.heap.size < w2.heap.size := by omega
 have s2b : w.heap.size + 1 + 1 < w2.heap.size := by omega
 have s2c : w.heap.size + 1 < w2.heap.size := by omega
 have Hc2 := hid (bt Hc1.out hb2')
 have N2 := hid (N1.out.go hb2' (Nat.le_refl _))
 have S2 := hid (fO (H1.out _ Hc1.out) hb2')
 have Hq := hid hb2
 have e6 := ac hb2 (heap_alloc_new w1 (.cells #[.int .i64 m.sec, .slice A1 m.seen.length c1, .slice A2 m.pool.length c2] 70))
 simp only [World.size_alloc] at n2
 obtain ⟨G, F, t1⟩ := TkS.of (P := fun b => w.heap.size + 1 + 1 + 1 ≤ b ∧ b ≠ w1.heap.size ∧ b ≠ w2.heap.size) (C := w1.heap.size + 1) N1.out hb2' n2 (Nat.le_succ _) (fun b _ _ => by omega) (fun b _ _ => by omega)
 have E6 := hid (ac (ab w2 (.cells #[.int .i64 y.kind, .int .i64 y.next, .int .i64 y.pk.el, .slice A3 y.pk.hd.length c3, .int .i64 y.pk.tag, .slice A4 y.pk.bd.length c4] 144)) e6)
 have E8 := hid (heap_alloc_new w2 (.cells #[.int .i64 y.kind, .int .i64 y.next, .int .i64 y.pk.el, .slice A3 y.pk.hd.length c3, .int .i64 y.pk.tag, .slice A4 y.pk.bd.length c4] 144))
 have ER := hid (ac (ab w2 (.cells #[.int .i64 y.kind, .int .i64 y.next, .int .i64 y.pk.el, .slice A3 y.pk.hd.length c3, .int .i64 y.pk.tag, .slice A4 y.pk.bd.length c4] 144)) (ac hb2' E2.out))
 have T1 := hid (t1.go (ab w2 (.cells #[.int .i64 y.kind, .int .i64 y.next, .int .i64 y.pk.el, .slice A3 y.pk.hd.length c3, .int .i64 y.pk.tag, .slice A4 y.pk.bd.length c4] 144)))
 have HC := hid (bt Hc2.out (ab w2 (.cells #[.int .i64 y.kind, .int .i64 y.next, .int .i64 y.pk.el, .slice A3 y.pk.hd.length c3, .int .i64 y.pk.tag, .slice A4 y.pk.bd.length c4] 144)))
 clear hb2 hb2' qf of n2 t1 e6
 obtain ⟨i0, hi, hz0, hz1, hz2⟩ := info_parts bi
 obtain ⟨j0, gi, gz0, gz1, gz2⟩ := info_parts mu
 have sz2 := hid (show w2.heap.size + 1 = (w2.alloc (.cells #[.int .i64 y.kind, .int .i64 y.next, .int .i64 y.pk.el, .slice A3 y.pk.hd.length c3, .int .i64 y.pk.tag, .slice A4 y.pk.bd.length c4] 144)).heap.size by simp)
 have hPn : ∀ n, w2.heap.size < n → (fun b => w.heap.size + 1 + 1 + 1 ≤ b ∧ b ≠ w1.heap.size ∧ b ≠ w2.heap.size) n := fun n hn => by dsimp only; omega
 have HPn := hid hPn
 have lA := hid m2
 clear hPn
 go_wp2_with (first
  | (go_at_call 224; refine (dN _ _ _ m1 p1).mono ?_; rintro e w' ⟨rfl, rfl⟩)
  | (go_at_call 166; refine (ey _ m.seen _ _ (S2.out.go (ab _ _))).mono ?_; rw [hdin]; rintro e w' ⟨rfl, rfl⟩)
  | (at_builtin; go_loud (refine ay rfl (.tmp 56) (.tmp 58) 67 rfl af aj (B := 0) Tryz.underlying67 hi hz0 hz1 hz2 rfl (by decide) (by decide) (v := .slice A1 m.seen.length c1) rfl (T1.out.hu.go (ab _ _)) (some ⟨w2.heap.size + 1, 0, none⟩) 1 1 rfl (jf (oI (B := 0) (ao m.sec p.el) _ sz2.out (Nat.zero_le _))) ?_ ?_ ?_; (simp; have := lA.out; omega); (simp); intro v5 w5 ho5 hg5 hv5; have t5 := (T1.out.go (ab _ (.cells #[.int .i64 (ao m.sec p.el)] 3))).seen' ho5 hg5 hv5 (HPn.out _ (by simp; omega)); obtain ⟨A5, c5, rfl, _, _⟩ := ho5.formN (n := m.seen.length + 1) (by simp); have e65 := aX hg5 (ac (ab _ _) E6.out) (T1.out.off (fun h => by have h1 := h.1; have h2 := h.2.1; have h3 := h.2.2; omega)).1; have e85 := aX hg5 (ac (ab _ _) E8.out) (T1.out.off (fun h => by have h1 := h.1; have h2 := h.2.1; have h3 := h.2.2; omega)).1; have eR5 := aX hg5 (ac (ab _ _) ER.out) (T1.out.off (fun h => by have h1 := h.1; have h2 := h.2.1; have h3 := h.2.2; omega)).1; obtain ⟨k0, k1, k2, kf⟩ := aN e65; have kf1 := kf 1; have kf2 := kf 2; obtain ⟨o0, o1, o2, o3, o4, o5, _⟩ := aC e85; have sz5 := hg5.size; simp only [World.size_alloc] at sz5; have T5 := hid t5; have ER5 := hid eR5; have E65 := hid e65; have BG5 := hid (((ab (w2.alloc (.cells #[.int .i64 y.kind, .int .i64 y.next, .int .i64 y.pk.el, .slice A3 y.pk.hd.length c3, .int .i64 y.pk.tag, .slice A4 y.pk.bd.length c4] 144)) (.cells #[.int .i64 (ao m.sec p.el)] 3)).mono (by rw [World.size_alloc]; omega : w.heap.size ≤ (w2.alloc (.cells #[.int .i64 y.kind, .int .i64 y.next, .int .i64 y.pk.el, .slice A3 y.pk.hd.length c3, .int .i64 y.pk.tag, .slice A4 y.pk.bd.length c4] 144)).heap.size)).grown hg5 (by simp; omega) (fun q hq => by have := (T1.out.hP q (by simp [hq])).1; omega)); clear t5 ho5 hg5 hv5 e65 e85 eR5 kf))
  | (at_builtin; go_loud (obtain ⟨z1, z2, z3⟩ := (T5.out.set (p := ⟨w1.heap.size, 1, none⟩) (u := .slice A5 (m.seen.length + 1) c5) (fun h => by have h1 := h.1; have h2 := h.2.1; have h3 := h.2.2; dsimp only at h1 h2 h3; omega)).src 144 w5.heap.size (by simp [al]); refine eH rfl (.tmp 62) (.tmp 64) 68 rfl oPl (B := 0) Tryz.underlying68 gi gz0 gz1 gz2 rfl (by decide) (v := .slice A2 m.pool.length c2) rfl z1 (some ⟨w5.heap.size, 0, none⟩) 1 1 rfl z2 z3 ?_ ?_ (Nat.zero_le _) ?_; (simp; omega); (simp [maxLen]; omega); intro v7 w7 ho7 hg7 hv7; have t7 := ((T5.out.set (p := ⟨w1.heap.size, 1, none⟩) (u := .slice A5 (m.seen.length + 1) c5) (fun h => by have h1 := h.1; have h2 := h.2.1; have h3 := h.2.2; dsimp only at h1 h2 h3; omega)).go (ab _ (.cells #[.int .i64 y.kind, .int .i64 y.next, .int .i64 y.pk.el, .slice A3 y.pk.hd.length c3, .int .i64 y.pk.tag, .slice A4 y.pk.bd.length c4] 144))).pool' ho7 hg7 hv7 (HPn.out _ (by simp [al]; omega)) m.sec; have uo := (T5.out.off (n := w1.heap.size) (fun h => by have h1 := h.1; have h2 := h.2.1; have h3 := h.2.2; omega)).2; have ur := (T5.out.off (n := w.heap.size + 1 + 1) (fun h => by have h1 := h.1; have h2 := h.2.1; have h3 := h.2.2; omega)).2; have e67 := aX hg7 (ac (ab _ (.cells #[.int .i64 y.kind, .int .i64 y.next, .int .i64 y.pk.el, .slice A3 y.pk.hd.length c3, .int .i64 y.pk.tag, .slice A4 y.pk.bd.length c4] 144)) (heap_setCell_same w5 w1.heap.size 1 _ _ (.slice A5 (m.seen.length + 1) c5) E65.out)) uo; have eR7 := aX hg7 (ac (ab _ (.cells #[.int .i64 y.kind, .int .i64 y.next, .int .i64 y.pk.el, .slice A3 y.pk.hd.length c3, .int .i64 y.pk.tag, .slice A4 y.pk.bd.length c4] 144)) ((Below.heap_setCell w5 ⟨w1.heap.size, 1, none⟩ (.slice A5 (m.seen.length + 1) c5) (w.heap.size + 1 + 1) (by dsimp only; omega)).trans ER5.out)) ur; obtain ⟨k0, k1, k2, kf⟩ := aN (a := .int .i64 m.sec) (b := .slice A5 (m.seen.length + 1) c5) (c := .slice A2 m.pool.length c2) e67; have kf1 := kf 1; have kf2 := kf 2; obtain ⟨q0, q1, q2, qf⟩ := aN eR7; have qf0 := qf 0; have qf1 := qf 1; have qf2 := qf 2; obtain ⟨A7, c7, e7, _, _⟩ := ho7.form; rw [show (m.pool ++ [y]).length = m.pool.length + 1 by simp] at e7; subst e7; have T7 := hid t7; have BG7 := hid ((((BG5.out.setCell (p := ⟨w1.heap.size, 1, none⟩) (by dsimp only; omega) (.slice A5 (m.seen.length + 1) c5)).alloc (by simp only [al]; omega) (.cells #[.int .i64 y.kind, .int .i64 y.next, .int .i64 y.pk.el, .slice A3 y.pk.hd.length c3, .int .i64 y.pk.tag, .slice A4 y.pk.bd.length c4] 144))).grown hg7 (by simp [al]; omega) (fun q hq => by have := (T5.out.hP q (by simp [hq])).1; omega)); clear t7 ho7 hg7 hv7 e67 eR7 kf qf)))
 have sz7 : w.heap.size + 1 + 1 < w7.heap.size := by have := BG7.out.size; simp only [World.size_alloc] at this; omega
 refine bodyPost_ret (v := .tuple #[.agg #[.int .i64 m.sec, .slice A5 (m.seen.length + 1) c5, .slice A7 (m.pool.length + 1) c7], .int .i64 0]) (by simp [results, Tryz.results188, go_sem, q0, q1, q2, sz7]) rfl ?_
 have key : ∃ K, oMx.E w7 [.int .i64 m.sec, .slice A5 (m.seen.length + 1) c5, .slice A7 (m.pool.length + 1) c7] ⟨m.sec, m.seen ++ [ao m.sec p.el], m.pool ++ [y]⟩ K ∧ K.Nodup ∧ ∀ b ∈ K, w.heap.size + 1 + 1 + 1 ≤ b ∧ b ≠ w1.heap.size ∧ b ≠ w2.heap.size := T7.out
 refine ⟨_, _, rfl, ?_, ?_⟩
 ·obtain ⟨K, h1, h2, h3⟩ := bC (bC (bC (bC key (p := ⟨w1.heap.size, 2, none⟩) (u := .slice A7 (m.pool.length + 1) c7) (by dsimp only; omega)) (p := ⟨w.heap.size + 1 + 1, 0, none⟩) (u := .int .i64 m.sec) (by dsimp only; omega)) (p := ⟨w.heap.size + 1 + 1, 1, none⟩) (u := .slice A5 (m.seen.length + 1) c5) (by dsimp only; omega)) (p := ⟨w.heap.size + 1 + 1, 2, none⟩) (u := .slice A7 (m.pool.length + 1) c7) (by dsimp only; omega)
  exact ⟨K, h1, h2, fun b hb => by have := (h3 b hb).1; omega⟩
 ·repeat (refine Below.setCell ?_ (by dsimp only; omega) _)
  exact HC.out.trans BG7.out
theorem uG (m : Mx) (vs vp : Value) (p : Pk) (vh vb : Value) (w : World) (h1 : SlB af w.heap.size w vs m.seen) (h2 : SlB tPl w.heap.size w vp m.pool) (h3 : SlB af w.heap.size w vh p.hd) (h4 : SlB af w.heap.size w vb p.bd) (hm : mxB m = true) (hp : pkB p = true) :
  Calls Tryz.prog 188 #[.agg #[.int .i64 m.sec, vs, vp], .agg #[.int .i64 p.el, vh, .int .i64 p.tag, vb]] w (gX w (bW m p)) := by
 cases hr : bJ m.sec p with
 | none => exact pD m vs vp p vh vb w h1 h2 h3 h4 hm hp hr
 | some y =>
  by_cases hin : ao m.sec p.el ∈ m.seen
  ·exact qE m vs vp p vh vb w h1 h2 h3 h4 hm hp y hr hin
  ·by_cases hf : 12 ≤ m.seen.length
   ·exact nX m vs vp p vh vb w h1 h2 h3 h4 hm hp y hr hin hf
   ·by_cases hf2 : 5 ≤ m.pool.length
    ·exact nY m vs vp p vh vb w h1 h2 h3 h4 hm hp y hr hin hf hf2
    ·exact pC m vs vp p vh vb w h1 h2 h3 h4 hm hp y hr hin hf hf2
end Go.Proofs.YtfaeojmndaplcaaGreatDoor
