/- Texts that the last file leans on (part 10). -/
import Derived.Test.YtfaeojmndaplcaaGreatDoorM4
import Derived.Test.YtfaeojmndaplcaaGreatDoorM9
set_option linter.unusedVariables false
set_option linter.unusedSimpArgs false
set_option maxHeartbeats 4000000
set_option maxRecDepth 100000
namespace Go.Proofs.YtfaeojmndaplcaaGreatDoor
open Go Go.RowKit
theorem vR (x : Wd) (t : Tr) : (ex x t).net = x.net := by unfold ex; dsimp only; split <;> rfl
theorem xi (x : Wd) : eS x ⟨2, 0, 0, 0⟩ = match x.net with | [] => x | t :: ts => ex (bS x ts) t := by
 unfold eS
 rw [if_neg (by decide)]
 cases h : x.net with
 | nil => rfl
 | cons t ts => simp [h]
theorem mg (n : Nat) {x : Wd} (h : gY x = false) : gZ n x = x := by
 cases n with
 | zero => rfl
 | succ n => unfold gZ; rw [h]; rfl
theorem fG {p : Pk} (h : pkB p = true) : uT p := by
 obtain ⟨_, ⟨a, _⟩, ⟨b, _⟩, _⟩ := aA.1 h
 exact ⟨by unfold gQ; omega, by unfold gQ; omega⟩
theorem xN {x : Pl} (h : plB x = true) : zb x := fG (bc.1 h).2.2
theorem xO {t : Tr} (h : trB t = true) : zd t := fG (cL.1 h).2
theorem xM {m : Mx} (h : mxB m = true) : za m := by
 obtain ⟨_, a, b, _, c⟩ := bN.1 h
 exact ⟨by unfold gQ; omega, by unfold gQ; omega, fun x hx => xN (c x hx)⟩
theorem oM {l : List Mx} (h : bu l = true) : ∀ m ∈ l, mxB m = true := by
 obtain ⟨a, b, c, rfl, ha, hb, hc⟩ := sg.1 h
 intro m hm
 simp at hm
 rcases hm with rfl | rfl | rfl
 ·exact ha.1
 ·exact hb.1
 ·exact hc.1
theorem VD.sm {d : Nat} {x : Wd} (h : VD d x) : ze x :=
 ⟨⟨by have := cP h.mix; unfold gQ; omega, fun m hm => xM (oM h.mix m hm)⟩, by have := h.sn; unfold gQ; omega, ⟨by have := h.nn; unfold gQ; omega, fun t ht => xO (bR.1 h.nt t ht)⟩, by have := h.gl; unfold gQ; omega⟩
theorem uT.le {p : Pk} (h : uT p) : p.hd.length ≤ 1073741824 ∧ p.bd.length ≤ 1073741824 := by
 obtain ⟨a, b⟩ := h
 unfold gQ at a b
 omega
section
variable {α : Type} {T : Ty α} {w w' : World}
theorem Ty.els_mid {cs : List Value} {xs : List α} {F : List Nat} (h : T.els w cs xs F) {i : Nat} {x : α} (hx : xs[i]? = some x) : ∃ c1 c c2 F1 G F2, cs = c1 ++ (c ++ c2) ∧ F = F1 ++ (G ++ F2) ∧ c1.length = i * T.k ∧ T.els w c1 (xs.take i) F1 ∧ T.E w c x G ∧ T.els w c2 (xs.drop (i + 1)) F2 := by
 have hi := (List.getElem?_eq_some_iff.1 hx).1
 obtain ⟨c1, c23, F1, F23, rfl, rfl, hl, h1, h2⟩ := Ty.els_cut h i (by omega)
 rw [dd hx] at h2
 obtain ⟨c, c2, G, F2, rfl, rfl, h3, h4⟩ := h2
 exact ⟨c1, c, c2, F1, G, F2, rfl, rfl, hl, h1, h3, h4⟩
theorem Ty.els_join {c1 c c2 : List Value} {F1 G F2 : List Nat} {xs : List α} {i : Nat} {x' : α} (hi : i < xs.length) (h1 : T.els w c1 (xs.take i) F1) (h2 : T.E w c x' G) (h3 : T.els w c2 (xs.drop (i + 1)) F2) : T.els w (c1 ++ (c ++ c2)) (xs.set i x') (F1 ++ (G ++ F2)) := by
 have e : xs.set i x' = xs.take i ++ ([x'] ++ xs.drop (i + 1)) := by rw [List.set_eq_take_append_cons_drop, if_pos hi]; rfl
 rw [e]
 exact Ty.els_append h1 (Ty.els_append (Ty.els_one h2) h3)
theorem Own.put {e B g n c i : Nat} {xs : List α} {G : List Nat} {x' : α} {cx : List Value} {F' : List Nat} (h : Own T e B w (.slice (some ⟨g, 0, none⟩) n c) xs G) (hi : i < xs.length) (hx : T.E w cx x' F') (hg : g ∉ F') :
  ∃ F1 F0 F2, G = F1 ++ (F0 ++ F2) ∧ Own T e B (ei w g (i * T.k) cx) (.slice (some ⟨g, 0, none⟩) n c) (xs.set i x') (F1 ++ (F' ++ F2)) := by
 obtain ⟨A0, c0, e0, _⟩ := h.form
 injection e0 with e1 e2 e3; subst e2 e3
 obtain ⟨cs, h1, h2, h3⟩ := h
 obtain ⟨x, hx0⟩ := ai hi
 obtain ⟨c1, cm, c2, F1, F0, F2, rfl, rfl, hl, k1, k2, k3⟩ := Ty.els_mid h2 hx0
 have hgG := h3 g rfl
 simp only [List.mem_append, not_or] at hgG
 have bl : ∀ b, b ≠ g → (ei w g (i * T.k) cx).heap[b]? = w.heap[b]? := fun b hb => fN w g _ cx b hb
 refine ⟨F1, F0, F2, rfl, c1 ++ (cx ++ c2), ?_, ?_, ?_⟩
 ·have := eV (i * T.k) cx h1
  rw [← hl, lD _ _ _ _ (by rw [T.len k2, T.len hx]), hl] at this
  rw [List.length_set]; exact this
 ·exact Ty.els_join hi (Ty.els_keep k1 (fun b hb => bl b (fun e => hgG.1 (e ▸ hb)))) (T.keep hx (fun b hb => bl b (fun e => hg (e ▸ hb)))) (Ty.els_keep k3 (fun b hb => bl b (fun e => hgG.2.2 (e ▸ hb))))
 ·intro b hb
  simp [Value.ownBlock] at hb
  subst hb
  simp only [List.mem_append, not_or]
  exact ⟨hgG.1, hg, hgG.2.2⟩
theorem Own.inner {e B g n c i : Nat} {xs : List α} {G : List Nat} {x : α} (h : Own T e B w (.slice (some ⟨g, 0, none⟩) n c) xs G) (hx : xs[i]? = some x) (hnd : G.Nodup) :
  ∃ F1 F0 F2 cx, G = F1 ++ (F0 ++ F2) ∧ T.E w cx x F0 ∧ (∀ j u, cx[j]? = some u → w.cell? ⟨g, i * T.k + j, none⟩ = some u) ∧ ∀ (w' : World) x', T.E w' cx x' F0 → (∀ b, b < w.heap.size → b ∉ F0 → w'.heap[b]? = w.heap[b]?) → Own T e B w' (.slice (some ⟨g, 0, none⟩) n c) (xs.set i x') G := by
 obtain ⟨A0, c0, e0, _⟩ := h.form
 injection e0 with e1 e2 e3; subst e2 e3
 have hi := (List.getElem?_eq_some_iff.1 hx).1
 have hgw := (h.top g rfl).2
 obtain ⟨cs, h1, h2, h3⟩ := h
 obtain ⟨c1, cm, c2, F1, F0, F2, rfl, rfl, hl, k1, k2, k3⟩ := Ty.els_mid h2 hx
 have hgG := h3 g rfl
 have hgG' := hgG
 simp only [List.mem_append, not_or] at hgG'
 obtain ⟨_, n2, d1⟩ := List.nodup_append.1 hnd
 obtain ⟨_, _, d2⟩ := List.nodup_append.1 n2
 refine ⟨F1, F0, F2, cm, rfl, k2, fun j u hj => ?_, fun w' x' hE hk => ⟨c1 ++ (cm ++ c2), ?_, ?_, h3⟩⟩
 ·have hj' : (c1 ++ (cm ++ c2))[c1.length + j]? = some u := by
   have hjl := (List.getElem?_eq_some_iff.1 hj).1
   rw [List.getElem?_append_right (by omega), Nat.add_sub_cancel_left, List.getElem?_append_left hjl]; exact hj
  have hl' := (List.getElem?_eq_some_iff.1 hj').1
  rw [← hl, h1.cellAt (c1.length + j) (by rw [h1.1] at hl'; exact hl')]
  exact hj'
 ·rw [List.length_set]
  exact kW h1 (fun b hb => by simp [Value.ownBlock] at hb; subst hb; exact hk _ hgw hgG'.2.1)
 ·exact Ty.els_join hi (Ty.els_keep k1 (fun b hb => hk b (Ty.els_lt k1 b hb) (fun hm => d1 b hb b (List.mem_append_left _ hm) rfl))) hE (Ty.els_keep k3 (fun b hb => hk b (Ty.els_lt k3 b hb) (fun hm => d2 b hm b hb rfl)))
theorem qQ {e n0 s8 : Nat} {v v' : Value} {ys : List α} {G F : List Nat} (ho : Own T e 0 w' v' ys (G ++ F)) (hv : v'.ownBlock = v.ownBlock ∨ v'.ownBlock = some s8) (hn : (v.ownBlock.toList ++ G).Nodup) (hF : F.Nodup) (hlt : ∀ b ∈ v.ownBlock.toList ++ G, b < n0) (hFn : ∀ b ∈ F, n0 ≤ b ∧ b < s8) (hn0 : n0 ≤ s8) :
  (T.own e).E w' [v'] ys (v'.ownBlock.toList ++ (G ++ F)) ∧ (v'.ownBlock.toList ++ (G ++ F)).Nodup ∧ ∀ b ∈ v'.ownBlock.toList ++ (G ++ F), b ∈ v.ownBlock.toList ++ G ∨ n0 ≤ b := by
 have hb' : ∀ b ∈ v'.ownBlock.toList, b ∈ v.ownBlock.toList ∨ b = s8 := fun b hb => by
  rcases hv with h | h
  ·rw [h] at hb; exact .inl hb
  ·rw [h] at hb; simp at hb; exact .inr hb
 refine ⟨⟨v', G ++ F, rfl, ho, rfl⟩, ?_, fun b hb => ?_⟩
 ·obtain ⟨n1, n2, d⟩ := List.nodup_append.1 hn
  rw [List.nodup_append, List.nodup_append]
  refine ⟨dD _, ⟨n2, hF, fun a ha b hb e => ?_⟩, fun a ha b hb e => ?_⟩
  ·have h1 := hlt a (List.mem_append_right _ ha); have h2 := (hFn b hb).1; omega
  ·subst e
   rcases hb' a ha with h | h
   ·rcases List.mem_append.1 hb with hb | hb
    ·exact d a h a hb rfl
    ·have h1 := hlt a (List.mem_append_left _ h); have h2 := (hFn a hb).1; omega
   ·rcases List.mem_append.1 hb with hb | hb
    ·have h1 := hlt a (List.mem_append_right _ hb); omega
    ·have h2 := (hFn a hb).2; omega
 ·rcases List.mem_append.1 hb with hb | hb
  ·rcases hb' b hb with h | h
   ·exact .inl (List.mem_append_left _ h)
   ·exact .inr (by omega)
  ·rcases List.mem_append.1 hb with hb | hb
   ·exact .inl (List.mem_append_right _ hb)
   ·exact .inr (hFn b hb).1
end
theorem eh {w : World} {g t : Nat} {a0 a1 a2 a3 a4 a5 : Value} (b0 b1 b2 b3 b4 b5 : Value) (h : w.heap[g]? = some (.cells #[a0, a1, a2, a3, a4, a5] t (0, 0))) :
  ((((((w.setCell ⟨g, 0, none⟩ b0).setCell ⟨g, 1, none⟩ b1).setCell ⟨g, 2, none⟩ b2).setCell ⟨g, 3, none⟩ b3).setCell ⟨g, 4, none⟩ b4).setCell ⟨g, 5, none⟩ b5).heap[g]? = some (.cells #[b0, b1, b2, b3, b4, b5] t (0, 0)) := by
 exact aI _ _ (aI _ _ (aI _ _ (aI _ _ (aI _ _ (aI _ _ h)))))
theorem dt {w : World} {g : Nat} {b0 b1 b2 b3 b4 b5 : Value} (b : Nat) (hb : b ≠ g) : ((((((w.setCell ⟨g, 0, none⟩ b0).setCell ⟨g, 1, none⟩ b1).setCell ⟨g, 2, none⟩ b2).setCell ⟨g, 3, none⟩ b3).setCell ⟨g, 4, none⟩ b4).setCell ⟨g, 5, none⟩ b5).heap[b]? = w.heap[b]? := by
 repeat rw [Below.heap_setCell _ _ _ _ hb]
section
variable {B b o : Nat} {w w' : World} {x : Wd} {vm vs vn vg : Value} {Fm Fs Fn Fg : List Nat}
theorem Run.cells {L : List Nat} (h : Run B w b o x vm vs vn vg Fm Fs Fn Fg) (ht : Tch L w w') (hb : b ∉ L) : w'.cell? ⟨b, o, none⟩ = some vm ∧ w'.cell? ⟨b, o + 1, none⟩ = some vs ∧ w'.cell? ⟨b, o + 2, none⟩ = some vn ∧ w'.cell? ⟨b, o + 3, none⟩ = some vg ∧ w'.cell? ⟨b, o + 4, none⟩ = some (.int .i64 x.made) ∧ w'.cell? ⟨b, o + 5, none⟩ = some (.int .i64 x.lost) ∧ b < w'.heap.size ∧ ∀ j, w'.frozen? ⟨b, j, none⟩ = false := by
 have hk := ht.block b h.blk hb
 have cc : ∀ j, w'.cell? ⟨b, j, none⟩ = w.cell? ⟨b, j, none⟩ := fun j => World.cell?_of_block (w := w) hk
 exact ⟨(cc _).trans h.c0, (cc _).trans h.c1, (cc _).trans h.c2, (cc _).trans h.c3, (cc _).trans h.c4, (cc _).trans h.c5, Nat.lt_of_lt_of_le h.blk ht.size, fun j => (World.frozen?_of_block (w := w) hk).trans (h.fz j)⟩
theorem uP {t g a4 b3 b8 : Nat} {z0 z1 z2 z3 z4 z5 v3 v8 : Value} (e14 : w.heap[g]? = some (.cells #[z0, z1, z2, z3, z4, z5] t (0, 0))) (h3 : Own tLt 56 0 w v3 x.sent []) (h8 : Own tLt 56 0 w v8 x.got []) (e4 : w.heap[a4]? = some (.cells #[] 74 (0, 0)))
  (o3 : v3.ownBlock = some b3) (o8 : v8.ownBlock = some b8) (d : g ≠ b3 ∧ g ≠ a4 ∧ g ≠ b8 ∧ b3 ≠ a4 ∧ b3 ≠ b8 ∧ a4 ≠ b8) (l : B ≤ g ∧ B ≤ b3 ∧ B ≤ a4 ∧ B ≤ b8) :
  Run B ((((((w.setCell ⟨g, 0, none⟩ (.slice none 0 0)).setCell ⟨g, 1, none⟩ v3).setCell ⟨g, 2, none⟩ (.slice (some ⟨a4, 0, none⟩) 0 0)).setCell ⟨g, 3, none⟩ v8).setCell ⟨g, 4, none⟩ (.int .i64 x.made)).setCell ⟨g, 5, none⟩ (.int .i64 x.lost)) g 0 ⟨[], x.sent, [], x.got, x.made, x.lost⟩ (.slice none 0 0) v3 (.slice (some ⟨a4, 0, none⟩) 0 0) v8 [] [b3] [a4] [b8] := by
 obtain ⟨d1, d2, d3, d4, d5, d6⟩ := d
 obtain ⟨l1, l2, l3, l4⟩ := l
 obtain ⟨q0, q1, q2, q3, q4, q5, qf⟩ := aC (eh (.slice none 0 0) v3 (.slice (some ⟨a4, 0, none⟩) 0 0) v8 (.int .i64 x.made) (.int .i64 x.lost) e14)
 have kb : ∀ b, b ≠ g → ((((((w.setCell ⟨g, 0, none⟩ (.slice none 0 0)).setCell ⟨g, 1, none⟩ v3).setCell ⟨g, 2, none⟩ (.slice (some ⟨a4, 0, none⟩) 0 0)).setCell ⟨g, 3, none⟩ v8).setCell ⟨g, 4, none⟩ (.int .i64 x.made)).setCell ⟨g, 5, none⟩ (.int .i64 x.lost)).heap[b]? = w.heap[b]? := fun b hb => dt b hb
 generalize ((((((w.setCell ⟨g, 0, none⟩ (.slice none 0 0)).setCell ⟨g, 1, none⟩ v3).setCell ⟨g, 2, none⟩ (.slice (some ⟨a4, 0, none⟩) 0 0)).setCell ⟨g, 3, none⟩ v8).setCell ⟨g, 4, none⟩ (.int .i64 x.made)).setCell ⟨g, 5, none⟩ (.int .i64 x.lost)) = W at *
 have k3 : Own tLt 56 0 W v3 x.sent [] := h3.keep (fun b hb => by rw [o3] at hb; injection hb with hb; subst hb; exact kb _ (Ne.symm d1)) (fun _ h => by cases h)
 have k8 : Own tLt 56 0 W v8 x.got [] := h8.keep (fun b hb => by rw [o8] at hb; injection hb with hb; subst hb; exact kb _ (Ne.symm d3)) (fun _ h => by cases h)
 have k4 : W.heap[a4]? = some (.cells #[] 74 (0, 0)) := (kb _ (Ne.symm d2)).trans e4
 refine ⟨q0, q1, q2, q3, q4, q5, qf, ⟨_, [], rfl, Own.nil _ _, rfl⟩, ⟨v3, [], rfl, k3, by rw [o3]; rfl⟩, ⟨_, [], rfl, eE k4 (Nat.zero_le _), rfl⟩, ⟨v8, [], rfl, k8, by rw [o8]; rfl⟩, ?_, ?_⟩
 ·simp; omega
 ·intro c hc
  simp at hc
  rcases hc with rfl | rfl | rfl | rfl <;> assumption
theorem Run.newA (h : Run B w b o x vm vs vn vg Fm Fs Fn Fg) : aJ oWd B w [vm, vs, vn, vg, .int .i64 x.made, .int .i64 x.lost] x := by
 have hnd := (List.nodup_cons.1 h.nd).2
 refine ⟨Fm ++ (Fs ++ (Fn ++ (Fg ++ ([] ++ [])))), ⟨[vm], _, Fm, _, rfl, rfl, h.em, [vs], _, Fs, _, rfl, rfl, h.es, [vn], _, Fn, _, rfl, rfl, h.en, [vg], _, Fg, _, rfl, rfl, h.eg, [_], [_], [], [], rfl, rfl, ⟨rfl, rfl⟩, ⟨rfl, rfl⟩⟩, ?_, fun c hc => h.lo c ?_⟩
 ·simpa using hnd
 ·simp only [List.append_nil, List.mem_append] at hc
  simp only [List.mem_cons, List.mem_append]
  exact .inr hc
end
theorem Tch.cell {L : List Nat} {W a : World} {b j : Nat} {u : Value} (h : Tch L W a) (hc : W.cell? ⟨b, j, none⟩ = some u) (hb : b ∉ L) : a.cell? ⟨b, j, none⟩ = some u :=
 (World.cell?_of_block (w := W) (h.block b (World.block_lt_of_cell? W _ hc) hb)).trans hc
theorem SlB.tch {α : Type} {T : Ty α} {L : List Nat} {B : Nat} {W a : World} {v : Value} {xs : List α} (h : SlB T B W v xs) (ht : Tch L W a) (hB : B ≤ W.heap.size) (hL : ∀ b ∈ L, B ≤ b) : SlB T a.heap.size a v xs :=
 (h.below (ht.below hB hL) (Nat.le_refl _)).mono (Nat.le_trans hB ht.size)
theorem dw : tLt.isFlat := fc
section
variable {B b s8 : Nat} {w w9 : World} {x : Wd} {vm vs vn vg v' : Value} {Fm Fs Fn Fg G F : List Nat}
theorem Run.cells0 {L : List Nat} {w' : World} (h : Run B w b 0 x vm vs vn vg Fm Fs Fn Fg) (ht : Tch L w w') (hb : b ∉ L) : w'.cell? ⟨b, 0, none⟩ = some vm ∧ w'.cell? ⟨b, 1, none⟩ = some vs ∧ w'.cell? ⟨b, 2, none⟩ = some vn ∧ w'.cell? ⟨b, 3, none⟩ = some vg ∧ w'.cell? ⟨b, 4, none⟩ = some (.int .i64 x.made) ∧ w'.cell? ⟨b, 5, none⟩ = some (.int .i64 x.lost) ∧ b < w'.heap.size ∧ w'.frozen? ⟨b, 0, none⟩ = false ∧ w'.frozen? ⟨b, 1, none⟩ = false ∧ w'.frozen? ⟨b, 2, none⟩ = false ∧ w'.frozen? ⟨b, 3, none⟩ = false ∧ w'.frozen? ⟨b, 4, none⟩ = false ∧ w'.frozen? ⟨b, 5, none⟩ = false := by
 obtain ⟨a0, a1, a2, a3, a4, a5, a6, a7⟩ := h.cells ht hb
 exact ⟨a0, a1, a2, a3, a4, a5, a6, a7 0, a7 1, a7 2, a7 3, a7 4, a7 5⟩
theorem uO {α : Type} {T : Ty α} {e : TypeId} {w : World} {v : Value} {xs : List α} {G : List Nat} (h : (T.own e).E w [v] xs (v.ownBlock.toList ++ G)) : Own T e 0 w v xs G := by
 obtain ⟨u, G', e1, h, e2⟩ := h
 injection e1 with e1; subst e1
 rw [List.append_cancel_left e2]; exact h
theorem aG {α : Type} {T : Ty α} {e : TypeId} {w : World} {v : Value} {xs : List α} {F : List Nat} (h : (T.own e).E w [v] xs F) : ∃ G, F = v.ownBlock.toList ++ G ∧ Own T e 0 w v xs G := by
 obtain ⟨u, G', e1, h, e2⟩ := h
 injection e1 with e1; subst e1
 exact ⟨G', e2, h⟩
theorem Run.pushMix {m : Mx} {o : Nat} (h : Run B w b o x vm vs vn vg (vm.ownBlock.toList ++ G) Fs Fn Fg) (ht : Tch (vm.ownBlock.toList ++ G) w w9) (ho : Own oMx 70 0 w9 v' (x.mixes ++ [m]) (G ++ F)) (hv : v'.ownBlock = vm.ownBlock ∨ v'.ownBlock = some s8) (hF : F.Nodup) (hFn : ∀ c ∈ F, w.heap.size ≤ c ∧ c < s8) (hs : w.heap.size ≤ s8) (hB : B ≤ w.heap.size) :
  Run B (w9.setCell ⟨b, o, none⟩ v') b o ⟨x.mixes ++ [m], x.sent, x.net, x.got, x.made, x.lost⟩ v' vs vn vg (v'.ownBlock.toList ++ (G ++ F)) Fs Fn Fg := by
 have hlt := h.lt
 obtain ⟨a1, a2, a3⟩ := qQ (n0 := w.heap.size) ho hv (List.nodup_append.1 (List.nodup_cons.1 h.nd).2).1 hF (fun c hc => hlt c (by simp only [List.mem_cons, List.mem_append] at hc ⊢; exact .inr (.inl hc))) hFn hs
 refine h.mixes' ht a1 a2 (fun c hc => ?_) (fun c hc => ?_)
 ·rcases a3 c hc with h1 | h1
  ·exact .inl h1
  ·exact .inr (fun hm => by have := hlt c hm; omega)
 ·rcases a3 c hc with h1 | h1
  ·exact h.lo c (by simp only [List.mem_cons, List.mem_append] at h1 ⊢; exact .inr (.inl h1))
  ·omega
theorem Run.pushNet {t : Tr} {o : Nat} (h : Run B w b o x vm vs vn vg Fm Fs (vn.ownBlock.toList ++ G) Fg) (ht : Tch (vn.ownBlock.toList ++ G) w w9) (ho : Own oTr 74 0 w9 v' (x.net ++ [t]) (G ++ F)) (hv : v'.ownBlock = vn.ownBlock ∨ v'.ownBlock = some s8) (hF : F.Nodup) (hFn : ∀ c ∈ F, w.heap.size ≤ c ∧ c < s8) (hs : w.heap.size ≤ s8) (hB : B ≤ w.heap.size) :
  Run B (w9.setCell ⟨b, o + 2, none⟩ v') b o ⟨x.mixes, x.sent, x.net ++ [t], x.got, x.made, x.lost⟩ vm vs v' vg Fm Fs (v'.ownBlock.toList ++ (G ++ F)) Fg := by
 have hlt := h.lt
 obtain ⟨a1, a2, a3⟩ := qQ (n0 := w.heap.size) ho hv (List.nodup_append.1 (List.nodup_append.1 (List.nodup_append.1 (List.nodup_cons.1 h.nd).2).2.1).2.1).1 hF (fun c hc => hlt c (by simp only [List.mem_cons, List.mem_append] at hc ⊢; exact .inr (.inr (.inr (.inl hc))))) hFn hs
 refine h.net' ht a1 a2 (fun c hc => ?_) (fun c hc => ?_)
 ·rcases a3 c hc with h1 | h1
  ·exact .inl h1
  ·exact .inr (fun hm => by have := hlt c hm; omega)
 ·rcases a3 c hc with h1 | h1
  ·exact h.lo c (by simp only [List.mem_cons, List.mem_append] at h1 ⊢; exact .inr (.inr (.inr (.inl h1))))
  ·omega
end
theorem Own.frozen {α : Type} {T : Ty α} {e B g n c : Nat} {w : World} {xs : List α} {G : List Nat} (h : Own T e B w (.slice (some ⟨g, 0, none⟩) n c) xs G) (j : Nat) : w.frozen? ⟨g, j, none⟩ = false := by
 obtain ⟨A0, c0, e0, _⟩ := h.form
 injection e0 with e1 e2 e3; subst e2 e3
 obtain ⟨cs, h1, _⟩ := h
 exact h1.frozenAt j
theorem fE {B : Nat} {w : World} {x : Wd} {um us un ug : Value} (h : aJ oWd B w [um, us, un, ug, .int .i64 x.made, .int .i64 x.lost] x) :
  ∃ Fm Fs Fn Fg, gy.E w [um] x.mixes Fm ∧ cX.E w [us] x.sent Fs ∧ gA.E w [un] x.net Fn ∧ cX.E w [ug] x.got Fg ∧ (Fm ++ (Fs ++ (Fn ++ Fg))).Nodup ∧ ∀ c ∈ Fm ++ (Fs ++ (Fn ++ Fg)), B ≤ c := by
 obtain ⟨F, ⟨c1, c2, F1, F2, e1, e2, hm, c3, c4, F3, F4, e3, e4, hs, c5, c6, F5, F6, e5, e6, hn, c7, c8, F7, F8, e7, e8, hg, c9, c10, F9, F10, e9, e10, ⟨rfl, rfl⟩, rfl, rfl⟩, n1, n2⟩ := h
 obtain ⟨vm, G1, rfl, hm', rfl⟩ := hm
 obtain ⟨vs, G2, rfl, hs', rfl⟩ := hs
 obtain ⟨vn, G3, rfl, hn', rfl⟩ := hn
 obtain ⟨vg, G4, rfl, hg', rfl⟩ := hg
 subst e9 e7 e5 e3
 simp at e1
 obtain ⟨rfl, rfl, rfl, rfl⟩ := e1
 subst e10 e8 e6 e4 e2
 simp only [List.append_nil] at n1 n2
 exact ⟨_, _, _, _, ⟨_, G1, rfl, hm', rfl⟩, ⟨_, G2, rfl, hs', rfl⟩, ⟨_, G3, rfl, hn', rfl⟩, ⟨_, G4, rfl, hg', rfl⟩, n1, n2⟩
theorem cQ {B : Nat} {w : World} {x : Wd} {um us un ug : Value} (h : aJ oWd B w [um, us, un, ug, .int .i64 x.made, .int .i64 x.lost] x) :
  ∃ A1 c1 A2 c2 A3 c3 A4 c4, um = .slice A1 x.mixes.length c1 ∧ us = .slice A2 x.sent.length c2 ∧ un = .slice A3 x.net.length c3 ∧ ug = .slice A4 x.got.length c4 := by
 obtain ⟨_, _, _, _, h1, h2, h3, h4, _⟩ := fE h
 obtain ⟨G1, _, h1⟩ := aG h1
 obtain ⟨G2, _, h2⟩ := aG h2
 obtain ⟨G3, _, h3⟩ := aG h3
 obtain ⟨G4, _, h4⟩ := aG h4
 obtain ⟨A1, c1, e1, _⟩ := h1.form
 obtain ⟨A2, c2, e2, _⟩ := h2.form
 obtain ⟨A3, c3, e3, _⟩ := h3.form
 obtain ⟨A4, c4, e4, _⟩ := h4.form
 exact ⟨_, _, _, _, _, _, _, _, e1, e2, e3, e4⟩
theorem Run.ofNew {B B0 n t : Nat} {w : World} {x : Wd} {um us un ug : Value} (h : aJ oWd B w [um, us, un, ug, .int .i64 x.made, .int .i64 x.lost] x) (hr : w.heap[n]? = some (.cells #[um, us, un, ug, .int .i64 x.made, .int .i64 x.lost] t (0, 0))) (hn : n < B) (hB : B0 ≤ n) :
  ∃ Fm Fs Fn Fg, Run B0 w n 0 x um us un ug Fm Fs Fn Fg ∧ ∀ c ∈ Fm ++ (Fs ++ (Fn ++ Fg)), B ≤ c := by
 obtain ⟨Fm, Fs, Fn, Fg, h1, h2, h3, h4, n1, n2⟩ := fE h
 obtain ⟨q0, q1, q2, q3, q4, q5, qf⟩ := aC hr
 refine ⟨Fm, Fs, Fn, Fg, ⟨q0, q1, q2, q3, q4, q5, qf, h1, h2, h3, h4, List.nodup_cons.2 ⟨fun hm => by have := n2 n hm; omega, n1⟩, fun c hc => ?_⟩, n2⟩
 rcases List.mem_cons.1 hc with rfl | hc
 ·exact hB
 ·have := n2 c hc; omega
section
variable {B b o : Nat} {w w' : World} {x : Wd} {vm vs vn vg : Value} {Fm Fs Fn Fg : List Nat}
theorem Run.rowMix (h : Run B w b o x vm vs vn vg Fm Fs Fn Fg) (ht : Tch Fm w w') {ys : List Mx} {F' : List Nat} (he : gy.E w' [vm] ys F') (hn : F'.Nodup)
  (hs : ∀ c ∈ F', c ∈ Fm ∨ c ∉ b :: (Fm ++ (Fs ++ (Fn ++ Fg)))) (hB : ∀ c ∈ F', B ≤ c) : Run B w' b o ⟨ys, x.sent, x.net, x.got, x.made, x.lost⟩ vm vs vn vg F' Fs Fn Fg := by
 obtain ⟨n1, n2, n3, n4⟩ := h.nb
 obtain ⟨s1, s2, s3⟩ := h.sep
 have hlt := h.lt
 have hnd : (b :: (F' ++ (Fs ++ (Fn ++ Fg)))).Nodup := by
  have := dB (A := [b]) (F := Fm) (F' := F') (C := (Fs ++ Fn ++ Fg)) (by simpa using h.nd) hn (by simpa using hs)
  simpa using this
 have hbb := ht.block b h.blk n1
 have cc : ∀ j, w'.cell? ⟨b, j, none⟩ = w.cell? ⟨b, j, none⟩ := fun j => World.cell?_of_block (w := w) hbb
 have kp : ∀ c ∈ b :: (Fm ++ (Fs ++ (Fn ++ Fg))), c ∉ Fm → w'.heap[c]? = w.heap[c]? := fun c hc h2 => ht.block c (hlt c hc) h2
 refine ⟨(cc _).trans h.c0, (cc _).trans h.c1, (cc _).trans h.c2, (cc _).trans h.c3, (cc _).trans h.c4, (cc _).trans h.c5, fun j => (World.frozen?_of_block (w := w) hbb).trans (h.fz j), he, cX.keep h.es (fun c hc => kp c (by simp [hc]) (fun e => (s1 c e).1 hc)), gA.keep h.en (fun c hc => kp c (by simp [hc]) (fun e => (s1 c e).2.1 hc)), cX.keep h.eg (fun c hc => kp c (by simp [hc]) (fun e => (s1 c e).2.2 hc)), hnd, fun c hc => ?_⟩
 simp only [List.mem_cons, List.mem_append] at hc
 rcases hc with rfl | hc | hc | hc | hc
 ·exact h.lo _ List.mem_cons_self
 ·exact hB c hc
 ·exact h.lo c (by simp [hc])
 ·exact h.lo c (by simp [hc])
 ·exact h.lo c (by simp [hc])
theorem Run.rowNet (h : Run B w b o x vm vs vn vg Fm Fs Fn Fg) (ht : Tch Fn w w') {ys : List Tr} {F' : List Nat} (he : gA.E w' [vn] ys F') (hn : F'.Nodup)
  (hs : ∀ c ∈ F', c ∈ Fn ∨ c ∉ b :: (Fm ++ (Fs ++ (Fn ++ Fg)))) (hB : ∀ c ∈ F', B ≤ c) : Run B w' b o ⟨x.mixes, x.sent, ys, x.got, x.made, x.lost⟩ vm vs vn vg Fm Fs F' Fg := by
 obtain ⟨n1, n2, n3, n4⟩ := h.nb
 obtain ⟨s1, s2, s3⟩ := h.sep
 have hlt := h.lt
 have hnd : (b :: (Fm ++ (Fs ++ (F' ++ Fg)))).Nodup := by
  have := dB (A := (b :: (Fm ++ Fs))) (F := Fn) (F' := F') (C := (Fg)) (by simpa using h.nd) hn (by simpa using hs)
  simpa using this
 have hbb := ht.block b h.blk n3
 have cc : ∀ j, w'.cell? ⟨b, j, none⟩ = w.cell? ⟨b, j, none⟩ := fun j => World.cell?_of_block (w := w) hbb
 have kp : ∀ c ∈ b :: (Fm ++ (Fs ++ (Fn ++ Fg))), c ∉ Fn → w'.heap[c]? = w.heap[c]? := fun c hc h2 => ht.block c (hlt c hc) h2
 refine ⟨(cc _).trans h.c0, (cc _).trans h.c1, (cc _).trans h.c2, (cc _).trans h.c3, (cc _).trans h.c4, (cc _).trans h.c5, fun j => (World.frozen?_of_block (w := w) hbb).trans (h.fz j), gy.keep h.em (fun c hc => kp c (by simp [hc]) ((s1 c hc).2.1)), cX.keep h.es (fun c hc => kp c (by simp [hc]) ((s2 c hc).1)), he, cX.keep h.eg (fun c hc => kp c (by simp [hc]) (fun e => s3 c e hc)), hnd, fun c hc => ?_⟩
 simp only [List.mem_cons, List.mem_append] at hc
 rcases hc with rfl | hc | hc | hc | hc
 ·exact h.lo _ List.mem_cons_self
 ·exact h.lo c (by simp [hc])
 ·exact h.lo c (by simp [hc])
 ·exact hB c hc
 ·exact h.lo c (by simp [hc])
theorem Run.setMix {A : Option Addr} {c k : Nat} {m : Mx} {us up : Value} {F' : List Nat} (h : Run B w b o x (.slice A x.mixes.length c) vs vn vg Fm Fs Fn Fg) (hk : k < x.mixes.length) (he : oMx.E w [.int .i64 m.sec, us, up] m F') (hn : F'.Nodup) (hf : ∀ a ∈ F', B ≤ a ∧ a ∉ b :: (Fm ++ (Fs ++ (Fn ++ Fg)))) :
  ∃ g F2, A = some ⟨g, 0, none⟩ ∧ g ∈ Fm ∧ Run B (((w.setCell ⟨g, k * 3, none⟩ (.int .i64 m.sec)).setCell ⟨g, k * 3 + 1, none⟩ us).setCell ⟨g, k * 3 + 2, none⟩ up) b o (cV x k m) (.slice A x.mixes.length c) vs vn vg F2 Fs Fn Fg ∧ ∀ a ∈ F2, a ∈ Fm ∨ a ∈ F' := by
 obtain ⟨G, rfl, ho⟩ := aG h.em
 obtain ⟨g, rfl⟩ := Own.addr ho (by omega)
 have hgm : g ∈ (Value.slice (some ⟨g, 0, none⟩) x.mixes.length c).ownBlock.toList ++ G := by simp [Value.ownBlock]
 have hg : g ∉ F' := fun hm => (hf g hm).2 (by simp [Value.ownBlock])
 obtain ⟨F1, F0, F2, rfl, hp⟩ := Own.put ho hk he hg
 have hnd0 := (List.nodup_append.1 (List.nodup_cons.1 h.nd).2).1
 refine ⟨g, g :: (F1 ++ (F' ++ F2)), rfl, hgm, ?_, ?_⟩
 ·refine h.rowMix (F' := g :: (F1 ++ (F' ++ F2))) ?_ ⟨_, F1 ++ (F' ++ F2), rfl, hp, by simp [Value.ownBlock]⟩ ?_ (fun a ha => ?_) (fun a ha => ?_)
  ·exact ((((Tch.refl _ w).setCell (.inl hgm) _).setCell (.inl hgm) _).setCell (.inl hgm) _)
  ·have h1 : (([g] ++ F1) ++ (F0 ++ F2)).Nodup := by simpa [Value.ownBlock] using hnd0
   have := dB h1 hn (fun a ha => .inr (fun hm => (hf a ha).2 (by
    simp only [List.mem_cons, List.mem_append, Value.ownBlock, Option.toList] at hm ⊢
    rcases hm with (hm | hm) | hm | hm
    ·simp at hm; subst hm; exact .inr (.inl (.inl (by simp)))
    ·exact .inr (.inl (.inr (.inl hm)))
    ·exact .inr (.inl (.inr (.inr (.inl hm))))
    ·exact .inr (.inl (.inr (.inr (.inr hm)))))))
   simpa using this
  ·simp only [List.mem_cons, List.mem_append] at ha
   rcases ha with rfl | ha | ha | ha
   ·exact .inl hgm
   ·exact .inl (by simp [ha])
   ·exact .inr (hf a ha).2
   ·exact .inl (by simp [ha])
  ·simp only [List.mem_cons, List.mem_append] at ha
   rcases ha with rfl | ha | ha | ha
   ·exact h.lo _ (by simp [Value.ownBlock])
   ·exact h.lo _ (by simp [ha])
   ·exact (hf a ha).1
   ·exact h.lo _ (by simp [ha])
 ·intro a ha
  simp only [List.mem_cons, List.mem_append] at ha
  rcases ha with rfl | ha | ha | ha
  ·exact .inl hgm
  ·exact .inl (by simp [ha])
  ·exact .inr ha
  ·exact .inl (by simp [ha])
theorem Run.wdR {P : Nat → Prop} (h : Run B w b o x vm vs vn vg Fm Fs Fn Fg) (hP : ∀ c ∈ Fm ++ (Fs ++ (Fn ++ Fg)), P c) : WdR P w (.agg #[vm, vs, vn, vg, .int .i64 x.made, .int .i64 x.lost]) x := by
 obtain ⟨F1, ⟨_, e1, g1⟩, s1⟩ := (Ty.le_own wh _).2 h.em
 obtain ⟨F2, ⟨_, e2, g2⟩, s2⟩ := (Ty.le_own (Ty.le_refl tLt) _).2 h.es
 obtain ⟨F3, ⟨_, e3, g3⟩, s3⟩ := (Ty.le_own r8 _).2 h.en
 obtain ⟨F4, ⟨_, e4, g4⟩, s4⟩ := (Ty.le_own (Ty.le_refl tLt) _).2 h.eg
 injection e1 with e1; injection e2 with e2; injection e3 with e3; injection e4 with e4
 subst e1 e2 e3 e4
 exact ⟨_, _, _, _, rfl, ⟨F1, g1, fun c hc => hP c (by simp [s1 c hc])⟩, ⟨F2, g2, fun c hc => hP c (by simp [s2 c hc])⟩, ⟨F3, g3, fun c hc => hP c (by simp [s3 c hc])⟩, ⟨F4, g4, fun c hc => hP c (by simp [s4 c hc])⟩⟩
end
section
variable {α : Type} {T : Ty α} {w : World}
theorem Own.cut3 {e B g n c i : Nat} {xs : List α} {G : List Nat} {x : α} (h : Own T e B w (.slice (some ⟨g, 0, none⟩) n c) xs G) (hx : xs[i]? = some x) :
  ∃ F1 F0 F2, G = F1 ++ (F0 ++ F2) ∧ Own T e B w (.slice (some ⟨g, 0, none⟩) i c) (xs.take i) F1 ∧ (∃ cx, T.E w cx x F0 ∧ ∀ j u, cx[j]? = some u → w.cell? ⟨g, i * T.k + j, none⟩ = some u) ∧
   ∀ (A : Option Addr) (cc : Nat), (i + 1 < xs.length → A = some ⟨g, (i + 1) * T.k, none⟩) → xs.length - (i + 1) ≤ cc → cc ≤ maxLen → ∃ F, Sl T w (.slice A (xs.length - (i + 1)) cc) (xs.drop (i + 1)) F ∧ F.tail = F2 := by
 obtain ⟨A0, c0, e0, hc1, hc2, _⟩ := h.form
 injection e0 with e1 e2 e3; subst e2 e3
 have hi := (List.getElem?_eq_some_iff.1 hx).1
 have hgw := (h.top g rfl).2
 obtain ⟨cs, h1, h2, h3⟩ := h
 obtain ⟨c1, cm, c2, F1, F0, F2, rfl, rfl, hl, k1, k2, k3⟩ := Ty.els_mid h2 hx
 have hgG := h3 g rfl
 simp only [List.mem_append, not_or] at hgG
 have hlt : (xs.take i).length = i := by simp; omega
 have hcell : ∀ j u, (c1 ++ (cm ++ c2))[j]? = some u → w.cell? ⟨g, j, none⟩ = some u := fun j u hj => by
  have hl' := (List.getElem?_eq_some_iff.1 hj).1
  rw [h1.cellAt j (by rw [h1.1] at hl'; exact hl')]; exact hj
 refine ⟨F1, F0, F2, rfl, ⟨c1, ⟨by rw [hlt]; exact hl, ?_⟩, k1, fun b hb => by simp [Value.ownBlock] at hb; subst hb; exact hgG.1⟩, ⟨cm, k2, fun j u hj => ?_⟩, fun A cc hA hcc hcm => ?_⟩
 ·rcases h1.2 with ⟨h, _⟩ | ⟨g', cap, cur, e1, hB, hg, hnc, hcm, hsz, htk⟩
  ·cases h
  ·injection e1 with e1 e2 e3
   injection e1 with e1; injection e1 with e1
   subst e1 e3
   refine .inr ⟨g, c, cur, by rw [hlt], hB, hg, by rw [hlt]; omega, hcm, hsz, ?_⟩
   rw [hlt]
   have := congrArg (List.take (i * T.k)) htk
   rw [List.take_take, Nat.min_eq_left (Nat.mul_le_mul_right _ (by omega)), ← hl, List.take_left] at this
   rw [← hl]; exact this
 ·rw [← hl]
  refine hcell _ _ ?_
  have hjl := (List.getElem?_eq_some_iff.1 hj).1
  rw [List.getElem?_append_right (by omega), Nat.add_sub_cancel_left, List.getElem?_append_left hjl]; exact hj
 ·have hlen : (xs.drop (i + 1)).length = xs.length - (i + 1) := by simp
  by_cases h0 : xs.length ≤ i + 1
  ·have hd : xs.drop (i + 1) = [] := List.drop_eq_nil_of_le h0
   rw [hd] at k3
   obtain ⟨_, rfl⟩ := k3
   exact ⟨[], ⟨_, cc, [], by rw [hlen], by omega, hcm, .inl ⟨hd, rfl⟩⟩, rfl⟩
  ·obtain rfl := hA (by omega)
   refine ⟨g :: F2, ⟨_, cc, c2, by rw [hlen], by omega, hcm, .inr ⟨g, (i + 1) * T.k, F2, rfl, rfl, fun e => h0 (by simpa using e), hgw, k3, fun j u hj => ?_⟩⟩, rfl⟩
   have hl2 : (i + 1) * T.k = c1.length + cm.length := by rw [T.len k2, hl, Nat.succ_mul]
   rw [hl2]
   refine hcell _ _ ?_
   rw [List.getElem?_append_right (by omega), List.getElem?_append_right (by omega)]
   rw [show c1.length + cm.length + j - c1.length - cm.length = j from by omega]; exact hj
theorem Own.cell {e B g n c i j : Nat} {xs : List α} {G : List Nat} {x : α} {u : Value} (h : Own T e B w (.slice (some ⟨g, 0, none⟩) n c) xs G) (hx : xs[i]? = some x) (hj : j < T.k) :
  ∃ cx F0, T.E w cx x F0 ∧ (∀ b ∈ F0, b ∈ G) ∧ (∀ k v, cx[k]? = some v → w.cell? ⟨g, i * T.k + k, none⟩ = some v) ∧ ∀ x', (∀ w', T.E w' cx x F0 → T.E w' (cx.set j u) x' F0) → Own T e B (w.setCell ⟨g, i * T.k + j, none⟩ u) (.slice (some ⟨g, 0, none⟩) n c) (xs.set i x') G := by
 obtain ⟨A0, c0, e0, hc1, hc2, _⟩ := h.form
 injection e0 with e1 e2 e3; subst e2 e3
 have hi := (List.getElem?_eq_some_iff.1 hx).1
 obtain ⟨cs, h1, h2, h3⟩ := h
 obtain ⟨c1, cm, c2, F1, F0, F2, rfl, rfl, hl, k1, k2, k3⟩ := Ty.els_mid h2 hx
 have hgG := h3 g rfl
 have hgG' := hgG
 simp only [List.mem_append, not_or] at hgG
 have hcl := T.len k2
 have bl : ∀ b, b ≠ g → (w.setCell ⟨g, i * T.k + j, none⟩ u).heap[b]? = w.heap[b]? := fun b hb => Below.heap_setCell _ _ _ _ hb
 refine ⟨cm, F0, k2, fun b hb => by simp [hb], fun k v hk => ?_, fun x' hE => ?_⟩
 ·have hk' : (c1 ++ (cm ++ c2))[c1.length + k]? = some v := by
   have hkl := (List.getElem?_eq_some_iff.1 hk).1
   rw [List.getElem?_append_right (by omega), Nat.add_sub_cancel_left, List.getElem?_append_left hkl]; exact hk
  have hl' := (List.getElem?_eq_some_iff.1 hk').1
  rw [← hl, h1.cellAt (c1.length + k) (by rw [h1.1] at hl'; exact hl')]
  exact hk'
 ·have hs := lM h1 (i * T.k + j) u
  rw [← hl, List.set_append_right _ _ (by omega), Nat.add_sub_cancel_left, List.set_append_left _ _ (by omega)] at hs
  rw [← hl]
  refine ⟨c1 ++ (cm.set j u ++ c2), by rw [List.length_set]; exact hs, ?_, h3⟩
  rw [hl]
  exact Ty.els_join hi (Ty.els_keep k1 (fun b hb => bl b (fun e => hgG.1 (e ▸ hb)))) (hE _ (T.keep k2 (fun b hb => bl b (fun e => hgG.2.1 (e ▸ hb))))) (Ty.els_keep k3 (fun b hb => bl b (fun e => hgG.2.2 (e ▸ hb))))
end
theorem tl {w : World} {cs : List Value} {t : Tr} {F : List Nat} (h : oTr.E w cs t F) : ∃ vh vb Fh Fb, cs = [.int .i64 t.mix, .int .i64 t.pk.el, vh, .int .i64 t.pk.tag, vb, .bool t.ch] ∧ F = Fh ++ Fb ∧ ee.E w [vh] t.pk.hd Fh ∧ ee.E w [vb] t.pk.bd Fb := by
 obtain ⟨c1, c2, F1, F2, rfl, rfl, ⟨rfl, rfl⟩, c3, c4, F3, F4, rfl, rfl, ⟨c5, c6, F5, F6, rfl, rfl, ⟨rfl, rfl⟩, c7, c8, F7, F8, rfl, rfl, ⟨vh, Gh, rfl, hh, rfl⟩, c9, c10, F9, F10, rfl, rfl, ⟨rfl, rfl⟩, ⟨vb, Gb, rfl, hb, rfl⟩⟩, ⟨rfl, rfl⟩⟩ := h
 exact ⟨vh, vb, _, _, rfl, by simp, ⟨vh, Gh, rfl, hh, rfl⟩, ⟨vb, Gb, rfl, hb, rfl⟩⟩
theorem sp {w : World} {t : Tr} {vh vb : Value} {Fh Fb : List Nat} (h1 : ee.E w [vh] t.pk.hd Fh) (h2 : ee.E w [vb] t.pk.bd Fb) : oTr.E w [.int .i64 t.mix, .int .i64 t.pk.el, vh, .int .i64 t.pk.tag, vb, .bool t.ch] t (Fh ++ Fb) :=
 ⟨[_], _, [], _, rfl, rfl, ⟨rfl, rfl⟩, [_, _, _, _], [_], _, [], rfl, by simp, ⟨[_], _, [], _, rfl, rfl, ⟨rfl, rfl⟩, [_], _, Fh, _, rfl, rfl, h1, [_], [_], [], Fb, rfl, rfl, ⟨rfl, rfl⟩, h2⟩, ⟨rfl, rfl⟩⟩
def chT (t : Tr) (k : Nat) (n : Int) : Tr := ⟨t.mix, ⟨t.pk.el, t.pk.hd.set k n, t.pk.tag, t.pk.bd⟩, true⟩
theorem Run.chg {B b o : Nat} {w : World} {x : Wd} {vm vs vg : Value} {A : Option Addr} {c : Nat} {Fm Fs Fn Fg : List Nat} (h : Run B w b o x vm vs (.slice A x.net.length c) vg Fm Fs Fn Fg) {i : Nat} {t : Tr} (hi : x.net[i]? = some t) {k : Nat} {nk : Int} (hk : t.pk.hd[k]? = some nk) :
  ∃ g gh cc vb, A = some ⟨g, 0, none⟩ ∧ g ∈ Fn ∧ gh ∈ Fn ∧ g ≠ gh ∧ w.cell? ⟨g, i * 6, none⟩ = some (.int .i64 t.mix) ∧ w.cell? ⟨g, i * 6 + 1, none⟩ = some (.int .i64 t.pk.el) ∧ w.cell? ⟨g, i * 6 + 2, none⟩ = some (.slice (some ⟨gh, 0, none⟩) t.pk.hd.length cc) ∧ w.cell? ⟨g, i * 6 + 3, none⟩ = some (.int .i64 t.pk.tag) ∧ w.cell? ⟨g, i * 6 + 4, none⟩ = some vb ∧ w.cell? ⟨g, i * 6 + 5, none⟩ = some (.bool t.ch) ∧
   w.cell? ⟨gh, k, none⟩ = some (.int .i64 nk) ∧ (∀ j, w.frozen? ⟨gh, j, none⟩ = false) ∧ (∀ j, w.frozen? ⟨g, j, none⟩ = false) ∧ t.pk.hd.length ≤ cc ∧
   ∀ n, Run B ((w.setCell ⟨gh, k, none⟩ (.int .i64 n)).setCell ⟨g, i * 6 + 5, none⟩ (.bool true)) b o (bS x (x.net.set i (chT t k n))) vm vs (.slice A x.net.length c) vg Fm Fs Fn Fg := by
 have hil := (List.getElem?_eq_some_iff.1 hi).1
 have hkl := (List.getElem?_eq_some_iff.1 hk).1
 obtain ⟨G, rfl, ho⟩ := aG h.en
 obtain ⟨g, rfl⟩ := Own.addr ho (by omega)
 have hnd := (List.nodup_append.1 (List.nodup_append.1 (List.nodup_append.1 (List.nodup_cons.1 h.nd).2).2.1).2.1).1
 have hnG := (List.nodup_append.1 hnd).2.1
 have hgG := ho.choose_spec.2.2 g rfl
 have hgm : g ∈ (Value.slice (some ⟨g, 0, none⟩) x.net.length c).ownBlock.toList ++ G := by simp [Value.ownBlock]
 obtain ⟨F1, F0, F2, cx, hG, hE, hc, hin⟩ := Own.inner ho hi hnG
 obtain ⟨vh, vb, Fh, Fb, rfl, rfl, hh, hb⟩ := tl hE
 obtain ⟨Gh, rfl, oh⟩ := aG hh
 obtain rfl := au aj oh
 obtain ⟨gh, rfl'⟩ : ∃ gh, ∃ cc, vh = .slice (some ⟨gh, 0, none⟩) t.pk.hd.length cc ∧ t.pk.hd.length ≤ cc := by
  obtain ⟨Ah, ch, rfl, hle, _⟩ := oh.form
  obtain ⟨gh, rfl⟩ := Own.addr oh (by omega)
  exact ⟨gh, ch, rfl, hle⟩
 obtain ⟨cc, rfl, hcc⟩ := rfl'
 have hghG : gh ∈ G := by rw [hG]; simp [Value.ownBlock]
 have hne : g ≠ gh := fun e => hgG (e ▸ hghG)
 have hd0 : (F1 ++ ((Value.slice (some ⟨gh, 0, none⟩) t.pk.hd.length cc).ownBlock.toList ++ [] ++ Fb ++ F2)).Nodup := hG ▸ hnG
 have hghb : gh ∉ Fb := fun hm => by
  have h1 := (List.nodup_append.1 hd0).2.1
  have h2 := (List.nodup_append.1 h1).1
  exact (List.nodup_append.1 h2).2.2 gh (by simp [Value.ownBlock]) gh hm rfl
 obtain ⟨gh', e1, _, _, hck, hfk⟩ := oh.int hk
 injection e1 with e1; injection e1 with e1; subst e1
 have hc' : ∀ j u, ([.int .i64 t.mix, .int .i64 t.pk.el, .slice (some ⟨gh, 0, none⟩) t.pk.hd.length cc, .int .i64 t.pk.tag, vb, .bool t.ch] : List Value)[j]? = some u → w.cell? ⟨g, i * 6 + j, none⟩ = some u := hc
 refine ⟨g, gh, cc, vb, rfl, hgm, List.mem_append_right _ hghG, hne, hc' 0 _ rfl, hc' 1 _ rfl, hc' 2 _ rfl, hc' 3 _ rfl, hc' 4 _ rfl, hc' 5 _ rfl, hck, fun j => oh.frozen j, fun j => ho.frozen j, hcc, fun n => ?_⟩
 have ob : ∀ b', b' ≠ gh → (w.setCell ⟨gh, k, none⟩ (.int .i64 n)).heap[b']? = w.heap[b']? := fun b' hb' => Below.heap_setCell _ _ _ _ hb'
 have hb1 : ee.E (w.setCell ⟨gh, k, none⟩ (.int .i64 n)) [vb] t.pk.bd Fb := ee.keep hb (fun b' hm => ob b' (fun e => hghb (e ▸ hm)))
 have hi1 := oh.int_set (i := k) n
 have ho1 := hin (w.setCell ⟨gh, k, none⟩ (.int .i64 n)) ⟨t.mix, ⟨t.pk.el, t.pk.hd.set k n, t.pk.tag, t.pk.bd⟩, t.ch⟩
  (sp (t := ⟨t.mix, ⟨t.pk.el, t.pk.hd.set k n, t.pk.tag, t.pk.bd⟩, t.ch⟩) ⟨_, [], rfl, hi1, rfl⟩ hb1) (fun b' _ hm => ob b' (fun e => hm (by subst e; simp [Value.ownBlock])))
 have hx1 : (x.net.set i ⟨t.mix, ⟨t.pk.el, t.pk.hd.set k n, t.pk.tag, t.pk.bd⟩, t.ch⟩)[i]? = some ⟨t.mix, ⟨t.pk.el, t.pk.hd.set k n, t.pk.tag, t.pk.bd⟩, t.ch⟩ := by simp [hil]
 obtain ⟨cx2, F02, hE2, _, _, hs2⟩ := Own.cell (j := 5) (u := .bool true) ho1 hx1 (by decide)
 have ho2 := hs2 (chT t k n) (fun w' hw => by
  obtain ⟨vh2, vb2, Fh2, Fb2, rfl, rfl, q1, q2⟩ := tl hw
  exact sp (t := chT t k n) q1 q2)
 rw [List.set_set] at ho2
 refine h.rowNet (ys := x.net.set i (chT t k n)) (F' := (Value.slice (some ⟨g, 0, none⟩) x.net.length c).ownBlock.toList ++ G) ?_ ⟨_, G, rfl, ho2, rfl⟩ hnd (fun a ha => .inl ha) (fun a ha => h.lo a (by simp only [List.mem_cons, List.mem_append] at ha ⊢; exact .inr (.inr (.inr (.inl ha)))))
 exact ((Tch.refl _ w).setCell (.inl (List.mem_append_right _ hghG)) _).setCell (.inl hgm) _
end Go.Proofs.YtfaeojmndaplcaaGreatDoor
