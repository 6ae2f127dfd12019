/- Texts that the last file leans on (part 12). -/
import Derived.Deep.DeepCutAuto
import Derived.Test.YtfaeojmndaplcaaGreatDoorM10
import Derived.Test.YtfaeojmndaplcaaGreatDoorM7
set_option linter.unusedVariables false
set_option linter.unusedSimpArgs false
set_option maxHeartbeats 4000000
set_option maxRecDepth 100000
namespace Go.Proofs.YtfaeojmndaplcaaGreatDoor
open Go Go.RowKit
section
variable {P : Program} {ops : Array Oper} {Q : Exit → Act → World → Prop} {md : Region.Mode} {S : World → Prop}
def unl (listed : Array Bool) : Nat := listed.toList.countP (fun b => !b)
theorem tC {listed : Array Bool} {i : Nat} (h : listed.getD i true = false) : unl (listed.setIfInBounds i true) + 1 = unl listed := by
 have hi : i < listed.size := Nat.lt_of_not_le fun hn => by simp [Array.getD, Nat.not_lt.2 hn] at h
 have hv : listed.toList[i]'(by simpa using hi) = false := by simpa [Array.getD, hi] using h
 have hm : 0 < listed.toList.countP (fun b => !b) := List.countP_pos_iff.2 ⟨_, List.getElem_mem _, by rw [hv]; rfl⟩
 unfold unl
 rw [Array.toList_setIfInBounds, List.countP_set (by simpa using hi), hv]
 simp only [Bool.not_false, if_true, Bool.not_true, Bool.false_eq_true, if_false, Nat.add_zero]
 omega
theorem xU {J : Array Bool → Act → World → Prop}
  (hs : ∀ listed a w, J listed a w → (Region.ready md ops listed = [] → Q .normal a w) ∧ ∀ i ∈ Region.ready md ops listed, wpOp P ops Q i (fun a' w' => (eK md ops i = false → S w') ∧ J (listed.setIfInBounds i true) a' w') a w) :
  ∀ fuel listed a w, J listed a w → unl listed ≤ fuel → wpT P md ops Q S fuel listed a w := by
 intro fuel
 induction fuel with
 | zero =>
  intro listed a w hJ hn
  have hr : Region.ready md ops listed = [] := List.eq_nil_iff_forall_not_mem.2 fun i hi => by
   have := tC (mem_ready.1 hi).1
   omega
  exact ⟨hr, (hs _ _ _ hJ).1 hr⟩
 | succ fuel ih =>
  intro listed a w hJ hn
  refine ⟨(hs _ _ _ hJ).1, fun i hi => wpOp_mono (fun a' w' h => ⟨h.1, ih _ _ _ h.2 ?_⟩) ((hs _ _ _ hJ).2 i hi)⟩
  have := tC (mem_ready.1 hi).1
  omega
def pU : Nat → List (List Bool)
 | 0 => [[]]
 | n + 1 => (pU n).flatMap fun l => [false :: l, true :: l]
theorem oK : ∀ l : List Bool, l ∈ pU l.length
 | [] => by simp [pU]
 | b :: l => by
  simp only [pU, List.length_cons, List.mem_flatMap]
  exact ⟨l, oK l, by cases b <;> simp⟩
def onB (c : Bool) (k : Nat) : List Nat := if c then [k] else []
theorem xE {c : Bool} {k i : Nat} : i ∈ onB c k ↔ c = true ∧ i = k := by cases c <;> simp [onB]
theorem wI {T : Type} (F : List Bool → Array Bool) (ok : List Bool → List Nat) (n : Nat) (fl : T → List Bool) (A : T → Act → Act) (R : T → World → Prop) (t0 : T) {fuel : Nat} {listed : Array Bool} {a : Act} {w : World}
  (hs : ∀ t w, R t w → ∀ i ∈ ok (fl t), wpOp P ops Q i (fun a' w' => (eK md ops i = false → S w') ∧ ((∃ t', (F (fl t)).setIfInBounds i true = F (fl t') ∧ a' = A t' a ∧ R t' w') ∨ Region.ready md ops ((F (fl t)).setIfInBounds i true) = [] ∧ Q .normal a' w')) (A t a) w)
  (hR : R t0 w) (h0 : F (fl t0) = listed) (ha : A t0 a = a) (hl : ∀ t, (fl t).length = n) (hu : unl listed ≤ fuel)
  (hk : ((pU n).all fun b => decide (Region.ready md ops (F b) = ok b) && !(ok b).isEmpty) = true) : wpU P md ops Q S fuel listed a w := fun _ _ => by
 have hk' : ∀ t, Region.ready md ops (F (fl t)) = ok (fl t) ∧ ok (fl t) ≠ [] := fun t => by
  have hm := oK (fl t)
  rw [hl t] at hm
  have h := List.all_eq_true.1 hk _ hm
  rw [Bool.and_eq_true, decide_eq_true_eq] at h
  exact ⟨h.1, fun e => by rw [e] at h; simp at h⟩
 refine xU (J := fun l a' w => (∃ t, l = F (fl t) ∧ a' = A t a ∧ R t w) ∨ Region.ready md ops l = [] ∧ Q .normal a' w) ?_ fuel listed a w (.inl ⟨t0, h0.symm, ha.symm, hR⟩) hu
 rintro l a' w' (⟨t, rfl, rfl, hR'⟩ | ⟨h1, h2⟩)
 ·refine ⟨fun h => absurd ((hk' t).1.symm.trans h) (hk' t).2, fun i hi => hs t w' hR' i ?_⟩
  rw [← (hk' t).1]; exact hi
 ·exact ⟨fun _ => h2, fun i hi => by rw [h1] at hi; cases hi⟩
theorem iv {i : Nat} {o : Oper} {K : Act → World → Prop} {a : Act} {w : World} (ho : ops[i]? = some o)
  (h : ∀ K' : Act → World → Prop, Shut (∀ a w, K a w → K' a w) → if Region.wanted o (yielded ops a.tmps) = true then Oper.wp P o a w K' Q else K' (a.put o.dst undef) w) : wpOp P ops Q i K a w :=
 wpOp_step ho (fun K' hK => h K' (show Shut _ from hK))
end
structure It where
 live : Bool
 blk : Nat
 fact : World → Prop
def Its (n0 : Nat) (w : World) (f : Fin 4 → It) : Prop :=
 (∀ i, (f i).live = true → n0 ≤ (f i).blk ∧ (f i).blk < w.heap.size ∧ (f i).fact w) ∧ ∀ i j, i ≠ j → (f i).live = true → (f j).live = true → (f i).blk ≠ (f j).blk
def yR (f : Fin 4 → It) : Prop := ∀ i (w w' : World), w'.heap[(f i).blk]? = w.heap[(f i).blk]? → (f i).live = true → (f i).fact w → (f i).fact w'
theorem Its.turn {n0 : Nat} {w w' : World} {f f' : Fin 4 → It} (h : Its n0 w f) (hl : yR f) (j : Fin 4) (hf : ∀ i, i ≠ j → f' i = f i) (hk : ∀ b, b < w.heap.size → ((f j).live = true → b ≠ (f j).blk) → w'.heap[b]? = w.heap[b]?) (hsz : w.heap.size ≤ w'.heap.size)
  (hn : n0 ≤ (f' j).blk ∧ (f' j).blk < w'.heap.size ∧ (f' j).fact w') (hb : (f' j).blk = w.heap.size ∨ (f j).live = true ∧ (f' j).blk = (f j).blk) : Its n0 w' f' := by
 have far : ∀ i, i ≠ j → (f i).live = true → (f' j).blk ≠ (f i).blk := fun i hi hli => by
  have h1 := (h.1 i hli).2.1
  rcases hb with e | ⟨e1, e2⟩
  ·omega
  ·rw [e2]; exact h.2 j i (Ne.symm hi) e1 hli
 refine ⟨fun i hi => ?_, fun i k hik hi hk' => ?_⟩
 ·by_cases hij : i = j
  ·subst hij; exact hn
  ·rw [hf i hij] at hi ⊢
   obtain ⟨a1, a2, a3⟩ := h.1 i hi
   exact ⟨a1, Nat.lt_of_lt_of_le a2 hsz, hl i w w' (hk _ a2 (fun hj => h.2 i j hij hi hj)) hi a3⟩
 ·by_cases hij : i = j
  ·subst hij
   rw [hf k (Ne.symm hik)] at hk' ⊢
   exact far k (Ne.symm hik) hk'
  ·rw [hf i hij] at hi ⊢
   by_cases hkj : k = j
   ·subst hkj; exact (far i hij hi).symm
   ·rw [hf k hkj] at hk' ⊢
    exact h.2 i k hik hi hk'
structure CpS where
 b0 : Bool
 b3 : Bool
 b4 : Bool
 b5 : Bool
 b8 : Bool
 b13 : Bool
 b14 : Bool
 t6 : Value
 t9 : Value
 t10 : Value
 t11 : Value
 t14 : Value
 t19 : Value
 t3 : Value
def CpS.fl (s : CpS) : List Bool := [s.b0, s.b3, s.b4, s.b5, s.b8, s.b13, s.b14]
def CpS.A (s : CpS) (a : Act) : Act := ((((((a.put (some 6) s.t6).put (some 9) s.t9).put (some 10) s.t10).put (some 11) s.t11).put (some 14) s.t14).put (some 19) s.t19).put (some 3) s.t3
def cpF : List Bool → Array Bool
 | [b0, b3, b4, b5, b8, b13, b14] => [b0, true, true, b3, b4, b5, true, true, b8, true, true, true, true, b13, b14, false].toArray
 | _ => #[]
def cpK : List Bool → List Nat
 | [b0, b3, b4, b5, b8, b13, b14] => onB (!b0) 0 ++ (onB (!b3 && b0) 3 ++ (onB (!b4) 4 ++ (onB (!b5) 5 ++ (onB (!b8 && (b5 && b3)) 8 ++ (onB (!b13 && (b3 && (b4 && b8))) 13 ++ (onB (!b14) 14 ++ onB (b0 && (b3 && (b4 && (b5 && (b8 && (b13 && b14)))))) 15))))))
 | _ => [0]
def kh (e : Nat) (v : Value) (g : Nat) (w : World) : Prop := v = .slice (some ⟨g, 0, none⟩) 0 0 ∧ w.heap[g]? = some (.cells #[] e (0, 0))
def lv (v : Value) (xs : List Lt) (g : Nat) (w : World) : Prop := Own tLt 56 0 w v xs [] ∧ v.ownBlock = some g
def yV (v : Value) (g : Nat) (w : World) : Prop := v = .pointer (some ⟨g, 0, none⟩) ∧ w.heap[g]? = some (.cells #[.slice none 0 0, .slice none 0 0, .slice none 0 0, .slice none 0 0, .int .i64 0, .int .i64 0] 33 (0, 0))
def CpS.it (x : Wd) (s : CpS) (a b c d : Nat) : Fin 4 → It
 | 0 => ⟨s.b0, a, fun w => if s.b3 then lv s.t9 x.sent a w else kh 56 s.t6 a w⟩
 | 1 => ⟨s.b4, b, kh 74 s.t10 b⟩
 | 2 => ⟨s.b5, c, fun w => if s.b8 then lv s.t14 x.got c w else kh 56 s.t11 c w⟩
 | 3 => ⟨s.b14, d, yV s.t3 d⟩
def CpS.R (x : Wd) (W0 : World) (s : CpS) (w : World) : Prop := Tch [] W0 w ∧ (∃ a b c d, Its W0.heap.size w (s.it x a b c d)) ∧
 (s.b3 = true → s.b0 = true) ∧ (s.b8 = true → s.b5 = true) ∧ (s.b13 = true → s.b3 = true ∧ s.b4 = true ∧ s.b8 = true ∧ s.t19 = .agg #[.slice none 0 0, s.t9, s.t10, s.t14, .int .i64 x.made, .int .i64 x.lost])
theorem vV {n0 : Nat} {w : World} {f : Fin 4 → It} (h : ∀ i, (f i).live = false) : Its n0 w f := ⟨fun i hi => (by rw [h i] at hi; cases hi), fun i _ _ hi => (by rw [h i] at hi; cases hi)⟩
theorem kh.keep {e g : Nat} {v : Value} {w w' : World} (hk : w'.heap[g]? = w.heap[g]?) (h : kh e v g w) : kh e v g w' := ⟨h.1, hk.trans h.2⟩
theorem lv.keep {g : Nat} {v : Value} {xs : List Lt} {w w' : World} (hk : w'.heap[g]? = w.heap[g]?) (h : lv v xs g w) : lv v xs g w' :=
 ⟨h.1.keep (fun b hb => by rw [h.2] at hb; injection hb with hb; subst hb; exact hk) (fun _ h => by cases h), h.2⟩
theorem CpS.loc (x : Wd) (s : CpS) (a b c d : Nat) : yR (s.it x a b c d) := fun i w w' hk _ h => by
 match i with
 | 0 =>
  show if s.b3 then _ else _
  replace h : if s.b3 then lv s.t9 x.sent a w else kh 56 s.t6 a w := h
  cases hb : s.b3 with
  | true => rw [hb] at h; exact lv.keep hk h
  | false => rw [hb] at h; exact kh.keep hk h
 | 1 => exact kh.keep hk h
 | 2 =>
  show if s.b8 then _ else _
  replace h : if s.b8 then lv s.t14 x.got c w else kh 56 s.t11 c w := h
  cases hb : s.b8 with
  | true => rw [hb] at h; exact lv.keep hk h
  | false => rw [hb] at h; exact kh.keep hk h
 | 3 => exact ⟨h.1, hk.trans h.2⟩
set_option maxHeartbeats 100000000 in
theorem fe (x : Wd) (v : Value) (w : World) (h : WdB w.heap.size w v x) (hs : ze x) :
  Calls Tryz.prog 41 #[v] w fun e w' => ∃ um us un ug, e = .returned (.agg #[um, us, un, ug, .int .i64 x.made, .int .i64 x.lost]) ∧ aJ oWd w.heap.size w' [um, us, un, ug, .int .i64 x.made, .int .i64 x.lost] x ∧ Below w.heap.size w w' := by
 obtain ⟨i0, hi, hz0, hz1, hz2⟩ := info_parts lq
 obtain ⟨j0, ji, jz0, jz1, jz2⟩ := info_parts lT
 obtain ⟨k0, ki, kz0, kz1, kz2⟩ := info_parts lr
 obtain ⟨vm, vs, vn, vg, rfl, h1, h2, h3, h4⟩ := h
 obtain ⟨A1, c1, rfl, _, _, _⟩ := h1.form
 obtain ⟨A2, c2, rfl, _, _, _⟩ := h2.form
 obtain ⟨A3, c3, rfl, _, _, _⟩ := h3.form
 obtain ⟨A4, c4, rfl, _, _, _⟩ := h4.form
 obtain ⟨⟨s1, s2⟩, s3, ⟨s4, s5⟩, s6⟩ := hs
 unfold gQ at s1 s3 s4 s6
 have S2 := hid s2; have S5 := hid s5
 clear s2 s5
 go_enter Tryz.func41, Tryz.ntmps41
 go_upto_region 1 with fail
 generalize hgw : World.alloc (World.alloc w _) _ = W0; obtain ⟨e0, e1, hW0, sW0⟩ := qB hgw; clear hgw
 have HM := hid (fun (wx : World) (hb : Below w.heap.size w wx) => h1.below hb (Nat.le_refl _))
 have HN := hid (fun (wx : World) (hb : Below w.heap.size w wx) => h3.below hb (Nat.le_refl _))
 have HSe := hid (fun (wx : World) (hb : Below W0.heap.size W0 wx) => h2.go (bt hW0 hb))
 have HGo := hid (fun (wx : World) (hb : Below W0.heap.size W0 wx) => h4.go (bt hW0 hb))
 have HS := hid (fun (wx : World) (hT : Tch [] W0 wx) => And.intro (aC (ac hT.nil e0)) (show w.heap.size < wx.heap.size by have := hT.size; omega))
 have HW0 := hid hW0; have E0 := hid e0; have E1 := hid e1
 clear h1 h2 h3 h4 e0 e1 hW0
 go_cut [3] (fun s3 wx => ∃ g v3 v8 a4 Fs Fn Fg, s3 = .pointer (some ⟨g, 0, none⟩) ∧ Run (w.heap.size + 2) wx g 0 ⟨[], x.sent, [], x.got, x.made, x.lost⟩ (.slice none 0 0) v3 (.slice (some ⟨a4, 0, none⟩) 0 0) v8 [] Fs Fn Fg ∧ Below (w.heap.size + 2) W0 wx)
 case first =>
  refine rgN [] 16 (by kernel_rfl) rfl (fun | none, _, _, _, _ => id | some _, _, _, _, _ => id) fun wd hH hbwd swd => ?_
  simp only [pw]
  refine ag [1, 2, 6, 7, 9, 10, 11, 12] ?_
  iterate 8 (refine ra HS.out rfl (by kernel_rfl) rfl (fun _ f => by go_simp; try with_reducible rfl) ?_; try simp only [pw])
  refine wI cpF cpK 7 CpS.fl CpS.A (CpS.R x W0) ⟨false, false, false, false, false, false, false, undef, undef, undef, undef, undef, undef, undef⟩ ?_ ⟨hH, ⟨0, 0, 0, 0, vV (fun i => by match i with | 0 => rfl | 1 => rfl | 2 => rfl | 3 => rfl)⟩, fun h => (by cases h), fun h => (by cases h), fun h => (by cases h)⟩ rfl (by simp only [CpS.A, pw]) (fun _ => rfl) (by decide) (by kernel_rfl)
  rintro ⟨b0, b3, b4, b5, b8, b13, b14, t6, t9, t10, t11, t14, t19, t3⟩ wq ⟨hT, ⟨a, b, c, d, hI⟩, i3, i8, i13⟩ i hi
  simp only [CpS.fl, cpK, List.mem_append, xE, Bool.and_eq_true, Bool.not_eq_true'] at hi i3 i8 i13
  simp only [CpS.A, pw]
  have n0 := hT.size
  rcases hi with ⟨h0, rfl⟩ | ⟨⟨h3, h0⟩, rfl⟩ | ⟨h4, rfl⟩ | ⟨h5, rfl⟩ | ⟨⟨h8, h5, h3⟩, rfl⟩ | ⟨⟨h13, h3, h4, h8⟩, rfl⟩ | ⟨h14, rfl⟩ | ⟨⟨h0, h3, h4, h5, h8, h13, h14⟩, rfl⟩
  ·subst h0
   obtain rfl : b3 = false := by cases b3 with | false => rfl | true => cases i3 rfl
   refine iv rfl fun K hK => ?_
   go_simp
   generalize hgw : World.alloc _ _ = wa
   obtain ⟨ea, hbC, sa⟩ := aD hgw
   have hT' := hT.trans (Tch.of hbC)
   refine hK.out _ _ ⟨fun _ => hT', .inl ⟨⟨true, false, b4, b5, b8, b13, b14, .slice (some ⟨wq.heap.size, 0, none⟩) 0 0, t9, t10, t11, t14, t19, t3⟩, rfl, (by simp only [CpS.A, pw]), hT', ⟨wq.heap.size, b, c, d, hI.turn (CpS.loc x _ _ _ _ _) 0 (fun i h => by match i with | 0 => exact absurd rfl h | 1 => rfl | 2 => rfl | 3 => rfl) (fun b hb _ => hbC.block b hb) hbC.size ⟨n0, by show wq.heap.size < _; omega, rfl, ea⟩ (.inl rfl)⟩, fun h => (by cases h), i8, i13⟩⟩
  ·subst h3
   subst h0
   obtain ⟨ha1, ha2, ha3⟩ := hI.1 0 rfl
   obtain ⟨rfl, ea⟩ : kh 56 t6 a wq := ha3
   replace ha1 : W0.heap.size ≤ a := ha1
   refine iv rfl fun K hK => ?_
   refine cd rfl (.tmp 6) (.tmp 8) 30 rfl tLt dw (B := 0) Tryz.underlying30 hi hz0 hz1 hz2 rfl (by decide) (by decide) (v := .slice (some ⟨a, 0, none⟩) 0 0) (xs := []) rfl (eE ea (Nat.zero_le _)) A2 x.sent.length c2 rfl (slE (HSe.out _ hT.nil)) (by simp; omega) (by omega) ?_
   intro v3 w3 ho3 hg3 hv3
   rw [List.nil_append] at ho3
   have hT' := hT.grow hg3 (fun k hk hlt => by simp [Value.ownBlock] at hk; omega)
   obtain ⟨a', ha', hc'⟩ : ∃ a', v3.ownBlock = some a' ∧ (a' = wq.heap.size ∨ a' = a) := by
    rcases hv3 with e | e
    ·exact ⟨a, e, .inr rfl⟩
    ·exact ⟨_, e, .inl rfl⟩
   have htop := (ho3.top a' ha').2
   refine hK.out _ _ ⟨fun _ => hT', .inl ⟨⟨true, true, b4, b5, b8, b13, b14, .slice (some ⟨a, 0, none⟩) 0 0, v3, t10, t11, t14, t19, t3⟩, rfl, (by simp only [CpS.A, pw]), hT', ⟨a', b, c, d, hI.turn (CpS.loc x _ _ _ _ _) 0 (fun i h => by match i with | 0 => exact absurd rfl h | 1 => rfl | 2 => rfl | 3 => rfl) (fun b hb hn => hg3.block b hb (fun e => by simp [Value.ownBlock] at e; exact hn rfl e)) hg3.size ⟨by show W0.heap.size ≤ a'; omega, htop, ho3, ha'⟩ (hc'.imp id (fun e => ⟨rfl, e⟩))⟩, fun _ => rfl, i8, fun h => (by cases (i13 h).1)⟩⟩
  ·subst h4
   refine iv rfl fun K hK => ?_
   go_simp
   generalize hgw : World.alloc _ _ = wa
   obtain ⟨ea, hbC, sa⟩ := aD hgw
   have hT' := hT.trans (Tch.of hbC)
   refine hK.out _ _ ⟨fun _ => hT', .inl ⟨⟨b0, b3, true, b5, b8, b13, b14, t6, t9, .slice (some ⟨wq.heap.size, 0, none⟩) 0 0, t11, t14, t19, t3⟩, rfl, (by simp only [CpS.A, pw]), hT', ⟨a, wq.heap.size, c, d, hI.turn (CpS.loc x _ _ _ _ _) 1 (fun i h => by match i with | 0 => rfl | 1 => exact absurd rfl h | 2 => rfl | 3 => rfl) (fun b hb _ => hbC.block b hb) hbC.size ⟨n0, by show wq.heap.size < _; omega, rfl, ea⟩ (.inl rfl)⟩, i3, i8, fun h => (by cases (i13 h).2.1)⟩⟩
  ·subst h5
   obtain rfl : b8 = false := by cases b8 with | false => rfl | true => cases i8 rfl
   refine iv rfl fun K hK => ?_
   go_simp
   generalize hgw : World.alloc _ _ = wa
   obtain ⟨ea, hbC, sa⟩ := aD hgw
   have hT' := hT.trans (Tch.of hbC)
   refine hK.out _ _ ⟨fun _ => hT', .inl ⟨⟨b0, b3, b4, true, false, b13, b14, t6, t9, t10, .slice (some ⟨wq.heap.size, 0, none⟩) 0 0, t14, t19, t3⟩, rfl, (by simp only [CpS.A, pw]), hT', ⟨a, b, wq.heap.size, d, hI.turn (CpS.loc x _ _ _ _ _) 2 (fun i h => by match i with | 0 => rfl | 1 => rfl | 2 => exact absurd rfl h | 3 => rfl) (fun b hb _ => hbC.block b hb) hbC.size ⟨n0, by show wq.heap.size < _; omega, rfl, ea⟩ (.inl rfl)⟩, i3, fun h => (by cases h), i13⟩⟩
  ·subst h8
   subst h5
   obtain ⟨ha1, ha2, ha3⟩ := hI.1 2 rfl
   obtain ⟨rfl, ea⟩ : kh 56 t11 c wq := ha3
   replace ha1 : W0.heap.size ≤ c := ha1
   refine iv rfl fun K hK => ?_
   refine cd rfl (.tmp 11) (.tmp 13) 30 rfl tLt dw (B := 0) Tryz.underlying30 hi hz0 hz1 hz2 rfl (by decide) (by decide) (v := .slice (some ⟨c, 0, none⟩) 0 0) (xs := []) rfl (eE ea (Nat.zero_le _)) A4 x.got.length c4 rfl (slE (HGo.out _ hT.nil)) (by simp; omega) (by omega) ?_
   intro v3 w3 ho3 hg3 hv3
   rw [List.nil_append] at ho3
   have hT' := hT.grow hg3 (fun k hk hlt => by simp [Value.ownBlock] at hk; omega)
   obtain ⟨a', ha', hc'⟩ : ∃ a', v3.ownBlock = some a' ∧ (a' = wq.heap.size ∨ a' = c) := by
    rcases hv3 with e | e
    ·exact ⟨c, e, .inr rfl⟩
    ·exact ⟨_, e, .inl rfl⟩
   have htop := (ho3.top a' ha').2
   refine hK.out _ _ ⟨fun _ => hT', .inl ⟨⟨b0, b3, b4, true, true, b13, b14, t6, t9, t10, .slice (some ⟨c, 0, none⟩) 0 0, v3, t19, t3⟩, rfl, (by simp only [CpS.A, pw]), hT', ⟨a, b, a', d, hI.turn (CpS.loc x _ _ _ _ _) 2 (fun i h => by match i with | 0 => rfl | 1 => rfl | 2 => exact absurd rfl h | 3 => rfl) (fun b hb hn => hg3.block b hb (fun e => by simp [Value.ownBlock] at e; exact hn rfl e)) hg3.size ⟨by show W0.heap.size ≤ a'; omega, htop, ho3, ha'⟩ (hc'.imp id (fun e => ⟨rfl, e⟩))⟩, i3, fun _ => rfl, fun h => (by cases (i13 h).2.2.1)⟩⟩
  ·subst h13 h3 h4 h8
   obtain ⟨_, _, hl9⟩ := hI.1 0 (i3 rfl)
   obtain ⟨_, _, hl10⟩ := hI.1 1 rfl
   obtain ⟨_, _, hl14⟩ := hI.1 2 (i8 rfl)
   obtain ⟨A9, c9, rfl, _, _, _⟩ := (show lv t9 x.sent a wq from hl9).1.form
   obtain ⟨rfl, _⟩ : kh 74 t10 b wq := hl10
   obtain ⟨A14, c14, rfl, _, _, _⟩ := (show lv t14 x.got c wq from hl14).1.form
   refine iv rfl fun K hK => ?_
   go_simp
   refine hK.out _ _ ⟨fun _ => hT, .inl ⟨⟨b0, true, true, b5, true, true, b14, t6, .slice A9 x.sent.length c9, .slice (some ⟨b, 0, none⟩) 0 0, t11, .slice A14 x.got.length c14, .agg #[.slice none 0 0, .slice A9 x.sent.length c9, .slice (some ⟨b, 0, none⟩) 0 0, .slice A14 x.got.length c14, .int .i64 x.made, .int .i64 x.lost], t3⟩, rfl, (by simp only [CpS.A, pw]), hT, ⟨a, b, c, d, hI⟩, i3, i8, fun _ => ⟨rfl, rfl, rfl, rfl⟩⟩⟩
  ·subst h14
   refine iv rfl fun K hK => ?_
   go_simp
   generalize hgw : World.alloc _ _ = wa
   obtain ⟨ea, hbC, sa⟩ := aD hgw
   have hT' := hT.trans (Tch.of hbC)
   refine hK.out _ _ ⟨fun _ => hT', .inl ⟨⟨b0, b3, b4, b5, b8, b13, true, t6, t9, t10, t11, t14, t19, .pointer (some ⟨wq.heap.size, 0, none⟩)⟩, rfl, (by simp only [CpS.A, pw]), hT', ⟨a, b, c, wq.heap.size, hI.turn (CpS.loc x _ _ _ _ _) 3 (fun i h => by match i with | 0 => rfl | 1 => rfl | 2 => rfl | 3 => exact absurd rfl h) (fun b hb _ => hbC.block b hb) hbC.size ⟨n0, by show wq.heap.size < _; omega, rfl, ea⟩ (.inl rfl)⟩, i3, i8, i13⟩⟩
  ·subst h0 h3 h4 h5 h8 h13 h14
   obtain ⟨a1, a2, hl9⟩ := hI.1 0 rfl
   obtain ⟨b1, b2, hl10⟩ := hI.1 1 rfl
   obtain ⟨g1, g2, hl14⟩ := hI.1 2 rfl
   obtain ⟨d1, d2, hl3⟩ := hI.1 3 rfl
   have x01 := hI.2 0 1 (by decide) rfl rfl; have x02 := hI.2 0 2 (by decide) rfl rfl; have x03 := hI.2 0 3 (by decide) rfl rfl; have x12 := hI.2 1 2 (by decide) rfl rfl; have x13 := hI.2 1 3 (by decide) rfl rfl; have x23 := hI.2 2 3 (by decide) rfl rfl
   obtain ⟨ho3, O3⟩ : lv t9 x.sent a wq := hl9
   obtain ⟨rfl, ea4⟩ : kh 74 t10 b wq := hl10
   obtain ⟨ho8, O8⟩ : lv t14 x.got c wq := hl14
   obtain ⟨rfl, ea14⟩ : yV t3 d wq := hl3
   obtain ⟨_, _, _, rfl⟩ := i13 rfl
   obtain ⟨A9, c9, rfl, _, _, _⟩ := ho3.form
   obtain ⟨A14, c14, rfl, _, _, _⟩ := ho8.form
   dsimp only [CpS.it] at a1 a2 b1 b2 g1 g2 d1 d2 x01 x02 x03 x12 x13 x23
   obtain ⟨z0, z1, z2, z3, z4, z5, zf⟩ := aC ea14
   have zf0 := zf 0; have zf1 := zf 1; have zf2 := zf 2; have zf3 := zf 3; have zf4 := zf 4; have zf5 := zf 5
   refine iv rfl fun K hK => ?_
   go_simp
   refine hK.out _ _ ⟨fun h => Bool.noConfusion ((show eK _ _ _ = true by kernel_rfl).symm.trans h), .inr ⟨by kernel_rfl, ?_⟩⟩
   have hb := hT.nil
   clear hK K
   go_wp2_with fail
   go_meet
   exact ⟨_, _, _, _, _, _, _, rfl, uP ea14 ho3 ho8 ea4 O3 O8 (by omega) (by omega), (by (repeat (refine Below.setCell ?_ (by dsimp only; omega) _)); exact hb.mono (by omega))⟩
 case rest =>
  obtain ⟨g, v3, v8, a4, Fs, Fn, Fg, rfl, hr, hb⟩ := hcut
  have Hr := hid hr; have Hb := hid hb
  clear hr hb
  go_wp2_with fail
  go_loopw [4] (fun i wr => ∃ (j : Nat) (um : Value) (G : List Nat), j ≤ x.mixes.length ∧ i = .int .i64 j ∧ Run (w.heap.size + 2) wr g 0 ⟨x.mixes.take j, x.sent, [], x.got, x.made, x.lost⟩ um v3 (.slice (some ⟨a4, 0, none⟩) 0 0) v8 (um.ownBlock.toList ++ G) Fs Fn Fg ∧ Below (w.heap.size + 2) W0 wr) (fun i _ => x.mixes.length - (intOf i).toNat)
  case atStart => exact ⟨0, .slice none 0 0, [], by omega, rfl, by simpa [Value.ownBlock] using Hr.out, Hb.out⟩
  case round =>
   obtain ⟨j, um, G, hj, rfl, hr, hb⟩ := hrel
   clear Hr Hb
   have hbW : Below w.heap.size w wr := HW0.out.trans (hb.mono (by omega))
   have hsz : w.heap.size + 2 ≤ wr.heap.size := by have := hb.size; omega
   have hn0 := (hb.block w.heap.size (by omega)).trans E0.out
   obtain ⟨p0, p1, p2, p3, p4, p5, _⟩ := aC hn0
   by_cases hlt : j < x.mixes.length
   ·obtain ⟨m, hm⟩ := ai hlt
    obtain ⟨bb, o, us, up, rfl, hbB, hbz, hvs, hvp, k0, k1, k2⟩ := (HM.out _ hbW).mx hm
    obtain ⟨As, cs, rfl, _, _, _⟩ := hvs.form
    obtain ⟨Ap, cp, rfl, _, _, _⟩ := hvp.form
    obtain ⟨hq1, hq2, hq3⟩ := S2.out m (List.mem_of_getElem? hm)
    have HQ := hid (fun y hy => (hq3 y hy).le)
    unfold gQ at hq1 hq2
    have hO := uO hr.em
    obtain ⟨Au, cu, eu, _, _, _⟩ := hO.form
    rw [show (x.mixes.take j).length = j from by simp; omega] at eu
    subst eu
    have hfm : ∀ c ∈ (Value.slice Au j cu).ownBlock.toList ++ G, w.heap.size + 2 ≤ c := fun c hc => hr.lo c (by simp only [List.mem_cons, List.mem_append] at hc ⊢; exact .inr (.inl hc))
    have nm : ∀ c, c < w.heap.size + 2 → c ∉ (Value.slice Au j cu).ownBlock.toList ++ G := fun c hc hm => by have := hfm c hm; omega
    have HS2 := hid (fun (wx : World) (hT : Tch ((Value.slice Au j cu).ownBlock.toList ++ G) wr wx) => And.intro (hr.cells0 hT hr.nb.1) (And.intro (aC (hT.row hn0 (nm _ (by omega)))) (And.intro (hT.cell k0 (nm _ (by omega))) (And.intro (hT.cell k1 (nm _ (by omega))) (hT.cell k2 (nm _ (by omega)))))))
    have HVs := hid (fun (wx : World) (hT : Tch ((Value.slice Au j cu).ownBlock.toList ++ G) wr wx) => hvs.tch hT (by omega) (fun b hb => by have := hfm b hb; omega))
    have HVp := hid (fun (wx : World) (hT : Tch ((Value.slice Au j cu).ownBlock.toList ++ G) wr wx) => hvp.tch hT (by omega) (fun b hb => by have := hfm b hb; omega))
    have Hm := hid hm; have HO := hid hO; have Hr := hid hr; have Hb := hid hb; have Hfm := hid hfm
    have hmj : j ≤ x.mixes.length := by omega
    clear hm hO hr hb hfm nm hvs hvp k0 k1 k2 hq3 hn0
    go_wp2_with fail
    refine rgN ((Value.slice Au j cu).ownBlock.toList ++ G) 12 (by kernel_rfl) rfl (fun | none, _, _, _, _ => id | some _, _, _, _, _ => id) fun wd hH hbwd swd => ?_
    simp only [pw]
    refine ag [0, 1, 2, 3, 4, 5, 6] ?_
    iterate 7 (refine ra HS2.out rfl (by kernel_rfl) rfl (fun _ f => by go_simp; try with_reducible rfl) ?_; try simp only [pw])
    refine rq 7 (by kernel_rfl) rfl fun K hK => ?_
    go_simp
    (go_at_call 70; refine (eD m _ _ _ (HVs.out _ hH) (HVp.out _ hH) (by omega) (by omega) HQ.out).mono ?_; rintro e w7 ⟨us7, up7, rfl, n7, hbC⟩; obtain ⟨A7, c7, A8, c8, rfl, rfl⟩ := bo n7; obtain ⟨F7, h7E, hn7, hF7⟩ := n7; have hb7 := hbC; have sb7 := hbC.size)
    refine hK.out _ _ (hH.trans (Tch.of hbC)) (fun hH => ?_)
    clear hK K
    refine rq 8 (by kernel_rfl) rfl fun K hK => ?_
    go_simp
    (generalize hgw : World.alloc _ _ = w8; obtain ⟨e8, hbC, s8⟩ := aD hgw; have hb8 := hbC; clear hgw)
    refine hK.out _ _ (hH.trans (Tch.of hbC)) (fun hH => ?_)
    clear hK K
    refine rq 9 (by kernel_rfl) rfl fun K hK => ?_
    (refine aZ rfl (.tmp 28) (.tmp 35) 29 rfl oMx (B := 0) Tryz.underlying29 ji jz0 jz1 jz2 rfl (by decide) (v := .slice Au j cu) rfl (((HO.out.go hbwd).go hb7).go hb8) (some ⟨_, 0, none⟩) 1 1 rfl (ez (cs := [.int .i64 m.sec, .slice A7 m.seen.length c7, .slice A8 m.pool.length c8]) e8 (oMx.keep h7E (fun b hb => hb8.block b (oMx.lt h7E b hb)))) (fun b hb hm => by have h1 := (HO.out.top b hb).2; have h2 := hF7 b hm; omega) (by simp; omega) (by simp [maxLen]; omega) (Nat.zero_le _) ?_; intro v9 w9 ho9 hg9 hv9; have hbP := hH.grow hg9 (fun k hk hlt => List.mem_append_left _ (aW.2 hk)); simp only [List.tail_cons] at ho9; obtain ⟨A9, c9, e9, _, _, _⟩ := ho9.form; rw [show (x.mixes.take j ++ [m]).length = j + 1 from by simp; omega] at e9; subst e9)
    refine hK.out _ _ (hbP) (fun hH => ?_)
    clear hK K
    refine tr 10 HS2.out rfl (by kernel_rfl) rfl (fun _ f => by go_simp; try with_reducible rfl) ?_
    try simp only [pw]
    refine rz 11 (by kernel_rfl) rfl fun K hK => ?_
    have fC := HS2.out _ hH
    go_simp
    clear fC
    refine hK.out _ _ ?_
    clear hK K
    have hr9 := Hr.out.pushMix hH ho9 hv9 hn7 (fun c hc => by have h1 := hF7 c hc; have h2 := oMx.lt h7E c hc; omega) (by omega) hsz
    have HR9 := hid hr9
    have HB9 := hid ((Hb.out.trans (hH.below hsz Hfm.out)).setCell (p := ⟨g, 0, none⟩) (Hr.out.lo g List.mem_cons_self) (.slice A9 (j + 1) c9))
    clear hr9 ho9 hH hbC hbP hg9 hv9 h7E hF7 hn7 hb7 hb8 e8 hbwd
    go_wp2_with fail
    go_roundw
    case rel => exact ⟨j + 1, _, _, by omega, by go_num, by rw [aK Hm.out]; exact HR9.out, HB9.out⟩
    case measure => simp [intOf]; omega
   ·have hje : x.mixes.take j = x.mixes := List.take_of_length_le (by omega)
    rw [hje] at hr
    clear hje
    obtain ⟨Gn, rfl, hOn⟩ := aG hr.en
    have Hr := hid hr; have Hb := hid hb
    clear hr hb hOn hn0
    go_wp2_with fail
    obtain ⟨wo, rfl⟩ : ∃ wo : World, wo = wr := ⟨_, rfl⟩
    go_loopw [5] (fun i wr => ∃ (j : Nat) (un : Value) (G' : List Nat), j ≤ x.net.length ∧ i = .int .i64 j ∧ Run (w.heap.size + 2) wr g 0 ⟨x.mixes, x.sent, x.net.take j, x.got, x.made, x.lost⟩ um v3 un v8 (um.ownBlock.toList ++ G) Fs (un.ownBlock.toList ++ G') Fg ∧ Below (w.heap.size + 2) W0 wr) (fun i _ => x.net.length - (intOf i).toNat)
    case atStart => exact ⟨0, _, Gn, by omega, rfl, Hr.out, Hb.out⟩
    case round =>
     obtain ⟨j, un, G', hj, rfl, hr, hb⟩ := hrel
     clear Hr Hb
     have hbW : Below w.heap.size w wr := HW0.out.trans (hb.mono (by omega))
     have hsz : w.heap.size + 2 ≤ wr.heap.size := by have := hb.size; omega
     have hn0 := (hb.block w.heap.size (by omega)).trans E0.out
     have hn1 := (hb.block (w.heap.size + 1) (by omega)).trans E1.out
     obtain ⟨p0, p1, p2, p3, p4, p5, _⟩ := aC hn0
     by_cases hlt : j < x.net.length
     ·obtain ⟨t, hm⟩ := ai hlt
      obtain ⟨bb, o, us, up, rfl, hbB, hbz, hvs, hvp, k0, k1, k2, k3, k4, k5⟩ := (HN.out _ hbW).tr hm
      obtain ⟨As, cs, rfl, _, _, _⟩ := hvs.form
      obtain ⟨Ap, cp, rfl, _, _, _⟩ := hvp.form
      obtain ⟨hq1, hq2⟩ := uT.le (S5.out t (List.mem_of_getElem? hm))
      have hO := uO hr.en
      obtain ⟨Au, cu, eu, _, _, _⟩ := hO.form
      rw [show (x.net.take j).length = j from by simp; omega] at eu
      subst eu
      have hfm : ∀ c ∈ (Value.slice Au j cu).ownBlock.toList ++ G', w.heap.size + 2 ≤ c := fun c hc => hr.lo c (by simp only [List.mem_cons, List.mem_append] at hc ⊢; exact .inr (.inr (.inr (.inl hc))))
      have nm : ∀ c, c < w.heap.size + 2 → c ∉ (Value.slice Au j cu).ownBlock.toList ++ G' := fun c hc hm => by have := hfm c hm; omega
      have HS2 := hid (fun (wx : World) (hT : Tch ((Value.slice Au j cu).ownBlock.toList ++ G') wr wx) => And.intro (hr.cells0 hT hr.nb.2.2.1) (And.intro (aC (hT.row hn0 (nm _ (by omega)))) (And.intro (hT.cell k0 (nm _ (by omega))) (And.intro (hT.cell k1 (nm _ (by omega))) (And.intro (hT.cell k2 (nm _ (by omega))) (And.intro (hT.cell k3 (nm _ (by omega))) (And.intro (hT.cell k4 (nm _ (by omega))) (hT.cell k5 (nm _ (by omega))))))))))
      have HVs := hid (fun (wx : World) (hT : Tch ((Value.slice Au j cu).ownBlock.toList ++ G') wr wx) => hvs.tch hT (by omega) (fun b hb => by have := hfm b hb; omega))
      have HVp := hid (fun (wx : World) (hT : Tch ((Value.slice Au j cu).ownBlock.toList ++ G') wr wx) => hvp.tch hT (by omega) (fun b hb => by have := hfm b hb; omega))
      have Hm := hid hm; have HO := hid hO; have Hr := hid hr; have Hb := hid hb; have Hfm := hid hfm
      have hmj : j ≤ x.net.length := by omega
      clear hm hO hr hb hfm nm hvs hvp k0 k1 k2 k3 k4 k5 hn0 hn1
      go_wp2_with fail
      refine rgN ((Value.slice Au j cu).ownBlock.toList ++ G') 26 (by kernel_rfl) rfl (fun | none, _, _, _, _ => id | some _, _, _, _, _ => id) fun wd hH hbwd swd => ?_
      simp only [pw]
      refine ag [0, 1, 2, 3, 4, 5, 6, 7, 8, 9, 10, 11, 12, 13, 15, 16, 17, 18, 19, 20] ?_
      iterate 20 (refine ra HS2.out rfl (by kernel_rfl) rfl (fun _ f => by go_simp; try with_reducible rfl) ?_; try simp only [pw])
      refine rq 14 (by kernel_rfl) rfl fun K hK => ?_
      go_simp
      (go_at_call 71; refine (iQ t.pk _ _ _ (HVs.out _ hH) (HVp.out _ hH) hq1 hq2).mono ?_; rintro e w7 ⟨us7, up7, rfl, n7, hbC⟩; obtain ⟨A7, c7, A8, c8, rfl, rfl⟩ := eQ n7; obtain ⟨F7, h7E, hn7, hF7⟩ := kU (x := t) n7; have hb7 := hbC; have sb7 := hbC.size)
      refine hK.out _ _ (hH.trans (Tch.of hbC)) (fun hH => ?_)
      clear hK K
      refine tr 21 HS2.out rfl (by kernel_rfl) rfl (fun _ f => by go_simp; try with_reducible rfl) ?_
      try simp only [pw]
      refine rq 22 (by kernel_rfl) rfl fun K hK => ?_
      go_simp
      (generalize hgw : World.alloc _ _ = w8; obtain ⟨e8, hbC, s8⟩ := aD hgw; have hb8 := hbC; clear hgw)
      refine hK.out _ _ (hH.trans (Tch.of hbC)) (fun hH => ?_)
      clear hK K
      refine rq 23 (by kernel_rfl) rfl fun K hK => ?_
      (refine aZ rfl (.tmp 46) (.tmp 67) 31 rfl oTr (B := 0) Tryz.underlying31 ki kz0 kz1 kz2 rfl (by decide) (v := .slice Au j cu) rfl (((HO.out.go hbwd).go hb7).go hb8) (some ⟨_, 0, none⟩) 1 1 rfl (ez (cs := [.int .i64 t.mix, .int .i64 t.pk.el, .slice A7 t.pk.hd.length c7, .int .i64 t.pk.tag, .slice A8 t.pk.bd.length c8, .bool t.ch]) e8 (oTr.keep h7E (fun b hb => hb8.block b (oTr.lt h7E b hb)))) (fun b hb hm => by have h1 := (HO.out.top b hb).2; have h2 := hF7 b hm; omega) (by simp; omega) (by simp [maxLen]; omega) (Nat.zero_le _) ?_; intro v9 w9 ho9 hg9 hv9; have hbP := hH.grow hg9 (fun k hk hlt => List.mem_append_left _ (aW.2 hk)); simp only [List.tail_cons] at ho9; obtain ⟨A9, c9, e9, _, _, _⟩ := ho9.form; rw [show (x.net.take j ++ [t]).length = j + 1 from by simp; omega] at e9; subst e9)
      refine hK.out _ _ (hbP) (fun hH => ?_)
      clear hK K
      refine tr 24 HS2.out rfl (by kernel_rfl) rfl (fun _ f => by go_simp; try with_reducible rfl) ?_
      try simp only [pw]
      refine rz 25 (by kernel_rfl) rfl fun K hK => ?_
      have fC := HS2.out _ hH
      go_simp
      clear fC
      refine hK.out _ _ ?_
      clear hK K
      have hr9 := Hr.out.pushNet hH ho9 hv9 hn7 (fun c hc => by have h1 := hF7 c hc; have h2 := oTr.lt h7E c hc; omega) (by omega) hsz
      have HR9 := hid hr9
      have HB9 := hid ((Hb.out.trans (hH.below hsz Hfm.out)).setCell (p := ⟨g, 2, none⟩) (Hr.out.lo g List.mem_cons_self) (.slice A9 (j + 1) c9))
      clear hr9 ho9 hH hbC hbP hg9 hv9 h7E hF7 hn7 hb7 hb8 e8 hbwd
      go_wp2_with fail
      go_roundw
      case rel => exact ⟨j + 1, _, _, by omega, by go_num, by rw [aK Hm.out]; exact HR9.out, HB9.out⟩
      case measure => simp [intOf]; omega
     ·have hje : x.net.take j = x.net := List.take_of_length_le (by omega)
      rw [hje] at hr
      clear hje
      obtain ⟨q0, q1, q2, q3, q4, q5, qf, qf0, qf1, qf2, qf3, qf4, qf5⟩ := bs hn1
      obtain ⟨g0, g1, g2, g3, g4, g5, gz, _⟩ := hr.cells0 (Tch.refl [] _) (by simp)
      obtain ⟨_, _, o1⟩ := aG hr.em
      obtain ⟨_, _, o2⟩ := aG hr.es
      obtain ⟨_, _, o3⟩ := aG hr.en
      obtain ⟨_, _, o4⟩ := aG hr.eg
      obtain ⟨C1, d1, rfl, _, _, _⟩ := o1.form
      obtain ⟨C2, d2, rfl, _, _, _⟩ := o2.form
      obtain ⟨C3, d3, rfl, _, _, _⟩ := o3.form
      obtain ⟨C4, d4, rfl, _, _, _⟩ := o4.form
      have Hr := hid hr; have Hb := hid hb; have HbW := hid hbW
      clear hr hb hbW o1 o2 o3 o4 qf hn0 hn1
      go_wp2
      refine bodyPost_ret (v := .agg #[.slice C1 x.mixes.length d1, .slice C2 x.sent.length d2, .slice C3 x.net.length d3, .slice C4 x.got.length d4, .int .i64 x.made, .int .i64 x.lost]) (by simp [results, Tryz.results41, go_sem, q0, q1, q2, q3, q4, q5]) rfl ⟨_, _, _, _, rfl, ?_, ?_⟩
      ·refine aJ.base (B := w.heap.size + 2) ?_ (by omega)
       repeat (refine aJ.set ?_ (by dsimp only; omega))
       exact Hr.out.newA
      ·repeat (refine Below.setCell ?_ (by dsimp only; omega) _)
       exact HbW.out
end Go.Proofs.YtfaeojmndaplcaaGreatDoor
