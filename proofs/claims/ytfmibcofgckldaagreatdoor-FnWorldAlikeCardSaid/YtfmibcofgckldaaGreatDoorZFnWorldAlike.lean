/- Of what the program plays, all packets in transit have a header of nine numbers and a body of six. No condition. -/
import Derived.Deep.DeepCutAuto
import Derived.Test.YtfmibcofgckldaaGreatDoorM36
import Derived.Test.YtfmibcofgckldaaGreatDoorM37
import Derived.Test.YtfmibcofgckldaaGreatDoorM38
set_option linter.unusedVariables false
set_option linter.unusedSimpArgs false
set_option maxHeartbeats 4000000
set_option maxRecDepth 100000
namespace Go.Proofs.YtfmibcofgckldaaGreatDoor
open Go Go.RowKit
section
open Go.ChangeShapes Go.WideShapes Go.ChangeAt
theorem FnWorldAlike_c (v0 : Value) (xs0 : List Int) (w : World) (hg : uE w) (s0 : SlB g8 w.heap.size w v0 xs0) (hx0 : ∀ x ∈ xs0, (Lit.int .u8 x).wf = true) :
  Calls Tryz.prog 5 #[v0] w (ok true w.heap.size w) := by
 have hw0 : 0 < w.heap.size := World.block_lt_of_cell? _ _ hg
 have Hg := hid (fun (wx : World) (hb : Below w.heap.size w wx) => show eQ wx from (hb.cell (p := ⟨0, 0, none⟩) hw0).trans hg)
 have HX := hid (fun x hx => xi (hx0 x hx))
 obtain ⟨A, c, rfl, _, _, _⟩ := s0.form
 have S0 := hid s0
 clear hg s0 hx0
 by_cases hl : 1048576 < xs0.length
 ·go_enter Tryz.func5, Tryz.ntmps5
  go_wp2
  go_ret
  exact ⟨rfl, Below.refl _ _⟩
 go_enter Tryz.func5, Tryz.ntmps5
 go_wp2_with fail
 refine (b9 _ xs0 _ S0.out HX.out).mono ?_
 rintro e w1 ⟨v1, evs, rfl, n1, hb1⟩
 obtain ⟨A1, c1, rfl, _, _, _⟩ := n1.slB.form
 have D1 := hid n1.slB
 have Hc := hid hb1
 obtain ⟨y, hy⟩ : ∃ y, plW evs = y := ⟨_, rfl⟩
 obtain ⟨pb, hp⟩ : ∃ pb, decide (evs.length ≤ 80) = pb := ⟨_, rfl⟩
 have hpp : (pb != pb) = false := bne_self_eq_false _
 have hpe : (pb == pb) = true := beq_self_eq_true _
 have Hy := hid hy; have Hp := hid hp
 clear n1 hb1 hy hp S0 HX
 go_wp2_with fail
 refine (vE evs _ _ (Hg.out _ Hc.out) D1.out).mono ?_
 unfold PyOut
 rw [Hy.out, Hp.out]
 rintro e w2 ⟨a2, b2, c2, d2, rfl, n2, hb2⟩
 obtain ⟨A2, p2, A2b, p2b, A2c, p2c, A2d, p2d, rfl, rfl, rfl, rfl⟩ := cL n2
 have N2 := hid n2
 replace D1 := hid (D1.out.go hb2)
 replace Hc := hid (bt Hc.out hb2)
 clear n2 hb2
 go_upto_region 5 with fail
 generalize hgw : World.alloc w2 _ = w3
 obtain ⟨e3, r3, hb3, _, s3⟩ := vQ N2.out (Below.refl w2.heap.size _) (Nat.le_refl _) hgw
 have E4 := hid e3; have D4 := hid (WdR.of_wdB (R := fun _ => True) r3.wdB (fun _ _ => trivial))
 replace D1 := hid (D1.out.go hb3)
 replace Hc := hid (bt Hc.out hb3)
 clear hgw e3 r3 hb3 N2
 go_wp2_with fail
 refine (vR evs _ _ D1.out).mono ?_
 unfold PyOut
 rw [Hy.out, Hp.out]
 rintro e w4 ⟨a4, b4, c4, d4, rfl, n4, hb4⟩
 obtain ⟨A4, p4, A4b, p4b, A4c, p4c, A4d, p4d, rfl, rfl, rfl, rfl⟩ := cL n4
 have N4 := hid n4
 replace Hc := hid (bt Hc.out hb4)
 replace E4 := hid (heap_go hb4 E4.out)
 replace D4 := hid (D4.out.go hb4)
 have s4 := hb4.size
 clear n4 hb4 D1
 go_upto_region 6 with fail
 generalize hgw : World.alloc w4 _ = w5
 obtain ⟨e5, r5, hb5, _, s5⟩ := vQ N4.out (Below.refl w4.heap.size _) (Nat.le_refl _) hgw
 have E6 := hid e5; have D6 := hid (WdR.of_wdB (R := fun _ => True) r5.wdB (fun _ _ => trivial))
 replace Hc := hid (bt Hc.out hb5)
 replace E4 := hid (heap_go hb5 E4.out)
 replace D4 := hid (D4.out.go hb5)
 clear hgw e5 r5 hb5 N4
 obtain ⟨k0, k1, k2, k3, k4, k5, _⟩ := al E4.out
 obtain ⟨q0, q1, q2, q3, q4, q5, _⟩ := al E6.out
 have z4 : w2.heap.size < w5.heap.size := by omega
 have z6 : w4.heap.size < w5.heap.size := by omega
 go_wp2_with fail
 refine (a9 y _ _ _ D4.out.wdB D6.out.wdB).mono ?_
 rintro e w7 ⟨rfl, hb7⟩
 replace Hc := hid (bt Hc.out hb7)
 replace E4 := hid (heap_go hb7 E4.out)
 replace D4 := hid (D4.out.go hb7)
 replace E6 := hid (heap_go hb7 E6.out)
 replace D6 := hid (D6.out.go hb7)
 have s7 := hb7.size
 clear hb7 k0 k1 k2 k3 k4 k5 q0 q1 q2 q3 q4 q5 z4 z6
 obtain ⟨k0, k1, k2, k3, k4, k5, _⟩ := al E4.out
 have z4 : w2.heap.size < w7.heap.size := by omega
 cases pb with
 | false =>
  obtain ⟨q0, q1, q2, q3, q4, q5, _⟩ := al E6.out
  have z6 : w4.heap.size < w7.heap.size := by omega
  go_wp2_with fail
  refine (a9 y _ _ _ D4.out.wdB D6.out.wdB).mono ?_
  rintro e w8 ⟨rfl, hb8⟩
  go_wp2_with fail
  go_ret
  exact ⟨rfl, bt Hc.out hb8⟩
 | true =>
 replace Hy := hid (Hy.out.symm.trans (g9 Hp.out))
 have Hv := hid (show VD 0 y by rw [Hy.out]; exact vT evs)
 have Hgl := hid (show y.got.length ≤ 1073741824 by have := Hv.out.gl; omega)
 clear hpp hpe E6 D6
 go_wp2_with fail
 clear k0 k1 k2 k3 k4 k5
 have hgn : y.net.length ≤ 10 := Hv.out.nn
 go_loopw [8] (fun i wr => ∃ k : Nat, k ≤ y.net.length ∧ i = .int .i64 k ∧ Below w7.heap.size w7 wr) (fun i _ => y.net.length - (intOf i).toNat)
 case atStart => exact ⟨0, by omega, rfl, Below.refl _ _⟩
 case round =>
  obtain ⟨k, hk, rfl, hb⟩ := hrel
  have Hb := hid hb
  have r0 := heap_go hb E4.out
  obtain ⟨_, _, dn, _⟩ := (D4.out.go hb).wdB.parts
  obtain ⟨k0, k1, k2, k3, k4, k5, _⟩ := al r0
  have z4r : w2.heap.size < wr.heap.size := by have := hb.size; omega
  clear hb r0
  by_cases hlt : k < y.net.length
  ·obtain ⟨z, hz⟩ := ah hlt
   obtain ⟨hh, hbd⟩ := Hv.out.alike (List.mem_of_getElem? hz)
   have f1 : ((z.pk.hd.length : Int) != 9) = false := by rw [hh]; rfl
   have f2 : ((z.pk.bd.length : Int) != 6) = false := by rw [hbd]; rfl
   obtain ⟨b, o, vh, vb, rfl, _, _, s1, s2, p0, p1, p2, p3, p4, p5⟩ := dn.tr hz
   obtain ⟨Ah, ch, rfl, _, _, _⟩ := s1.form
   obtain ⟨Ab, cb, rfl, _, _, _⟩ := s2.form
   clear hz dn hh hbd s1 s2
   go_wp2_with fail
   go_roundw
   case rel => exact ⟨k + 1, by omega, by go_num, Hb.out⟩
   case measure => simp [intOf]; omega
  ·clear dn
   go_wp2_with fail
   go_ret
   exact ⟨rfl, bt Hc.out Hb.out⟩
theorem r6 (os : Os) (started : os.Started) (H : Type) (enc : TypeId × Value → H) :
  ReturnsInHanded {} Tryz.checked os 5 .any (fun w args => (Rows.fnWorldAlikeSpec.pre enc Tryz.prog Tryz.f5 [] false w args ∧ laidMetH Tryz.prog lh w) ∧ sizedMet enc Tryz.prog Tryz.f5 (OpenSpec.ofChange Rows.fnWorldAlikeSpec) false w args) (Rows.fnWorldAlikeSpec.post enc Tryz.prog Tryz.f5 false true false false) := by
 refine returnsInHanded_of_change_and (C := Tryz.checked) (X := fun w _ => laidMetH Tryz.prog lh w) (fun _ _ _ hh h => h.of_heap hh) su started (by kernel_rfl) Tryz.func5
  (ChangeSpec.witness_at (enc := enc) (C := Tryz.checked) (os := os) (X := fun w _ => laidMetH Tryz.prog lh w) false (lj os) #[.slice none 0 0] 8 rfl (by kernel_rfl) (by kernel_rfl) (by kernel_rfl) (by kernel_rfl) (by kernel_rfl) (kH os _)) ?_
 intro W base args ds gs before hval0 hW _ _ hL _
 have hg := jz hL
 have hval : ∀ (j : Nat) t v, Tryz.f5.params[j]? = some t → args[j]? = some v → Value.okWide Tryz.prog W .any base t v := hval0
 have hW' := hW
 obtain ⟨p, q, hA0, hV, rfl, hfz, hnd⟩ := hW
 have hA : DataW.TrodAll enc Tryz.prog W 0 (fun _ => true) true Tryz.f5.params.toList args.toList ds p := hA0
 rw [Tryz.params5] at hA hval
 obtain ⟨v0, vs0, d0, ds0, p0, q0, hargs, rfl, rfl, h0, r0⟩ := trodAll_cons hA
 obtain ⟨rfl, rfl, rfl⟩ := trodAll_nil r0
 obtain rfl : args = #[v0] := by cases args; simp_all
 obtain ⟨rfl, rfl⟩ : gs = [] ∧ q = [] := by
  cases gs with
  | nil => exact ⟨rfl, hV⟩
  | cons g r => exact absurd hV (by intro h; cases h)
 have k0 := h0
 have lt0 : ∀ x ∈ p0, x.block < W.heap.size := by obtain ⟨m, hm⟩ := k0; exact DataW.trod_lt m _ _ _ hm
 obtain ⟨xs0, s0, f0⟩ := vW fa Tryz.underlying22 (hval 0 22 v0 rfl rfl) h0
 clear hA0 hval0
 refine (FnWorldAlike_c v0 xs0 W hg s0 f0).mono fun e W' ⟨he, bel⟩ => ?_
 subst he
 exact ⟨_, rfl, _, _, _, [], _, [], hW', trodAll_mk1 (shut_bool Tryz.underlying4 _), (trodAll_cons_mk (Below.trod mU (by kernel_rfl) (of_decide_eq_true (by kernel_rfl)) k0 bel lt0) trodAll_mk0), rfl, bel.frame _, fun h => by cases h⟩
theorem sI : joinedFacts Tryz.prog 5 Tryz.f5 Rows.fnWorldAlikeSpec Rows.fnWorldAlikeRow = true := by
 unfold joinedFacts
 simp only [Bool.and_eq_true]
 repeat' apply And.intro
 ·as_aux_lemma => kernel_rfl
 ·as_aux_lemma => kernel_rfl
 ·as_aux_lemma => kernel_rfl
 ·as_aux_lemma => kernel_rfl
 ·as_aux_lemma => kernel_rfl
 ·as_aux_lemma => kernel_rfl
 ·as_aux_lemma => kernel_rfl
 ·as_aux_lemma => kernel_rfl
 ·as_aux_lemma => kernel_rfl
 ·as_aux_lemma => kernel_rfl
 ·as_aux_lemma => kernel_rfl
 ·as_aux_lemma => kernel_rfl
 ·as_aux_lemma => kernel_rfl
 ·as_aux_lemma => kernel_rfl
 ·as_aux_lemma => kernel_rfl
 ·as_aux_lemma => kernel_rfl
 ·as_aux_lemma => kernel_rfl
 ·as_aux_lemma => kernel_rfl
 ·as_aux_lemma => kernel_rfl
 ·as_aux_lemma => kernel_rfl
 ·as_aux_lemma => kernel_rfl
 ·as_aux_lemma => kernel_rfl
 ·as_aux_lemma => kernel_rfl
 ·as_aux_lemma => kernel_rfl
 ·as_aux_lemma => kernel_rfl
 ·exact oo
 ·rw [ot]; rfl
 ·rw [ql]; rfl
 ·as_aux_lemma => kernel_rfl
 ·as_aux_lemma => kernel_rfl
 ·as_aux_lemma => kernel_rfl
 ·as_aux_lemma => kernel_rfl
theorem vL : Tryz.prog.funcNamed Rows.fnWorldAlikeRow.func = some 5 := by kernel_rfl
theorem wZ : Tryz.f5.isWrapper Tryz.prog Rows.fnWorldAlikeRow.wrapper Rows.fnWorldAlikeRow.mainSum := (by unfold Func.isWrapper; first | (rw [if_pos (by decide +kernel)]; kernel_rfl) | (rw [if_neg (by decide +kernel)]; exact ⟨rfl, rfl⟩))
theorem wY : Rows.fnWorldAlikeRow.holds Tryz.pinned (OpenSpec.ofChange Rows.fnWorldAlikeSpec) :=
 OpenClaim.holds_of_wide (p := Tryz.pinned) 5 Tryz.f5 rfl rfl rfl rfl rfl rfl rfl ⟨rfl, rfl, rfl, rfl, rfl⟩ rfl rfl rfl rfl rfl vL Tryz.func5 sI
  (of_decide_eq_true (by kernel_rfl)) wZ
  (fun os started H enc _ => r6 os started H enc)
theorem FnWorldAlike_holds : Rows.FnWorldAlikeCardSaid :=
 Claim7.holds_tied_plain_at .later [] [.handle] true (true, "f6a317a23dd1ee8c09a768da66efcfbaf3b078b2529fbb5caec4172cd33d1f77") true
  wY (fun _ h => by cases h) (by kernel_rfl) (fun _ h => by cases h) fnWorldAlike_row_tie rfl ⟨rfl, rfl⟩ (by kernel_rfl) rfl
  (fun f fn hf hfn => by
   obtain rfl : f = 5 := Option.some.inj ((show Tryz.prog.funcNamed Rows.fnWorldAlikeRow.func = some 5 by kernel_rfl).symm.trans hf) |>.symm
   obtain rfl : fn = Tryz.f5 := (Option.some.inj (Tryz.func5.symm.trans hfn)).symm
   exact ⟨by kernel_rfl, fun j t ht => by
    rw [Tryz.params5] at ht
    rcases j with _ | _ | j
    all_goals (first | (simp at ht; done) | (simp at ht; subst ht; exact (show Tryz.prog.wantsStandIn _ = false by kernel_rfl)))⟩)
  (by kernel_rfl)
#print axioms FnWorldAlike_holds
end
end Go.Proofs.YtfmibcofgckldaaGreatDoor
