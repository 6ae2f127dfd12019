/- Texts that the last file leans on (part 8). -/
import Derived.BigQuiet
import Derived.Deep.DeepCutAuto
import Derived.Deep.QuietTactic
import Derived.Test.YtfmibcofgckldaaGreatDoorM7
set_option linter.unusedVariables false
set_option linter.unusedSimpArgs false
set_option maxHeartbeats 4000000
set_option maxRecDepth 100000
namespace Go.Proofs.YtfmibcofgckldaaGreatDoor
open Go Go.RowKit
def kg : Pl := ⟨0, 0, ⟨0, [], 0, []⟩⟩
def jl (w : World) (r : Option Pl) (e : Ending) (w' : World) : Prop :=
 ∃ vh vb, e = .returned (.tuple #[.agg #[.int .i64 (r.getD kg).kind, .int .i64 (r.getD kg).next, .int .i64 (r.getD kg).pk.el, vh, .int .i64 (r.getD kg).pk.tag, vb], .bool r.isSome]) ∧
  ao oPl w.heap.size w' [.int .i64 (r.getD kg).kind, .int .i64 (r.getD kg).next, .int .i64 (r.getD kg).pk.el, vh, .int .i64 (r.getD kg).pk.tag, vb] (r.getD kg) ∧ Below w.heap.size w w'
theorem uf (B : Nat) (w : World) : ao oPl B w [.int .i64 0, .int .i64 0, .int .i64 0, .slice none 0 0, .int .i64 0, .slice none 0 0] kg :=
 gv (x := kg) (jh (p := ⟨0, [], 0, []⟩) (Own.nil _ B) (Own.nil _ B) (Nat.le_refl _) (Nat.le_refl _) (fun _ h => by cases h))
theorem dI {w w' : World} (hb : Below w.heap.size w w') : jl w none (.returned (.tuple #[.agg #[.int .i64 0, .int .i64 0, .int .i64 0, .slice none 0 0, .int .i64 0, .slice none 0 0], .bool false])) w' := ⟨_, _, rfl, uf _ _, hb⟩
theorem ij {s : Int} {p : Pk} (h : ¬ (bF (ak s p.el) p.hd = p.tag ∧ win ((aG (ak s p.el) p).getD 0 0) 0 1 = true ∧ win ((aG (ak s p.el) p).getD 1 0) 0 7 = true)) : aP s p = none := by unfold aP; dsimp only; rw [if_neg h]
theorem fY {s : Int} {p : Pk} (h : bF (ak s p.el) p.hd = p.tag ∧ win ((aG (ak s p.el) p).getD 0 0) 0 1 = true ∧ win ((aG (ak s p.el) p).getD 1 0) 0 7 = true) :
  aP s p = some ⟨(aG (ak s p.el) p).getD 0 0, (aG (ak s p.el) p).getD 1 0, ⟨ak p.el (dk (ak s p.el)), (aG (ak s p.el) p).drop 3, (aG (ak s p.el) p).getD 2 0, bI p.bd (ak s p.el)⟩⟩ := by unfold aP; dsimp only; rw [if_pos h]
theorem sq {α : Type} {T : Ty α} {e B : Nat} {w : World} {v : Value} {xs : List α} {G : List Nat} (h : Own T e B w v xs G) : Own T e B w.drew v xs G := h.below (ab (Below.refl _ _)) (Nat.le_refl _)
set_option maxHeartbeats 6000000 in
theorem mS (s : Int) (p : Pk) (vh vb : Value) (w : World) (h1 : SlB ae w.heap.size w vh p.hd) (h2 : SlB ae w.heap.size w vb p.bd) (hs : win s 1 996 = true) (hp : pkB p = true) :
  Calls Tryz.prog 141 #[.int .i64 s, .agg #[.int .i64 p.el, vh, .int .i64 p.tag, vb]] w (jl w (aP s p)) := by
 obtain ⟨i0, hi, hz0, hz1, hz2⟩ := info_parts aV
 obtain ⟨p1, ⟨p2, p3⟩, ⟨p4, p5⟩, p6⟩ := aw.1 hp
 have hk := bz hs p1
 have H1 := hid (fun (wx : World) (hb : Below w.heap.size w wx) => h1.go hb)
 have H2 := hid (fun (wx : World) (hb : Below w.heap.size w wx) => h2.go hb)
 obtain ⟨Ah, ch, rfl, _, _, _⟩ := h1.form
 obtain ⟨Ab, cb, rfl, _, _, _⟩ := h2.form
 have hno := ij (s := s) (p := p)
 have hyes := fY (s := s) (p := p)
 have hpl : (aG (ak s p.el) p).length = 12 := by rw [dJ, p2]
 have hpn : au (aG (ak s p.el) p) = true := cI _ _
 have hpd : aG (ak s p.el) p = bI (p.hd ++ [0, 0, 0]) (ak s p.el) := rfl
 have hm := hid (show ak s p.el = ak s p.el from rfl)
 generalize hkey : ak s p.el = key at *
 have Hkey := hid hkey
 clear hkey
 have Hno := hid hno; have Hyes := hid hyes; have Hpl := hid hpl; have Hpn := hid hpn; have Hpd := hid hpd
 have Hn9 := hid p3; have Hl9 := hid p2; have Hl6 := hid p4; have Hn6 := hid p5
 clear h1 h2 hno hyes hpl hpn hpd hm p2 p3 p4 p5 p6 hp
 cases ht : (bF key p.hd != p.tag) with
 | true =>
  have hr := Hno.out (fun h => by rw [h.1] at ht; simp at ht)
  rw [hr]
  clear hr
  go_enter Tryz.func141, Tryz.ntmps141
  go_wp2_with (go_at_call 101; refine (bY _ _ _ hs p1).mono ?_; rw [Hkey.out]; rintro e w' ⟨rfl, rfl⟩)
  go_quiet ((go_at_call 137; exact Calls.quiet_of_same (l3Tag_q key _ p.hd _ _ (by exact H1.out _ (by repeat (first | exact Below.refl _ _ | apply ab | refine bA ?_ (by omega) | refine Below.setCell ?_ (by first | omega | simp <;> omega) _))) Hn9.out (by rw [Hl9.out]; omega) hk)))
  go_wp2
  refine bodyPost_ret (v := .tuple #[.agg #[.int .i64 0, .int .i64 0, .int .i64 0, .slice none 0 0, .int .i64 0, .slice none 0 0], .bool false]) (by simp [results, Tryz.results141, go_sem]) rfl (dI ?_)
  repeat (refine Below.setCell ?_ (by dsimp only; omega) _)
  exact below_drewN (by repeat (first | exact Below.refl _ _ | apply ab | refine bA ?_ (by omega) | refine Below.setCell ?_ (by first | omega | simp <;> omega) _)) _
 | false =>
  have hteq : bF key p.hd = p.tag := by simpa using ht
  have Hteq := hid hteq
  obtain ⟨a0, x0⟩ := ah (xs := aG key p) (k := 0) (by rw [Hpl.out]; omega)
  obtain ⟨a1, x1⟩ := ah (xs := aG key p) (k := 1) (by rw [Hpl.out]; omega)
  obtain ⟨a2, x2⟩ := ah (xs := aG key p) (k := 2) (by rw [Hpl.out]; omega)
  have G0 := hid (show (aG key p).getD 0 0 = a0 by simp [List.getD_eq_getElem?_getD, x0])
  have G1 := hid (show (aG key p).getD 1 0 = a1 by simp [List.getD_eq_getElem?_getD, x1])
  have G2 := hid (show (aG key p).getD 2 0 = a2 by simp [List.getD_eq_getElem?_getD, x2])
  have X0 := hid x0; have X1 := hid x1; have X2 := hid x2
  clear hteq x0 x1 x2
  have l9 : p.hd.length ≤ 1073741824 := by rw [Hl9.out]; omega
  have l6 : p.bd.length ≤ 1073741824 := by rw [Hl6.out]; omega
  go_enter Tryz.func141, Tryz.ntmps141
  go_wp2_with (go_at_call 101; refine (bY _ _ _ hs p1).mono ?_; rw [Hkey.out]; rintro e w' ⟨rfl, rfl⟩)
  go_quiet ((go_at_call 137; exact Calls.quiet_of_same (l3Tag_q key _ p.hd _ _ (by exact H1.out _ (by repeat (first | exact Below.refl _ _ | apply ab | refine bA ?_ (by omega) | refine Below.setCell ?_ (by first | omega | simp <;> omega) _))) Hn9.out (by rw [Hl9.out]; omega) hk)))
  have hW : Below w.heap.size w (((w.alloc (.cells #[.int .i64 p.el, .slice Ah p.hd.length ch, .int .i64 p.tag, .slice Ab p.bd.length cb] 40)).alloc (.cells #[.int .i64 0, .int .i64 0, .int .i64 0, .slice none 0 0, .int .i64 0, .slice none 0 0] 102)).drewN nq) := below_drewN (by repeat (first | exact Below.refl _ _ | apply ab | refine bA ?_ (by omega) | refine Below.setCell ?_ (by first | omega | simp <;> omega) _)) _
  have hs1 : (((w.alloc (.cells #[.int .i64 p.el, .slice Ah p.hd.length ch, .int .i64 p.tag, .slice Ab p.bd.length cb] 40)).alloc (.cells #[.int .i64 0, .int .i64 0, .int .i64 0, .slice none 0 0, .int .i64 0, .slice none 0 0] 102)).drewN nq).heap.size = w.heap.size + 1 + 1 := by simp
  have e0 : (((w.alloc (.cells #[.int .i64 p.el, .slice Ah p.hd.length ch, .int .i64 p.tag, .slice Ab p.bd.length cb] 40)).alloc (.cells #[.int .i64 0, .int .i64 0, .int .i64 0, .slice none 0 0, .int .i64 0, .slice none 0 0] 102)).drewN nq).heap[w.heap.size]? = some (.cells #[.int .i64 p.el, .slice Ah p.hd.length ch, .int .i64 p.tag, .slice Ab p.bd.length cb] 40 (0, 0)) := heap_go (below_drewN (lit_below _ _) nq) (heap_alloc_new w _)
  have e1 : (((w.alloc (.cells #[.int .i64 p.el, .slice Ah p.hd.length ch, .int .i64 p.tag, .slice Ab p.bd.length cb] 40)).alloc (.cells #[.int .i64 0, .int .i64 0, .int .i64 0, .slice none 0 0, .int .i64 0, .slice none 0 0] 102)).drewN nq).heap[w.heap.size + 1]? = some (.cells #[.int .i64 0, .int .i64 0, .int .i64 0, .slice none 0 0, .int .i64 0, .slice none 0 0] 102 (0, 0)) := by
   have := heap_alloc_new (w.alloc (.cells #[.int .i64 p.el, .slice Ah p.hd.length ch, .int .i64 p.tag, .slice Ab p.bd.length cb] 40)) (.cells #[.int .i64 0, .int .i64 0, .int .i64 0, .slice none 0 0, .int .i64 0, .slice none 0 0] 102)
   rw [World.size_alloc] at this
   exact this
  obtain ⟨k0, k1, k2, k3, _⟩ := aQ e0
  have HW := hid hW; have Hs1 := hid hs1; have E0 := hid e0; have E1 := hid e1
  generalize (((w.alloc (.cells #[.int .i64 p.el, .slice Ah p.hd.length ch, .int .i64 p.tag, .slice Ab p.bd.length cb] 40)).alloc (.cells #[.int .i64 0, .int .i64 0, .int .i64 0, .slice none 0 0, .int .i64 0, .slice none 0 0] 102)).drewN nq) = W1 at *
  clear hW hs1 e0 e1
  have b0 : w.heap.size < W1.heap.size := by have := Hs1.out; omega
  have b1 : w.heap.size + 1 < W1.heap.size := by have := Hs1.out; omega
  go_wp2_with (first
   | (at_builtin; go_loud (refine aD rfl (.tmp 21) (.tmp 23) 38 rfl ae ai (B := W1.heap.size) (v := .slice (some ⟨W1.heap.size, 0, none⟩) 0 0) Tryz.underlying38 hi hz0 hz1 hz2 rfl (by decide) (by decide) rfl (fI _ (by simp) (Nat.le_refl _)) Ah p.hd.length ch rfl (slE (H1.out _ (bt HW.out (lit_below _ _)))) ?_ ?_ ?_; (simp; omega); (first | omega | (simp only [World.size_alloc, aj]; omega)); intro v2 w2 ho2 hg2 hv2; rw [List.nil_append] at ho2; have hb2 := (Below.refl (W1.heap.size) _).grown hg2 (by first | omega | (simp; done) | (simp; omega)) (fun q hq => by simp [Value.ownBlock] at hq; omega); obtain ⟨hc2, hf2⟩ := oa hb2; have sz2 := hb2.size; simp at sz2; obtain ⟨A2, c2, rfl, _, _⟩ := ho2.formN rfl; (have Hb2 := hid ((lit_below W1 _).trans hb2); have O2 := hid ho2; clear ho2 hg2 hv2 hb2 hc2 hf2)))
   | (at_builtin; go_loud (refine aD rfl (.tmp 24) (.tmp 25) 38 rfl ae ai (B := W1.heap.size) (v := .slice A2 p.hd.length c2) Tryz.underlying38 hi hz0 hz1 hz2 rfl (by decide) (by decide) rfl (O2.out.go (lit_below w2 _)) (some ⟨w2.heap.size, 0, none⟩) 3 3 rfl (slB_of (hY 0 0 0 (Nat.le_refl _))) ?_ ?_ ?_; (simp; have := Hl9.out; omega); (simp only [World.size_alloc]; omega); intro v3 w3 ho3 hg3 hv3; obtain ⟨A3, c3, rfl, _, _⟩ := ho3.formN (n := 12) (by simp [Hl9.out]); have Hb3 := hid ((Hb2.out.trans ((lit_below w2 _).mono (by omega))).grown hg3 (by simp; omega) (fun q hq => (O2.out.top q hq).1)); have O3 := hid ho3; have sz3 := Hb3.out.size; clear ho3 hg3 hv3))
   | (go_at_call 162; refine (pI _ (p.hd ++ [0, 0, 0]) key _ O3.out.slB (aN Hn9.out rfl) (by simp [Hl9.out]) hk).mono ?_; rintro e w4 ⟨v4, rfl, n4, hb4⟩))
  rw [← Hpd.out] at n4
  obtain ⟨G4, o4, _, _⟩ := n4
  obtain rfl := am ai o4
  obtain ⟨A4, c4, rfl, _, _⟩ := o4.formN (n := 12) Hpl.out
  obtain ⟨g4, rfl⟩ := o4.addr (by rw [Hpl.out]; omega)
  obtain ⟨_, e', hg4, hg4s, y0, _⟩ := o4.int X0.out
  injection e' with e'; injection e' with e' _; subst e'
  obtain ⟨_, e', _, _, y1, _⟩ := o4.int X1.out
  injection e' with e'; injection e' with e' _; subst e'
  obtain ⟨_, e', _, _, y2, _⟩ := o4.int X2.out
  injection e' with e'; injection e' with e' _; subst e'
  have O4 := hid o4
  have Hb4 := hid (Hb3.out.trans (hb4.mono sz3))
  have sz4 := Hb4.out.size
  have szz := Hs1.out
  have k1' : W1.heap.size ≤ g4 := by omega
  have Y := hid (And.intro y0 (And.intro y1 y2))
  clear o4 hb4 O2 O3 k0 k1 k2 k3 szz
  have K5 := hid (fun (wx : World) (hb : Below w4.heap.size w4 wx) => And.intro hb (And.intro ((hb.cell (p := ⟨g4, 0, none⟩) hg4s).trans y0) ((hb.cell (p := ⟨g4, 1, none⟩) hg4s).trans y1)))
  have K6 := hid (fun (wx : World) (hb : Below w4.heap.size w4 wx) => (hb.cell (p := ⟨g4, 2, none⟩) hg4s).trans y2)
  go_wp2_with fail
  go_region_held3 (fun w' : World => Below w4.heap.size w4 w' ∧ w'.cell? ⟨g4, 0, none⟩ = some (.int .i64 a0) ∧ w'.cell? ⟨g4, 1, none⟩ = some (.int .i64 a1))
   (first | assumption | (refine K5.out _ ?_; (repeat (first | exact Below.refl _ _ | refine Below.drew ?_ | refine Below.setCell ?_ (by simp) _ | refine Below.alloc ?_ (by simp) _))))
   (fail)
  have E5 := hid (show (w4.alloc (.cells #[.int .i64 a0, .int .i64 a1, .int .i64 0, .slice none 0 0, .int .i64 0, .slice none 0 0] 102)).heap[w4.heap.size]? = some (.cells #[.int .i64 a0, .int .i64 a1, .int .i64 0, .slice none 0 0, .int .i64 0, .slice none 0 0] 102 (0, 0)) from heap_alloc_new w4 _)
  have bw4 : w.heap.size < w4.heap.size := by omega
  have K7 := hid (fun (wx : World) (hb : Below w4.heap.size w4 wx) => And.intro hb (And.intro (aQ (heap_go (bt Hb4.out hb) E0.out)).1 (And.intro (aQ (heap_go (bt Hb4.out hb) E0.out)).2.2.2.1 (K6.out wx hb))))
  have Hfac := fG key
  have hc12 : (12 : Int) ≤ (c4 : Int) := by have := O4.out.form; obtain ⟨_, _, e, h1, _⟩ := this; injection e with e1 e2 e3; omega
  have hc3 : ¬ c4 = 3 := by omega
  have Hdr := hid (show SlB ae w4.heap.size w4 (.slice (some ⟨g4, 3, none⟩) 9 (c4 - 3)) ((aG key p).drop 3) from by have := O4.out.slB.drop 3 (by omega); simpa [ae, Ty.flat] using this)
  have Hd9 := hid (show ((aG key p).drop 3).length = 9 by simp [Hpl.out])
  clear y0 y1 y2
  go_upto_region 6 with fail
  go_cut [8] (fun s8 wx => s8 = .pointer (some ⟨w4.heap.size, 0, none⟩) ∧ ∃ A6 c6 A7 c7 n w7, Own ae 3 (w4.heap.size + 1) w7 (.slice A6 9 c6) ((aG key p).drop 3) [] ∧ (∀ b, (Value.slice A6 9 c6).ownBlock = some b → b < n) ∧
   be ae 3 n w7 (.slice A7 (bI p.bd key).length c7) (bI p.bd key) ∧ w4.heap.size + 1 ≤ n ∧ Below (w4.heap.size + 1) (w4.alloc (.cells #[.int .i64 a0, .int .i64 a1, .int .i64 0, .slice none 0 0, .int .i64 0, .slice none 0 0] 102)) w7 ∧
   wx = (((w7.setCell ⟨w4.heap.size, 2, none⟩ (.int .i64 (ak p.el (dk key)))).setCell ⟨w4.heap.size, 3, none⟩ (.slice A6 9 c6)).setCell ⟨w4.heap.size, 4, none⟩ (.int .i64 a2)).setCell ⟨w4.heap.size, 5, none⟩ (.slice A7 (bI p.bd key).length c7))
  case first =>
   go_region_held3 (fun w' : World => Below w4.heap.size w4 w' ∧ w'.cell? ⟨w.heap.size, 0, none⟩ = some (.int .i64 p.el) ∧ w'.cell? ⟨w.heap.size, 3, none⟩ = some (.slice Ab p.bd.length cb) ∧ w'.cell? ⟨g4, 2, none⟩ = some (.int .i64 a2))
    (first | assumption | (refine K7.out _ ?_; first | assumption | (repeat (first | exact Below.refl _ _ | exact H64.out | exact H74.out | refine Below.drew ?_ | refine Below.setCell ?_ (by simp) _ | refine Below.alloc ?_ (by first | (simp; done) | (simp; omega)) _))))
    (first
     | (go_at_call 138; refine (jE key _ hk).mono ?_; rintro e w' ⟨rfl, rfl⟩)
     | (go_at_call 101; refine (bY p.el _ _ p1 Hfac).mono ?_; rintro e w' ⟨rfl, rfl⟩)
     | (go_at_call 162; go_loud (refine (pI _ p.bd key _ (H2.out _ (bt HW.out (bt Hb4.out (And.left (by assumption))))) Hn6.out (by rw [Hl6.out]; omega) hk).mono ?_; rintro e w7 ⟨v7, rfl, n7, hb7⟩; obtain ⟨A7, c7, rfl, _, _, _⟩ := n7.slB.form; have N7 : Hid (be ae 3 w6.heap.size w7 (.slice A7 (bI p.bd key).length c7) (bI p.bd key)) := hid n7; have Hb7 := hid hb7; have O67 : Hid (Own ae 3 (w4.heap.size + 1) w7 (.slice A6 9 c6) ((aG key p).drop 3) []) := hid (by first | exact O6.out.go hb7 | exact (O6.out.go (Below.refl _ _).drew).go hb7 | exact (O6.out.go (Below.refl _ _).drew.drew).go hb7); have HB7 : Hid (Below (w4.heap.size + 1) (w4.alloc (.cells #[.int .i64 a0, .int .i64 a1, .int .i64 0, .slice none 0 0, .int .i64 0, .slice none 0 0] 102)) w7) := hid (by first | exact HB6.out.trans (hb7.mono s6) | exact HB6.out.drew.trans (hb7.mono s6) | exact HB6.out.drew.drew.trans (hb7.mono s6)); have H74 := hid ((lit_below w4 (.cells #[.int .i64 a0, .int .i64 a1, .int .i64 0, .slice none 0 0, .int .i64 0, .slice none 0 0] 102)).trans (HB7.out.mono (by omega))); have e7 := (HB7.out.block w4.heap.size (by omega)).trans E5.out; obtain ⟨r0, r1, r2, r3, r4, r5, rf⟩ := al e7; have rf2 := rf 2; have rf3 := rf 3; have rf4 := rf 4; have rf5 := rf 5; clear n7 hb7 e7 rf))
     | (go_loud (refine bL rfl (.tmp 41) (.tmp 43) 38 rfl ae ai (B := w4.heap.size + 1) Tryz.underlying38 hi hz0 hz1 hz2 rfl (by decide) (by decide) (v := .slice (some ⟨w4.heap.size + 1, 0, none⟩) 0 0) (xs := []) rfl ?_ (some ⟨g4, 3, none⟩) 9 (c4 - 3) rfl (slE (Hdr.out.below (And.left (by assumption)) (Nat.le_refl _))) (by rw [Hd9.out]; simp) (by simp) ?_; (repeat (first | exact fI (w4.heap.size + 1) (by simp) (Nat.le_refl _) | refine sq ?_)); intro v6 w6 ho6 hg6 hv6; rw [List.nil_append] at ho6; obtain ⟨A6, c6, rfl, _, _⟩ := ho6.formN Hd9.out; have O6 := hid ho6; have HB6 : Hid (Below (w4.heap.size + 1) (w4.alloc (.cells #[.int .i64 a0, .int .i64 a1, .int .i64 0, .slice none 0 0, .int .i64 0, .slice none 0 0] 102)) w6) := hid ((show Below (w4.heap.size + 1) (w4.alloc (.cells #[.int .i64 a0, .int .i64 a1, .int .i64 0, .slice none 0 0, .int .i64 0, .slice none 0 0] 102)) _ from (by repeat (first | exact Below.refl _ _ | refine Below.drew ?_ | refine Below.alloc ?_ (by first | omega | (simp; done) | (simp; omega)) _))).grown hg6 (by simp) (fun q hq => by simp [Value.ownBlock] at hq; omega)); have s6 : w4.heap.size + 1 ≤ w6.heap.size := (by have := HB6.out.size; simpa using this); have H64 := hid ((lit_below w4 (.cells #[.int .i64 a0, .int .i64 a1, .int .i64 0, .slice none 0 0, .int .i64 0, .slice none 0 0] 102)).trans (HB6.out.mono (by omega))); clear ho6 hg6 hv6)))
   all_goals (go_wp2_with fail; go_meet; exact ⟨rfl, A6, c6, A7, c7, w6.heap.size, w7, O67.out, fun b hb => (O6.out.top b hb).2, N7.out, s6, HB7.out, rfl⟩)
  case rest =>
   obtain ⟨rfl, A6, c6, A7, c7, n, w7, o67, t6, n7, hn, hb7, rfl⟩ := hcut
   have O67 := hid o67; have T6 := hid t6; have N7 := hid n7
   have H74 := hid ((lit_below w4 (.cells #[.int .i64 a0, .int .i64 a1, .int .i64 0, .slice none 0 0, .int .i64 0, .slice none 0 0] 102)).trans (hb7.mono (by omega)))
   have e7 := (hb7.block w4.heap.size (by omega)).trans E5.out
   obtain ⟨r0, r1, r2, r3, r4, r5, _⟩ := al e7
   clear o67 t6 n7 hb7 e7
   have eR := heap_go (bt Hb4.out H74.out) E1.out
   obtain ⟨q0, q1, q2, q3, q4, q5, qf, qf0, qf1, qf2, qf3, qf4, qf5⟩ := row6f eR
   have HF := hid (bt HW.out (bt Hb4.out H74.out))
   clear eR qf
   cases hw0 : win a0 0 1 with
   | false =>
    have hr := Hno.out (fun h => by rw [G0.out, hw0] at h; exact absurd h.2.1 (by decide))
    have Hr := hid hr
    clear hr
    go_wp2_with (go_at_call 45; refine (aL _ _ _ _).mono ?_; rw [hw0]; rintro e w' ⟨rfl, rfl⟩)
    refine bodyPost_ret (v := .tuple #[.agg #[.int .i64 0, .int .i64 0, .int .i64 0, .slice none 0 0, .int .i64 0, .slice none 0 0], .bool false]) (by simp [results, Tryz.results141, go_sem, q0, q1, q2, q3, q4, q5]) rfl ?_
    rw [Hr.out]
    refine dI ?_
    repeat (refine Below.setCell ?_ (by dsimp only; omega) _)
    exact HF.out
   | true =>
    cases hw1 : win a1 0 7 with
    | false =>
     have hr := Hno.out (fun h => by rw [G1.out, hw1] at h; exact absurd h.2.2 (by decide))
     have Hr := hid hr
     clear hr
     go_wp2_with (go_at_call 45; first | (with_reducible refine (aL a0 0 1 _).mono ?_; rw [hw0]; rintro e w' ⟨rfl, rfl⟩) | (with_reducible refine (aL a1 0 7 _).mono ?_; rw [hw1]; rintro e w' ⟨rfl, rfl⟩))
     refine bodyPost_ret (v := .tuple #[.agg #[.int .i64 0, .int .i64 0, .int .i64 0, .slice none 0 0, .int .i64 0, .slice none 0 0], .bool false]) (by simp [results, Tryz.results141, go_sem, q0, q1, q2, q3, q4, q5]) rfl ?_
     rw [Hr.out]
     refine dI ?_
     repeat (refine Below.setCell ?_ (by dsimp only; omega) _)
     exact HF.out
    | true =>
     have hr := Hyes.out ⟨Hteq.out, by rw [G0.out]; exact hw0, by rw [G1.out]; exact hw1⟩
     rw [G0.out, G1.out, G2.out] at hr
     have Hr := hid hr
     clear hr
     go_wp2_with (go_at_call 45; first | (with_reducible refine (aL a0 0 1 _).mono ?_; rw [hw0]; rintro e w' ⟨rfl, rfl⟩) | (with_reducible refine (aL a1 0 7 _).mono ?_; rw [hw1]; rintro e w' ⟨rfl, rfl⟩))
     refine bodyPost_ret (v := .tuple #[.agg #[.int .i64 a0, .int .i64 a1, .int .i64 (ak p.el (dk key)), .slice A6 9 c6, .int .i64 a2, .slice A7 (bI p.bd key).length c7], .bool true]) (by simp [results, Tryz.results141, go_sem, q0, q1, q2, q3, q4, q5]) rfl ?_
     rw [Hr.out]
     refine ⟨_, _, rfl, ?_, ?_⟩
     ·refine gv (x := ⟨a0, a1, ⟨ak p.el (dk key), (aG key p).drop 3, a2, bI p.bd key⟩⟩) (jh (p := ⟨ak p.el (dk key), (aG key p).drop 3, a2, bI p.bd key⟩) (B1 := w4.heap.size + 1) (B2 := n) ?_ ?_ (by omega) (by omega) T6.out)
      ·repeat (refine aq ?_ (by dsimp only; omega))
       exact O67.out
      ·repeat (refine aq ?_ (by dsimp only; omega))
       obtain ⟨G7, o7, _, _⟩ := N7.out
       obtain rfl := am ai o7
       exact o7
     ·repeat (refine Below.setCell ?_ (by dsimp only; omega) _)
      exact HF.out
end Go.Proofs.YtfmibcofgckldaaGreatDoor
