/- Texts that the last file leans on (part 31). -/
import Derived.ChangeSame
import Derived.ChangeVars
import Derived.Deep.Slices
import Derived.JoinedOf
import Derived.KernelRfl
import Derived.LaidHandle
import Derived.LaidLaws
import Derived.OpenShut
import Derived.ProofKit
import Derived.RowKitTokens
import Derived.Stop.Joined
import Derived.Test.YtfledddejfpopaaGreatDoorCards
import Derived.Test.YtfledddejfpopaaGreatDoorM0
import Derived.Test.YtfledddejfpopaaGreatDoorM1
import Derived.Test.YtfledddejfpopaaGreatDoorM11
import Derived.Test.YtfledddejfpopaaGreatDoorM2
import Derived.Test.YtfledddejfpopaaGreatDoorM28
import Derived.Test.YtfledddejfpopaaGreatDoorM29
import Derived.Test.YtfledddejfpopaaGreatDoorM30
import Derived.Test.YtfledddejfpopaaGreatDoorM5
import Derived.Test.YtfledddejfpopaaGreatDoorRows
import Derived.Test.YtfledddejfpopaaGreatDoorTie
import Derived.WalkKit
set_option linter.unusedVariables false
set_option linter.unusedSimpArgs false
set_option maxHeartbeats 4000000
set_option maxRecDepth 100000
namespace Go.Proofs.YtfledddejfpopaaGreatDoor
open Go Go.RowKit
theorem vu {w : World} {n t : Nat} {a b c d e f g k : Value} (h : w.heap[n]? = some (.cells #[a, b, c, d, e, f, g, k] t (0, 0))) :
  w.cell? ⟨n, 0, none⟩ = some a ∧ w.cell? ⟨n, 1, none⟩ = some b ∧ w.cell? ⟨n, 2, none⟩ = some c ∧ w.cell? ⟨n, 3, none⟩ = some d ∧ w.cell? ⟨n, 4, none⟩ = some e ∧ w.cell? ⟨n, 5, none⟩ = some f ∧ w.cell? ⟨n, 6, none⟩ = some g ∧ w.cell? ⟨n, 7, none⟩ = some k ∧ ∀ j, w.frozen? ⟨n, j, none⟩ = false :=
 ⟨by rw [cell_of_row w n 0 _ _ _ h]; rfl, by rw [cell_of_row w n 1 _ _ _ h]; rfl, by rw [cell_of_row w n 2 _ _ _ h]; rfl, by rw [cell_of_row w n 3 _ _ _ h]; rfl, by rw [cell_of_row w n 4 _ _ _ h]; rfl, by rw [cell_of_row w n 5 _ _ _ h]; rfl, by rw [cell_of_row w n 6 _ _ _ h]; rfl, by rw [cell_of_row w n 7 _ _ _ h]; rfl, fun j => frozen_of_row w n j _ _ h⟩
theorem Rn.ofNew8 {B B0 t : Nat} {w : World} {x : Wd} {um us un ug a0 a1 : Value} (h : ao oWd B w [um, us, un, ug, .int .i64 x.made, .int .i64 x.lost] x) (hB : B0 ≤ B) (hBw : B0 ≤ w.heap.size) :
  ∃ F, Rn B0 (w.alloc (.cells #[a0, a1, um, us, un, ug, .int .i64 x.made, .int .i64 x.lost] t)) w.heap.size 2 x F ∧ ∀ c ∈ F, c = w.heap.size ∨ B ≤ c := by
 obtain ⟨Fm, Fs, Fn, Fg, h1, h2, h3, h4, n1, n2⟩ := eH h
 have l1 := dd.lt h1; have l2 := bf.lt h2; have l3 := de.lt h3; have l4 := bf.lt h4
 have hlt : ∀ c ∈ Fm ++ (Fs ++ (Fn ++ Fg)), c < w.heap.size := fun c hc => by
  simp only [List.mem_append] at hc
  rcases hc with h | h | h | h
  ·exact l1 c h
  ·exact l2 c h
  ·exact l3 c h
  ·exact l4 c h
 have hb := lit_below w (.cells #[a0, a1, um, us, un, ug, .int .i64 x.made, .int .i64 x.lost] t)
 obtain ⟨_, _, q0, q1, q2, q3, q4, q5, qf⟩ := vu (heap_alloc_new w (.cells #[a0, a1, um, us, un, ug, .int .i64 x.made, .int .i64 x.lost] t))
 refine ⟨_, ⟨um, us, un, ug, Fm, Fs, Fn, Fg, ⟨q0, q1, q2, q3, q4, q5, qf, dd.keep h1 (fun c hc => hb.block c (l1 c hc)), bf.keep h2 (fun c hc => hb.block c (l2 c hc)), de.keep h3 (fun c hc => hb.block c (l3 c hc)), bf.keep h4 (fun c hc => hb.block c (l4 c hc)), List.nodup_cons.2 ⟨fun hm => by have := hlt _ hm; omega, n1⟩, fun c hc => ?_⟩, rfl⟩, fun c hc => ?_⟩
 ·rcases List.mem_cons.1 hc with rfl | hc
  ·exact hBw
  ·exact Nat.le_trans hB (n2 c hc)
 ·rcases List.mem_cons.1 hc with rfl | hc
  ·exact .inl rfl
  ·exact .inr (n2 c hc)
theorem Rn.new {B b o : Nat} {w : World} {x : Wd} {F : List Nat} (h : Rn B w b o x F) : ∃ um us un ug, w.cell? ⟨b, o, none⟩ = some um ∧ w.cell? ⟨b, o + 1, none⟩ = some us ∧ w.cell? ⟨b, o + 2, none⟩ = some un ∧ w.cell? ⟨b, o + 3, none⟩ = some ug ∧ w.cell? ⟨b, o + 4, none⟩ = some (.int .i64 x.made) ∧ w.cell? ⟨b, o + 5, none⟩ = some (.int .i64 x.lost) ∧ b < w.heap.size ∧ ao oWd B w [um, us, un, ug, .int .i64 x.made, .int .i64 x.lost] x := by
 obtain ⟨um, us, un, ug, _, _, _, _, hr, _⟩ := h
 exact ⟨um, us, un, ug, hr.c0, hr.c1, hr.c2, hr.c3, hr.c4, hr.c5, hr.blk, hr.newA⟩
theorem mF (x : Wd) (v : Value) (ev : Ev) (w : World) (hg : eQ w) (h : WdB w.heap.size w v x) (hgl : x.got.length ≤ 1073741824) :
  Calls Tryz.prog 21 #[v, .agg #[.int .i64 ev.kind, .int .i64 ev.a, .int .i64 ev.b, .int .i64 ev.c]] w (ui w (ez x ev)) := by
 have hw0 : 0 < w.heap.size := World.block_lt_of_cell? _ _ hg
 have H := hid (fun (wx : World) (hb : Below w.heap.size w wx) => h.go hb)
 have Hg := hid (fun (wx : World) (hb : Below w.heap.size w wx) => hg.go hb)
 obtain ⟨A1, c1, A2, c2, A3, c3, A4, c4, rfl⟩ := (WdR.of_wdB (R := fun _ => True) h (fun _ _ => trivial)).form
 clear h hg
 obtain ⟨z, hz⟩ : ∃ z, z = ez x ev := ⟨_, rfl⟩
 rw [← hz]
 have Hz := hid hz
 clear hz
 go_enter Tryz.func21, Tryz.ntmps21
 go_wp2_with fail
 refine (rJ x _ _ (H.out _ bc) hgl).mono ?_
 rintro e' w1 ⟨rfl, hb1⟩
 obtain ⟨e0, e1, e2⟩ := cW hb1
 have hc1 : Below w.heap.size w w1 := bt bc hb1
 obtain ⟨k0, k1, k2, k3, k4, k5, _⟩ := al e0
 obtain ⟨v0, v1, v2, v3, _⟩ := aQ e1
 obtain ⟨q0, q1, q2, q3, q4, q5, qf, qf0, qf1, qf2, qf3, qf4, qf5⟩ := row6f e2
 have z2 : w.heap.size + 1 + 1 < w1.heap.size := (Array.getElem?_eq_some_iff.1 e2).1
 have z1 : w.heap.size + 1 < w1.heap.size := by omega
 have z0 : w.heap.size < w1.heap.size := by omega
 cases hv : wdB x with
 | false =>
  have hs : ez x ev = zWd := by unfold ez; rw [hv]; rfl
  obtain rfl := Hz.out.trans hs
  clear Hz
  have Hc1 := hid hc1
  clear hb1 hc1 e0 e1 e2 qf hv hs
  go_wp2_with fail
  refine bodyPost_ret (v := .agg #[.slice none 0 0, .slice none 0 0, .slice none 0 0, .slice none 0 0, .int .i64 0, .int .i64 0]) (by simp [results, Tryz.results21, go_sem, q0, q1, q2, q3, q4, q5]) rfl ⟨_, _, _, _, rfl, qa _ _, ?_⟩
  exact sb Hc1.out
 | true =>
  have hx := mm.1 hv
  have hs : ez x ev = doW x ev := by unfold ez; rw [hv]; rfl
  obtain rfl := Hz.out.trans hs
  clear Hz
  have Hx := hid hx; have Hc1 := hid hc1; have E1 := hid e1; have E2 := hid e2
  clear hb1 hc1 e0 e1 e2 qf hv hs hx q0 q1 q2 q3 q4 q5 qf0 qf1 qf2 qf3 qf4 qf5
  go_wp2_with fail
  refine (mu x _ _ (H.out _ Hc1.out) Hx.out).mono ?_
  rintro e' w3 ⟨um, us, un, ug, rfl, n3, hb3⟩
  obtain ⟨B1, d1, B2, d2, B3, d3, B4, d4, rfl, rfl, rfl, rfl⟩ := oWd_form n3
  have hc3 := bt Hc1.out hb3
  have e13 := ac hb3 E1.out
  have e23 := ac hb3 E2.out
  have s3 := hb3.size
  obtain ⟨F, hrn, hF⟩ := Rn.ofNew8 (B0 := w1.heap.size) (a0 := .int .i32 0) (a1 := .int .u32 0) (t := 81) n3 (Nat.le_refl _) s3
  have hb4 := lit_below w3 (.cells #[.int .i32 0, .int .u32 0, .slice B1 x.mixes.length d1, .slice B2 x.sent.length d2, .slice B3 x.net.length d3, .slice B4 x.got.length d4, .int .i64 x.made, .int .i64 x.lost] 81)
  have e14 := ac hb4 e13
  have e24 := ac hb4 e23
  have hl8 := (vu (heap_alloc_new w3 (.cells #[.int .i32 0, .int .u32 0, .slice B1 x.mixes.length d1, .slice B2 x.sent.length d2, .slice B3 x.net.length d3, .slice B4 x.got.length d4, .int .i64 x.made, .int .i64 x.lost] 81))).1
  have s4 : (w3.alloc (.cells #[.int .i32 0, .int .u32 0, .slice B1 x.mixes.length d1, .slice B2 x.sent.length d2, .slice B3 x.net.length d3, .slice B4 x.got.length d4, .int .i64 x.made, .int .i64 x.lost] 81)).heap.size = w3.heap.size + 1 := by simp
  obtain ⟨v0, v1, v2, v3, _⟩ := aQ e14
  have Hrn := hid hrn; have HF := hid hF; have E14 := hid e14; have E24 := hid e24; have Hl8 := hid hl8; have Hc4 := hid (bt hc3 hb4)
  have z14 : w.heap.size + 1 < (w3.alloc (.cells #[.int .i32 0, .int .u32 0, .slice B1 x.mixes.length d1, .slice B2 x.sent.length d2, .slice B3 x.net.length d3, .slice B4 x.got.length d4, .int .i64 x.made, .int .i64 x.lost] 81)).heap.size := by omega
  clear k0 k1 k2 k3 k4 k5 hb3 hrn hF e14 e24 hl8 e13 e23 hc3 n3 hb4 E1 E2
  go_wp2_with fail
  have hg4 := Hg.out _ Hc4.out
  have hB4 : w1.heap.size ≤ (w3.alloc (.cells #[.int .i32 0, .int .u32 0, .slice B1 x.mixes.length d1, .slice B2 x.sent.length d2, .slice B3 x.net.length d3, .slice B4 x.got.length d4, .int .i64 x.made, .int .i64 x.lost] 81)).heap.size := by omega
  generalize w3.alloc (.cells #[.int .i32 0, .int .u32 0, .slice B1 x.mixes.length d1, .slice B2 x.sent.length d2, .slice B3 x.net.length d3, .slice B4 x.got.length d4, .int .i64 x.made, .int .i64 x.lost] 81) = W4 at *
  refine (te w1.heap.size w3.heap.size x F ev W4 Hrn.out Hx.out hB4 (by omega) hg4 Hl8.out).mono ?_
  rintro e' w5 ⟨rfl, F', hrn5, hF5, hT5⟩
  generalize doW x ev = y at *
  obtain ⟨um5, us5, un5, ug5, c0, c1, c2, c3, c4, c5, hb5, n5⟩ := hrn5.new
  obtain ⟨D1, f1, D2, f2, D3, f3, D4, f4, rfl, rfl, rfl, rfl⟩ := oWd_form n5
  have e25 := hT5.row E24.out (fun hm => by rcases HF.out _ hm with h | h <;> omega)
  have hc5 : Below w.heap.size w w5 := Hc4.out.trans ((hT5.below hB4 (fun c hc => by rcases HF.out c hc with h | h <;> omega)).mono (by omega))
  obtain ⟨q0, q1, q2, q3, q4, q5, qf, qf0, qf1, qf2, qf3, qf4, qf5⟩ := row6f e25
  have z25 : w.heap.size + 1 + 1 < w5.heap.size := (Array.getElem?_eq_some_iff.1 e25).1
  have N5 := hid n5; have Hc5 := hid hc5
  clear hrn5 hF5 hT5 n5 e25 qf hc5 v0 v1 v2 v3
  go_wp2_with fail
  refine bodyPost_ret (v := .agg #[.slice D1 y.mixes.length f1, .slice D2 y.sent.length f2, .slice D3 y.net.length f3, .slice D4 y.got.length f4, .int .i64 y.made, .int .i64 y.lost]) (by simp [results, Tryz.results21, go_sem, q0, q1, q2, q3, q4, q5]) rfl ⟨_, _, _, _, rfl, ?_, ?_⟩
  ·refine ao.base (B := w1.heap.size) ?_ (by omega)
   repeat (refine ao.set ?_ (by dsimp only; omega))
   exact N5.out
  ·exact sb Hc5.out
section
open Go.ChangeShapes Go.WideShapes Go.ChangeAt Go.Deep
theorem kX (ws : List (List Char)) : stripLifts liftWords ("cut".toList :: ws) = ([], "cut".toList :: ws) := by kernel_rfl
theorem pE : ("cut".toList == "gc".toList) = false := by kernel_rfl
theorem pF : ("cut".toList == "spec".toList) = false := by kernel_rfl
theorem tp : ("cut".toList == "carried".toList) = false := by kernel_rfl
theorem mY {P : Program} {ws : List (List Char)} (h : behindMainWord (wordsSigns P.initOrder.toList) = "cut".toList :: ws) (h1 : P.laysLater = false) (h2 : P.bearsReflect = false) (h3 : P.doorFits [] = true) : P.mayEnter = true := by
 unfold Program.mayEnter
 rw [h]
 simp only [kX, pE, pF, tp, h1, h2, h3, List.head?_cons, List.contains_nil, Bool.false_and, Bool.false_or, Bool.not_false, Bool.and_true, beq_self_eq_true]
theorem lM {P : Program} {ws : List (List Char)} (h : behindMainWord (wordsSigns P.initOrder.toList) = "cut".toList :: ws) : P.headLifts = [] := by
 unfold Program.headLifts
 rw [h]
 simp only [kX, List.head?_cons, beq_self_eq_true, if_true]
theorem kJ {P : Program} {ws : List (List Char)} (h : behindMainWord (wordsSigns P.initOrder.toList) = "cut".toList :: ws) : P.liftsFinal = false := by
 unfold Program.liftsFinal
 simp only [h, lM h, List.head?_cons, List.contains_nil, Bool.or_false]
 rw [show (some "cut".toList == some "carried".toList) = false from by kernel_rfl]
 rfl
theorem tG {P : Program} {ws : List (List Char)} (h : behindMainWord (wordsSigns P.initOrder.toList) = "cut".toList :: ws) : P.make = some .cut := by
 unfold Program.make
 rw [h]
 simp only [pE, pF, Bool.or_false, beq_self_eq_true, Bool.true_or, if_true, Bool.false_eq_true, if_false]
def rF : List Char := ([104, 97, 114, 110, 101, 115, 115] : List Nat).map Char.ofNat
def rG : List Char := ([55, 102, 57, 50, 97, 48, 97, 57, 57, 53, 51, 98, 99, 102, 56, 52, 50, 49, 98, 53, 51, 101, 97, 50, 56, 48, 54, 52, 100, 53, 57, 97, 49, 97, 102, 50, 99, 54, 55, 50, 102, 52, 102, 52, 100, 53, 56, 48, 49, 54, 101, 100, 52, 98, 48, 99, 100, 57, 55, 53, 55, 101, 55, 54] : List Nat).map Char.ofNat
def rH : List Char := ([99, 117, 116] : List Nat).map Char.ofNat
def oy : List Char := ([97, 116, 32, 108, 111, 111, 112, 46, 101, 120, 97, 109, 112, 108, 101, 47, 109, 105, 120, 114, 101, 108, 97, 121, 47, 108, 97, 119, 115, 46, 70, 110, 69, 120, 97, 99, 116, 87, 111, 114, 108, 100, 80, 108, 97, 121, 32, 108, 111, 111, 112, 46, 101, 120, 97, 109, 112, 108, 101, 47, 109, 105, 120, 114, 101, 108, 97, 121, 47, 108, 97, 119, 115, 46, 70, 110, 69, 120, 97, 99, 116, 87, 111, 114, 108, 100, 67, 97, 108, 109, 32, 108, 111, 111, 112, 46, 101, 120, 97, 109, 112, 108, 101, 47, 109, 105, 120, 114, 101, 108, 97, 121, 47, 108, 97, 119, 115, 46, 70, 110, 69, 120, 97, 99, 116, 87, 111, 114, 108, 100, 68, 111] : List Nat).map Char.ofNat
def pG : List Char := ([104, 97, 114, 110, 101, 115, 115, 32, 55, 102, 57, 50, 97, 48, 97, 57, 57, 53, 51, 98, 99, 102, 56, 52, 50, 49, 98, 53, 51, 101, 97, 50, 56, 48, 54, 52, 100, 53, 57, 97, 49, 97, 102, 50, 99, 54, 55, 50, 102, 52, 102, 52, 100, 53, 56, 48, 49, 54, 101, 100, 52, 98, 48, 99, 100, 57, 55, 53, 55, 101, 55, 54, 32, 99, 117, 116, 32, 97, 116, 32, 108, 111, 111, 112, 46, 101, 120, 97, 109, 112, 108, 101, 47, 109, 105, 120, 114, 101, 108, 97, 121, 47, 108, 97, 119, 115, 46, 70, 110, 69, 120, 97, 99, 116, 87, 111, 114, 108, 100, 80, 108, 97, 121, 32, 108, 111, 111, 112, 46, 101, 120, 97, 109, 112, 108, 101, 47, 109, 105, 120, 114, 101, 108, 97, 121, 47, 108, 97, 119, 115, 46, 70, 110, 69, 120, 97, 99, 116, 87, 111, 114, 108, 100, 67, 97, 108, 109, 32, 108, 111, 111, 112, 46, 101, 120, 97, 109, 112, 108, 101, 47, 109, 105, 120, 114, 101, 108, 97, 121, 47, 108, 97, 119, 115, 46, 70, 110, 69, 120, 97, 99, 116, 87, 111, 114, 108, 100, 68, 111] : List Nat).map Char.ofNat
theorem tx : Tryz.prog.initOrder = String.ofList pG := by dsimp only [Tryz.prog, Tryz.progTables]; kernel_rfl
theorem rI : pG = rF ++ Char.ofNat 32 :: (rG ++ Char.ofNat 32 :: (rH ++ Char.ofNat 32 :: oy)) := by kernel_rfl
theorem gW (w : List Char) (hw : w.all (fun c => c != Char.ofNat 32) = true) (r : List Char) : wordsSigns (w ++ Char.ofNat 32 :: r) = w :: wordsSigns r := by
 induction w with
 | nil => rfl
 | cons c w ih =>
  simp only [List.all_cons, Bool.and_eq_true, bne_iff_ne, ne_eq] at hw
  have h := ih hw.2
  rw [List.cons_append, wordsSigns.eq_3 _ _ (fun e => hw.1 e), h]
theorem gM : behindMainWord (wordsSigns Tryz.prog.initOrder.toList) = "cut".toList :: wordsSigns oy := by
 rw [tx, String.toList_ofList, rI, gW rF (by kernel_rfl), gW rG (by kernel_rfl), gW rH (by kernel_rfl)]
 generalize wordsSigns oy = ws
 kernel_rfl
theorem oo : Tryz.prog.mayEnter = true := mY gM (by kernel_rfl) (by kernel_rfl) (by kernel_rfl)
theorem ot : Tryz.prog.liftsFinal = false := kJ gM
theorem ql : Tryz.prog.make = some .cut := tG gM
theorem su : ownKnob Tryz.prog.godebug = none := by kernel_rfl
theorem mU : laidOutB Tryz.prog = true := by kernel_rfl
def cT {α : Type} (P : Program) (T : Ty α) (t : TypeId) (fit : α → Prop) : Prop :=
 ∀ {H : Type} (enc : TypeId × Value → H) (w : World) (spare : Nat → Bool) (held : Bool) (fuel : Nat) (cs : List Value) (x : DataW H × List MemPlace),
  DataW.trod enc P w 0 spare held fuel t cs = some x → ∃ d F, T.E w cs d F ∧ fit d
section
variable {α : Type} {P : Program}
theorem ly {k : IntKind} {t : TypeId} (T : Ty Int) (hT : ∀ w n, T.E w [.int k n] n []) (ht : P.underlying t = some (.int k)) : cT P T t (fun n => (Lit.int k n).wf = true) := by
 intro H enc w spare held fuel cs x h
 obtain ⟨n, rfl, _, hn⟩ := DataW.trod_int ht h
 exact ⟨n, [], hT w n, hn⟩
theorem pd {t : TypeId} (ht : P.underlying t = some .bool) : cT P nJ t (fun _ => True) := by
 intro H enc w spare held fuel cs x h
 obtain ⟨n, rfl, _⟩ := DataW.trod_bool ht h
 exact ⟨n, [], ⟨rfl, rfl⟩, trivial⟩
theorem iU {T : Ty α} {t e : TypeId} {fit : α → Prop} (ho : cT P T e fit) (ht : P.underlying t = some (.slice e)) (hc : P.cellsOf e = T.k) (hk : 0 < T.k) : cT P T.sl t (fun xs => ∀ x ∈ xs, fit x) := by
 intro H enc w spare held fuel cs x h
 rcases open_slice ht h with ⟨rfl, _⟩ | ⟨a, len, cap, m, n, D, Pl, rfl, _, hlc, hcm, hm, _, hi⟩
 ·exact ⟨[], [], ⟨_, rfl, Sl.nil _ _ (by simp [maxLen])⟩, fun x hx => by cases hx⟩
 ·have hlm : len ≤ m := by rw [hm]; split <;> omega
  rw [hc] at hi
  have key : ∀ l, l ≤ len → ∃ (xs : List α) (F : List Nat) (css : List Value), xs.length = l ∧ T.els w css xs F ∧ (∀ x ∈ xs, fit x) ∧ ∀ j u, css[j]? = some u → w.cell? (a.add j) = some u := by
   intro l
   induction l with
   | zero => intro _; exact ⟨[], [], [], rfl, Ty.els_nil, (fun x hx => by cases hx), (fun j u hj => by cases hj)⟩
   | succ l ih =>
    intro hl
    obtain ⟨xs, F, css, h1, h2, h3, h4⟩ := ih (by omega)
    obtain ⟨cs', hcs, htr⟩ := hi l (by omega)
    obtain ⟨d, G, hE, hfit⟩ := ho enc w spare held n cs' _ htr
    obtain ⟨_, hcl, hat⟩ := World.cells?_some hcs
    refine ⟨xs ++ [d], F ++ G, css ++ cs', by simp [h1], Ty.els_append h2 (Ty.els_one hE), fun x hx => ?_, fun j u hj => ?_⟩
    ·rcases List.mem_append.1 hx with hx | hx
     ·exact h3 x hx
     ·rw [List.mem_singleton.1 hx]; exact hfit
    ·have hcl' := Ty.els_len h2
     rw [h1] at hcl'
     by_cases hjl : j < css.length
     ·rw [List.getElem?_append_left hjl] at hj; exact h4 j u hj
     ·rw [List.getElem?_append_right (by omega)] at hj
      have hj2 := (List.getElem?_eq_some_iff.1 hj).1
      have := hat (j - css.length) (by omega)
      rw [hj] at this
      rw [Deep.add_add] at this
      rw [show l * T.k + (j - css.length) = j from by omega] at this
      exact this
  obtain ⟨xs, F, css, h1, h2, h3, h4⟩ := key len (Nat.le_refl _)
  subst h1
  by_cases hx : xs = []
  ·subst hx
   exact ⟨[], [], ⟨_, rfl, Sl.nil _ _ hcm⟩, h3⟩
  ·have hl0 : 0 < css.length := by rw [Ty.els_len h2]; exact Nat.mul_pos (List.length_pos_iff.2 hx) hk
   have hc0 := h4 0 _ (List.getElem?_eq_getElem hl0)
   obtain ⟨b, o, s⟩ := a
   have hs : s = none := by
    cases s with
    | none => rfl
    | some s => simp [Addr.add, World.cell?] at hc0; split at hc0 <;> simp at hc0
   subst hs
   have hb : b < w.heap.size := by
    have := World.block_lt_of_cell? w _ hc0
    simpa [Addr.add] using this
   refine ⟨xs, b :: F, ⟨_, rfl, ⟨_, cap, css, rfl, hlc, hcm, .inr ⟨b, o, F, rfl, rfl, hx, hb, h2, fun j u hj => ?_⟩⟩⟩, h3⟩
   have := h4 j u hj
   rcases Nat.eq_zero_or_pos j with h | h
   ·subst h; simpa [Addr.add] using this
   ·simpa [Addr.add, Nat.ne_of_gt h] using this
end
theorem vW {α : Type} {T : Ty α} {t e : TypeId} {fit : List α → Prop} (ho : cT Tryz.prog T.sl t fit) (ht : Tryz.prog.underlying t = some (.slice e)) {H : Type} {enc : TypeId × Value → H} {W : World} {base : Nat} {spare : Nat → Bool} {held : Bool} {v : Value} {d : DataW H} {p : List MemPlace}
  (hv : Value.okWide Tryz.prog W .any base t v) (h : DataW.Trod enc Tryz.prog W 0 spare held t v d p) : ∃ xs, SlB T W.heap.size W v xs ∧ fit xs := by
 obtain ⟨a, l, c, rfl⟩ := okWide_slice ht hv
 obtain ⟨fuel, hf⟩ := h
 obtain ⟨xs, F, ⟨v', hv', hs⟩, hfit⟩ := ho enc W spare held fuel _ _ hf
 simp [Value.cells] at hv'
 subst hv'
 exact ⟨xs, ⟨F, hs, hs.lt⟩, hfit⟩
theorem pe : cT Tryz.prog ae.sl 82 (fun xs => ∀ x ∈ xs, (Lit.int .i64 x).wf = true) :=
 iU (ly ae (fun _ _ => ⟨rfl, rfl⟩) Tryz.underlying3) Tryz.underlying82 (by kernel_rfl) (by decide)
end
section
open Go.ChangeShapes Go.WideShapes Go.ChangeAt Go.Deep
section
variable {α β : Type} {P : Program} {H : Type} {enc : TypeId × Value → H} {w : World} {spare : Nat → Bool} {held : Bool} {n : Nat} {cs : List Value}
theorem ey {T : Ty α} {f : Field} {o : Nat} {y : DataW H × List MemPlace} (ho : cT P T f.type (fun _ => True)) (hf : f.offset = o) (hk : P.cellsOf f.type = T.k) (hl : cs.length = o + T.k)
  (h : DataW.trod enc P w 0 spare held n f.type ((cs.drop f.offset).take (P.cellsOf f.type)) = some y) : ∃ d F, T.E w (cs.drop o) d F := by
 obtain ⟨d, F, hE, _⟩ := ho enc w spare held n _ _ h
 rw [hf, hk, List.take_of_length_le (by simp; omega)] at hE
 exact ⟨d, F, hE⟩
theorem br {T : Ty α} {T2 : Ty β} {f : Field} {o : Nat} {y : DataW H × List MemPlace} (ho : cT P T f.type (fun _ => True)) (hf : f.offset = o) (hk : P.cellsOf f.type = T.k)
  (h : DataW.trod enc P w 0 spare held n f.type ((cs.drop f.offset).take (P.cellsOf f.type)) = some y) (h2 : ∃ d F, T2.E w (cs.drop (o + T.k)) d F) : ∃ d F, (T.prod T2).E w (cs.drop o) d F := by
 obtain ⟨d, F, hE, _⟩ := ho enc w spare held n _ _ h
 obtain ⟨d2, F2, hE2⟩ := h2
 rw [hf, hk] at hE
 refine ⟨(d, d2), F ++ F2, _, _, _, _, ?_, rfl, hE, hE2⟩
 have := (List.take_append_drop T.k (cs.drop o)).symm
 rwa [List.drop_drop] at this
theorem iF {T : Ty α} {t : TypeId} {fit : α → Prop} (h : cT P T t fit) : cT P T t (fun _ => True) := by
 intro H enc w spare held fuel cs x hx
 obtain ⟨d, F, hE, _⟩ := h enc w spare held fuel cs x hx
 exact ⟨d, F, hE, trivial⟩
theorem ig {T : Ty α} {t e : TypeId} (ho : cT P T e (fun _ => True)) (ht : P.underlying t = some (.slice e)) (hc : P.cellsOf e = T.k) (hk : 0 < T.k) : cT P T.sl t (fun _ => True) := iF (iU ho ht hc hk)
end
theorem et : cT Tryz.prog ae 3 (fun _ => True) := iF (ly ae (fun _ _ => ⟨rfl, rfl⟩) Tryz.underlying3)
theorem uR : cT Tryz.prog nJ 4 (fun _ => True) := pd Tryz.underlying4
theorem pa : cT Tryz.prog ae.sl 82 (fun _ => True) := iF pe
theorem opens_pk : cT Tryz.prog tPk 109 (fun _ => True) := by
 intro H enc w spare held fuel cs x h
 obtain ⟨xs, n, _, _, hl, hxl, hf⟩ := DataW.trod_struct Tryz.underlying109 h
 rw [show Tryz.prog.cellsOf 109 = 4 from by kernel_rfl] at hl
 match xs, hxl with
 | [x0, x1, x2, x3], _ =>
  obtain ⟨⟨a, b, c, d⟩, F, hE⟩ := br (o := 0) et rfl (by kernel_rfl) (hf 0 _ rfl) (br pa rfl (by kernel_rfl) (hf 1 _ rfl) (br et rfl (by kernel_rfl) (hf 2 _ rfl) (ey pa rfl (by kernel_rfl) (by exact hl) (hf 3 _ rfl))))
  exact ⟨⟨a, b, c, d⟩, F, hE, trivial⟩
theorem sk : cT Tryz.prog tPl 186 (fun _ => True) := by
 intro H enc w spare held fuel cs x h
 obtain ⟨xs, n, _, _, hl, hxl, hf⟩ := DataW.trod_struct Tryz.underlying186 h
 rw [show Tryz.prog.cellsOf 186 = 6 from by kernel_rfl] at hl
 match xs, hxl with
 | [x0, x1, x2], _ =>
  obtain ⟨⟨a, b, c⟩, F, hE⟩ := br (o := 0) et rfl (by kernel_rfl) (hf 0 _ rfl) (br et rfl (by kernel_rfl) (hf 1 _ rfl) (ey opens_pk rfl (by kernel_rfl) (by exact hl) (hf 2 _ rfl)))
  exact ⟨⟨a, b, c⟩, F, hE, trivial⟩
theorem so : cT Tryz.prog tTr 111 (fun _ => True) := by
 intro H enc w spare held fuel cs x h
 obtain ⟨xs, n, _, _, hl, hxl, hf⟩ := DataW.trod_struct Tryz.underlying111 h
 rw [show Tryz.prog.cellsOf 111 = 6 from by kernel_rfl] at hl
 match xs, hxl with
 | [x0, x1, x2], _ =>
  obtain ⟨⟨a, b, c⟩, F, hE⟩ := br (o := 0) et rfl (by kernel_rfl) (hf 0 _ rfl) (br opens_pk rfl (by kernel_rfl) (hf 1 _ rfl) (ey uR rfl (by kernel_rfl) (by exact hl) (hf 2 _ rfl)))
  exact ⟨⟨a, b, c⟩, F, hE, trivial⟩
theorem sj : cT Tryz.prog tMx 107 (fun _ => True) := by
 intro H enc w spare held fuel cs x h
 obtain ⟨xs, n, _, _, hl, hxl, hf⟩ := DataW.trod_struct Tryz.underlying107 h
 rw [show Tryz.prog.cellsOf 107 = 3 from by kernel_rfl] at hl
 match xs, hxl with
 | [x0, x1, x2], _ =>
  obtain ⟨⟨a, b, c⟩, F, hE⟩ := br (o := 0) et rfl (by kernel_rfl) (hf 0 _ rfl) (br pa rfl (by kernel_rfl) (hf 1 _ rfl) (ey (ig sk Tryz.underlying105 (by kernel_rfl) (by decide)) rfl (by kernel_rfl) (by exact hl) (hf 2 _ rfl)))
  exact ⟨⟨a, b, c⟩, F, hE, trivial⟩
theorem si : cT Tryz.prog tLt 125 (fun _ => True) := by
 intro H enc w spare held fuel cs x h
 obtain ⟨xs, n, _, _, hl, hxl, hf⟩ := DataW.trod_struct Tryz.underlying125 h
 rw [show Tryz.prog.cellsOf 125 = 3 from by kernel_rfl] at hl
 match xs, hxl with
 | [x0, x1, x2], _ =>
  obtain ⟨⟨a, b, c⟩, F, c1, c2, F1, F2, e1, e2, ⟨rfl, rfl⟩, c3, c4, F3, F4, rfl, rfl, ⟨rfl, rfl⟩, rfl, rfl⟩ := br (o := 0) et rfl (by kernel_rfl) (hf 0 _ rfl) (br et rfl (by kernel_rfl) (hf 1 _ rfl) (ey et rfl (by kernel_rfl) (by exact hl) (hf 2 _ rfl)))
  exact ⟨⟨a, b, c⟩, [], ⟨e1, rfl⟩, trivial⟩
theorem uu : cT Tryz.prog tLt.sl 39 (fun _ => True) := ig si Tryz.underlying39 (by kernel_rfl) (by decide)
theorem sp : cT Tryz.prog tWd 42 (fun _ => True) := by
 intro H enc w spare held fuel cs x h
 obtain ⟨xs, n, _, _, hl, hxl, hf⟩ := DataW.trod_struct Tryz.underlying42 h
 rw [show Tryz.prog.cellsOf 42 = 6 from by kernel_rfl] at hl
 match xs, hxl with
 | [x0, x1, x2, x3, x4, x5], _ =>
  obtain ⟨⟨a, b, c, d, e, f⟩, F, hE⟩ := br (o := 0) (ig sj Tryz.underlying38 (by kernel_rfl) (by decide)) rfl (by kernel_rfl) (hf 0 _ rfl) (br uu rfl (by kernel_rfl) (hf 1 _ rfl) (br (ig so Tryz.underlying40 (by kernel_rfl) (by decide)) rfl (by kernel_rfl) (hf 2 _ rfl) (br uu rfl (by kernel_rfl) (hf 3 _ rfl) (br et rfl (by kernel_rfl) (hf 4 _ rfl) (ey et rfl (by kernel_rfl) (by exact hl) (hf 5 _ rfl))))))
  exact ⟨⟨a, b, c, d, e, f⟩, F, hE, trivial⟩
theorem vq {H : Type} {enc : TypeId × Value → H} {W : World} {base : Nat} {spare : Nat → Bool} {held : Bool} {v : Value} {d : DataW H} {p : List MemPlace}
  (hv : Value.okWide Tryz.prog W .any base 42 v) (h : DataW.Trod enc Tryz.prog W 0 spare held 42 v d p) : ∃ x, WdB W.heap.size W v x ∧ True := by
 obtain ⟨fuel, hf⟩ := h
 obtain ⟨x, F, hE, _⟩ := sp enc W spare held fuel _ _ hf
 obtain ⟨vm, vs, vn, vg, Fm, Fs, Fn, Fg, e1, _, hm, hs, hn, hg⟩ := uy.1 hE
 obtain ⟨cs, rfl, _⟩ := okWide_struct Tryz.underlying42 hv
 have hvv : Value.agg cs = .agg #[vm, vs, vn, vg, .int .i64 x.made, .int .i64 x.lost] := by
  rw [← e1]; rfl
 exact ⟨x, ⟨vm, vs, vn, vg, hvv, ⟨_, hm, hm.lt⟩, ⟨_, hs, hs.lt⟩, ⟨_, hn, hn.lt⟩, ⟨_, hg, hg.lt⟩⟩, trivial⟩
end
def tEv : Ty Ev := Ty.flat 4 (fun e => [.int .i64 e.kind, .int .i64 e.a, .int .i64 e.b, .int .i64 e.c]) (fun _ => rfl) (fun _ u hu => by simp at hu; rcases hu with rfl | rfl | rfl | rfl <;> rfl)
theorem SlB.ev {B n c : Nat} {w : World} {A : Option Addr} {xs : List Ev} (h : SlB tEv B w (.slice A n c) xs) {i : Nat} {x : Ev} (hx : xs[i]? = some x) :
  ∃ b o, A = some ⟨b, o, none⟩ ∧ b < B ∧ b < w.heap.size ∧ w.cell? ⟨b, o + i * 4, none⟩ = some (.int .i64 x.kind) ∧ w.cell? ⟨b, o + i * 4 + 1, none⟩ = some (.int .i64 x.a) ∧ w.cell? ⟨b, o + i * 4 + 2, none⟩ = some (.int .i64 x.b) ∧ w.cell? ⟨b, o + i * 4 + 3, none⟩ = some (.int .i64 x.c) := by
 obtain ⟨b, o, cs, G, h1, h2, h2', ⟨rfl, _⟩, _, h5⟩ := h.at_ hx
 exact ⟨b, o, h1, h2, h2', h5 0 _ rfl, h5 1 _ rfl, h5 2 _ rfl, h5 3 _ rfl⟩
section
open Go.ChangeShapes Go.WideShapes Go.ChangeAt Go.Deep
theorem sg : cT Tryz.prog tEv 48 (fun _ => True) := by
 intro H enc w spare held fuel cs x h
 obtain ⟨xs, n, _, _, hl, hxl, hf⟩ := DataW.trod_struct Tryz.underlying48 h
 rw [show Tryz.prog.cellsOf 48 = 4 from by kernel_rfl] at hl
 match xs, hxl with
 | [x0, x1, x2, x3], _ =>
  obtain ⟨⟨a, b, c, d⟩, F, c1, c2, F1, F2, e1, e2, ⟨rfl, rfl⟩, c3, c4, F3, F4, rfl, rfl, ⟨rfl, rfl⟩, c5, c6, F5, F6, rfl, rfl, ⟨rfl, rfl⟩, rfl, rfl⟩ := br (o := 0) et rfl (by kernel_rfl) (hf 0 _ rfl) (br et rfl (by kernel_rfl) (hf 1 _ rfl) (br et rfl (by kernel_rfl) (hf 2 _ rfl) (ey et rfl (by kernel_rfl) (by exact hl) (hf 3 _ rfl))))
  exact ⟨⟨a, b, c, d⟩, [], ⟨e1, rfl⟩, trivial⟩
theorem vo {H : Type} {enc : TypeId × Value → H} {W : World} {base : Nat} {spare : Nat → Bool} {held : Bool} {v : Value} {d : DataW H} {p : List MemPlace}
  (hv : Value.okWide Tryz.prog W .any base 48 v) (h : DataW.Trod enc Tryz.prog W 0 spare held 48 v d p) : ∃ e : Ev, v = .agg #[.int .i64 e.kind, .int .i64 e.a, .int .i64 e.b, .int .i64 e.c] ∧ True := by
 obtain ⟨fuel, hf⟩ := h
 obtain ⟨x, F, hE, _⟩ := sg enc W spare held fuel _ _ hf
 have e1 : _ = [Value.int .i64 x.kind, .int .i64 x.a, .int .i64 x.b, .int .i64 x.c] := hE.1
 obtain ⟨cs, rfl, _⟩ := okWide_struct Tryz.underlying48 hv
 exact ⟨x, by rw [← e1]; rfl, trivial⟩
theorem iO (e : Ev) (w : World) : Calls Tryz.prog 20 #[.agg #[.int .i64 e.kind, .int .i64 e.a, .int .i64 e.b, .int .i64 e.c]] w fun r w' => r = .returned (.agg #[.int .i64 e.kind, .int .i64 e.a, .int .i64 e.b, .int .i64 e.c]) ∧ Below w.heap.size w w' := by
 go_enter Tryz.func20, Tryz.ntmps20
 go_wp2
 refine bodyPost_ret (v := .agg #[.int .i64 e.kind, .int .i64 e.a, .int .i64 e.b, .int .i64 e.c]) (by simp [results, go_sem]) rfl ⟨rfl, ?_⟩
 repeat (first | exact Below.refl _ _ | refine Below.setCell ?_ (by first | omega | (simp; done) | (simp; omega)) _ | refine Below.alloc ?_ (by first | omega | (simp; done) | (simp; omega)) _)
end
theorem WdB.mono {B B' : Nat} {w : World} {v : Value} {x : Wd} (h : WdB B w v x) (hB : B ≤ B') : WdB B' w v x := by
 obtain ⟨vm, vs, vn, vg, rfl, h1, h2, h3, h4⟩ := h
 exact ⟨_, _, _, _, rfl, h1.mono hB, h2.mono hB, h3.mono hB, h4.mono hB⟩
def cF (B C : Nat) (w : World) (um us un ug : Value) (x : Wd) : Prop :=
 ∃ Fm Fs Fn Fg, (dd.E w [um] x.mixes Fm ∧ bf.E w [us] x.sent Fs ∧ de.E w [un] x.net Fn ∧ bf.E w [ug] x.got Fg) ∧ (Fm ++ (Fs ++ (Fn ++ Fg))).Nodup ∧ ∀ c ∈ Fm ++ (Fs ++ (Fn ++ Fg)), B ≤ c ∧ c < C
section
variable {B C n : Nat} {w w' : World} {um us un ug : Value} {x : Wd}
theorem cF.of (h : ao oWd B w [um, us, un, ug, .int .i64 x.made, .int .i64 x.lost] x) : cF B w.heap.size w um us un ug x := by
 obtain ⟨Fm, Fs, Fn, Fg, h1, h2, h3, h4, n1, n2⟩ := eH h
 refine ⟨Fm, Fs, Fn, Fg, ⟨h1, h2, h3, h4⟩, n1, fun c hc => ⟨n2 c hc, ?_⟩⟩
 simp only [List.mem_append] at hc
 rcases hc with h | h | h | h
 ·exact dd.lt h1 c h
 ·exact bf.lt h2 c h
 ·exact de.lt h3 c h
 ·exact bf.lt h4 c h
theorem cF.new (h : cF B C w um us un ug x) : ao oWd B w [um, us, un, ug, .int .i64 x.made, .int .i64 x.lost] x := by
 obtain ⟨Fm, Fs, Fn, Fg, ⟨h1, h2, h3, h4⟩, n1, n2⟩ := h
 exact ⟨Fm ++ (Fs ++ (Fn ++ (Fg ++ ([] ++ [])))), ⟨[um], _, Fm, _, rfl, rfl, h1, [us], _, Fs, _, rfl, rfl, h2, [un], _, Fn, _, rfl, rfl, h3, [ug], _, Fg, _, rfl, rfl, h4, [_], [_], [], [], rfl, rfl, ⟨rfl, rfl⟩, ⟨rfl, rfl⟩⟩, by simpa using n1, fun c hc => (n2 c (by simpa using hc)).1⟩
theorem cF.wdB (h : cF B C w um us un ug x) : WdB w.heap.size w (.agg #[um, us, un, ug, .int .i64 x.made, .int .i64 x.lost]) x := ib h.new
theorem cF.keep (h : cF B C w um us un ug x) (hk : ∀ c, B ≤ c → c < C → w'.heap[c]? = w.heap[c]?) : cF B C w' um us un ug x := by
 obtain ⟨Fm, Fs, Fn, Fg, ⟨h1, h2, h3, h4⟩, n1, n2⟩ := h
 have k : ∀ c ∈ Fm ++ (Fs ++ (Fn ++ Fg)), w'.heap[c]? = w.heap[c]? := fun c hc => hk c (n2 c hc).1 (n2 c hc).2
 exact ⟨Fm, Fs, Fn, Fg, ⟨dd.keep h1 (fun c hc => k c (by simp [hc])), bf.keep h2 (fun c hc => k c (by simp [hc])), de.keep h3 (fun c hc => k c (by simp [hc])), bf.keep h4 (fun c hc => k c (by simp [hc]))⟩, n1, n2⟩
theorem cF.go (h : cF B C w um us un ug x) (hb : Below n w w') (hC : C ≤ n) : cF B C w' um us un ug x := h.keep (fun c _ hc => hb.block c (by omega))
theorem cF.form (h : cF B C w um us un ug x) : ∃ A1 c1 A2 c2 A3 c3 A4 c4, um = .slice A1 x.mixes.length c1 ∧ us = .slice A2 x.sent.length c2 ∧ un = .slice A3 x.net.length c3 ∧ ug = .slice A4 x.got.length c4 := oWd_form h.new
def gY (B C : Nat) (w w' : World) : Prop := ∃ F, Tch F w w' ∧ ∀ c ∈ F, B ≤ c ∧ c < C
theorem gY.below (h : gY B C w w') (hB : B ≤ w.heap.size) : Below B w w' := by
 obtain ⟨F, ht, hF⟩ := h
 exact ht.below hB (fun c hc => (hF c hc).1)
theorem gY.block (h : gY B C w w') {c : Nat} (hc : c < w.heap.size) (ho : c < B ∨ C ≤ c) : w'.heap[c]? = w.heap[c]? := by
 obtain ⟨F, ht, hF⟩ := h
 exact ht.block c hc (fun hm => by have := hF c hm; omega)
theorem gY.row (h : gY B C w w') {c : Nat} {o : Obj} (hc : w.heap[c]? = some o) (ho : c < B ∨ C ≤ c) : w'.heap[c]? = some o := (h.block (Array.getElem?_eq_some_iff.1 hc).1 ho).trans hc
theorem gY.size (h : gY B C w w') : w.heap.size ≤ w'.heap.size := by obtain ⟨F, ht, _⟩ := h; exact ht.size
end
theorem rV (B C : Nat) (x : Wd) (um us un ug : Value) (k : Int) (w : World) (h : cF B C w um us un ug x) (hk0 : 0 ≤ k) (hk1 : k + cWd x ≤ 4611686018427387904) :
  Calls Tryz.prog 13 #[.agg #[um, us, un, ug, .int .i64 x.made, .int .i64 x.lost], .int .i64 k] w fun e' w' => e' = .returned (.int .i64 (k + cWd x)) ∧ cF B C w' um us un ug (mkWd k x) ∧ gY B C w w' := by
 obtain ⟨Fm, Fs, Fn, Fg, ⟨h1, h2, h3, h4⟩, n1, n2⟩ := h
 refine (mW x um us un ug Fm Fs Fn Fg k w h1 h2 h3 h4 n1 hk0 hk1).mono ?_
 rintro e w' ⟨rfl, hE, ht⟩
 exact ⟨rfl, ⟨Fm, Fs, Fn, Fg, hE, n1, n2⟩, _, ht, n2⟩
section
open Go.ChangeShapes Go.WideShapes Go.ChangeAt Go.Deep
def lh : List (String × DataW Unit) := [("errors.errorType", Rows.laid_errors_errorType)]
theorem g_et : Tryz.prog.globalNamed "errors.errorType" = some 0 := by kernel_rfl
theorem g_rt : (Tryz.prog.cutTypes.find? (·.1 == "internal/reflectlite.rtype")).map (·.2) = some 192 := by kernel_rfl
theorem rB : ((List.range 253).filter fun t => Tryz.prog.rowNamed t [101, 114, 114, 111, 114]) = [135] := by kernel_rfl
theorem uL : Tryz.prog.types.size = 253 := by kernel_rfl
def uE (W : World) : Prop := W.cell? ⟨0, 0, none⟩ = some (.iface 192 (.agg #[.pointer (some ⟨1, 135, none⟩)]))
theorem jz {W : World} (h : laidMetH Tryz.prog lh W) : uE W := by
 have h' : laidMet Tryz.prog [] W ∧ handlesMet Tryz.prog lh W := h
 obtain ⟨name, u, ty, e1, e2, e3, e4, e5⟩ := h'.2 _ (List.mem_singleton.2 rfl)
 have en : name = [101, 114, 114, 111, 114] := (Option.some.inj e1).symm
 subst en
 obtain rfl := Option.some.inj (g_rt.symm.trans e2)
 have hm : ty ∈ (List.range 253).filter fun t => Tryz.prog.rowNamed t [101, 114, 114, 111, 114] := List.mem_filter.2 ⟨List.mem_range.2 (by rw [← uL]; exact e3), e4⟩
 rw [rB] at hm
 obtain rfl := List.mem_singleton.1 hm
 have hh : typeHandle Tryz.prog 135 = .pointer (some ⟨1, 135, none⟩) := by kernel_rfl
 rw [hh] at e5
 have := World.var?_cell g_et e5 0
 unfold uE
 simpa using this
noncomputable def lj (os : Os) : World :=
 let w0 := World.holding Tryz.prog os ⟨#[], #[], []⟩
 { w0 with heap := w0.heap.modify 0 fun
   | .cells _ t frozen => .cells #[.iface 192 (.agg #[.pointer (some ⟨1, 135, none⟩)])] t frozen
   | o => o }
theorem kH (os : Os) (args : Array Value) : laidMetH Tryz.prog lh ((lj os).forCall (fun _ _ => 0) ⟨#[], args, []⟩).memory :=
 laidMetH_of_parts (laidMet_nil _ _) (by kernel_rfl)
end
theorem vQ {B n t : Nat} {w0 w W : World} {x : Wd} {um us un ug : Value} (n1 : ao oWd B w [um, us, un, ug, .int .i64 x.made, .int .i64 x.lost] x) (hb : Below n w0 w) (hs : n ≤ w.heap.size) (h : w.alloc (.cells #[um, us, un, ug, .int .i64 x.made, .int .i64 x.lost] t) = W) :
  W.heap[w.heap.size]? = some (.cells #[um, us, un, ug, .int .i64 x.made, .int .i64 x.lost] t (0, 0)) ∧ cF B w.heap.size W um us un ug x ∧ Below w.heap.size w W ∧ Below n w0 W ∧ W.heap.size = w.heap.size + 1 := by
 subst h
 have hb1 := lit_below w (.cells #[um, us, un, ug, .int .i64 x.made, .int .i64 x.lost] t)
 exact ⟨heap_alloc_new _ _, (cF.of n1).go hb1 (Nat.le_refl _), hb1, hb.trans (hb1.mono hs), by simp⟩
end Go.Proofs.YtfledddejfpopaaGreatDoor
