/- New runs, in both texts. -/
import Derived.Test.YtbkckjobhopicaaWRun2
namespace Go.Proofs.Ytbkckjobhopicaa
open Go Go.RowKit
set_option maxHeartbeats 400000
/-- owned data -/
def oInt : Ty (List Int) := tInt.own 3
def oPk : Ty Pk := pkTy oInt
def oPl : Ty Pl := plTy oPk
def oTr : Ty Tr := trTy oPk
def oPls : Ty (List Pl) := oPl.own 93
def oMx : Ty Mx := mxTy oInt oPls
theorem le_oInt : oInt.le tInt.sl := Ty.le_own (Ty.le_refl _) _
theorem le_oPk : oPk.le tPk := Ty.le_via (Ty.le_prod (Ty.le_refl _) (Ty.le_prod le_oInt (Ty.le_prod (Ty.le_refl _) le_oInt)))
theorem le_oPl : oPl.le tPl := Ty.le_via (Ty.le_prod (Ty.le_refl _) (Ty.le_prod (Ty.le_refl _) le_oPk))
theorem le_oTr : oTr.le tTr := Ty.le_via (Ty.le_prod (Ty.le_refl _) (Ty.le_prod le_oPk (Ty.le_refl _)))
theorem le_oMx : oMx.le tMx := Ty.le_via (Ty.le_prod (Ty.le_refl _) (Ty.le_prod le_oInt (Ty.le_own le_oPl _)))
def mixNew (k : Nat) : Mx := ⟨secOf k, [], []⟩
def mixesNew (k : Nat) : List Mx := (List.range k).map mixNew
def wdNew : Wd := ⟨mixesNew 3, [], [], [], 0, 0⟩
theorem mixesNew_succ (k : Nat) : mixesNew (k + 1) = mixesNew k ++ [mixNew k] := by simp [mixesNew, List.range_succ]
theorem mixesNew_len (k : Nat) : (mixesNew k).length = k := by simp [mixesNew]
theorem infoMix : (Try.prog.info? 46).map (fun i => (i.zero, i.size, i.bytes)) = some (some (.agg #[.int .i64 0, .slice none 0 0, .slice none 0 0]), 3, 56) := by kernel_rfl
theorem mixNew_E (w : World) (k : Nat) : oMx.E w [.int .i64 (secOf k), .slice none 0 0, .slice none 0 0] (mixNew k) [] :=
  ⟨[_], [_, _], [], [], rfl, rfl, ⟨rfl, rfl⟩, [_], [_], [], [], rfl, rfl, ⟨_, [], rfl, Own.nil _ _, rfl⟩, ⟨_, [], rfl, Own.nil _ _, rfl⟩⟩
theorem mixNew_T (w : World) (k : Nat) (A B : Option Addr) : tMx.E w [.int .i64 (secOf k), .slice A 0 0, .slice B 0 0] (mixNew k) [] :=
  tMx_E.2 ⟨_, _, [], [], rfl, rfl, Sl.nil 0 _ (by simp [maxLen]), Sl.nil 0 _ (by simp [maxLen])⟩
theorem sec_win {k : Nat} (h : k < 3) : win (secOf k) 1 996 = true := win_t.2 (by unfold secOf; omega)
theorem own_set {α : Type} {T : Ty α} {e B : Nat} {w : World} {v : Value} {xs : List α} {G : List Nat} {p : Addr} {u : Value} (h : Own T e B w v xs G) (hv : v.ownBlock ≠ some p.block) (hG : p.block ∉ G) : Own T e B (w.setCell p u) v xs G :=
  h.keep (fun b hb => Below.heap_setCell _ _ _ _ (fun e => hv (by rw [hb, e]))) (fun b hb => Below.heap_setCell _ _ _ _ (fun e => hG (by rw [← e]; exact hb)))
/-- mixes that have seen nothing, as the program makes them -/
def nMx : Ty Mx := Ty.flat 3 (fun x => [.int .i64 x.sec, .slice none 0 0, .slice none 0 0]) (fun _ => rfl) (fun _ u hu => by simp at hu; rcases hu with rfl | rfl | rfl <;> rfl)
theorem nNew_E (w : World) (k : Nat) : nMx.E w [.int .i64 (secOf k), .slice none 0 0, .slice none 0 0] (mixNew k) [] := ⟨rfl, rfl⟩
theorem plain_els {w : World} {cs : List Value} {xs : List Mx} {F : List Nat} (h : nMx.els w cs xs F) (hp : ∀ x ∈ xs, x.seen = [] ∧ x.pool = []) : tMx.els w cs xs F := by
  induction xs generalizing cs F with
  | nil => exact h
  | cons x xs ih =>
    obtain ⟨c1, c2, F1, F2, rfl, rfl, ⟨rfl, rfl⟩, h2⟩ := h
    obtain ⟨e1, e2⟩ := hp x List.mem_cons_self
    refine ⟨_, _, [], _, rfl, rfl, ?_, ih h2 (fun y hy => hp y (List.mem_cons_of_mem _ hy))⟩
    exact tMx_E.2 ⟨_, _, [], [], rfl, rfl, by rw [e1]; exact Sl.nil 0 _ (by simp [maxLen]), by rw [e2]; exact Sl.nil 0 _ (by simp [maxLen])⟩
theorem plain_slB {B : Nat} {w : World} {v : Value} {xs : List Mx} (h : SlB nMx B w v xs) (hp : ∀ x ∈ xs, x.seen = [] ∧ x.pool = []) : SlB tMx B w v xs := by
  obtain ⟨F, ⟨A, c, cs, h1, h2, h3, h4⟩, hF⟩ := h
  refine ⟨F, ⟨A, c, cs, h1, h2, h3, ?_⟩, hF⟩
  rcases h4 with h4 | ⟨b, o, G, e1, e2, hne, hb, hels, hc⟩
  · exact .inl h4
  · exact .inr ⟨b, o, G, e1, e2, hne, hb, plain_els hels hp, hc⟩
theorem mixesNew_plain (k : Nat) : ∀ x ∈ mixesNew k, x.seen = [] ∧ x.pool = [] := fun x hx => by
  simp only [mixesNew, List.mem_map] at hx
  obtain ⟨i, _, rfl⟩ := hx
  exact ⟨rfl, rfl⟩
theorem implMixNew_c (s : Int) (hs : win s 1 996 = true) (w : World) : Calls Try.prog 17 #[.int .i64 s] w fun e w' => e = .returned (.tuple #[.agg #[.int .i64 s, .slice none 0 0, .slice none 0 0], .bool true]) ∧ Below w.heap.size w w' := by
  go_enter Try.func17, Try.ntmps17
  go_wp2_with (go_at_call 48; refine (isElement_c _ _).mono ?_; rw [hs]; rintro e w' ⟨rfl, rfl⟩)
  refine bodyPost_ret (v := .tuple #[.agg #[.int .i64 s, .slice none 0 0, .slice none 0 0], .bool true]) (by simp [results, go_sem]) rfl ⟨rfl, lit_below _ _⟩
theorem specMixNew_c (s : Int) (hs : win s 1 996 = true) (w : World) : Calls Try.prog 22 #[.int .i64 s] w fun e w' => ∃ a b, e = .returned (.tuple #[.agg #[.int .i64 s, .slice (some ⟨a, 0, none⟩) 0 0, .slice (some ⟨b, 0, none⟩) 0 0], .bool true]) ∧ Below w.heap.size w w' := by
  go_enter Try.func22, Try.ntmps22
  go_wp2_with (go_at_call 51; refine (l1Is_c _ _).mono ?_; rw [hs]; rintro e w' ⟨rfl, rfl⟩)
  refine bodyPost_ret (v := .tuple #[.agg #[.int .i64 s, .slice (some ⟨w.heap.size + 1, 0, none⟩) 0 0, .slice (some ⟨w.heap.size + 1 + 1, 0, none⟩) 0 0], .bool true]) (by simp [results, go_sem]) rfl ⟨_, _, rfl, ?_⟩
  (repeat (first | exact Below.refl _ _ | refine below_drew1 ?_ | refine Below.alloc ?_ (by simp <;> omega) _))
theorem Sl.boxn {α : Type} {T : Ty α} {w : World} {cs : List Value} {x : α} {G : List Nat} {e : TypeId} (n : Nat) (hn : n = w.heap.size) (h : T.E w cs x G) :
    Sl T (w.alloc (.cells cs.toArray e)) (.slice (some ⟨n, 0, none⟩) 1 1) [x] (n :: G) := by subst hn; exact Sl.box h
/-- while the mixes are made: the run at block n, the result's place at block m -/
def FrW (T : Ty Mx) (s1 s2 s3 : Value) (W wr : World) (m n k : Nat) : Prop :=
  ∃ vm, wr.heap[n]? = some (.cells #[vm, s1, s2, s3, .int .i64 0, .int .i64 0] 27 (0, 0)) ∧ wr.heap[m]? = some (.cells #[Value.slice none 0 0, Value.slice none 0 0, Value.slice none 0 0, Value.slice none 0 0, Value.int IntKind.i64 0, Value.int IntKind.i64 0] 27 (0, 0)) ∧
    Own T 46 W.heap.size wr vm (mixesNew k) [] ∧ m < n ∧ n < W.heap.size ∧ W.heap.size ≤ wr.heap.size
theorem fr_cells {wr : World} {n : Nat} {vm s1 s2 s3 : Value} (h : wr.heap[n]? = some (.cells #[vm, s1, s2, s3, .int .i64 0, .int .i64 0] 27 (0, 0))) :
    wr.cell? ⟨n, 0, none⟩ = some vm ∧ wr.cell? ⟨n, 1, none⟩ = some s1 ∧ wr.cell? ⟨n, 2, none⟩ = some s2 ∧ wr.cell? ⟨n, 3, none⟩ = some s3 ∧ wr.cell? ⟨n, 4, none⟩ = some (.int .i64 0) ∧ wr.cell? ⟨n, 5, none⟩ = some (.int .i64 0) ∧ ∀ j, wr.frozen? ⟨n, j, none⟩ = false :=
  ⟨by rw [cell_of_row wr n 0 _ _ _ h]; rfl, by rw [cell_of_row wr n 1 _ _ _ h]; rfl, by rw [cell_of_row wr n 2 _ _ _ h]; rfl, by rw [cell_of_row wr n 3 _ _ _ h]; rfl, by rw [cell_of_row wr n 4 _ _ _ h]; rfl, by rw [cell_of_row wr n 5 _ _ _ h]; rfl, fun j => frozen_of_row wr n j _ _ h⟩
theorem FrW.step {T : Ty Mx} {s1 s2 s3 : Value} {W wr w6 : World} {m n k : Nat} {vm v2 : Value} (h : wr.heap[n]? = some (.cells #[vm, s1, s2, s3, .int .i64 0, .int .i64 0] 27 (0, 0))) (hm : wr.heap[m]? = some (.cells #[Value.slice none 0 0, Value.slice none 0 0, Value.slice none 0 0, Value.slice none 0 0, Value.int IntKind.i64 0, Value.int IntKind.i64 0] 27 (0, 0)))
    (ho : Own T 46 W.heap.size w6 v2 (mixesNew k ++ [mixNew k]) []) (hb : Below W.heap.size wr w6) (hmn : m < n) (hn : n < W.heap.size) (hW : W.heap.size ≤ wr.heap.size) : FrW T s1 s2 s3 W (w6.setCell ⟨n, 0, none⟩ v2) m n (k + 1) := by
  have h6 := (hb.block n hn).trans h
  have m6 := (hb.block m (by omega)).trans hm
  refine ⟨v2, ?_, ?_, ?_, hmn, hn, ?_⟩
  · rw [heap_setCell_same w6 n 0 _ _ _ h6]; rfl
  · exact (Below.heap_setCell _ _ _ _ (fun e => by simp at e; omega)).trans m6
  · rw [mixesNew_succ]
    exact own_set ho (fun e => by have := (ho.top n e).1; omega) (by simp)
  · have := hb.size; simp [World.setCell]; omega
set_option maxRecDepth 100000 in
theorem implNew_c (w : World) : Calls Try.prog 6 #[] w fun e w' => ∃ vm, e = .returned (.agg #[vm, .slice none 0 0, .slice none 0 0, .slice none 0 0, .int .i64 0, .int .i64 0]) ∧ NewS nMx 46 w.heap.size w' vm (mixesNew 3) ∧ Below w.heap.size w w' := by
  obtain ⟨i0, hi, hz0, hz1, hz2⟩ := info_parts infoMix
  go_enter Try.func6, Try.ntmps6
  go_wp2_with fail
  have hB : Below w.heap.size w ((w.alloc (Obj.cells #[Value.slice none 0 0, Value.slice none 0 0, Value.slice none 0 0, Value.slice none 0 0, Value.int IntKind.i64 0, Value.int IntKind.i64 0] 27)).alloc (Obj.cells #[Value.slice none 0 0, Value.slice none 0 0, Value.slice none 0 0, Value.slice none 0 0, Value.int IntKind.i64 0, Value.int IntKind.i64 0] 27)) := by (repeat (first | exact Below.refl _ _ | refine below_drew1 ?_ | refine Below.alloc ?_ (by simp <;> omega) _))
  have kn : ((w.alloc (Obj.cells #[Value.slice none 0 0, Value.slice none 0 0, Value.slice none 0 0, Value.slice none 0 0, Value.int IntKind.i64 0, Value.int IntKind.i64 0] 27)).alloc (Obj.cells #[Value.slice none 0 0, Value.slice none 0 0, Value.slice none 0 0, Value.slice none 0 0, Value.int IntKind.i64 0, Value.int IntKind.i64 0] 27)).heap[w.heap.size + 1]? = some (.cells #[Value.slice none 0 0, Value.slice none 0 0, Value.slice none 0 0, Value.slice none 0 0, Value.int IntKind.i64 0, Value.int IntKind.i64 0] 27 (0, 0)) := by have := heap_alloc_new (w.alloc (Obj.cells #[Value.slice none 0 0, Value.slice none 0 0, Value.slice none 0 0, Value.slice none 0 0, Value.int IntKind.i64 0, Value.int IntKind.i64 0] 27)) (.cells #[Value.slice none 0 0, Value.slice none 0 0, Value.slice none 0 0, Value.slice none 0 0, Value.int IntKind.i64 0, Value.int IntKind.i64 0] 27 (0, 0)); simpa using this
  have km : ((w.alloc (Obj.cells #[Value.slice none 0 0, Value.slice none 0 0, Value.slice none 0 0, Value.slice none 0 0, Value.int IntKind.i64 0, Value.int IntKind.i64 0] 27)).alloc (Obj.cells #[Value.slice none 0 0, Value.slice none 0 0, Value.slice none 0 0, Value.slice none 0 0, Value.int IntKind.i64 0, Value.int IntKind.i64 0] 27)).heap[w.heap.size]? = some (.cells #[Value.slice none 0 0, Value.slice none 0 0, Value.slice none 0 0, Value.slice none 0 0, Value.int IntKind.i64 0, Value.int IntKind.i64 0] 27 (0, 0)) := (Below.heap_alloc _ _ _ (by simp)).trans (heap_alloc_new w _)
  have hz : w.heap.size + 1 < ((w.alloc (Obj.cells #[Value.slice none 0 0, Value.slice none 0 0, Value.slice none 0 0, Value.slice none 0 0, Value.int IntKind.i64 0, Value.int IntKind.i64 0] 27)).alloc (Obj.cells #[Value.slice none 0 0, Value.slice none 0 0, Value.slice none 0 0, Value.slice none 0 0, Value.int IntKind.i64 0, Value.int IntKind.i64 0] 27)).heap.size := by simp
  generalize ((w.alloc (Obj.cells #[Value.slice none 0 0, Value.slice none 0 0, Value.slice none 0 0, Value.slice none 0 0, Value.int IntKind.i64 0, Value.int IntKind.i64 0] 27)).alloc (Obj.cells #[Value.slice none 0 0, Value.slice none 0 0, Value.slice none 0 0, Value.slice none 0 0, Value.int IntKind.i64 0, Value.int IntKind.i64 0] 27)) = W at *
  have HB := hid hB
  have K : FrW nMx (.slice none 0 0) (.slice none 0 0) (.slice none 0 0) W W w.heap.size (w.heap.size + 1) 0 := ⟨_, kn, km, Own.nil _ _, by omega, hz, Nat.le_refl _⟩
  clear kn km hB
  go_loopw [6] (fun i wr => ∃ k : Nat, k ≤ 3 ∧ i = .int .i64 k ∧ FrW nMx (.slice none 0 0) (.slice none 0 0) (.slice none 0 0) W wr w.heap.size (w.heap.size + 1) k ∧ Below w.heap.size w wr) (fun i _ => 3 - (intOf i).toNat)
  case atStart => exact ⟨0, by omega, rfl, K, HB.out⟩
  case round =>
    obtain ⟨k, hk, rfl, ⟨vm, hn, hm, ho, _, _, hWr⟩, hb⟩ := hrel
    have Ho := hid ho; have Hb := hid hb; have HN := hid hn; have HM := hid hm
    obtain ⟨A, c, rfl, _, _, _⟩ := ho.form
    have hzr := Nat.lt_of_lt_of_le hz hWr
    obtain ⟨q0, q1, q2, q3, q4, q5, qf⟩ := fr_cells hn
    have qf0 := qf 0
    clear ho hb K hn hm
    by_cases hlt : k < 3
    · clear qf
      go_wp2_with (first | (go_at_call 18; refine (implSec_c _ ?_ _).mono ?_; omega; rintro e w' ⟨rfl, rfl⟩) | (go_at_call 17; refine (implMixNew_c _ ?_ _).mono ?_; exact sec_win hlt; rintro e w5 ⟨rfl, hb5⟩; have p0 := (hb5.cell (p := ⟨w.heap.size + 1, 0, none⟩) hzr).trans q0; have pf := (hb5.frozen (p := ⟨w.heap.size + 1, 0, none⟩) hzr).trans qf0; have hz5 := Nat.lt_of_lt_of_le hzr hb5.size; have Ho5 := hid (Ho.out.go hb5); have hW5 := Nat.le_trans hWr hb5.size) | (at_builtin; go_loud (refine wpList_app rfl (.tmp 16) (.tmp 18) 23 rfl nMx Try.underlying23 hi hz0 hz1 hz2 rfl (by decide) (v := .slice A (mixesNew k).length c) (B := W.heap.size) rfl (Ho5.out.below ?_ (Nat.le_refl _)) _ 1 1 rfl (Sl.boxn _ ?_ (nNew_E _ k)) ?_ ?_ ?_ ?_ ?_); go_loud (((repeat (first | exact Below.refl _ _ | refine below_drew1 ?_ | refine Below.alloc ?_ (by simp <;> omega) _))); (simp); (intro b _ h; cases h); (rw [mixesNew_len]; simp; omega); (rw [mixesNew_len]; simp [maxLen]; omega); (simp; omega); intro v2 w6 ho2 hg2 hv2; obtain ⟨A2, c2, rfl, _, _, _⟩ := ho2.form; have hbG := (show Below W.heap.size w5 w6 from ((show Below W.heap.size w5 _ from (((Below.refl W.heap.size w5).alloc hW5 _).alloc (by simp; omega) _)).trans (Below.of_grown hg2 (by simp; omega) (fun q hq => (Ho5.out.top q hq).1)))); have p06 := (hbG.cell (p := ⟨w.heap.size + 1, 0, none⟩) hz).trans p0; have pf6 := (hbG.frozen (p := ⟨w.heap.size + 1, 0, none⟩) hz).trans pf)))
      go_roundw
      case rel => exact ⟨k + 1, by omega, by go_num, FrW.step HN.out HM.out (by simpa using ho2) ((hb5.mono hWr).trans hbG) (by omega) hz hWr, (Hb.out.trans (((hb5.mono hWr).trans hbG).mono (by omega))).setCell (by simp) _⟩
      case measure => simp [intOf]; omega
    · have hk3 : k = 3 := by omega
      subst hk3
      have mc := fr_cells HM.out
      obtain ⟨r0, r1, r2, r3, r4, r5, rf⟩ := mc
      have rf0 := rf 0; have rf1 := rf 1; have rf2 := rf 2; have rf3 := rf 3; have rf4 := rf 4; have rf5 := rf 5
      clear qf rf
      go_wp2
      refine bodyPost_ret (v := .agg #[.slice A (mixesNew 3).length c, .slice none 0 0, .slice none 0 0, .slice none 0 0, .int .i64 0, .int .i64 0]) (by simp [results, go_sem, r0, r1, r2, r3, r4, r5]) rfl ⟨_, rfl, ⟨[], ?_, List.nodup_nil, fun _ h => by cases h⟩, ?_⟩
      · have ne : (Value.slice A (mixesNew 3).length c).ownBlock ≠ some w.heap.size := fun e => by have := (Ho.out.top _ e).1; omega
        exact ((own_set (own_set (own_set (own_set (own_set (own_set Ho.out ne (by simp)) ne (by simp)) ne (by simp)) ne (by simp)) ne (by simp)) ne (by simp)).base (by omega))
      · exact ((((((Hb.out.setCell (by simp) _).setCell (by simp) _).setCell (by simp) _).setCell (by simp) _).setCell (by simp) _).setCell (by simp) _)
set_option maxRecDepth 100000 in
theorem specNew_c (w : World) : Calls Try.prog 8 #[] w fun e w' => ∃ v, e = .returned v ∧ WdB w'.heap.size w' v wdNew ∧ Below w.heap.size w w' := by
  obtain ⟨i0, hi, hz0, hz1, hz2⟩ := info_parts infoMix
  go_enter Try.func8, Try.ntmps8
  go_wp2_with fail
  have hB : Below w.heap.size w (((((w.alloc (Obj.cells #[Value.slice none 0 0, Value.slice none 0 0, Value.slice none 0 0, Value.slice none 0 0, Value.int IntKind.i64 0, Value.int IntKind.i64 0] 27)).alloc (Obj.cells #[] 60)).alloc (Obj.cells #[] 55)).alloc (Obj.cells #[] 60)).alloc (Obj.cells #[Value.slice none 0 0, (Value.slice (some ⟨w.heap.size + 1, 0, none⟩) 0 0), (Value.slice (some ⟨w.heap.size + 1 + 1, 0, none⟩) 0 0), (Value.slice (some ⟨w.heap.size + 1 + 1 + 1, 0, none⟩) 0 0), Value.int IntKind.i64 0, Value.int IntKind.i64 0] 27)) := by (repeat (first | exact Below.refl _ _ | refine below_drew1 ?_ | refine Below.alloc ?_ (by simp <;> omega) _))
  have kn : (((((w.alloc (Obj.cells #[Value.slice none 0 0, Value.slice none 0 0, Value.slice none 0 0, Value.slice none 0 0, Value.int IntKind.i64 0, Value.int IntKind.i64 0] 27)).alloc (Obj.cells #[] 60)).alloc (Obj.cells #[] 55)).alloc (Obj.cells #[] 60)).alloc (Obj.cells #[Value.slice none 0 0, (Value.slice (some ⟨w.heap.size + 1, 0, none⟩) 0 0), (Value.slice (some ⟨w.heap.size + 1 + 1, 0, none⟩) 0 0), (Value.slice (some ⟨w.heap.size + 1 + 1 + 1, 0, none⟩) 0 0), Value.int IntKind.i64 0, Value.int IntKind.i64 0] 27)).heap[w.heap.size + 1 + 1 + 1 + 1]? = some (.cells #[Value.slice none 0 0, (Value.slice (some ⟨w.heap.size + 1, 0, none⟩) 0 0), (Value.slice (some ⟨w.heap.size + 1 + 1, 0, none⟩) 0 0), (Value.slice (some ⟨w.heap.size + 1 + 1 + 1, 0, none⟩) 0 0), Value.int IntKind.i64 0, Value.int IntKind.i64 0] 27 (0, 0)) := by have := heap_alloc_new ((((w.alloc (Obj.cells #[Value.slice none 0 0, Value.slice none 0 0, Value.slice none 0 0, Value.slice none 0 0, Value.int IntKind.i64 0, Value.int IntKind.i64 0] 27)).alloc (Obj.cells #[] 60)).alloc (Obj.cells #[] 55)).alloc (Obj.cells #[] 60)) (.cells #[Value.slice none 0 0, (Value.slice (some ⟨w.heap.size + 1, 0, none⟩) 0 0), (Value.slice (some ⟨w.heap.size + 1 + 1, 0, none⟩) 0 0), (Value.slice (some ⟨w.heap.size + 1 + 1 + 1, 0, none⟩) 0 0), Value.int IntKind.i64 0, Value.int IntKind.i64 0] 27 (0, 0)); simpa using this
  have km : (((((w.alloc (Obj.cells #[Value.slice none 0 0, Value.slice none 0 0, Value.slice none 0 0, Value.slice none 0 0, Value.int IntKind.i64 0, Value.int IntKind.i64 0] 27)).alloc (Obj.cells #[] 60)).alloc (Obj.cells #[] 55)).alloc (Obj.cells #[] 60)).alloc (Obj.cells #[Value.slice none 0 0, (Value.slice (some ⟨w.heap.size + 1, 0, none⟩) 0 0), (Value.slice (some ⟨w.heap.size + 1 + 1, 0, none⟩) 0 0), (Value.slice (some ⟨w.heap.size + 1 + 1 + 1, 0, none⟩) 0 0), Value.int IntKind.i64 0, Value.int IntKind.i64 0] 27)).heap[w.heap.size]? = some (.cells #[Value.slice none 0 0, Value.slice none 0 0, Value.slice none 0 0, Value.slice none 0 0, Value.int IntKind.i64 0, Value.int IntKind.i64 0] 27 (0, 0)) := (show Below (w.heap.size + 1) (w.alloc _) (((((w.alloc (Obj.cells #[Value.slice none 0 0, Value.slice none 0 0, Value.slice none 0 0, Value.slice none 0 0, Value.int IntKind.i64 0, Value.int IntKind.i64 0] 27)).alloc (Obj.cells #[] 60)).alloc (Obj.cells #[] 55)).alloc (Obj.cells #[] 60)).alloc (Obj.cells #[Value.slice none 0 0, (Value.slice (some ⟨w.heap.size + 1, 0, none⟩) 0 0), (Value.slice (some ⟨w.heap.size + 1 + 1, 0, none⟩) 0 0), (Value.slice (some ⟨w.heap.size + 1 + 1 + 1, 0, none⟩) 0 0), Value.int IntKind.i64 0, Value.int IntKind.i64 0] 27)) from by (repeat (first | exact Below.refl _ _ | refine Below.alloc ?_ (by simp <;> omega) _))).block _ (by omega) |>.trans (heap_alloc_new w _)
  have hz : w.heap.size + 1 + 1 + 1 + 1 < (((((w.alloc (Obj.cells #[Value.slice none 0 0, Value.slice none 0 0, Value.slice none 0 0, Value.slice none 0 0, Value.int IntKind.i64 0, Value.int IntKind.i64 0] 27)).alloc (Obj.cells #[] 60)).alloc (Obj.cells #[] 55)).alloc (Obj.cells #[] 60)).alloc (Obj.cells #[Value.slice none 0 0, (Value.slice (some ⟨w.heap.size + 1, 0, none⟩) 0 0), (Value.slice (some ⟨w.heap.size + 1 + 1, 0, none⟩) 0 0), (Value.slice (some ⟨w.heap.size + 1 + 1 + 1, 0, none⟩) 0 0), Value.int IntKind.i64 0, Value.int IntKind.i64 0] 27)).heap.size := by simp
  generalize (((((w.alloc (Obj.cells #[Value.slice none 0 0, Value.slice none 0 0, Value.slice none 0 0, Value.slice none 0 0, Value.int IntKind.i64 0, Value.int IntKind.i64 0] 27)).alloc (Obj.cells #[] 60)).alloc (Obj.cells #[] 55)).alloc (Obj.cells #[] 60)).alloc (Obj.cells #[Value.slice none 0 0, (Value.slice (some ⟨w.heap.size + 1, 0, none⟩) 0 0), (Value.slice (some ⟨w.heap.size + 1 + 1, 0, none⟩) 0 0), (Value.slice (some ⟨w.heap.size + 1 + 1 + 1, 0, none⟩) 0 0), Value.int IntKind.i64 0, Value.int IntKind.i64 0] 27)) = W at *
  have HB := hid hB
  have K : FrW tMx (Value.slice (some ⟨w.heap.size + 1, 0, none⟩) 0 0) (Value.slice (some ⟨w.heap.size + 1 + 1, 0, none⟩) 0 0) (Value.slice (some ⟨w.heap.size + 1 + 1 + 1, 0, none⟩) 0 0) W W w.heap.size (w.heap.size + 1 + 1 + 1 + 1) 0 := ⟨_, kn, km, Own.nil _ _, by omega, hz, Nat.le_refl _⟩
  clear kn km hB
  go_loopw [2] (fun i wr => ∃ k : Nat, k ≤ 3 ∧ i = .int .i64 k ∧ FrW tMx (Value.slice (some ⟨w.heap.size + 1, 0, none⟩) 0 0) (Value.slice (some ⟨w.heap.size + 1 + 1, 0, none⟩) 0 0) (Value.slice (some ⟨w.heap.size + 1 + 1 + 1, 0, none⟩) 0 0) W wr w.heap.size (w.heap.size + 1 + 1 + 1 + 1) k ∧ Below w.heap.size w wr) (fun i _ => 3 - (intOf i).toNat)
  case atStart => exact ⟨0, by omega, rfl, K, HB.out⟩
  case round =>
    obtain ⟨k, hk, rfl, ⟨vm, hn, hm, ho, _, _, hWr⟩, hb⟩ := hrel
    have Ho := hid ho; have Hb := hid hb; have HN := hid hn; have HM := hid hm
    obtain ⟨A, c, rfl, _, _, _⟩ := ho.form
    have hzr := Nat.lt_of_lt_of_le hz hWr
    obtain ⟨q0, q1, q2, q3, q4, q5, qf⟩ := fr_cells hn
    have qf0 := qf 0
    clear ho hb K hn hm
    by_cases hlt : k < 3
    · clear qf
      go_wp2_with (first | (go_at_call 23; refine (specSec_c _ ?_ _).mono ?_; omega; rintro e w' ⟨rfl, rfl⟩) | (go_at_call 22; refine (specMixNew_c _ ?_ _).mono ?_; exact sec_win hlt; rintro e w5 ⟨aa, bb, rfl, hb5⟩; have p0 := (hb5.cell (p := ⟨w.heap.size + 1 + 1 + 1 + 1, 0, none⟩) hzr).trans q0; have pf := (hb5.frozen (p := ⟨w.heap.size + 1 + 1 + 1 + 1, 0, none⟩) hzr).trans qf0; have hz5 := Nat.lt_of_lt_of_le hzr hb5.size; have Ho5 := hid (Ho.out.go hb5); have hW5 := Nat.le_trans hWr hb5.size) | (at_builtin; go_loud (refine wpList_app rfl (.tmp 20) (.tmp 22) 23 rfl tMx Try.underlying23 hi hz0 hz1 hz2 rfl (by decide) (v := .slice A (mixesNew k).length c) (B := W.heap.size) rfl (Ho5.out.below ?_ (Nat.le_refl _)) _ 1 1 rfl (Sl.boxn _ ?_ (mixNew_T _ k _ _)) ?_ ?_ ?_ ?_ ?_); go_loud (((repeat (first | exact Below.refl _ _ | refine below_drew1 ?_ | refine Below.alloc ?_ (by simp <;> omega) _))); (simp); (intro b _ h; cases h); (rw [mixesNew_len]; simp; omega); (rw [mixesNew_len]; simp [maxLen]; omega); (simp; omega); intro v2 w6 ho2 hg2 hv2; obtain ⟨A2, c2, rfl, _, _, _⟩ := ho2.form; have hbG := (show Below W.heap.size w5 w6 from ((show Below W.heap.size w5 _ from (((Below.refl W.heap.size w5).alloc hW5 _).alloc (by simp; omega) _)).trans (Below.of_grown hg2 (by simp; omega) (fun q hq => (Ho5.out.top q hq).1)))); have p06 := (hbG.cell (p := ⟨w.heap.size + 1 + 1 + 1 + 1, 0, none⟩) hz).trans p0; have pf6 := (hbG.frozen (p := ⟨w.heap.size + 1 + 1 + 1 + 1, 0, none⟩) hz).trans pf)))
      go_roundw
      case rel => exact ⟨k + 1, by omega, by go_num, FrW.step HN.out HM.out (by simpa using ho2) ((hb5.mono hWr).trans hbG) (by omega) hz hWr, (Hb.out.trans (((hb5.mono hWr).trans hbG).mono (by omega))).setCell (by simp <;> omega) _⟩
      case measure => simp [intOf]; omega
    · have hk3 : k = 3 := by omega
      subst hk3
      have mc := fr_cells HM.out
      obtain ⟨r0, r1, r2, r3, r4, r5, rf⟩ := mc
      have rf0 := rf 0; have rf1 := rf 1; have rf2 := rf 2; have rf3 := rf 3; have rf4 := rf 4; have rf5 := rf 5
      clear qf rf
      go_wp2
      refine bodyPost_ret (v := .agg #[.slice A (mixesNew 3).length c, (Value.slice (some ⟨w.heap.size + 1, 0, none⟩) 0 0), (Value.slice (some ⟨w.heap.size + 1 + 1, 0, none⟩) 0 0), (Value.slice (some ⟨w.heap.size + 1 + 1 + 1, 0, none⟩) 0 0), .int .i64 0, .int .i64 0]) (by simp [results, go_sem, r0, r1, r2, r3, r4, r5]) rfl ⟨_, rfl, ?_, ?_⟩
      · have ne : (Value.slice A (mixesNew 3).length c).ownBlock ≠ some w.heap.size := fun e => by have := (Ho.out.top _ e).1; omega
        exact ⟨_, _, _, _, rfl, (own_set (own_set (own_set (own_set (own_set (own_set Ho.out ne (by simp)) ne (by simp)) ne (by simp)) ne (by simp)) ne (by simp)) ne (by simp)).slB, ⟨[], Sl.nil _ _ (by simp [maxLen]), fun _ h => by cases h⟩, ⟨[], Sl.nil _ _ (by simp [maxLen]), fun _ h => by cases h⟩, ⟨[], Sl.nil _ _ (by simp [maxLen]), fun _ h => by cases h⟩⟩
      · exact ((((((Hb.out.setCell (by simp) _).setCell (by simp) _).setCell (by simp) _).setCell (by simp) _).setCell (by simp) _).setCell (by simp) _)
end Go.Proofs.Ytbkckjobhopicaa
