/- Texts that the last file leans on (part 24). -/
import Derived.Conc.MuLone
import Derived.Deep.DeepCutAuto
import Derived.Test.YtfaeojmndaplcaaGreatDoorM16
import Derived.Test.YtfaeojmndaplcaaGreatDoorM19
import Derived.Test.YtfaeojmndaplcaaGreatDoorM21
import Derived.Test.YtfaeojmndaplcaaGreatDoorM22
import Derived.Test.YtfaeojmndaplcaaGreatDoorM23
import Derived.Test.YtfaeojmndaplcaaGreatDoorM7
set_option linter.unusedVariables false
set_option linter.unusedSimpArgs false
set_option maxHeartbeats 4000000
set_option maxRecDepth 100000
namespace Go.Proofs.YtfaeojmndaplcaaGreatDoor
open Go Go.RowKit
abbrev muL : Go.Conc.Locks.MuLink := { lock := 85, unlock := 86, ilock := 131, iunlock := 132, lockSlow := 173, unlockSlow := 176, disable := 169, enable := 171, acquire := 172, relMerge := 174, cas32 := 170, add32 := 175, tMutex := 85, tIMutex := 83, tPMutex := 156, tPIMutex := 185, tPI32 := 187, tUP := 189, tNoCopy := 80, tU32 := 81 }
theorem oO : Go.Conc.Locks.MuLib Tryz.prog muL :=
 ⟨Tryz.func85, Tryz.func86, Tryz.func131, Tryz.func132, Tryz.func169, Tryz.func171, Tryz.func172, Tryz.func174, Tryz.func170, Tryz.func175, Tryz.underlying83, Tryz.runUnderlying83, Tryz.sizeOf83, Tryz.isAgg83, Tryz.zeroValue83, Tryz.underlying85, Tryz.runUnderlying85, Tryz.sizeOf85, Tryz.isAgg85, Tryz.zeroValue85, Tryz.underlying156, Tryz.runUnderlying156, Tryz.sizeOf156, Tryz.isAgg156, Tryz.zeroValue156, Tryz.underlying185, Tryz.runUnderlying185, Tryz.sizeOf185, Tryz.isAgg185, Tryz.zeroValue185, Tryz.underlying187, Tryz.runUnderlying187, Tryz.sizeOf187, Tryz.isAgg187, Tryz.zeroValue187, Tryz.underlying189, Tryz.runUnderlying189, Tryz.sizeOf189, Tryz.isAgg189, Tryz.zeroValue189, Tryz.underlying80, Tryz.runUnderlying80, Tryz.sizeOf80, Tryz.isAgg80, Tryz.zeroValue80, Tryz.underlying21, Tryz.runUnderlying21, Tryz.sizeOf21, Tryz.isAgg21, Tryz.zeroValue21, (by kernel_rfl)⟩
theorem wP (B rb ro : Nat) (x : Wd) (F : List Nat) (kd a b c : Int) (w : World) (h : Rn B w rb ro x F) (hn10 : x.net.length ≤ 10) (hw : win a 0 ((x.net.length : Int) - 1) = false) :
  Calls Tryz.prog 88 #[.pointer (some ⟨rb, ro, none⟩), .agg #[.int .i64 kd, .int .i64 a, .int .i64 b, .int .i64 c]] w (eN B w rb ro F [] x) := by
 obtain ⟨vm, vs, vn, vg, Fm, Fs, Fn, Fg, hr, rfl⟩ := h
 have iw : IntKind.i64.wrap ((x.net.length : Int) - 1) = (x.net.length : Int) - 1 := a9 (by omega)
 obtain ⟨Gn, hFn, on⟩ := aG hr.en
 obtain ⟨An, cn, rfl, _, _, _⟩ := on.form
 clear hFn on
 have HTW := hid (ab w (.cells #[.int .i64 kd, .int .i64 a, .int .i64 b, .int .i64 c] 38))
 have hr1 := hr.go HTW.out
 have eb := heap_alloc_new w (.cells #[.int .i64 kd, .int .i64 a, .int .i64 b, .int .i64 c] 38)
 have s1 : (w.alloc (.cells #[.int .i64 kd, .int .i64 a, .int .i64 b, .int .i64 c] 38)).heap.size = w.heap.size + 1 := by simp
 have hrbw := hr.blk
 have Hr := hid hr
 clear hr
 go_enter Tryz.func88, Tryz.ntmps88
 go_wp2_with fail
 generalize w.alloc (.cells #[.int .i64 kd, .int .i64 a, .int .i64 b, .int .i64 c] 38) = W1 at *
 have HS1 := hid (fun (wx : World) (hT : Tch [] W1 wx) => And.intro (hr1.cells hT (by simp)) (And.intro (bh (hT.row eb (by simp))) (show w.heap.size < wx.heap.size by have := hT.size; omega)))
 have Hr1 := hid hr1
 clear hr1 eb
 refine rgN [] 10 (by kernel_rfl) rfl (fun | none, _, _, _, _ => id | some _, _, _, _, _ => id) fun wa hH hbwa swa => ?_
 simp only [pw]
 refine ag [0, 1, 2, 3, 4, 5, 6, 7] ?_
 iterate 8 (refine ra HS1.out rfl (by kernel_rfl) rfl (fun _ f => by go_simp; try with_reducible rfl) ?_; try simp only [pw])
 refine rq 8 (by kernel_rfl) rfl fun K hK => ?_
 go_simp
 (go_at_call 78; refine (a8 _ _ _ _).mono ?_; rw [hw]; rintro e w5 ⟨rfl, rfl⟩; have hbC := Below.refl wa.heap.size wa)
 refine hK.out _ _ (hH.trans (Tch.of hbC)) (fun hH => ?_)
 clear hK K
 refine tr 9 HS1.out rfl (by kernel_rfl) rfl (fun _ f => by go_simp; try with_reducible rfl) ?_
 try simp only [pw]
 refine dm (by kernel_rfl) ?_
 have Hb2 := hid (HTW.out.trans (hH.nil.mono (by omega)) : Below w.heap.size w wa)
 have Hr2 := hid (Hr.out.go Hb2.out)
 clear hH hbC hbwa swa
 go_wp2_with fail
 exact bodyPost_ret (results_none rfl _ _ _) rfl ⟨rfl, _, ⟨_, _, _, _, _, _, _, _, Hr2.out, rfl⟩, fun c hc => .inl hc, Tch.of Hb2.out, an.below Hb2.out hrbw⟩
def bx (W : World) : Prop := W.cell? ⟨0, 0, none⟩ = some (.iface 225 (.agg #[.pointer (some ⟨7, 130, none⟩)]))
theorem bx.go {w w' : World} (h : bx w) (hb : Below w.heap.size w w') : bx w' := (hb.cell (p := ⟨0, 0, none⟩) (World.block_lt_of_cell? _ _ h)).trans h
theorem Rn.tch {B b o : Nat} {w w' : World} {x : Wd} {F L : List Nat} (h : Rn B w b o x F) (ht : Tch L w w') (hL : ∀ c ∈ F, c ∉ L) : Rn B w' b o x F := by
 have hlt := h.lt
 obtain ⟨_, _, _, _, _, _, _, _, hr, rfl⟩ := h
 exact ⟨_, _, _, _, _, _, _, _, hr.keep (fun c hc => ht.block c (hlt c hc) (hL c hc)), rfl⟩
theorem xd (e t : Addr) (old : Value) (w : World) (hg : bx w) (ht0 : w.cell? t = some old) (hf0 : w.frozen? t = false) :
  Calls Tryz.prog 137 #[.iface 159 (.pointer (some e)), .iface 162 (.pointer (some t))] w fun ev w' => ev = .returned (.bool true) ∧ Tch [t.block] w w' := by
 refine (yg e t old w hg ht0 hf0).mono ?_
 rintro ev w' ⟨rfl, rfl⟩
 exact ⟨rfl, ((((Tch.of (ab _ _)).trans (Tch.of (ab _ _))).trans (Tch.of (ab _ _))).trans (Tch.of (ab _ _))).setCell (p := t) (.inl List.mem_cons_self) _⟩
theorem uW {m m2 : Mx} {p : Pk} {code : Int} (h : bW m p = (m2, code)) (hc : code ≠ 0) : m2 = m := by
 unfold bW at h
 cases hp : bJ m.sec p with
 | none => rw [hp] at h; injection h with h1 _; exact h1.symm
 | some y =>
  rw [hp] at h
  dsimp only at h
  split at h
  ·injection h with h1 _; exact h1.symm
  ·split at h
   ·injection h with h1 _; exact h1.symm
   ·injection h with _ h2; exact absurd h2.symm hc
theorem sx {x : Wd} {k : Nat} {m : Mx} (h : x.mixes[k]? = some m) : cV x k m = x := by
 obtain ⟨hk, hm⟩ := List.getElem?_eq_some_iff.1 h
 unfold cV
 rw [← hm, List.set_getElem_self]
theorem ti {w : World} {v : Value} {xs : List Int} {F : List Nat} (h : ee.E w [v] xs F) : SlB af w.heap.size w v xs := by
 obtain ⟨_, _, e, ho, _⟩ := h
 injection e with e; subst e
 exact ho.slB
set_option maxHeartbeats 40000000 in
theorem xH (B rb ro : Nat) (x : Wd) (F : List Nat) (i : Nat) (t : Tr) (kd b c : Int) (w : World) (h : Rn B w rb ro x F) (hx : VD 0 x) (hi : x.net[i]? = some t) (hB : B ≤ w.heap.size) (hB1 : 1 ≤ B) (hg : bx w) :
  Calls Tryz.prog 88 #[.pointer (some ⟨rb, ro, none⟩), .agg #[.int .i64 kd, .int .i64 i, .int .i64 b, .int .i64 c]] w (eN B w rb ro F [] (if kd = 4 then (if x.net.length < 10 ∧ x.made < 999 then ew ⟨x.mixes, x.sent, x.net, x.got, x.made + 1, x.lost⟩ t.mix t.pk t.ch else x) else if kd = 5 then gI x i t b else if kd = 3 then dA (bS x (x.net.eraseIdx i)) else ex (bS x (x.net.eraseIdx i)) t)) := by
 obtain ⟨y, hy⟩ : ∃ y, y = (if kd = 4 then (if x.net.length < 10 ∧ x.made < 999 then ew ⟨x.mixes, x.sent, x.net, x.got, x.made + 1, x.lost⟩ t.mix t.pk t.ch else x) else if kd = 5 then gI x i t b else if kd = 3 then dA (bS x (x.net.eraseIdx i)) else ex (bS x (x.net.eraseIdx i)) t) := ⟨_, rfl⟩
 rw [← hy]
 have Hres := hid hy; have Hg := hid hg; have Hx := hid hx; have Hi := hid hi
 clear hy hg
 obtain ⟨vm, vs, vn, vg, Fm, Fs, Fn, Fg, hr, rfl⟩ := h
 have hil := (List.getElem?_eq_some_iff.1 hi).1
 have hn10 := hx.nn
 have iw : IntKind.i64.wrap ((x.net.length : Int) - 1) = (x.net.length : Int) - 1 := a9 (by omega)
 have hw : win (i : Int) 0 ((x.net.length : Int) - 1) = true := aH.2 (by omega)
 obtain ⟨Gn, hFn, on⟩ := aG hr.en
 obtain ⟨An, cn, rfl, _, _, _⟩ := on.form
 obtain ⟨g, rfl⟩ := Own.addr on (by omega)
 clear hFn on
 have hlo : ∀ c ∈ Fm ++ (Fs ++ (Fn ++ Fg)), (fun c : Nat => c ≠ rb) c := fun c hc e => (List.nodup_cons.1 hr.nd).1 (e ▸ hc)
 have HTW := hid (ab w (.cells #[.int .i64 kd, .int .i64 i, .int .i64 b, .int .i64 c] 38))
 have hr1 := hr.go HTW.out
 have eb := heap_alloc_new w (.cells #[.int .i64 kd, .int .i64 i, .int .i64 b, .int .i64 c] 38)
 have s1 : (w.alloc (.cells #[.int .i64 kd, .int .i64 i, .int .i64 b, .int .i64 c] 38)).heap.size = w.heap.size + 1 := by simp
 have hrbw := hr.blk
 have Hr := hid hr
 clear hr
 go_enter Tryz.func88, Tryz.ntmps88
 go_wp2_with fail
 generalize w.alloc (.cells #[.int .i64 kd, .int .i64 i, .int .i64 b, .int .i64 c] 38) = W1 at *
 obtain ⟨bb, o, vh, vb, e, hgrb, _, hvh, hvb, t0, t1, t2, t3, t4, t5⟩ := (hr1.wdR hlo).un.2.2.1.tr hi
 injection e with e; injection e with e1 e2; subst e1 e2
 simp only [Nat.zero_add] at t0 t1 t2 t3 t4 t5
 obtain ⟨Ah, ch, rfl, _, _, _⟩ := hvh.form
 obtain ⟨Ab, cb, rfl, _, _, _⟩ := hvb.form
 have HS1 := hid (fun (wx : World) (hT : Tch [] W1 wx) => And.intro (hr1.cells hT (by simp)) (And.intro (bh (hT.row eb (by simp))) (And.intro (hT.cell t0 (by simp)) (And.intro (hT.cell t1 (by simp)) (And.intro (hT.cell t2 (by simp)) (And.intro (hT.cell t3 (by simp)) (And.intro (hT.cell t4 (by simp)) (And.intro (hT.cell t5 (by simp)) (show w.heap.size < wx.heap.size by have := hT.size; omega)))))))))
 have T2 := hid t2; have T4 := hid t4
 have Hr1 := hid hr1; have Eb := hid eb; have Hvh := hid hvh; have Hvb := hid hvb
 clear hr1 eb hvh hvb t0 t1 t2 t3 t4 t5
 have u1 : (0 : Int) ≤ (i : Int) := by omega
 have u2 : ((i : Int)).toNat = i := by omega
 have u3 : (i : Int) < (x.net.length : Int) := by omega
 refine rgN [] 10 (by kernel_rfl) rfl (fun | none, _, _, _, _ => id | some _, _, _, _, _ => id) fun wa hH hbwa swa => ?_
 simp only [pw]
 refine ag [0, 1, 2, 3, 4, 5, 6, 7] ?_
 iterate 8 (refine ra HS1.out rfl (by kernel_rfl) rfl (fun _ f => by go_simp; try with_reducible rfl) ?_; try simp only [pw])
 refine rq 8 (by kernel_rfl) rfl fun K hK => ?_
 go_simp
 (go_at_call 78; refine (a8 _ _ _ _).mono ?_; rw [hw]; rintro e w5 ⟨rfl, rfl⟩; have hbC := Below.refl wa.heap.size wa)
 refine hK.out _ _ (hH.trans (Tch.of hbC)) (fun hH => ?_)
 clear hK K
 refine tr 9 HS1.out rfl (by kernel_rfl) rfl (fun _ f => by go_simp; try with_reducible rfl) ?_
 try simp only [pw]
 refine dm (by kernel_rfl) ?_
 have HA := hid hH
 have HS2 := hid (fun (wx : World) (hT : Tch [] wa wx) => HS1.out wx (HA.out.trans hT))
 clear hH hbC hbwa swa
 go_wp2_with fail
 refine rgN [] 10 (by kernel_rfl) rfl (fun | none, _, _, _, _ => id | some _, _, _, _, _ => id) fun wb hH hbwb swb => ?_
 simp only [pw]
 refine ag [0, 1, 2, 3, 4, 5, 6, 7] ?_
 iterate 8 (refine ra HS2.out rfl (by kernel_rfl) rfl (fun _ f => by go_simp; try with_reducible rfl) ?_; try simp only [pw])
 refine rq 8 (by kernel_rfl) rfl fun K hK => ?_
 go_simp
 refine hK.out _ _ (hH.trans (Tch.of (ab _ _))) (fun hH => ?_)
 clear hK K
 refine rz 9 (by kernel_rfl) rfl fun K hK => ?_
 have fC := HS2.out _ hH
 go_simp
 clear fC
 refine hK.out _ _ ?_
 clear hK K
 have hbW : Below w.heap.size w wb := (HTW.out.trans ((HA.out.nil).mono (by omega))).trans (hbwb.mono (by have := HA.out.size; omega))
 have hb2 : Below w.heap.size w (wb.alloc (.cells #[.int .i64 t.mix, .int .i64 t.pk.el, .slice Ah t.pk.hd.length ch, .int .i64 t.pk.tag, .slice Ab t.pk.bd.length cb, .bool t.ch] 74)) := bt hbW (ab wb (.cells #[.int .i64 t.mix, .int .i64 t.pk.el, .slice Ah t.pk.hd.length ch, .int .i64 t.pk.tag, .slice Ab t.pk.bd.length cb, .bool t.ch] 74))
 have eT := heap_alloc_new wb (.cells #[.int .i64 t.mix, .int .i64 t.pk.el, .slice Ah t.pk.hd.length ch, .int .i64 t.pk.tag, .slice Ab t.pk.bd.length cb, .bool t.ch] 74)
 have eb2 := ac (ab wb (.cells #[.int .i64 t.mix, .int .i64 t.pk.el, .slice Ah t.pk.hd.length ch, .int .i64 t.pk.tag, .slice Ab t.pk.bd.length cb, .bool t.ch] 74)) (ac hbwb (ac HA.out.nil Eb.out))
 have hr2 := Hr.out.go hb2
 have hvh := (Hvh.out.go (bt HA.out.nil hbwb)).go (ab wb (.cells #[.int .i64 t.mix, .int .i64 t.pk.el, .slice Ah t.pk.hd.length ch, .int .i64 t.pk.tag, .slice Ab t.pk.bd.length cb, .bool t.ch] 74))
 have hvb := (Hvb.out.go (bt HA.out.nil hbwb)).go (ab wb (.cells #[.int .i64 t.mix, .int .i64 t.pk.el, .slice Ah t.pk.hd.length ch, .int .i64 t.pk.tag, .slice Ab t.pk.bd.length cb, .bool t.ch] 74))
 have sT : wb.heap.size < (wb.alloc (.cells #[.int .i64 t.mix, .int .i64 t.pk.el, .slice Ah t.pk.hd.length ch, .int .i64 t.pk.tag, .slice Ab t.pk.bd.length cb, .bool t.ch] 74)).heap.size := by simp
 have sb1 := hbW.size
 have sE : w.heap.size < wb.heap.size := by have := HA.out.size; omega
 have x4 := (ab wb (.cells #[.int .i64 t.mix, .int .i64 t.pk.el, .slice Ah t.pk.hd.length ch, .int .i64 t.pk.tag, .slice Ab t.pk.bd.length cb, .bool t.ch] 74)).cell (p := ⟨g, i * 6 + 4, none⟩) (Nat.lt_of_lt_of_le (World.block_lt_of_cell? _ _ T4.out) (bt HA.out.nil hbwb).size) |>.trans (((bt HA.out.nil hbwb).cell (p := ⟨g, i * 6 + 4, none⟩) (World.block_lt_of_cell? _ _ T4.out)).trans T4.out)
 have x2 := (ab wb (.cells #[.int .i64 t.mix, .int .i64 t.pk.el, .slice Ah t.pk.hd.length ch, .int .i64 t.pk.tag, .slice Ab t.pk.bd.length cb, .bool t.ch] 74)).cell (p := ⟨g, i * 6 + 2, none⟩) (Nat.lt_of_lt_of_le (World.block_lt_of_cell? _ _ T2.out) (bt HA.out.nil hbwb).size) |>.trans (((bt HA.out.nil hbwb).cell (p := ⟨g, i * 6 + 2, none⟩) (World.block_lt_of_cell? _ _ T2.out)).trans T2.out)
 clear hH Hvh Hvb Hr1 Eb HS1 HS2 HA T2 T4
 generalize hgT : wb.heap.size = nT at *
 generalize wb.alloc (.cells #[.int .i64 t.mix, .int .i64 t.pk.el, .slice Ah t.pk.hd.length ch, .int .i64 t.pk.tag, .slice Ab t.pk.bd.length cb, .bool t.ch] 74) = W2 at *
 clear hgT hbW
 obtain ⟨k0, k1, k2, k3, k4, k5, k6, kz⟩ := hr2.cells (Tch.refl [] _) (by simp)
 obtain ⟨v0, v1, v2, v3, _⟩ := bh eb2
 obtain ⟨t0, t1, t2, t3, t4, t5, _⟩ := aC eT
 have sE2 : w.heap.size < W2.heap.size := by omega
 have X2 := hid x2; have X4 := hid x4
 have Hr2 := hid hr2; have Hb2 := hid hb2; have Eb2 := hid eb2; have ET := hid eT; have Hvh := hid hvh; have Hvb := hid hvb
 clear hr2 hb2 eb2 eT hvh hvb swb x2 x4
 clear hx hi
 by_cases h4 : kd = 4
 ·have i4 : (kd == 4) = true := by simp [h4]
  have Hr4 := hid (Hres.out.trans (if_pos h4))
  clear h4 Hres
  by_cases hf : x.net.length < 10 ∧ x.made < 999
  ·have hye := Hr4.out.trans (if_pos hf)
   clear Hr4
   subst y
   obtain ⟨-, hpk⟩ := cL.1 (bR.1 Hx.out.nt t (List.mem_of_getElem? Hi.out))
   obtain ⟨-, ⟨hh9, -⟩, ⟨hb6, -⟩, -⟩ := aA.1 hpk
   have HLim := hid (show Lim ⟨x.mixes, x.sent, x.net, x.got, x.made + 1, x.lost⟩ from by have := Hx.out.lim; unfold Lim at *; dsimp only at *; omega)
   obtain ⟨_, _, m2, m3⟩ := Hx.out.lim
   have iwm : IntKind.i64.wrap (x.made + 1) = x.made + 1 := a9 (by omega)
   have Hh9 := hid (show t.pk.hd.length ≤ 9 from by omega); have Hb6 := hid (show t.pk.bd.length ≤ 6 from by omega)
   have i2 : decide ((x.net.length : Int) < 10) = true := decide_eq_true (by omega)
   have h10 := hf.1; have h999 := hf.2
   clear hpk hh9 hb6 hf
   have i3 : decide (x.made < 999) = true := decide_eq_true (by omega)
   have kz4 := kz (ro + 4)
   go_wp2_with fail
   have hr3 := Hr2.out.made (x.made + 1)
   have hTr : nT ≠ rb := by omega
   have eT3 := (Below.heap_setCell W2 ⟨rb, ro + 4, none⟩ (.int .i64 (x.made + 1)) nT hTr).trans ET.out
   have hv3h := Hvh.out.set (p := ⟨rb, ro + 4, none⟩) (u := .int .i64 (x.made + 1)) (fun h => h rfl)
   have hv3b := Hvb.out.set (p := ⟨rb, ro + 4, none⟩) (u := .int .i64 (x.made + 1)) (fun h => h rfl)
   have hT3 := (Tch.of (S := rb :: (Fm ++ (Fs ++ (Fn ++ Fg)))) Hb2.out).setCell (p := ⟨rb, ro + 4, none⟩) (.inl List.mem_cons_self) (.int .i64 (x.made + 1))
   have hK3 := (an.below (o := ro) Hb2.out hrbw).set (k := ro + 4) (by omega) (.int .i64 (x.made + 1))
   have s3 : (W2.setCell ⟨rb, ro + 4, none⟩ (.int .i64 (x.made + 1))).heap.size = W2.heap.size := al _ _ _
   have hrlt := Hr.out.lt
   have Hrn := hid (show Rn B _ rb ro _ _ from ⟨_, _, _, _, _, _, _, _, hr3, rfl⟩)
   have Hrlt := hid hrlt
   clear k0 k1 k2 k3 k4 k5 v0 v1 v2 v3 t0 t1 t2 t3 t4 t5 kz kz4 hr3 hrlt
   generalize W2.setCell ⟨rb, ro + 4, none⟩ (.int .i64 (x.made + 1)) = W3 at *
   have HS3 := hid (fun (wx : World) (hT : Tch [] W3 wx) => And.intro (aC (hT.row eT3 (by simp))) (show nT < wx.heap.size by have := hT.size; omega))
   have Hv3h := hid hv3h; have Hv3b := hid hv3b; have HT3 := hid hT3; have HK3 := hid hK3
   have hl9 := Hh9.out; have hl6 := Hb6.out
   clear eT3 hv3h hv3b hT3 hK3 hTr
   refine rgN [] 10 (by kernel_rfl) rfl (fun | none, _, _, _, _ => id | some _, _, _, _, _ => id) fun wd hH hbwd swd => ?_
   simp only [pw]
   refine ag [0, 1, 2, 3, 4, 6, 7] ?_
   iterate 7 (refine ra HS3.out rfl (by kernel_rfl) rfl (fun _ f => by go_simp; try with_reducible rfl) ?_; try simp only [pw])
   refine rq 5 (by kernel_rfl) rfl fun K hK => ?_
   go_simp
   (go_at_call 84; refine (gJ t.pk _ _ _ (Hv3h.out.go hH.nil).slB (Hv3b.out.go hH.nil).slB (by omega) (by omega)).mono ?_; rintro e w5 ⟨uh, ub, rfl, n5, hbC⟩; obtain ⟨Au, cu, Av, cv, rfl, rfl⟩ := eQ n5; have sd5 := hH.size; obtain ⟨Fp, h5E, h5n, h5l⟩ := kU (x := t) n5; have h5lt := oTr.lt h5E)
   refine hK.out _ _ (hH.trans (Tch.of hbC)) (fun hH => ?_)
   clear hK K
   refine tr 8 HS3.out rfl (by kernel_rfl) rfl (fun _ f => by go_simp; try with_reducible rfl) ?_
   try simp only [pw]
   refine rz 9 (by kernel_rfl) rfl fun K hK => ?_
   go_simp
   (have sd6 := hH.size; go_at_call 136; refine (kx B rb ro ⟨x.mixes, x.sent, x.net, x.got, x.made + 1, x.lost⟩ _ Fp t Au Av cu cv _ (Hrn.out.go hH.nil) HLim.out hn10 (by omega) h5E h5n (fun c hc => ⟨by have := h5l c hc; omega, fun hm => by have h1 := h5l c hc; have h2 := Hrlt.out c hm; omega⟩)).mono ?_; rintro e w7 ⟨rfl, F7, hr7, hF7, ht7, hk7⟩)
   refine hK.out _ _ ?_
   clear hK K
   go_wp2_with fail
   exact bodyPost_ret (results_none rfl _ _ _) rfl ⟨rfl, F7, hr7, fun c hc => by
    rcases hF7 c hc with h | h | h
    ·exact .inl h
    ·exact .inr (.inr (by have := h5l c h; omega))
    ·exact .inr (.inr (by omega)), (HT3.out.trans (Tch.of hH.nil)).seq ht7 (fun c hc => .inl hc), (HK3.out.trans (an.below hH.nil Hrn.out.blk)).trans hk7⟩
  ·have hye := Hr4.out.trans (if_neg hf)
   clear Hr4
   subst y
   by_cases h10 : x.net.length < 10
   ·have i2 : decide ((x.net.length : Int) < 10) = true := decide_eq_true (by omega)
    have i3 : decide (x.made < 999) = false := decide_eq_false (by omega)
    clear hf h10
    go_wp2_with fail
    exact bodyPost_ret (results_none rfl _ _ _) rfl ⟨rfl, _, ⟨_, _, _, _, _, _, _, _, Hr2.out, rfl⟩, fun c hc => .inl hc, Tch.of Hb2.out, an.below Hb2.out hrbw⟩
   ·have i2 : decide ((x.net.length : Int) < 10) = false := decide_eq_false (by omega)
    clear hf h10
    go_wp2_with fail
    exact bodyPost_ret (results_none rfl _ _ _) rfl ⟨rfl, _, ⟨_, _, _, _, _, _, _, _, Hr2.out, rfl⟩, fun c hc => .inl hc, Tch.of Hb2.out, an.below Hb2.out hrbw⟩
 ·have i4 : (kd == 4) = false := by simp [h4]
  have Hr4 := hid (Hres.out.trans (if_neg h4))
  clear h4 Hres
  by_cases h5 : kd = 5
  ·have i5 : (kd == 5) = true := by simp [h5]
   have Hr5 := hid (Hr4.out.trans (if_pos h5))
   clear h5 Hr4
   by_cases hf : win b 0 8 = true ∧ t.ch = false
   ·skip
    obtain ⟨hk, hch⟩ := hf
    obtain ⟨k, hbk⟩ : ∃ k : Nat, b = (k : Int) := ⟨b.toNat, by have := aH.1 hk; omega⟩
    obtain ⟨-, hpk⟩ := cL.1 (bR.1 Hx.out.nt t (List.mem_of_getElem? Hi.out))
    obtain ⟨-, ⟨hh9, hhn⟩, -, -⟩ := aA.1 hpk
    have hk8 : k ≤ 8 := by have := aH.1 hk; omega
    have hkl : k < t.pk.hd.length := by omega
    obtain ⟨nk, hnk⟩ := ai hkl
    obtain ⟨n0, n1⟩ := cD hhn hnk
    have hcw := sN (x := x) (i := i) (hbk ▸ hk) hch hnk
    rw [← hbk] at hcw
    have hye := Hr5.out.trans hcw
    clear Hr5 hcw
    subst y
    have iwk : IntKind.i64.wrap (nk + 1) = nk + 1 := a9 (by omega)
    have itk : (nk + 1).tmod 991 = (nk + 1) % 991 := by rw [Int.tmod_eq_emod_of_nonneg (by omega)]
    have Hnk := hid hnk
    have Hbk := hid hbk; have Hch := hid hch
    clear hch hpk hhn hh9 hbk hnk
    rw [Hch.out] at t5
    go_wp2_with (go_at_call 78; refine (a8 _ _ _ _).mono ?_; rw [hk]; rintro e w5 ⟨rfl, rfl⟩)
    obtain rfl := Hbk.out
    obtain ⟨g', gh, cc, ub, e, hgm, hghm, hne, y0, y1, y2, y3, y4, y5, hck, fzh, fzg, hcc, hset⟩ := Run.chg Hr2.out Hi.out Hnk.out
    injection e with e; injection e with e1 e2; subst e1
    obtain ⟨rfl, rfl⟩ : Ah = some ⟨gh, 0, none⟩ ∧ ch = cc := by have := Option.some.inj (X2.out.symm.trans y2); injection this with h1 h2 h3; exact ⟨h1, h3⟩
    have hghl := World.block_lt_of_cell? _ _ hck
    have hgl := World.block_lt_of_cell? _ _ y5
    dsimp only at hghl hgl
    have fzk := fzh k
    have HSA := hid (fun (wx : World) (hT : Tch [] W2 wx) => And.intro (aC (hT.row ET.out (by simp))) (And.intro (bh (hT.row Eb2.out (by simp))) (And.intro (hT.cell hck (by simp)) (And.intro (hT.frozen fzk hghl (by simp)) (And.intro (show gh < wx.heap.size by have := hT.size; omega) (show w.heap.size < wx.heap.size ∧ nT < wx.heap.size by have := hT.size; omega))))))
    have HGM := hid hgm; have HGHM := hid hghm
    clear k0 k1 k2 k3 k4 k5 v0 v1 v2 v3 t0 t1 t2 t3 t4 t5 y0 y1 y2 y3 y4 hgm hghm hset fzh kz
    clear fzg y5 hck fzk
    have u4 : (0 : Int) ≤ (k : Int) := by omega
    have u5 : ((k : Int)).toNat = k := by omega
    have u6 : (k : Int) < (t.pk.hd.length : Int) := by omega
    refine rgN [] 16 (by kernel_rfl) rfl (fun | none, _, _, _, _ => id | some _, _, _, _, _ => id) fun wc hH hbwc swc => ?_
    simp only [pw]
    refine ag [0, 1, 2, 3, 4, 5, 6, 7, 8, 9, 10, 11, 12, 13, 14] ?_
    iterate 15 (refine ra HSA.out rfl (by kernel_rfl) rfl (fun _ f => by go_simp; try with_reducible rfl) ?_; try simp only [pw])
    refine rz 15 (by kernel_rfl) rfl fun K hK => ?_
    have fC := HSA.out _ hH
    go_simp
    clear fC
    refine hK.out _ _ ?_
    clear hK K
    have hrc := Hr2.out.go hH.nil
    obtain ⟨g', gh', cc', ub', e, _, _, _, y0, y1, y2, y3, y4, y5, hck, fzh, fzg, _, hset⟩ := Run.chg hrc Hi.out Hnk.out
    injection e with e; injection e with e1 e2; subst e1
    have y2' := hH.cell X2.out (by simp)
    obtain rfl : gh = gh' := by have := Option.some.inj (y2'.symm.trans y2); injection this with h1 h2 h3; injection h1 with h1; injection h1
    have hrun := hset ((nk + 1) % 991)
    have hrlt := Hr.out.lt
    have hnb := (List.nodup_cons.1 Hr.out.nd).1
    have hFn : ∀ c ∈ Fn, c ≠ rb ∧ c < w.heap.size := fun c hc => ⟨fun e => hnb (e ▸ (by simp only [List.mem_append]; exact .inr (.inr (.inl hc)))), hrlt c (by simp only [List.mem_cons, List.mem_append]; exact .inr (.inr (.inr (.inl hc))))⟩
    obtain ⟨d1, d2⟩ := hFn g HGM.out
    obtain ⟨d3, d4⟩ := hFn gh HGHM.out
    have T3 : Tch [gh] wc (wc.setCell ⟨gh, k, none⟩ (.int .i64 ((nk + 1) % 991))) := (Tch.refl _ _).setCell (p := ⟨gh, k, none⟩) (.inl List.mem_cons_self) _
    have hcells := hrc.cells T3 (by simp; exact fun e => d3 e.symm)
    have hev := T3.row (hH.row Eb2.out (by simp)) (by simp; omega)
    have hz5 := T3.cell y5 (by simp; exact hne)
    have hz6 := T3.frozen (fzg (i * 6 + 5)) (World.block_lt_of_cell? _ _ y5) (by simp; exact hne)
    have hTT := ((Tch.of (S := rb :: (Fm ++ (Fs ++ (Fn ++ Fg)))) Hb2.out).trans (Tch.of hH.nil)).setCell (p := ⟨gh, k, none⟩) (.inl (by simp only [List.mem_cons, List.mem_append]; exact .inr (.inr (.inr (.inl HGHM.out))))) (.int .i64 ((nk + 1) % 991))
    have hKK := ((an.below (o := ro) Hb2.out hrbw).trans (an.below hH.nil (by omega))).setne (p := ⟨gh, k, none⟩) (fun e => d3 e.symm) (.int .i64 ((nk + 1) % 991))
    have sc3 : (wc.setCell ⟨gh, k, none⟩ (.int .i64 ((nk + 1) % 991))).heap.size = wc.heap.size := al _ _ _
    have sc2 := hH.size
    have Hrun := hid hrun; have Hcells := hid hcells; have Hev := hid hev; have Hz5 := hid hz5; have Hz6 := hid hz6; have HTT := hid hTT; have HKK := hid hKK
    clear y0 y1 y2 y3 y4 y5 hck fzh fzg hset y2' hrun hrlt hnb hFn T3 hcells hev hz5 hz6 hTT hKK hrc hH hbwc swc
    generalize wc.setCell ⟨gh, k, none⟩ (.int .i64 ((nk + 1) % 991)) = W3 at *
    have hg3 : g < W3.heap.size := by omega
    have HSB := hid (fun (wx : World) (hT : Tch [] W3 wx) => And.intro (hT.cell Hcells.out.2.2.1 (by simp)) (And.intro (bh (hT.row Hev.out (by simp))) (And.intro (hT.cell Hz5.out (by simp)) (And.intro (hT.frozen Hz6.out hg3 (by simp)) (show g < wx.heap.size ∧ w.heap.size < wx.heap.size ∧ rb < wx.heap.size by have := hT.size; omega)))))
    go_wp2_with fail
    refine rgD [] 9 (by kernel_rfl) rfl (fun | none, _, _, _, _ => id | some _, _, _, _, _ => id) fun hH => ?_
    simp only [pw]
    refine ag [0, 1, 2, 3, 4, 5, 6, 7] ?_
    iterate 8 (refine ra HSB.out rfl (by kernel_rfl) rfl (fun _ f => by go_simp; try with_reducible rfl) ?_; try simp only [pw])
    refine rz 8 (by kernel_rfl) rfl fun K hK => ?_
    have fC := HSB.out _ hH
    go_simp
    clear fC
    refine hK.out _ _ ?_
    clear hK K
    have hfin := Hrun.out.keep (w' := W3.drew.setCell ⟨g, i * 6 + 5, none⟩ (.bool true)) (fun c hc => rfl)
    have hT4 := (HTT.out.trans (Tch.of hH.nil)).setCell (p := ⟨g, i * 6 + 5, none⟩) (.inl (by simp only [List.mem_cons, List.mem_append]; exact .inr (.inr (.inr (.inl HGM.out))))) (.bool true)
    have hK4 := (HKK.out.trans (an.below hH.nil (by omega))).setne (p := ⟨g, i * 6 + 5, none⟩) (fun e => d1 e.symm) (.bool true)
    have HF := hid hfin; have HT4 := hid hT4; have HK4 := hid hK4
    clear hfin hT4 hK4 hH
    go_wp2_with fail
    exact bodyPost_ret (results_none rfl _ _ _) rfl ⟨rfl, _, ⟨_, _, _, _, _, _, _, _, HF.out, rfl⟩, fun c hc => .inl hc, HT4.out, HK4.out⟩
   ·have hye := Hr5.out.trans (show gI x i t b = x by unfold gI; rw [if_neg hf])
    clear Hr5
    subst y
    cases hc : t.ch with
    | true =>
     rw [hc] at t5
     clear hf
     go_wp2_with fail
     exact bodyPost_ret (results_none rfl _ _ _) rfl ⟨rfl, _, ⟨_, _, _, _, _, _, _, _, Hr2.out, rfl⟩, fun c hc => .inl hc, Tch.of Hb2.out, an.below Hb2.out hrbw⟩
    | false =>
     rw [hc] at t5
     cases hw2 : win b 0 8 with
     | true => exact absurd ⟨hw2, hc⟩ hf
     | false =>
      clear hf
      go_wp2_with (go_at_call 78; refine (a8 _ _ _ _).mono ?_; rw [hw2]; rintro e w5 ⟨rfl, rfl⟩)
      exact bodyPost_ret (results_none rfl _ _ _) rfl ⟨rfl, _, ⟨_, _, _, _, _, _, _, _, Hr2.out, rfl⟩, fun c hc => .inl hc, Tch.of Hb2.out, an.below Hb2.out hrbw⟩
  ·have i5 : (kd == 5) = false := by simp [h5]
   have Hres := hid (Hr4.out.trans (if_neg h5))
   clear h5 Hr4
   obtain ⟨k00, ki, kz0, kz1, kz2⟩ := info_parts lr
   have hs1 : IntKind.i64.wrap ((i : Int) + 1) = (i : Int) + 1 := a9 (by omega)
   have Hs3 := hid (show ((i : Int) + 1).toNat = i + 1 by omega)
   have hs2 : (0 : Int) ≤ (i : Int) + 1 := by omega
   obtain ⟨Gn, hFn, on⟩ := aG Hr2.out.en
   obtain ⟨_, _, en, hcn1, hcn2, _⟩ := on.form
   injection en with ea eb ec; subst ec
   obtain ⟨F1, F0, F2, hG, o1, ⟨cx, hE, hcx⟩, hD⟩ := on.cut3 Hi.out
   obtain ⟨vh', vb', Fh, Fb, rfl, rfl, oh, ob⟩ := tl hE
   obtain rfl := Option.some.inj ((hcx 2 _ rfl).symm.trans X2.out)
   obtain rfl := Option.some.inj ((hcx 4 _ rfl).symm.trans X4.out)
   have hnd := (List.nodup_append.1 (List.nodup_append.1 (List.nodup_append.1 (List.nodup_cons.1 Hr2.out.nd).2).2.1).2.1).1
   rw [hFn, hG] at hnd
   have hgG := on.choose_spec.2.2 g rfl
   rw [hG] at hgG
   simp only [List.mem_append, not_or] at hgG
   have HgFn := hid (show g ∈ Fn by rw [hFn]; simp [Value.ownBlock])
   have hnd' : ([g] ++ (F1 ++ ((Fh ++ Fb) ++ F2))).Nodup := by simpa [Value.ownBlock] using hnd
   obtain ⟨m1, m2, m3⟩ := List.nodup_append.1 hnd'
   obtain ⟨m4, m5, m6⟩ := List.nodup_append.1 m2
   obtain ⟨m7, m8, m9⟩ := List.nodup_append.1 m5
   have HgF2 := hid (show g ∉ F2 from hgG.2.2)
   have HO1 := hid o1
   have hll := Hr2.out.lt
   have HN1 := hid (show ((Value.slice (some ⟨g, 0, none⟩) i cn).ownBlock.toList ++ F1).Nodup by simp only [Value.ownBlock, Option.toList_some, List.singleton_append]; exact List.nodup_cons.2 ⟨hgG.1, m4⟩)
   have HN2 := hid m8
   have hsub : ∀ c, c = g ∨ c ∈ F1 ∨ c ∈ Fh ++ Fb ∨ c ∈ F2 → c ∈ Fn := fun c hc => by
    rw [hFn, hG]; simp only [Value.ownBlock, Option.toList_some, List.mem_append, List.mem_singleton] at hc ⊢
    exact hc
   have hFlt : ∀ c ∈ Fn, c < W2.heap.size := fun c hc => hll c (by simp only [List.mem_cons, List.mem_append]; exact .inr (.inr (.inr (.inl hc))))
   have HS1 := hid (show ∀ c, c ∈ (Value.slice (some ⟨g, 0, none⟩) i cn).ownBlock.toList ++ F1 ∨ c ∈ F2 → c ∈ Fn from fun c hc => by
    simp only [Value.ownBlock, Option.toList_some, List.singleton_append, List.mem_cons] at hc
    rcases hc with (h | h) | h
    ·exact hsub c (.inl h)
    ·exact hsub c (.inr (.inl h))
    ·exact hsub c (.inr (.inr (.inr h))))
   have HL12 := hid (show ∀ c, c ∈ (Value.slice (some ⟨g, 0, none⟩) i cn).ownBlock.toList ++ F1 ∨ c ∈ F2 → c < W2.heap.size from fun c hc => hFlt c (HS1.out c hc))
   have HD12 := hid (show ∀ c ∈ F2, c ∉ (Value.slice (some ⟨g, 0, none⟩) i cn).ownBlock.toList ++ F1 from fun c hc hm => by
    simp only [Value.ownBlock, Option.toList_some, List.singleton_append, List.mem_cons] at hm
    rcases hm with h | h
    ·subst h; exact hgG.2.2 hc
    ·exact m6 c h c (List.mem_append_right _ hc) rfl)
   have hnbF := Hr2.out.nb.2.2.1
   have HX0 := hid (show ∀ c ∈ Fh ++ Fb, c ≠ g ∧ c ≠ rb from fun c hc => ⟨fun e => by subst e; exact (List.mem_append.1 hc).elim hgG.2.1.1 hgG.2.1.2, fun e => by subst e; exact hnbF (hsub _ (.inr (.inr (.inl hc))))⟩)
   have HE0 := hid hE
   have Heq := hid (show x.net.eraseIdx i = x.net.take i ++ x.net.drop (i + 1) from List.eraseIdx_eq_take_drop_succ _ _)
   have Hlen := hid (show (x.net.eraseIdx i).length = x.net.length - 1 from by rw [List.length_eraseIdx]; simp [hil])
   have kz2 := kz (ro + 2)
   have hgrb : g < w.heap.size := Nat.lt_of_lt_of_le (Nat.lt_of_not_le fun hge => by have := Hr.out.lt g (by simp only [List.mem_cons, List.mem_append]; exact .inr (.inr (.inr (.inl HgFn.out)))); omega) (Nat.le_refl _)
   have hrbg : rb ≠ g := fun e => by subst e; exact hnbF HgFn.out
   have HS := hid (fun (wx : World) (hT : Tch [g] W2 wx) => And.intro (Hr2.out.cells hT (by simp; exact hrbg)) (And.intro (bh (hT.row Eb2.out (by simp; omega))) (show w.heap.size < wx.heap.size ∧ g < wx.heap.size by have := hT.size; omega)))
   clear kz hFn ea eb on hG o1 hE hcx oh ob hnd hgG hnd' m1 m2 m3 m4 m5 m6 m7 m8 m9 hll hsub hFlt hnbF
   have Hil := hid hil
   go_wp2_with fail
   clear k0 k1 k2 k3 k4 k5 v0 v1 v2 v3 t0 t1 t2 t3 t4 t5 kz2
   go_cut [] (fun W7 => ∃ F9, Rn B W7 rb ro (bS x (x.net.eraseIdx i)) F9 ∧ (∀ c ∈ F9, c ∈ rb :: (Fm ++ (Fs ++ (Fn ++ Fg))) ∨ w.heap.size ≤ c) ∧ W7.heap[w.heap.size]? = some (.cells #[.int .i64 kd, .int .i64 i, .int .i64 b, .int .i64 c] 38 (0, 0)) ∧ W7.heap[nT]? = some (.cells #[.int .i64 t.mix, .int .i64 t.pk.el, .slice Ah t.pk.hd.length ch, .int .i64 t.pk.tag, .slice Ab t.pk.bd.length cb, .bool t.ch] 74 (0, 0)) ∧ oTr.E W7 [.int .i64 t.mix, .int .i64 t.pk.el, .slice Ah t.pk.hd.length ch, .int .i64 t.pk.tag, .slice Ab t.pk.bd.length cb, .bool t.ch] t (Fh ++ Fb) ∧ Tch (rb :: (Fm ++ (Fs ++ (Fn ++ Fg)))) w W7 ∧ an rb ro w W7 ∧ (nT < W7.heap.size ∧ w.heap.size < W7.heap.size))
   case first =>
    by_cases hce : cn = i + 1
    ·subst hce
     obtain ⟨FD, hsD, hFD⟩ := hD (some ⟨g, 0, none⟩) 0 (fun h => by omega) (by omega) (by omega)
     have hsD0 : Sl oTr W2 (.slice (some ⟨g, 0, none⟩) 0 0) (x.net.drop (i + 1)) FD := by have h0 := hsD; rwa [show x.net.length - (i + 1) = 0 from by omega] at h0
     have hltD := hsD.lt
     have hs3 := Hs3.out
     have hlz : (i : Int) + 1 ≤ (x.net.length : Int) := by omega
     have hle : i ≤ i + 1 := by omega
     have hle' : (i : Int) ≤ (i : Int) + 1 := by omega
     refine rgN [g] 20 (by kernel_rfl) rfl (fun | none, _, _, _, _ => id | some _, _, _, _, _ => id) fun wc hH hbwc swc => ?_
     simp only [pw]
     refine ag [0, 1, 2, 3, 4, 5, 6, 7, 8, 9, 10, 11, 12, 13, 14, 15] ?_
     iterate 16 (refine ra HS.out rfl (by kernel_rfl) rfl (fun _ f => by go_simp; try with_reducible rfl) ?_; try simp only [pw])
     refine rq 16 (by kernel_rfl) rfl fun K hK => ?_
     (have lpa := hH.size; refine aZ rfl (.tmp 98) (.tmp 106) 31 rfl oTr (B := 0) Tryz.underlying31 ki kz0 kz1 kz2 rfl (by decide) (v := .slice (some ⟨g, 0, none⟩) i (i + 1)) rfl (HO1.out.go hbwc) (some ⟨g, 0, none⟩) 0 0 rfl (hsD0.below hbwc hltD) (fun b hb => by simp [Value.ownBlock] at hb; subst hb; rw [hFD]; exact HgF2.out) (by simp; omega) (by simp [maxLen]; omega) (Nat.zero_le _) ?_; intro v9 w9 ho9 hg9 hv9; rw [hFD, ← Heq.out] at ho9; obtain ⟨A9, c9, e9, _, _, _⟩ := ho9.form; rw [Hlen.out] at e9; subst e9; have hbP := hH.grow hg9 (fun k hk _ => by simp [Value.ownBlock] at hk; subst hk; exact List.mem_cons_self))
     refine hK.out _ _ (hbP) (fun hH => ?_)
     clear hK K
     refine ag [17, 18] ?_
     iterate 2 (refine ra HS.out rfl (by kernel_rfl) rfl (fun _ f => by go_simp; try with_reducible rfl) ?_; try simp only [pw])
     refine rz 19 (by kernel_rfl) rfl fun K hK => ?_
     have fC := HS.out _ hH
     go_simp
     clear fC
     refine hK.out _ _ ?_
     clear hK K
     have hT9 : Tch Fn W2 w9 := hH.mono (fun b hb => by simp at hb; subst hb; exact HgFn.out)
     have sl := hbwc.size
     have hn9 : ((Value.slice A9 (x.net.length - 1) c9).ownBlock.toList ++ (F1 ++ F2)).Nodup ∧ ∀ c ∈ (Value.slice A9 (x.net.length - 1) c9).ownBlock.toList ++ (F1 ++ F2), c ∈ Fn ∨ W2.heap.size ≤ c := by
      obtain ⟨a1, a2, a3⟩ := ja (s8 := wc.heap.size) (v := .slice (some ⟨g, 0, none⟩) i (i + 1)) (v' := .slice A9 (x.net.length - 1) c9) (G := F1) (F := F2) ho9 (by simpa [Value.ownBlock] using hv9) HN1.out HN2.out (fun b hb => by have := HL12.out b (.inl hb); omega) (fun b hb => ⟨by have := HL12.out b (.inr hb); omega, HD12.out b hb⟩)
      refine ⟨a2, fun c hc => ?_⟩
      rcases a3 c hc with h | h | h
      ·exact .inl (HS1.out c (.inl h))
      ·exact .inl (HS1.out c (.inr h))
      ·exact .inr (by omega)
     have hrun := Hr2.out.net' hT9 (v' := .slice A9 (x.net.length - 1) c9) (ys := x.net.eraseIdx i) ⟨_, F1 ++ F2, rfl, ho9, rfl⟩ hn9.1 (fun c hc => (hn9.2 c hc).imp id (fun h hm => by have := Hr2.out.lt c hm; omega)) (fun c hc => by
      rcases hn9.2 c hc with h | h
      ·exact Hr2.out.lo c (by simp only [List.mem_cons, List.mem_append]; exact .inr (.inr (.inr (.inl h))))
      ·omega)
     have hFF : ∀ c ∈ rb :: (Fm ++ (Fs ++ (((Value.slice A9 (x.net.length - 1) c9).ownBlock.toList ++ (F1 ++ F2)) ++ Fg))), c ∈ rb :: (Fm ++ (Fs ++ (Fn ++ Fg))) ∨ w.heap.size ≤ c := fun c hc => by
      simp only [List.mem_cons, List.mem_append] at hc ⊢
      rcases hc with h | h | h | h | h
      ·exact .inl (.inl h)
      ·exact .inl (.inr (.inl h))
      ·exact .inl (.inr (.inr (.inl h)))
      ·rcases hn9.2 c (by simp only [List.mem_append]; exact h) with h2 | h2
       ·exact .inl (.inr (.inr (.inr (.inl h2))))
       ·exact .inr (by omega)
      ·exact .inl (.inr (.inr (.inr (.inr h))))
     have s9 : W2.heap.size ≤ w9.heap.size := hH.size
     have e1 : (w9.setCell ⟨rb, ro + 2, none⟩ (.slice A9 (x.net.length - 1) c9)).heap[w.heap.size]? = some (.cells #[.int .i64 kd, .int .i64 i, .int .i64 b, .int .i64 c] 38 (0, 0)) := (Below.heap_setCell _ _ _ _ (by dsimp only; omega)).trans (hH.row Eb2.out (by simp; omega))
     have e2 : (w9.setCell ⟨rb, ro + 2, none⟩ (.slice A9 (x.net.length - 1) c9)).heap[nT]? = some (.cells #[.int .i64 t.mix, .int .i64 t.pk.el, .slice Ah t.pk.hd.length ch, .int .i64 t.pk.tag, .slice Ab t.pk.bd.length cb, .bool t.ch] 74 (0, 0)) := (Below.heap_setCell _ _ _ _ (by dsimp only; omega)).trans (hH.row ET.out (by simp; omega))
     have hE9 := oTr.keep HE0.out (w' := w9.setCell ⟨rb, ro + 2, none⟩ (.slice A9 (x.net.length - 1) c9)) (fun b hb => (Below.heap_setCell _ _ _ _ (HX0.out b hb).2).trans (hH.block b (oTr.lt HE0.out b hb) (by simp; exact (HX0.out b hb).1)))
     have hT : Tch (rb :: (Fm ++ (Fs ++ (Fn ++ Fg)))) w (w9.setCell ⟨rb, ro + 2, none⟩ (.slice A9 (x.net.length - 1) c9)) := ((Tch.of Hb2.out).trans (hT9.mono (fun b hb => by simp only [List.mem_cons, List.mem_append]; exact .inr (.inr (.inr (.inl hb)))))).setCell (p := ⟨rb, ro + 2, none⟩) (.inl List.mem_cons_self) _
     have hK : an rb ro w (w9.setCell ⟨rb, ro + 2, none⟩ (.slice A9 (x.net.length - 1) c9)) := ((an.below Hb2.out hrbw).trans (an.tch hT9 Hr2.out.nb.2.2.1 Hr2.out.blk)).set (by omega) _
     have hsz : nT < (w9.setCell ⟨rb, ro + 2, none⟩ (.slice A9 (x.net.length - 1) c9)).heap.size ∧ w.heap.size < (w9.setCell ⟨rb, ro + 2, none⟩ (.slice A9 (x.net.length - 1) c9)).heap.size := by rw [al]; omega
     have HX := hid (show ∃ F9, Rn B (w9.setCell ⟨rb, ro + 2, none⟩ (.slice A9 (x.net.length - 1) c9)) rb ro (bS x (x.net.eraseIdx i)) F9 ∧ (∀ c ∈ F9, c ∈ rb :: (Fm ++ (Fs ++ (Fn ++ Fg))) ∨ w.heap.size ≤ c) ∧ _ ∧ _ ∧ _ ∧ _ ∧ _ ∧ _ from ⟨_, ⟨_, _, _, _, _, _, _, _, hrun, rfl⟩, hFF, e1, e2, hE9, hT, hK, hsz⟩)
     clear hT9 sl hn9 hrun hFF s9 e1 e2 hE9 hT hK hsz ho9 hg9 hv9 hH hbP
     go_wp2_with fail
     go_meet
     exact HX.out
    ·obtain ⟨FD, hsD, hFD⟩ := hD (some ⟨g, (i + 1) * 6, none⟩) (cn - (i + 1)) (fun h => rfl) (by omega) (by omega)
     have hltD := hsD.lt
     have hs3 := Hs3.out
     have hlz : (i : Int) + 1 ≤ (x.net.length : Int) := by omega
     have hic : i ≤ cn := by omega
     refine rgN [g] 20 (by kernel_rfl) rfl (fun | none, _, _, _, _ => id | some _, _, _, _, _ => id) fun wc hH hbwc swc => ?_
     simp only [pw]
     refine ag [0, 1, 2, 3, 4, 5, 6, 7, 8, 9, 10, 11, 12, 13, 14, 15] ?_
     iterate 16 (refine ra HS.out rfl (by kernel_rfl) rfl (fun _ f => by go_simp; try with_reducible rfl) ?_; try simp only [pw])
     refine rq 16 (by kernel_rfl) rfl fun K hK => ?_
     (have lpa := hH.size; refine aZ rfl (.tmp 98) (.tmp 106) 31 rfl oTr (B := 0) Tryz.underlying31 ki kz0 kz1 kz2 rfl (by decide) (v := .slice (some ⟨g, 0, none⟩) i cn) rfl (HO1.out.go hbwc) (some ⟨g, (i + 1) * 6, none⟩) (x.net.length - (i + 1)) (cn - (i + 1)) rfl (hsD.below hbwc hltD) (fun b hb => by simp [Value.ownBlock] at hb; subst hb; rw [hFD]; exact HgF2.out) (by simp; omega) (by simp [maxLen]; omega) (Nat.zero_le _) ?_; intro v9 w9 ho9 hg9 hv9; rw [hFD, ← Heq.out] at ho9; obtain ⟨A9, c9, e9, _, _, _⟩ := ho9.form; rw [Hlen.out] at e9; subst e9; have hbP := hH.grow hg9 (fun k hk _ => by simp [Value.ownBlock] at hk; subst hk; exact List.mem_cons_self))
     refine hK.out _ _ (hbP) (fun hH => ?_)
     clear hK K
     refine ag [17, 18] ?_
     iterate 2 (refine ra HS.out rfl (by kernel_rfl) rfl (fun _ f => by go_simp; try with_reducible rfl) ?_; try simp only [pw])
     refine rz 19 (by kernel_rfl) rfl fun K hK => ?_
     have fC := HS.out _ hH
     go_simp
     clear fC
     refine hK.out _ _ ?_
     clear hK K
     have hT9 : Tch Fn W2 w9 := hH.mono (fun b hb => by simp at hb; subst hb; exact HgFn.out)
     have sl := hbwc.size
     have hn9 : ((Value.slice A9 (x.net.length - 1) c9).ownBlock.toList ++ (F1 ++ F2)).Nodup ∧ ∀ c ∈ (Value.slice A9 (x.net.length - 1) c9).ownBlock.toList ++ (F1 ++ F2), c ∈ Fn ∨ W2.heap.size ≤ c := by
      obtain ⟨a1, a2, a3⟩ := ja (s8 := wc.heap.size) (v := .slice (some ⟨g, 0, none⟩) i cn) (v' := .slice A9 (x.net.length - 1) c9) (G := F1) (F := F2) ho9 (by simpa [Value.ownBlock] using hv9) HN1.out HN2.out (fun b hb => by have := HL12.out b (.inl hb); omega) (fun b hb => ⟨by have := HL12.out b (.inr hb); omega, HD12.out b hb⟩)
      refine ⟨a2, fun c hc => ?_⟩
      rcases a3 c hc with h | h | h
      ·exact .inl (HS1.out c (.inl h))
      ·exact .inl (HS1.out c (.inr h))
      ·exact .inr (by omega)
     have hrun := Hr2.out.net' hT9 (v' := .slice A9 (x.net.length - 1) c9) (ys := x.net.eraseIdx i) ⟨_, F1 ++ F2, rfl, ho9, rfl⟩ hn9.1 (fun c hc => (hn9.2 c hc).imp id (fun h hm => by have := Hr2.out.lt c hm; omega)) (fun c hc => by
      rcases hn9.2 c hc with h | h
      ·exact Hr2.out.lo c (by simp only [List.mem_cons, List.mem_append]; exact .inr (.inr (.inr (.inl h))))
      ·omega)
     have hFF : ∀ c ∈ rb :: (Fm ++ (Fs ++ (((Value.slice A9 (x.net.length - 1) c9).ownBlock.toList ++ (F1 ++ F2)) ++ Fg))), c ∈ rb :: (Fm ++ (Fs ++ (Fn ++ Fg))) ∨ w.heap.size ≤ c := fun c hc => by
      simp only [List.mem_cons, List.mem_append] at hc ⊢
      rcases hc with h | h | h | h | h
      ·exact .inl (.inl h)
      ·exact .inl (.inr (.inl h))
      ·exact .inl (.inr (.inr (.inl h)))
      ·rcases hn9.2 c (by simp only [List.mem_append]; exact h) with h2 | h2
       ·exact .inl (.inr (.inr (.inr (.inl h2))))
       ·exact .inr (by omega)
      ·exact .inl (.inr (.inr (.inr (.inr h))))
     have s9 : W2.heap.size ≤ w9.heap.size := hH.size
     have e1 : (w9.setCell ⟨rb, ro + 2, none⟩ (.slice A9 (x.net.length - 1) c9)).heap[w.heap.size]? = some (.cells #[.int .i64 kd, .int .i64 i, .int .i64 b, .int .i64 c] 38 (0, 0)) := (Below.heap_setCell _ _ _ _ (by dsimp only; omega)).trans (hH.row Eb2.out (by simp; omega))
     have e2 : (w9.setCell ⟨rb, ro + 2, none⟩ (.slice A9 (x.net.length - 1) c9)).heap[nT]? = some (.cells #[.int .i64 t.mix, .int .i64 t.pk.el, .slice Ah t.pk.hd.length ch, .int .i64 t.pk.tag, .slice Ab t.pk.bd.length cb, .bool t.ch] 74 (0, 0)) := (Below.heap_setCell _ _ _ _ (by dsimp only; omega)).trans (hH.row ET.out (by simp; omega))
     have hE9 := oTr.keep HE0.out (w' := w9.setCell ⟨rb, ro + 2, none⟩ (.slice A9 (x.net.length - 1) c9)) (fun b hb => (Below.heap_setCell _ _ _ _ (HX0.out b hb).2).trans (hH.block b (oTr.lt HE0.out b hb) (by simp; exact (HX0.out b hb).1)))
     have hT : Tch (rb :: (Fm ++ (Fs ++ (Fn ++ Fg)))) w (w9.setCell ⟨rb, ro + 2, none⟩ (.slice A9 (x.net.length - 1) c9)) := ((Tch.of Hb2.out).trans (hT9.mono (fun b hb => by simp only [List.mem_cons, List.mem_append]; exact .inr (.inr (.inr (.inl hb)))))).setCell (p := ⟨rb, ro + 2, none⟩) (.inl List.mem_cons_self) _
     have hK : an rb ro w (w9.setCell ⟨rb, ro + 2, none⟩ (.slice A9 (x.net.length - 1) c9)) := ((an.below Hb2.out hrbw).trans (an.tch hT9 Hr2.out.nb.2.2.1 Hr2.out.blk)).set (by omega) _
     have hsz : nT < (w9.setCell ⟨rb, ro + 2, none⟩ (.slice A9 (x.net.length - 1) c9)).heap.size ∧ w.heap.size < (w9.setCell ⟨rb, ro + 2, none⟩ (.slice A9 (x.net.length - 1) c9)).heap.size := by rw [al]; omega
     have HX := hid (show ∃ F9, Rn B (w9.setCell ⟨rb, ro + 2, none⟩ (.slice A9 (x.net.length - 1) c9)) rb ro (bS x (x.net.eraseIdx i)) F9 ∧ (∀ c ∈ F9, c ∈ rb :: (Fm ++ (Fs ++ (Fn ++ Fg))) ∨ w.heap.size ≤ c) ∧ _ ∧ _ ∧ _ ∧ _ ∧ _ ∧ _ from ⟨_, ⟨_, _, _, _, _, _, _, _, hrun, rfl⟩, hFF, e1, e2, hE9, hT, hK, hsz⟩)
     clear hT9 sl hn9 hrun hFF s9 e1 e2 hE9 hT hK hsz ho9 hg9 hv9 hH hbP
     go_wp2_with fail
     go_meet
     exact HX.out
   case rest =>
    obtain ⟨F9, hrn, hF9, e1, e2, hE9, hT9, hK9, z1, z2⟩ := hcut
    obtain ⟨W7, rfl⟩ : ∃ W7 : World, W7 = wc := ⟨_, rfl⟩
    obtain ⟨v0, v1, v2, v3, _⟩ := bh e1
    obtain ⟨t0, t1, t2, t3, t4, t5, _⟩ := aC e2
    obtain ⟨l1, l2, _, _⟩ := Hx.out.lim
    have iwl : IntKind.i64.wrap (x.lost + 1) = x.lost + 1 := a9 (by omega)
    have h00 := Hr.out.lo
    have Hrn := hid hrn; have HF9 := hid hF9; have HE9 := hid hE9; have HT9 := hid hT9; have HK9 := hid hK9
    have H00 := hid (show (0 : Nat) ∉ rb :: (Fm ++ (Fs ++ (Fn ++ Fg))) from fun hm => by have := h00 0 hm; omega)
    have eW := hid (heap_alloc_new W7 (.cells #[.pointer none] 159))
    clear hrn hF9 e1 e2 hE9 hT9 hK9 HS hD HN1 HN2 HL12 HD12 HX0 HE0 HS1 HgF2 HgFn HO1 Heq Hlen Hr2 Hb2 Eb2 ET X2 X4 Hvh Hvb Hil h00
    by_cases hk3 : kd = 3
    ·have i3 : (kd == 3) = true := by simp [hk3]
     obtain rfl := Hres.out.trans (if_pos hk3)
     clear hk3 Hres
     obtain ⟨um, us, un, ug, Gm, Gs, Gn', Gg, hr7, rfl⟩ := Hrn.out
     obtain ⟨k0, k1, k2, k3, k4, k5, k6, kz⟩ := hr7.cells (Tch.refl [] _) (by simp)
     replace k5 : W7.cell? ⟨rb, ro + 5, none⟩ = some (.int .i64 x.lost) := k5
     have kz5 := kz (ro + 5)
     have Hr7 := hid hr7
     clear kz k0 k1 k2 k3 k4 hr7
     go_wp2_with fail
     exact bodyPost_end (results_none rfl _ _ _) rfl ⟨rfl, _, ⟨_, _, _, _, _, _, _, _, (Hr7.out.lost (x.lost + 1)).go (ab _ _), rfl⟩, fun c hc => (HF9.out c hc).imp id .inr, (HT9.out.setCell (p := ⟨rb, ro + 5, none⟩) (.inl List.mem_cons_self) _).trans (Tch.of (ab _ _)), (HK9.out.set (k := ro + 5) (by omega) _).trans (an.below (ab _ _) (by rw [al]; exact Hr7.out.blk))⟩
    ·have i3 : (kd == 3) = false := by simp [hk3]
     obtain rfl := Hres.out.trans (if_neg hk3)
     clear hk3 Hres
     have htr := bR.1 Hx.out.nt t (List.mem_of_getElem? Hi.out)
     obtain ⟨hm0, hpk⟩ := cL.1 htr
     obtain ⟨k, hkm⟩ : ∃ k : Nat, t.mix = (k : Int) := ⟨t.mix.toNat, by have := aH.1 hm0; omega⟩
     have hk : k < 3 := by have := aH.1 hm0; omega
     obtain ⟨m, hm1, hm2, hm3, hm4⟩ := js Hx.out.mix hk
     have hml := cP Hx.out.mix
     obtain ⟨m2, code, hrr⟩ : ∃ m2 code, bW m t.pk = (m2, code) := ⟨_, _, rfl⟩
     have Hfin := hid (show ex (bS x (x.net.eraseIdx i)) t = if code = 0 then cV (bS x (x.net.eraseIdx i)) k m2 else dA (cV (bS x (x.net.eraseIdx i)) k m2) by
      unfold ex; dsimp only; rw [hkm, Int.toNat_natCast, show (bS x (x.net.eraseIdx i)).mixes = x.mixes from rfl, hm2, hrr])
     rw [hkm] at t0
     obtain ⟨vh', vb', Fh', Fb', ecx, _, oh, ob⟩ := tl HE9.out
     simp only [List.cons.injEq, and_true, true_and] at ecx
     obtain ⟨rfl, rfl⟩ := ecx
     have s3 := (ti oh).go (ab W7 (.cells #[.pointer none] 159))
     have s4 := (ti ob).go (ab W7 (.cells #[.pointer none] 159))
     have hrn' := Hrn.out.go (ab W7 (.cells #[.pointer none] 159))
     have HM1 := hid hm1; have HM3 := hid hm3; have Hpk := hid hpk; have Hrr := hid hrr; have S3 := hid s3; have S4 := hid s4; have Hrn' := hid hrn'; have Hml := hid hml
     have hBw : B ≤ (W7.alloc (.cells #[.pointer none] 159)).heap.size := by have := HT9.out.size; simp only [World.size_alloc]; omega
     have hsW : W7.heap.size < (W7.alloc (.cells #[.pointer none] 159)).heap.size := by simp
     clear htr hm0 hpk hm1 hm2 hm3 hm4 hml hrr oh ob s3 s4 hrn' hkm
     go_wp2_with fail
     refine (vP B rb ro (bS x (x.net.eraseIdx i)) F9 k t.pk t.ch m m2 code Ah Ab ch cb _ Hrn'.out (by rw [show (bS x (x.net.eraseIdx i)).mixes = x.mixes from rfl]; have := Hml.out; omega) (by omega) HM1.out HM3.out Hpk.out Hrr.out S3.out S4.out hBw).mono ?_
     have hb8 := ab W7 (.cells #[.pointer none] 159)
     generalize W7.alloc (.cells #[.pointer none] 159) = W8 at *
     have hF7 := Hrn.out.lt
     have hrb7 := Hrn.out.blk
     have sw7 := HT9.out.size
     have hG7 : bx W7 := HT9.out.cell Hg.out H00.out
     rintro e w9 hout
     rcases hout with ⟨hc0, rfl, F', hr', hF', ht', hk'⟩ | ⟨hcn, bb, rfl, eb, hbb, hr', hb'⟩
     ·have Hy := hid (Hfin.out.trans (if_pos hc0))
      have hT := (HT9.out.trans (Tch.of hb8)).seq ht' HF9.out
      have hK := (HK9.out.trans (an.below hb8 hrb7)).trans hk'
      have HX := hid (show Rn B w9 rb ro (cV (bS x (x.net.eraseIdx i)) k m2) F' ∧ (∀ c ∈ F', c ∈ rb :: (Fm ++ (Fs ++ (Fn ++ Fg))) ∨ w.heap.size ≤ c) ∧ _ ∧ _ from ⟨hr', fun c hc => by
       rcases hF' c hc with h | h
       ·exact HF9.out c h
       ·exact .inr (by omega), hT, hK⟩)
      clear hc0 hr' hF' ht' hk' hT hK hb8 hG7 hF7
      go_wp2_with (go_at_call 137; refine (yh _ _).mono ?_; rintro e w' ⟨rfl, rfl⟩)
      exact bodyPost_end (results_none rfl _ _ _) rfl ⟨rfl, F', (by rw [Hy.out]; exact HX.out.1), fun c hc => (HX.out.2.1 c hc).imp id .inr, HX.out.2.2.1, HX.out.2.2.2⟩
     ·obtain rfl := uW Hrr.out hcn
      have Hy := hid ((Hfin.out.trans (if_neg hcn)).trans (show dA (cV (bS x (x.net.eraseIdx i)) k m2) = dA (bS x (x.net.eraseIdx i)) by rw [sx (x := bS x (x.net.eraseIdx i)) HM1.out]))
      have hg9 : bx w9 := (hG7.go hb8).go hb'
      have ew9 := ac hb' eW.out
      have hT := (HT9.out.trans (Tch.of hb8)).trans (Tch.of hb')
      have hK := (HK9.out.trans (an.below hb8 hrb7)).trans (an.below hb' (by omega))
      have Hr' := hid hr'; have Hg9 := hid hg9; have Hew9 := hid ew9; have HT := hid hT; have HK := hid hK; have HF7 := hid hF7
      have s9 := hb'.size
      clear hcn hr' hb' eb hT hK hb8 hG7 hF7 hg9 ew9
      go_wp2_with fail
      refine (xd ⟨bb, 0, none⟩ ⟨W7.heap.size, 0, none⟩ (.pointer none) _ Hg9.out (by rw [cell_of_row w9 _ 0 _ _ _ Hew9.out]; rfl) (frozen_of_row w9 _ 0 _ _ Hew9.out)).mono ?_
      rintro e w10 ⟨rfl, ht10⟩
      have hr10 := Hr'.out.tch ht10 (fun c hc hm => by simp at hm; have := HF7.out c hc; omega)
      have hT10 : Tch (rb :: (Fm ++ (Fs ++ (Fn ++ Fg)))) w w10 := HT.out.seq ht10 (fun c hc => by simp at hc; subst hc; exact .inr (by omega))
      have hK10 : an rb ro w w10 := HK.out.trans (an.tch ht10 (by simp; omega) (by omega))
      obtain ⟨um, us, un, ug, Gm, Gs, Gn', Gg, hr7, rfl⟩ := hr10
      obtain ⟨k0, k1, k2, k3, k4, k5, k6, kz⟩ := hr7.cells (Tch.refl [] _) (by simp)
      replace k5 : w10.cell? ⟨rb, ro + 5, none⟩ = some (.int .i64 x.lost) := k5
      have kz5 := kz (ro + 5)
      have hfin : Rn B (w10.setCell ⟨rb, ro + 5, none⟩ (.int .i64 (x.lost + 1))) rb ro (dA (bS x (x.net.eraseIdx i))) (rb :: (Gm ++ (Gs ++ (Gn' ++ Gg)))) := ⟨_, _, _, _, _, _, _, _, hr7.lost (x.lost + 1), rfl⟩
      rw [← Hy.out] at hfin
      have HFin := hid hfin
      have Hr7 := hid hr7; have HT10 := hid hT10; have HK10 := hid hK10
      clear kz k0 k1 k2 k3 k4 hr7 hT10 hK10 ht10 hfin
      go_wp2_with fail
      exact bodyPost_end (results_none rfl _ _ _) rfl ⟨rfl, _, HFin.out, fun c hc => (HF9.out c hc).imp id .inr, HT10.out.setCell (p := ⟨rb, ro + 5, none⟩) (.inl List.mem_cons_self) _, HK10.out.set (k := ro + 5) (by omega) _⟩
theorem mW (B rb ro : Nat) (x : Wd) (F : List Nat) (e : Ev) (w : World) (h : Rn B w rb ro x F) (hx : VD 0 x) (hB : B ≤ w.heap.size) (hB1 : 1 ≤ B) (hg : bx w) :
  Calls Tryz.prog 88 #[.pointer (some ⟨rb, ro, none⟩), .agg #[.int .i64 e.kind, .int .i64 e.a, .int .i64 e.b, .int .i64 e.c]] w (eN B w rb ro F [] (eS x e)) := by
 obtain ⟨kd, a, b, c⟩ := e
 dsimp only
 by_cases hin : 0 ≤ a ∧ a < (x.net.length : Int)
 ·obtain ⟨i, rfl⟩ := Int.eq_ofNat_of_zero_le hin.1
  have hil : i < x.net.length := by omega
  obtain ⟨t, ht⟩ := ai hil
  have hp : eS x ⟨kd, i, b, c⟩ = if kd = 4 then (if x.net.length < 10 ∧ x.made < 999 then ew ⟨x.mixes, x.sent, x.net, x.got, x.made + 1, x.lost⟩ t.mix t.pk t.ch else x) else if kd = 5 then gI x i t b else if kd = 3 then dA (bS x (x.net.eraseIdx i)) else ex (bS x (x.net.eraseIdx i)) t := by
   unfold eS
   rw [if_neg (by dsimp only; omega)]
   simp only [Int.toNat_natCast, ht]
  rw [hp]
  exact xH B rb ro x F i t kd b c w h hx ht hB hB1 hg
 ·have hp : eS x ⟨kd, a, b, c⟩ = x := by
   unfold eS
   dsimp only
   split
   ·rfl
   ·rw [List.getElem?_eq_none (by omega)]
  rw [hp]
  refine wP B rb ro x F kd a b c w h hx.nn ?_
  cases hw : win a 0 ((x.net.length : Int) - 1) with
  | false => rfl
  | true => have := aH.1 hw; omega
end Go.Proofs.YtfaeojmndaplcaaGreatDoor
