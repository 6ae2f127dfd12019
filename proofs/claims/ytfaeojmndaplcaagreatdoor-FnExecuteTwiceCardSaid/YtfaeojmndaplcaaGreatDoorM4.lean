/- Texts that the last file leans on (part 4). -/
import Derived.Handy
import Derived.Test.YtfaeojmndaplcaaGreatDoorM1
import Derived.Test.YtfaeojmndaplcaaGreatDoorM2
import Derived.Test.YtfaeojmndaplcaaGreatDoorM3
set_option linter.unusedVariables false
set_option linter.unusedSimpArgs false
set_option maxHeartbeats 4000000
set_option maxRecDepth 100000
namespace Go.Proofs.YtfaeojmndaplcaaGreatDoor
open Go Go.RowKit
theorem ny {a b c : Int} (h1 : 0 ≤ a ∧ a ≤ 990) (h2 : 0 ≤ b ∧ b ≤ 990) (h3 : 0 ≤ c ∧ c ≤ 990) : aM [a, b, c] = true := bK.2 fun x hx => by
 simp at hx
 rcases hx with rfl | rfl | rfl <;> assumption
theorem Own.addr {α : Type} {T : Ty α} {e B n c : Nat} {w : World} {A : Option Addr} {xs : List α} {G : List Nat} (h : Own T e B w (.slice A n c) xs G) (hx : 0 < xs.length) : ∃ g, A = some ⟨g, 0, none⟩ := by
 obtain ⟨x, hx⟩ := ai hx
 obtain ⟨g, _, _, h1, _⟩ := h.at_ hx
 exact ⟨g, h1⟩
theorem slE {α : Type} {T : Ty α} {B : Nat} {w : World} {v : Value} {xs : List α} (h : SlB T B w v xs) : ∃ F, Sl T w v xs F := ⟨h.choose, h.choose_spec.1⟩
theorem pd {f : List Int} {rcv : Int} {keys ns : List Int} {m : Nat} {k : Int} (hk : keys[m]? = some k) (hm : m + 1 = keys.length) : hdT f rcv (keys.drop m) ns = (onL (dS rcv f.length) k ++ f, dy k (onL (dS rcv f.length) k ++ f)) := by
 rw [dd hk, List.drop_of_length_le (by omega)]
 cases ns <;> rfl
theorem pe {f : List Int} {rcv : Int} {keys names : List Int} {m : Nat} {k : Int} (hk : keys[m]? = some k) (hl : names.length = keys.length) (hm : m + 1 < keys.length) :
  hdT f rcv (keys.drop m) (names.drop m) = (onL ([0, names.getD (m + 1) 0, (hdT f rcv (keys.drop (m + 1)) (names.drop (m + 1))).2] ++ (hdT f rcv (keys.drop (m + 1)) (names.drop (m + 1))).1.take 6) k,
   dy k (onL ([0, names.getD (m + 1) 0, (hdT f rcv (keys.drop (m + 1)) (names.drop (m + 1))).2] ++ (hdT f rcv (keys.drop (m + 1)) (names.drop (m + 1))).1.take 6) k)) := by
 obtain ⟨n, hn⟩ := ai (xs := names) (k := m) (by omega)
 obtain ⟨k2, hk2⟩ := ai (xs := keys) (k := m + 1) (by omega)
 have e : (names.drop (m + 1)).getD 0 0 = names.getD (m + 1) 0 := by simp [List.getD_eq_getElem?_getD]
 rw [← e, dd hk, dd hn, dd hk2]
 rfl
theorem rZ (v vn : Value) (keys names : List Int) (rcv : Int) (w : World) (h : SlB af w.heap.size w v keys) (hns : SlB af w.heap.size w vn names) (h1 : 1 ≤ keys.length) (hl : keys.length ≤ 3) (hnl : names.length = keys.length)
  (hk : ∀ k ∈ keys, win k 1 996 = true) (hnm : ∀ n ∈ names, win n 0 7 = true) (hr : win rcv 0 7 = true) :
  Calls Tryz.prog 161 #[v, vn, .int .i64 rcv] w fun e w' => ∃ v', e = .returned (.tuple #[v', .int .i64 (hdT (cF keys) rcv keys names).2]) ∧ bF af 3 w.heap.size w' v' (hdT (cF keys) rcv keys names).1 ∧ Below w.heap.size w w' := by
 obtain ⟨i0, hi, hz0, hz1, hz2⟩ := info_parts bi
 obtain ⟨A, c, rfl, a1, a2, a3⟩ := h.form
 obtain ⟨An, cn, rfl, b1, b2, b3⟩ := hns.form
 have hfl := jq keys
 have hfn : aM (cF keys) = true := cN _ _ rfl
 have r0 := aH.1 hr
 have H := hid h; have Hk := hid hk; have HN := hid hns; have Hnm := hid hnm; have Hnl := hid hnl
 clear a2 b2 hk hnm hns
 go_enter Tryz.func161, Tryz.ntmps161
 go_wp2_with (go_at_call 212; refine (rY _ keys _ h h1 hl Hk.out).mono ?_; rintro e w1 ⟨vf, rfl, nf, hb1⟩)
 generalize hF : cF keys = f at *
 obtain ⟨G, of, _, _⟩ := nf
 obtain rfl := au aj of
 obtain ⟨Af, cf, rfl, _, _⟩ := of.formN rfl
 have Of := hid of; have Hb1 := hid hb1; have Hf := hid hfl; have Hfn := hid hfn
 have hsz1 := hb1.size
 have hlf : f.length ≤ 6 := by omega
 clear h of hb1 hfl hfn hnl
 go_wp2_with fail
 go_loopw [9] (fun ov wr => ∃ j : Nat, 3 + j + f.length ≤ 9 ∧ Own af 3 w1.heap.size wr ov ([1, rcv, 0] ++ List.replicate j 0) [] ∧ Below w1.heap.size w1 wr) (fun ov _ => 9 - xA ov)
 case atStart => exact ⟨0, by omega, by simpa using kR (w := w1) 1 rcv 0 (Nat.le_refl _), ab _ _⟩
 case round =>
  obtain ⟨j, hj, ho, hb⟩ := hrel
  obtain ⟨A3, c3, rfl, _, _⟩ := ho.formN (n := 3 + j) (by simp; omega)
  have hsz := hb.size
  have Ho := hid ho; have Hb := hid hb
  by_cases hlt : 3 + j + f.length < 9
  ·have hd1 : ((3 : Int) + (j : Int) + (f.length : Int) < 9) := by omega
   clear ho hb
   go_wp2_with (at_builtin; go_loud (refine ay rfl (.tmp 25) (.tmp 26) 67 rfl af aj (B := w1.heap.size) (v := (.slice A3 (3 + j) c3)) Tryz.underlying67 hi hz0 hz1 hz2 rfl (by decide) (by decide) rfl (Ho.out.go (ab wr _)) (some ⟨wr.heap.size, 0, none⟩) 1 1 rfl (jf (mJ 0 (Nat.le_refl _))) ?_ ?_ ?_; ((simp <;> omega)); (first | omega | (simp; done) | (simp; omega)); intro v2 w2 ho2 hg2 hv2; have hb2 := (Hb.out.alloc hsz _).grown hg2 (by first | omega | (simp; done) | (simp; omega)) (fun q hq => (Ho.out.top q hq).1); have sq2 := hb2.size; (obtain ⟨A5, c5, rfl, _, _⟩ := ho2.formN (n := 3 + j + 1) (by simp; omega))))
   go_roundw
   case rel => exact ⟨j + 1, by omega, by rw [List.replicate_succ', ← List.append_assoc]; exact ho2, hb2⟩
   case measure => simp [xA]; omega
  ·have hd1 : ¬ ((3 : Int) + (j : Int) + (f.length : Int) < 9) := by omega
   have Hls := hid (show [1, rcv, 0] ++ List.replicate j 0 = dS rcv f.length from by unfold dS; rw [show j = 6 - f.length from by omega])
   obtain ⟨n, hn⟩ : ∃ n, keys.length = n + 1 := ⟨keys.length - 1, by omega⟩
   obtain ⟨kl, hkl⟩ := ai (xs := keys) (k := n) (by omega)
   have Hlast := hid (pd (f := f) (rcv := rcv) (ns := names.drop n) hkl hn.symm)
   obtain ⟨bk, ok, rfl, hbk, _, hck⟩ := H.out.int hkl
   have hkw := Hk.out kl (List.mem_of_getElem? hkl)
   have hls := Ho.out.slB
   rw [Hls.out] at hls
   have Hsl := hid hls
   have hB := (Hb1.out.trans (Hb.out.mono hsz1))
   have hcr := (hB.cell (p := ⟨bk, ok + n, none⟩) hbk).trans hck
   have HC := hid (fun (wx : World) (hb : Below w1.heap.size w1 wx) => ((Hb1.out.trans (hb.mono hsz1)).cell (p := ⟨bk, ok + n, none⟩) hbk).trans hck)
   have Hn := hid hn; have HB := hid hB
   have hll : (dS rcv f.length).length + f.length = 9 := by simp [dS]; omega
   have Hll := hid hll
   have hnl : aM (dS rcv f.length) = true := bK.2 fun x hx => by
    simp [dS] at hx
    rcases hx with rfl | rfl | rfl | ⟨_, rfl⟩ <;> omega
   have Hn3 := hid hnl
   clear ho hb hls hB hck hn hll hnl hkl
   rw [Hn.out] at hl h1 ⊢
   have hkk : (((n + 1 : Nat) : Int) - 1) = (n : Int) := by omega
   have HW := hid (Hb1.out.trans (Hb.out.mono hsz1))
   go_wp2_with (first
    | (go_at_call 160; refine (rR _ _ kl _ Hsl.out Hn3.out (by have := Hll.out; omega) hkw).mono ?_; rintro e w3 ⟨v3, rfl, n3, hb3⟩; obtain ⟨G3, o3, _, _⟩ := n3; obtain rfl := au aj o3; have L3 := hid (eM (dS rcv f.length) kl); have O3 := hid o3; have Hb3 := hid (Hb.out.trans (hb3.mono hsz)); have hs3 := hb3.size; have hs31 := Nat.le_trans hsz hs3; clear o3 hb3)
    | (at_builtin; go_loud (refine ay rfl (.tmp 36) (.tmp 37) 67 rfl af aj (B := w1.heap.size) (v := v3) Tryz.underlying67 hi hz0 hz1 hz2 rfl (by decide) (by decide) rfl (O3.out.base hsz) Af f.length cf rfl (jf (Of.out.below Hb3.out (Nat.le_refl _))) ?_ ?_ ?_; ((rw [L3.out]; have := Hll.out; omega)); (first | omega | (simp; done) | (simp; omega)); intro v4 w4 ho4 hg4 hv4; have hb4 := Hb3.out.grown hg4 (by first | omega | (simp; done) | (simp; omega)) (fun q hq => (by have := (O3.out.top q hq).1; omega)); have sq4 := hb4.size; (obtain ⟨A4, c4, rfl, _, _⟩ := ho4.formN (n := 9) (by rw [List.length_append, L3.out]; exact Hll.out); have hcr4 := HC.out _ hb4))))
   have hok := ln f hlf Hfn.out rcv (keys.drop n) (names.drop n) (fun e => by have := congrArg List.length e; simp [Hn.out] at this) (by simp [Hn.out, Hnl.out])
   rw [show onL (dS rcv f.length) kl ++ f = (hdT f rcv (keys.drop n) (names.drop n)).1 from by rw [Hlast.out]] at ho4
   have Ho4 := hid ho4; have Hb4 := hid hb4; have Hok := hid hok
   have Hs4 := hid ho4.slB
   have Ht := hid (show dy kl (hdT f rcv (keys.drop n) (names.drop n)).1 = (hdT f rcv (keys.drop n) (names.drop n)).2 from by rw [Hlast.out])
   clear ho4 hb4 hg4 hv4 hok hcr
   go_wp2_with (go_at_call 209; refine (lU kl _ _ _ Hs4.out Hok.out.2.1 (by rw [Hok.out.1]; omega) hkw).mono ?_; rw [Ht.out]; rintro e w' ⟨rfl, rfl⟩)
   have hnw := hid (show hdT f rcv (keys.drop n) (names.drop n) = hdT f rcv (keys.drop n) (names.drop n) from rfl)
   clear Ht Hok Hs4 Hlast
   go_wp2_with fail
   go_loopw [11, 12, 13] (fun ov tv iv wr => ∃ m : Nat, m ≤ n ∧ iv = .int .i64 ((m : Int) - 1) ∧ tv = .int .i64 (hdT f rcv (keys.drop m) (names.drop m)).2 ∧ Own af 3 w1.heap.size wr ov (hdT f rcv (keys.drop m) (names.drop m)).1 [] ∧ Below w1.heap.size w1 wr) (fun _ _ iv _ => (intOf iv + 1).toNat)
   case atStart => exact ⟨n, Nat.le_refl _, rfl, rfl, Ho4.out, Hb4.out⟩
   case round =>
    obtain ⟨m, hm, rfl, rfl, ho, hb⟩ := hrel
    have hszm := hb.size
    have hszw := Nat.le_trans hsz1 hszm
    rcases m with _ | m
    ·have Ho := hid ho; have Hb := hid hb
     clear ho hb
     go_wp2
     go_ret2
     subst hF
     exact ⟨_, rfl, ⟨[], Ho.out.base hsz1, List.nodup_nil, fun _ h => by cases h⟩, Hb1.out.trans (Hb.out.mono hsz1)⟩
    ·have em : (((m + 1 : Nat) : Int) - 1) = (m : Int) := by omega
     rw [em]
     obtain ⟨km, hkm⟩ := ai (xs := keys) (k := m) (by rw [Hn.out]; omega)
     obtain ⟨nm, hnm⟩ := ai (xs := names) (k := m + 1) (by rw [Hnl.out, Hn.out]; omega)
     have hkmw := Hk.out km (List.mem_of_getElem? hkm)
     have Hst := hid (pe (f := f) (rcv := rcv) (names := names) hkm Hnl.out (by rw [Hn.out]; omega))
     have hgn : names.getD (m + 1) 0 = nm := by simp [List.getD_eq_getElem?_getD, hnm]
     have hok := ln f hlf Hfn.out rcv (keys.drop (m + 1)) (names.drop (m + 1)) (fun e => by have := congrArg List.length e; simp [Hn.out] at this; omega) (by simp [Hn.out, Hnl.out])
     have hok2 := ln f hlf Hfn.out rcv (keys.drop m) (names.drop m) (fun e => by have := congrArg List.length e; simp [Hn.out] at this; omega) (by simp [Hn.out, Hnl.out])
     have nw := aH.1 (Hnm.out nm (List.mem_of_getElem? hnm))
     rw [hgn] at Hst
     generalize hR : hdT f rcv (keys.drop (m + 1)) (names.drop (m + 1)) = R at *
     obtain ⟨hd, tg⟩ := R
     obtain ⟨o1, o2, o3⟩ := hok
     dsimp only at o1 o2 o3 ho Hst ⊢
     obtain ⟨t0, t1⟩ := aH.1 o3
     obtain ⟨Am, cm, rfl, _, hcm⟩ := ho.formN o1
     obtain ⟨gm, rfl⟩ := ho.addr (by omega)
     obtain ⟨b', o', e', hbk', _, hck'⟩ := H.out.int hkm
     injection e' with e'; injection e' with e1 e2; subst e1 e2
     obtain ⟨bn, on, rfl, hbn, _, hcn⟩ := HN.out.int hnm
     have HC2 := hid (fun (wx : World) (hb : Below w1.heap.size w1 wx) => And.intro hb (And.intro (((Hb1.out.trans (hb.mono hsz1)).cell (p := ⟨bn, on + (m + 1), none⟩) hbn).trans hcn) (((Hb1.out.trans (hb.mono hsz1)).cell (p := ⟨bk, ok + m, none⟩) hbk').trans hck')))
     have Ho := hid ho; have Hb := hid hb; have Hr := hid hR
     have Htk := hid (ho.slB.take 6 (by omega))
     have hl6 : (hd.take 6).length = 6 := by simp [o1]
     have Hl6 := hid hl6
     have hcm6 : (6 : Int) ≤ (cm : Int) := by have := ho.form; obtain ⟨_, _, e, _, _⟩ := this; injection e with e1 e2 e3; omega
     have HP := hid (bI (ny (a := 0) (b := nm) (c := tg) (by omega) (by omega) ⟨t0, t1⟩) (gw (k := hd.take 6) o2 (fun x hx => List.mem_of_mem_take hx)))
     have Hok2 := hid hok2
     clear ho hb hkm hnm hgn hck' hcn hl6 o1 o2 o3 hR em hok2
     have w0 : IntKind.i64.wrap ((m : Int) + 1) = (m : Int) + 1 := a9 (by omega)
     have w0a : 0 ≤ (m : Int) + 1 := by omega
     have w0b : ((m : Int) + 1).toNat = m + 1 := by omega
     have w0c : (m : Int) + 1 < (n : Int) + 1 := by omega
     go_wp2_with fail
     go_region_held3 (fun w' : World => Below w1.heap.size w1 w' ∧ w'.cell? ⟨bn, on + (m + 1), none⟩ = some (.int .i64 nm) ∧ w'.cell? ⟨bk, ok + m, none⟩ = some (.int .i64 km))
      (first | assumption | exact HC2.out _ (Hb.out.drew) | exact HC2.out _ ((Hb.out.alloc hszm _).drew) | exact HC2.out _ hb2)
      ((go_loud (refine cd rfl (.tmp 57) (.tmp 59) 67 rfl af aj (B := w1.heap.size) Tryz.underlying67 hi hz0 hz1 hz2 rfl (by decide) (by decide) (v := .slice (some ⟨wr.heap.size, 0, none⟩) 3 3) rfl ((kR 0 nm tg hszm).below (ae zm) (Nat.le_refl _)) (some ⟨gm, 0, none⟩) 6 cm rfl (slE (Htk.out.below (Below.drew (ab wr _)) (Nat.le_refl _))) (by rw [Hl6.out]; simp) (by simp; omega) ?_; intro v2 w2 ho2 hg2 hv2; have hb2 : Below w1.heap.size w1 w2 := (((Hb.out.alloc hszm _).drew).grown hg2 (by simp; omega) (fun q hq => by simp [Value.ownBlock] at hq; omega)))))
     obtain ⟨A5, c5, rfl, _, _⟩ := ho2.formN (n := 9) (by simp [Hl6.out])
     have hk2 := (HC2.out _ hb2).2.2
     have hsz2 := hb2.size
     have Hs2 := hid ho2.slB; have Hb2 := hid hb2
     have e1 := hid (show onL ([0, nm, tg] ++ hd.take 6) km = (hdT f rcv (keys.drop m) (names.drop m)).1 from by rw [Hst.out])
     have e2 := hid (show dy km (hdT f rcv (keys.drop m) (names.drop m)).1 = (hdT f rcv (keys.drop m) (names.drop m)).2 from by rw [Hst.out])
     clear ho2 hb2 hg2 hv2 w0 w0a w0b w0c Hst
     go_wp2_with (first
      | (go_at_call 160; refine (rR _ _ km _ Hs2.out HP.out (by simp [Hl6.out]) hkmw).mono ?_; rintro e w3 ⟨v3, rfl, n3, hb3⟩; rw [e1.out] at n3; obtain ⟨G3, o3, _, _⟩ := n3; obtain rfl := au aj o3; obtain ⟨A6, c6, rfl, _, _⟩ := o3.formN Hok2.out.1; have O3 := hid (o3.base hsz2); have Hb3 := hid (Hb2.out.trans (hb3.mono hsz2)); have hk3 := (HC2.out _ Hb3.out).2.2; have Hs3 := hid o3.slB; clear o3 hb3)
      | (go_at_call 209; refine (lU km _ _ _ Hs3.out Hok2.out.2.1 (by rw [Hok2.out.1]; omega) hkmw).mono ?_; rw [e2.out]; rintro e w' ⟨rfl, rfl⟩))
     go_roundw
     case rel => exact ⟨m, by omega, rfl, rfl, O3.out, Hb3.out⟩
     case measure => (simp [intOf] <;> omega)
def gQ (n : Nat) : Prop := n ≤ 1048576
def uT (p : Pk) : Prop := gQ p.hd.length ∧ gQ p.bd.length
def zb (x : Pl) : Prop := uT x.pk
def zd (x : Tr) : Prop := uT x.pk
def za (m : Mx) : Prop := gQ m.seen.length ∧ gQ m.pool.length ∧ ∀ x ∈ m.pool, zb x
def ze (x : Wd) : Prop := (gQ x.mixes.length ∧ ∀ m ∈ x.mixes, za m) ∧ gQ x.sent.length ∧ (gQ x.net.length ∧ ∀ t ∈ x.net, zd t) ∧ gQ x.got.length
def ei (w : World) (g : Nat) : Nat → List Value → World
 | _, [] => w
 | o, u :: us => ei (w.setCell ⟨g, o, none⟩ u) g (o + 1) us
def tq : List Value → Nat → List Value → List Value
 | cs, _, [] => cs
 | cs, o, u :: us => tq (cs.set o u) (o + 1) us
theorem lD (c1 c2 c3 cx : List Value) (h : c2.length = cx.length) : tq (c1 ++ (c2 ++ c3)) c1.length cx = c1 ++ (cx ++ c3) := by
 induction cx generalizing c1 c2 with
 | nil =>
  obtain rfl : c2 = [] := List.eq_nil_of_length_eq_zero h
  rfl
 | cons u us ih =>
  cases c2 with
  | nil => simp at h
  | cons y ys =>
   have e : (c1 ++ (y :: ys ++ c3)).set c1.length u = (c1 ++ [u]) ++ (ys ++ c3) := by
    rw [List.set_append_right _ _ (Nat.le_refl _), Nat.sub_self]; simp
   have := ih (c1 ++ [u]) ys (by simpa using h)
   rw [tq, e]
   rw [show (c1 ++ [u]).length = c1.length + 1 from by simp] at this
   rw [this]; simp
theorem eV {w : World} {e B k g n c : Nat} {cs : List Value} (o : Nat) (us : List Value) (h : w.ownsRow B e k (.slice (some ⟨g, 0, none⟩) n c) n cs) : (ei w g o us).ownsRow B e k (.slice (some ⟨g, 0, none⟩) n c) n (tq cs o us) := by
 induction us generalizing w cs o with
 | nil => exact h
 | cons u us ih => exact ih (o + 1) (lM h o u)
theorem fN (w : World) (g o : Nat) (us : List Value) (b : Nat) (h : b ≠ g) : (ei w g o us).heap[b]? = w.heap[b]? := by
 induction us generalizing w o with
 | nil => rfl
 | cons u us ih => exact (ih _ _).trans (Below.heap_setCell _ _ _ _ (fun e => h (by rw [e])))
theorem WdB.go {w w' : World} {v : Value} {x : Wd} (h : WdB w.heap.size w v x) (hb : Below w.heap.size w w') : WdB w'.heap.size w' v x := by
 obtain ⟨vm, vs, vn, vg, rfl, h1, h2, h3, h4⟩ := h
 exact ⟨_, _, _, _, rfl, h1.go hb, h2.go hb, h3.go hb, h4.go hb⟩
theorem ac {w w' : World} {n : Nat} {o : Obj} (hb : Below w.heap.size w w') (h : w.heap[n]? = some o) : w'.heap[n]? = some o :=
 (hb.block n (zn h)).trans h
theorem aX {w w' : World} {n : Nat} {o : Obj} {r : Option Nat} (hg : w.grownBy w' r) (h : w.heap[n]? = some o) (hr : r ≠ some n) : w'.heap[n]? = some o :=
 (hg.block n (zn h) (fun e => hr e.symm)).trans h
def aJ {α : Type} (T : Ty α) (B : Nat) (w : World) (cs : List Value) (x : α) : Prop := ∃ F, T.E w cs x F ∧ F.Nodup ∧ ∀ b ∈ F, B ≤ b
theorem aJ.go {α : Type} {T : Ty α} {B n : Nat} {w w' : World} {cs : List Value} {x : α} (h : aJ T B w cs x) (hb : Below n w w') (hn : w.heap.size ≤ n) : aJ T B w' cs x := by
 obtain ⟨F, h1, h2, h3⟩ := h
 exact ⟨F, T.keep h1 (fun b hm => hb.block b (Nat.lt_of_lt_of_le (T.lt h1 b hm) hn)), h2, h3⟩
theorem aJ.base {α : Type} {T : Ty α} {B B' : Nat} {w : World} {cs : List Value} {x : α} (h : aJ T B w cs x) (hB : B' ≤ B) : aJ T B' w cs x := by
 obtain ⟨F, h1, h2, h3⟩ := h
 exact ⟨F, h1, h2, fun b hb => Nat.le_trans hB (h3 b hb)⟩
theorem aJ.set {α : Type} {T : Ty α} {B : Nat} {w : World} {cs : List Value} {x : α} {p : Addr} {u : Value} (h : aJ T B w cs x) (hp : p.block < B) : aJ T B (w.setCell p u) cs x := by
 obtain ⟨F, h1, h2, h3⟩ := h
 exact ⟨F, T.keep h1 (fun b hm => Below.heap_setCell _ _ _ _ (fun e => by have := h3 b hm; omega)), h2, h3⟩
theorem qF {B : Nat} {w : World} {v : Value} {xs : List Int} (h : bF af 3 B w v xs) : aJ ee B w [v] xs := by
 obtain ⟨G, ho, _, _⟩ := h
 obtain rfl := au aj ho
 refine ⟨v.ownBlock.toList ++ [], ⟨v, [], rfl, ho.base (Nat.zero_le _), rfl⟩, ?_, fun b hb => ?_⟩
 ·cases v.ownBlock <;> simp
 ·simp at hb; exact (ho.top b hb).1
theorem gH {w w' : World} {a b c : Obj} (hb : Below (((w.alloc a).alloc b).alloc c).heap.size (((w.alloc a).alloc b).alloc c) w') : w'.heap[w.heap.size]? = some a ∧ w'.heap[w.heap.size + 1]? = some b ∧ w'.heap[w.heap.size + 1 + 1]? = some c := by
 have e1 : (w.alloc a).heap.size = w.heap.size + 1 := by simp
 have e2 : ((w.alloc a).alloc b).heap.size = w.heap.size + 1 + 1 := by simp
 have h1 := ac (bt (ab _ b) (bt (ab _ c) hb)) (heap_alloc_new w a)
 have h2 := ac (bt (ab _ c) hb) (heap_alloc_new (w.alloc a) b)
 have h3 := ac hb (heap_alloc_new ((w.alloc a).alloc b) c)
 rw [e1] at h2; rw [e2] at h3
 exact ⟨h1, h2, h3⟩
theorem bh {w : World} {n t : Nat} {a b c d : Value} (h : w.heap[n]? = some (.cells #[a, b, c, d] t (0, 0))) :
  w.cell? ⟨n, 0, none⟩ = some a ∧ w.cell? ⟨n, 1, none⟩ = some b ∧ w.cell? ⟨n, 2, none⟩ = some c ∧ w.cell? ⟨n, 3, none⟩ = some d ∧ ∀ j, w.frozen? ⟨n, j, none⟩ = false :=
 ⟨by rw [cell_of_row w n 0 _ _ _ h]; rfl, by rw [cell_of_row w n 1 _ _ _ h]; rfl, by rw [cell_of_row w n 2 _ _ _ h]; rfl, by rw [cell_of_row w n 3 _ _ _ h]; rfl, fun j => frozen_of_row w n j _ _ h⟩
theorem Own.base' {α : Type} {T : Ty α} {e B B' : Nat} {w : World} {v : Value} {xs : List α} {G : List Nat} (h : Own T e B w v xs G) (hB : ∀ b, v.ownBlock = some b → B' ≤ b) : Own T e B' w v xs G := by
 obtain ⟨cs, h1, h2, h3⟩ := h
 exact ⟨cs, gR h1 hB, h2, h3⟩
theorem pF {B B1 B2 : Nat} {w : World} {p : Pk} {uh ub : Value} (h1 : Own af 3 B1 w uh p.hd []) (h2 : Own af 3 B2 w ub p.bd []) (hB1 : B ≤ B1) (hB2 : B ≤ B2) (ht : ∀ b, uh.ownBlock = some b → b < B2) : aJ oPk B w [.int .i64 p.el, uh, .int .i64 p.tag, ub] p := by
 refine ⟨_, ⟨[_], _, [], _, rfl, rfl, ⟨rfl, rfl⟩, [_], _, _, _, rfl, rfl, ⟨uh, [], rfl, h1.base (Nat.zero_le _), rfl⟩, [_], [_], [], _, rfl, rfl, ⟨rfl, rfl⟩, ⟨ub, [], rfl, h2.base (Nat.zero_le _), rfl⟩⟩, ?_, ?_⟩
 ·have e : ∀ a b, uh.ownBlock = some a → ub.ownBlock = some b → a ≠ b := fun a b ha hb he => by have x1 := ht a ha; have x2 := (h2.top b hb).1; omega
  cases hu : uh.ownBlock <;> cases hv : ub.ownBlock <;> simp
  exact e _ _ hu hv
 ·intro b hb
  simp at hb
  rcases hb with hb | hb
  ·exact Nat.le_trans hB1 (h1.top b hb).1
  ·exact Nat.le_trans hB2 (h2.top b hb).1
theorem aC {w : World} {n t : Nat} {a b c d e f : Value} (h : w.heap[n]? = some (.cells #[a, b, c, d, e, f] t (0, 0))) :
  w.cell? ⟨n, 0, none⟩ = some a ∧ w.cell? ⟨n, 1, none⟩ = some b ∧ w.cell? ⟨n, 2, none⟩ = some c ∧ w.cell? ⟨n, 3, none⟩ = some d ∧ w.cell? ⟨n, 4, none⟩ = some e ∧ w.cell? ⟨n, 5, none⟩ = some f ∧ ∀ j, w.frozen? ⟨n, j, none⟩ = false :=
 ⟨by rw [cell_of_row w n 0 _ _ _ h]; rfl, by rw [cell_of_row w n 1 _ _ _ h]; rfl, by rw [cell_of_row w n 2 _ _ _ h]; rfl, by rw [cell_of_row w n 3 _ _ _ h]; rfl, by rw [cell_of_row w n 4 _ _ _ h]; rfl, by rw [cell_of_row w n 5 _ _ _ h]; rfl, fun j => frozen_of_row w n j _ _ h⟩
theorem qB {w W : World} {a b : Obj} (h : (w.alloc a).alloc b = W) : W.heap[w.heap.size]? = some a ∧ W.heap[w.heap.size + 1]? = some b ∧ Below w.heap.size w W ∧ W.heap.size = w.heap.size + 2 := by
 subst h
 exact ⟨ac (ab _ b) (heap_alloc_new w a), by have := heap_alloc_new (w.alloc a) b; rwa [World.size_alloc] at this, bA (ab _ _) (by simp), by simp⟩
theorem mL {w W : World} {a b c : Obj} (h : ((w.alloc a).alloc b).alloc c = W) : W.heap[w.heap.size]? = some a ∧ W.heap[w.heap.size + 1]? = some b ∧ W.heap[w.heap.size + 1 + 1]? = some c ∧ Below w.heap.size w W ∧ W.heap.size = w.heap.size + 3 := by
 subst h
 obtain ⟨h1, h2, h3⟩ := gH (Below.refl _ (((w.alloc a).alloc b).alloc c))
 exact ⟨h1, h2, h3, bA (bA (ab _ _) (by simp)) (by simp), by simp⟩
theorem aI {w : World} {g t : Nat} {cs : Array Value} (i : Nat) (u : Value) (h : w.heap[g]? = some (.cells cs t (0, 0))) : (w.setCell ⟨g, i, none⟩ u).heap[g]? = some (.cells (cs.setIfInBounds i u) t (0, 0)) := by
 simp [World.setCell, Array.getElem?_modify, h]
theorem bs {w : World} {n t : Nat} {a b c d e f : Value} (h : w.heap[n]? = some (.cells #[a, b, c, d, e, f] t (0, 0))) :
  w.cell? ⟨n, 0, none⟩ = some a ∧ w.cell? ⟨n, 1, none⟩ = some b ∧ w.cell? ⟨n, 2, none⟩ = some c ∧ w.cell? ⟨n, 3, none⟩ = some d ∧ w.cell? ⟨n, 4, none⟩ = some e ∧ w.cell? ⟨n, 5, none⟩ = some f ∧ (∀ j, w.frozen? ⟨n, j, none⟩ = false) ∧ w.frozen? ⟨n, 0, none⟩ = false ∧ w.frozen? ⟨n, 1, none⟩ = false ∧ w.frozen? ⟨n, 2, none⟩ = false ∧ w.frozen? ⟨n, 3, none⟩ = false ∧ w.frozen? ⟨n, 4, none⟩ = false ∧ w.frozen? ⟨n, 5, none⟩ = false := by
 obtain ⟨q0, q1, q2, q3, q4, q5, qf⟩ := aC h
 exact ⟨q0, q1, q2, q3, q4, q5, qf, qf 0, qf 1, qf 2, qf 3, qf 4, qf 5⟩
theorem eQ {B : Nat} {w : World} {p : Pk} {a b uh ub : Value} (h : aJ oPk B w [a, uh, b, ub] p) : ∃ Ah ch Ab cb, uh = .slice Ah p.hd.length ch ∧ ub = .slice Ab p.bd.length cb := by
 obtain ⟨F, ⟨c1, c2, F1, F2, e1, _, ⟨rfl, _⟩, c3, c4, F3, F4, e2, _, ⟨u, G, rfl, ho, _⟩, c5, c6, F5, F6, e3, _, ⟨rfl, _⟩, ⟨v, G2, rfl, hv, _⟩⟩, _⟩ := h
 subst e3
 subst e2
 simp at e1
 obtain ⟨_, rfl, _, rfl⟩ := e1
 obtain ⟨Ah, ch, rfl, _⟩ := ho.form
 obtain ⟨Ab, cb, rfl, _⟩ := hv.form
 exact ⟨_, _, _, _, rfl, rfl⟩
theorem kT {B : Nat} {w : World} {x : Pl} {uh ub : Value} (h : aJ oPk B w [.int .i64 x.pk.el, uh, .int .i64 x.pk.tag, ub] x.pk) : aJ oPl B w [.int .i64 x.kind, .int .i64 x.next, .int .i64 x.pk.el, uh, .int .i64 x.pk.tag, ub] x := by
 obtain ⟨F, h1, h2, h3⟩ := h
 exact ⟨F, ⟨[_], _, [], F, rfl, rfl, ⟨rfl, rfl⟩, [_], _, [], F, rfl, rfl, ⟨rfl, rfl⟩, h1⟩, h2, h3⟩
theorem kU {B : Nat} {w : World} {x : Tr} {uh ub : Value} (h : aJ oPk B w [.int .i64 x.pk.el, uh, .int .i64 x.pk.tag, ub] x.pk) : aJ oTr B w [.int .i64 x.mix, .int .i64 x.pk.el, uh, .int .i64 x.pk.tag, ub, .bool x.ch] x := by
 obtain ⟨F, h1, h2, h3⟩ := h
 exact ⟨F, ⟨[_], _, [], F, rfl, rfl, ⟨rfl, rfl⟩, [_, _, _, _], [_], F, [], rfl, by simp, h1, ⟨rfl, rfl⟩⟩, h2, h3⟩
theorem lL {ks b : List Int} {k : Nat} {x : Int} (h : ks[k]? = some x) : (ks.take (k + 1)).foldl onL b = onL ((ks.take k).foldl onL b) x := by rw [aK h, List.foldl_append]; rfl
theorem ax {w : World} {v : Value} {xs : List Int} {B : Nat} {p : Addr} {u : Value} (h : Own af 3 B w v xs []) (hp : p.block < B) : Own af 3 B (w.setCell p u) v xs [] :=
 h.keep (fun b hb => Below.heap_setCell _ _ _ _ (fun e => by have := (h.top b hb).1; omega)) (fun _ h => by cases h)
theorem mu : (Tryz.prog.info? 144).map (fun i => (i.zero, i.size, i.bytes)) = some (some (.agg #[.int .i64 0, .int .i64 0, .int .i64 0, .slice none 0 0, .int .i64 0, .slice none 0 0]), 6, 80) := by kernel_rfl
theorem dL {B : Nat} {w : World} {x : Pl} {a b c d uh ub : Value} (h : aJ oPl B w [a, b, c, uh, d, ub] x) : ∃ Ah ch Ab cb, uh = .slice Ah x.pk.hd.length ch ∧ ub = .slice Ab x.pk.bd.length cb := by
 obtain ⟨F, ⟨c1, c2, F1, F2, e1, e2, ⟨rfl, rfl⟩, c3, c4, F3, F4, e3, e4, ⟨rfl, rfl⟩, h3⟩, n1, n2⟩ := h
 subst e3 e4
 simp at e1 e2
 subst e2
 obtain ⟨_, _, rfl⟩ := e1
 exact eQ ⟨_, h3, n1, n2⟩
theorem al (w : World) (p : Addr) (u : Value) : (w.setCell p u).heap.size = w.heap.size := by simp [World.setCell]
theorem qG {α : Type} {T : Ty α} {e B : Nat} {w : World} {v : Value} {xs : List α} (h : bF T e B w v xs) : aJ (T.own e) B w [v] xs := by
 obtain ⟨G, ho, hn, hG⟩ := h
 have hx := ho.top
 obtain ⟨cs, h1, h2, h3⟩ := id ho
 refine ⟨v.ownBlock.toList ++ G, ⟨v, G, rfl, ho.base (Nat.zero_le _), rfl⟩, ?_, fun b hb => ?_⟩
 ·cases hv : v.ownBlock with
  | none => simpa using hn
  | some g => simpa using ⟨h3 g hv, hn⟩
 ·rcases List.mem_append.1 hb with hb | hb
  ·exact (hx b (by simpa using hb)).1
  ·exact hG b hb
def fT {α : Type} (T : Ty α) (B C : Nat) (w : World) (cs : List Value) (x : α) : Prop := ∃ F, T.E w cs x F ∧ F.Nodup ∧ ∀ b ∈ F, B ≤ b ∧ b < C
theorem aJ.inn {α : Type} {T : Ty α} {B : Nat} {w : World} {cs : List Value} {x : α} (h : aJ T B w cs x) : fT T B w.heap.size w cs x := by
 obtain ⟨F, h1, h2, h3⟩ := h
 exact ⟨F, h1, h2, fun b hb => ⟨h3 b hb, T.lt h1 b hb⟩⟩
theorem fT.go {α : Type} {T : Ty α} {B C n : Nat} {w w' : World} {cs : List Value} {x : α} (h : fT T B C w cs x) (hb : Below n w w') (hn : C ≤ n) : fT T B C w' cs x := by
 obtain ⟨F, h1, h2, h3⟩ := h
 exact ⟨F, T.keep h1 (fun b hm => hb.block b (Nat.lt_of_lt_of_le (h3 b hm).2 hn)), h2, h3⟩
theorem fT.base {α : Type} {T : Ty α} {B B' C : Nat} {w : World} {cs : List Value} {x : α} (h : fT T B C w cs x) (hB : B' ≤ B) : fT T B' C w cs x := by
 obtain ⟨F, h1, h2, h3⟩ := h
 exact ⟨F, h1, h2, fun b hb => ⟨Nat.le_trans hB (h3 b hb).1, (h3 b hb).2⟩⟩
theorem fT.set {α : Type} {T : Ty α} {B C : Nat} {w : World} {cs : List Value} {x : α} {p : Addr} {u : Value} (h : fT T B C w cs x) (hp : p.block < B) : fT T B C (w.setCell p u) cs x := by
 obtain ⟨F, h1, h2, h3⟩ := h
 exact ⟨F, T.keep h1 (fun b hm => Below.heap_setCell _ _ _ _ (fun e => by have := h3 b hm; omega)), h2, h3⟩
theorem uK {α β : Type} {S : Ty α} {T : Ty β} {B C : Nat} {w : World} {c1 c2 : List Value} {x : α} {y : β} (h1 : fT S B C w c1 x) (h2 : aJ T C w c2 y) (hBC : B ≤ C) : aJ (S.prod T) B w (c1 ++ c2) (x, y) := by
 obtain ⟨F, a1, a2, a3⟩ := h1
 obtain ⟨G, b1, b2, b3⟩ := h2
 refine ⟨F ++ G, ⟨c1, c2, F, G, rfl, rfl, a1, b1⟩, ?_, fun b hb => ?_⟩
 ·rw [List.nodup_append]
  exact ⟨a2, b2, fun a ha b hb e => by have h1 := a3 a ha; have h2 := b3 b hb; omega⟩
 ·rcases List.mem_append.1 hb with h | h
  ·exact (a3 b h).1
  ·exact Nat.le_trans hBC (b3 b h)
theorem sk {α β : Type} {k : Nat} {f : α → List Value} {hf : ∀ x, (f x).length = k} {h1 : ∀ x, ∀ u ∈ f x, u.oneCell' = true} {T : Ty β} {B : Nat} {w : World} {c2 : List Value} {y : β} (x : α) (h2 : aJ T B w c2 y) : aJ ((Ty.flat k f hf h1).prod T) B w (f x ++ c2) (x, y) := by
 obtain ⟨G, b1, b2, b3⟩ := h2
 exact ⟨G, ⟨f x, c2, [], G, rfl, rfl, ⟨rfl, rfl⟩, b1⟩, b2, b3⟩
theorem tf {B C : Nat} {w : World} {m : Mx} {us up : Value} (h1 : fT ee B C w [us] m.seen) (h2 : aJ fM C w [up] m.pool) (hBC : B ≤ C) : aJ oMx B w [.int .i64 m.sec, us, up] m :=
 sk (f := fun n => [Value.int .i64 n]) m.sec (uK h1 h2 hBC)
theorem bo {B : Nat} {w : World} {x : Mx} {a us up : Value} (h : aJ oMx B w [a, us, up] x) : ∃ As cs Ap cp, us = .slice As x.seen.length cs ∧ up = .slice Ap x.pool.length cp := by
 obtain ⟨F, ⟨c1, c2, F1, F2, e1, e2, ⟨rfl, rfl⟩, c3, c4, F3, F4, e3, e4, ⟨u, G, rfl, hu, _⟩, ⟨v, G', rfl, hv, _⟩⟩, n1, n2⟩ := h
 subst e3
 simp at e1
 obtain ⟨_, rfl, rfl⟩ := e1
 obtain ⟨A, c, rfl, _⟩ := hu.form
 obtain ⟨A', c', rfl, _⟩ := hv.form
 exact ⟨_, _, _, _, rfl, rfl⟩
theorem lq : (Tryz.prog.info? 56).map (fun i => (i.zero, i.size, i.bytes)) = some (some (.agg #[.int .i64 0, .int .i64 0, .int .i64 0]), 3, 24) := by kernel_rfl
theorem lr : (Tryz.prog.info? 74).map (fun i => (i.zero, i.size, i.bytes)) = some (some (.agg #[.int .i64 0, .int .i64 0, .slice none 0 0, .int .i64 0, .slice none 0 0, .bool false]), 6, 80) := by kernel_rfl
def cX : Ty (List Lt) := tLt.own 56
def gA : Ty (List Tr) := oTr.own 74
def gy : Ty (List Mx) := oMx.own 70
def oWd : Ty Wd := zl gy cX gA
theorem wm : oWd.le tWd := Ty.le_via (Ty.le_prod (Ty.le_own wh _) (Ty.le_prod (Ty.le_own (Ty.le_refl _) _) (Ty.le_prod (Ty.le_own r8 _) (Ty.le_prod (Ty.le_own (Ty.le_refl _) _) (Ty.le_refl _)))))
theorem qH {B : Nat} {w : World} {x : Wd} {vm vs vn vg a b : Value} (h : aJ oWd B w [vm, vs, vn, vg, a, b] x) : WdB w.heap.size w (.agg #[vm, vs, vn, vg, a, b]) x := by
 obtain ⟨F, h1, _, _⟩ := h
 obtain ⟨F', h2, hF⟩ := wm.2 h1
 obtain ⟨vm', vs', vn', vg', Fm, Fs, Fn, Fg, e, e2, hm, hs, hn, hg⟩ := x8.1 h2
 simp at e
 obtain ⟨rfl, rfl, rfl, rfl, rfl, rfl⟩ := e
 exact ⟨_, _, _, _, rfl, ⟨_, hm, hm.lt⟩, ⟨_, hs, hs.lt⟩, ⟨_, hn, hn.lt⟩, ⟨_, hg, hg.lt⟩⟩
theorem iO {w : World} {B : Nat} (n : Nat) (hn : n = w.heap.size) (h : B ≤ n) : Own af 3 B (w.alloc (.cells #[] 3)) (.slice (some ⟨n, 0, none⟩) 0 0) [] [] := by subst hn; exact cH h
theorem ry {B : Nat} {W w1 : World} (hb : Below B W w1) : (∀ b o, b < B → w1.cell? ⟨b, o, none⟩ = W.cell? ⟨b, o, none⟩) ∧ (∀ b o, b < B → w1.frozen? ⟨b, o, none⟩ = W.frozen? ⟨b, o, none⟩) :=
 ⟨fun b o h => hb.cell (p := ⟨b, o, none⟩) h, fun b o h => hb.frozen (p := ⟨b, o, none⟩) h⟩
theorem Own.step {α : Type} {T : Ty α} {e B n : Nat} {w w3 : World} {o : Obj} {v : Value} {xs : List α} {G : List Nat} (h : Own T e B w v xs G) (hb : Below n (w.alloc o) w3) (hn : w.heap.size ≤ n) : Own T e B w3 v xs G :=
 (h.go (ab _ o)).keep (fun b hm => hb.block b (Nat.lt_of_lt_of_le (h.top b hm).2 hn)) (fun b hm => hb.block b (Nat.lt_of_lt_of_le (h.lt b hm) hn))
theorem iQ (p : Pk) (vh vb : Value) (w : World) (h1 : SlB af w.heap.size w vh p.hd) (h2 : SlB af w.heap.size w vb p.bd) (l1 : p.hd.length ≤ 1073741824) (l2 : p.bd.length ≤ 1073741824) :
  Calls Tryz.prog 71 #[.agg #[.int .i64 p.el, vh, .int .i64 p.tag, vb]] w fun e w' => ∃ uh ub, e = .returned (.agg #[.int .i64 p.el, uh, .int .i64 p.tag, ub]) ∧ aJ oPk w.heap.size w' [.int .i64 p.el, uh, .int .i64 p.tag, ub] p ∧ Below w.heap.size w w' := by
 obtain ⟨i0, hi, hz0, hz1, hz2⟩ := info_parts bi
 have H1 := hid (fun (wx : World) (hb : Below w.heap.size w wx) => h1.go hb)
 have H2 := hid (fun (wx : World) (hb : Below w.heap.size w wx) => h2.go hb)
 obtain ⟨Ah, ch, rfl, _, _, _⟩ := h1.form
 obtain ⟨Ab, cb, rfl, _, _, _⟩ := h2.form
 clear h1 h2
 go_enter Tryz.func71, Tryz.ntmps71
 go_wp2_with (first
  | (at_builtin; go_loud (refine ay rfl (.tmp 3) (.tmp 5) 67 rfl af aj (B := w.heap.size + 1 + 1) (v := .slice (some ⟨w.heap.size + 1 + 1, 0, none⟩) 0 0) Tryz.underlying67 hi hz0 hz1 hz2 rfl (by decide) (by decide) rfl (iO _ (by simp) (Nat.le_refl _)) Ah p.hd.length ch rfl (slE (H1.out _ (by (repeat (first | exact zm | refine ae ?_ | refine Below.setCell ?_ (by first | omega | (simp; done) | (simp; omega)) _ | refine Below.alloc ?_ (by first | omega | (simp; done) | (simp; omega)) _))))) ?_ ?_ ?_; (simp; omega); (first | omega | (simp only [World.size_alloc, al]; omega)); intro v2 w2 ho2 hg2 hv2; rw [List.nil_append] at ho2; have hb2 := (Below.refl (w.heap.size + 1 + 1) _).grown hg2 (by first | omega | (simp; done) | (simp; omega)) (fun q hq => by simp [Value.ownBlock] at hq; omega); obtain ⟨hc2, hf2⟩ := ry hb2; have sz2 := hb2.size; simp at sz2; obtain ⟨A2, c2, rfl, _, _⟩ := ho2.formN rfl; (have Hb2 := hid ((show Below w.heap.size w _ from by (repeat (first | exact zm | refine ae ?_ | refine Below.setCell ?_ (by first | omega | (simp; done) | (simp; omega)) _ | refine Below.alloc ?_ (by first | omega | (simp; done) | (simp; omega)) _))).trans (hb2.mono (by omega))); have O2 := hid ho2; have y2 : w.heap.size < w2.heap.size := (by omega); have e2 := (hb2.block w.heap.size (by omega)).trans (gH zm).1; have R2 := hid ((hb2.block (w.heap.size + 1) (by omega)).trans (gH zm).2.1); obtain ⟨k0, k1, k2, k3, kf⟩ := bh e2; have kf1 := kf 1; have E2 := hid e2; clear ho2 hg2 hv2 hb2 hc2 hf2 e2 kf)))
  | (at_builtin; go_loud (refine ay rfl (.tmp 8) (.tmp 10) 67 rfl af aj (B := w2.heap.size) (v := .slice (some ⟨w2.heap.size, 0, none⟩) 0 0) Tryz.underlying67 hi hz0 hz1 hz2 rfl (by decide) (by decide) rfl (iO _ (by simp) (Nat.le_refl _)) Ab p.bd.length cb rfl (slE (H2.out _ (((Hb2.out.setCell (by simp) _)).alloc (by simp <;> omega) _))) ?_ ?_ ?_; (simp; omega); (first | omega | (simp only [World.size_alloc, al]; omega)); intro v3 w3 ho3 hg3 hv3; rw [List.nil_append] at ho3; have hb3 := (Below.refl (w2.heap.size) _).grown hg3 (by first | omega | (simp; done) | (simp; omega)) (fun q hq => by simp [Value.ownBlock] at hq; omega); obtain ⟨hc3, hf3⟩ := ry hb3; have sz3 := hb3.size; simp at sz3; obtain ⟨A3, c3, rfl, _, _⟩ := ho3.formN rfl; (have y2c : w.heap.size < (w2.setCell ⟨w.heap.size, 1, none⟩ (.slice A2 p.hd.length c2)).heap.size := (by rw [al]; exact y2); have y2d : w.heap.size + 1 < (w2.setCell ⟨w.heap.size, 1, none⟩ (.slice A2 p.hd.length c2)).heap.size := (by rw [al]; omega); have Hb3 := hid (((((Hb2.out.setCell (p := ⟨w.heap.size, 1, none⟩) (by simp) (.slice A2 p.hd.length c2))).alloc (by simp <;> omega) _)).trans (hb3.mono (by omega))); have O3 := hid ho3; have O23 := hid ((df (p := ⟨w.heap.size, 1, none⟩) (u := .slice A2 p.hd.length c2) O2.out (fun e => by have := (O2.out.top _ e).1; simp at this; omega) (by simp)).step hb3 (by rw [al]; exact Nat.le_refl _)); have e3 := (hb3.block w.heap.size (by omega)).trans ((Below.heap_alloc _ _ _ y2c).trans (show (w2.setCell ⟨w.heap.size, 1, none⟩ (.slice A2 p.hd.length c2)).heap[w.heap.size]? = some (.cells #[.int .i64 p.el, .slice A2 p.hd.length c2, .int .i64 p.tag, .slice Ab p.bd.length cb] 72 (0, 0)) from (by rw [heap_setCell_same _ _ 1 _ _ _ E2.out]; rfl))); have r3 := (hb3.block (w.heap.size + 1) (by omega)).trans ((Below.heap_alloc _ _ _ y2d).trans ((Below.heap_setCell _ _ _ _ (fun e => by simp at e)).trans R2.out)); have y3 : w.heap.size < w3.heap.size := (by omega); clear ho3 hg3 hv3 hb3 hc3 hf3 k0 k1 k2 k3 kf1; obtain ⟨k0, k1, k2, k3, kf⟩ := bh e3; obtain ⟨q0, q1, q2, q3, qf⟩ := bh r3; have kf3 := kf 3; have qf0 := qf 0; have qf1 := qf 1; have qf2 := qf 2; have qf3 := qf 3; clear kf qf e3 r3))))
 refine bodyPost_ret (v := .agg #[.int .i64 p.el, .slice A2 p.hd.length c2, .int .i64 p.tag, .slice A3 p.bd.length c3]) (by simp [results, go_sem, q0, q1, q2, q3]) rfl ⟨_, _, rfl, pF (B1 := w.heap.size + 1 + 1) (B2 := w2.heap.size) ?_ ?_ (by omega) (by omega) (fun b hb => (O2.out.top b hb).2), ?_⟩
 ·repeat (refine ax ?_ (by dsimp only; omega))
  exact O23.out
 ·repeat (refine ax ?_ (by dsimp only; omega))
  exact O3.out
 ·repeat (refine Below.setCell ?_ (by dsimp only; omega) _)
  exact Hb3.out
section
variable {α : Type} {T : Ty α} {P : Program} {w w0 w1 : World}
theorem q9 {ops : Array Oper} {rest : List Oper} {o : Oper} {a : Act} {Q : Exit → Act → World → Prop} (hgd : o.guard = none) (s x : Operand) (t : TypeId)
  (ho : o.op = .call { callee := .builtin .append, args := #[s, x], argTypes := #[t, t] }) (T : Ty α)
  {e : TypeId} {i : TypeInfo} {z : Value} {bytes B : Nat} (ht : P.underlying t = some (.slice e)) (hi : P.info? e = some i) (hz : i.zero = some z)
  (hsize : i.size = T.k) (hby : i.bytes = bytes) (hzs : z.cells.size = T.k) (hk : 0 < T.k)
  {v : Value} {xs : List α} {y : α} (cx : List Value) (hs : a.eval s = v) (hown : bF T e B w0 v xs) (h01 : Below w0.heap.size w0 w1) (hy : aJ T w0.heap.size w1 cx y) (hw : w = w1.alloc (.cells cx.toArray e))
  (n : Nat) (hn : n = w1.heap.size) (hx : a.eval x = .slice (some ⟨n, 0, none⟩) 1 1) (hb : (xs.length + 1) * bytes ≤ 140737488355328) (hm : xs.length + 1 ≤ maxLen) (hB : B ≤ w0.heap.size)
  (h : ∀ v' w', bF T e B w' v' (xs ++ [y]) → w.grownBy w' v.ownBlock → Below B w w' → wpList P ops Q rest (a.put o.dst v') w') : wpList P ops Q (o :: rest) a w := by
 subst hw hn
 obtain ⟨G, g1, g2, g3⟩ := id hown
 obtain ⟨F, f1, f2, f3⟩ := id hy
 have hsz := h01.size
 have hsl := Sl.box (e := e) (f := (0, 0)) f1
 have hoo := (g1.go h01).go (ab w1 (.cells cx.toArray e))
 refine eH hgd s x t ho T ht hi hz hsize hby hzs hk hs hoo _ 1 1 hx hsl (fun b hb hm => ?_) (by simpa using hb) (by simpa using hm) (by simp; omega) fun v' w' h2 h3 h4 => ?_
 ·have := (g1.top b hb).2; have := f3 b hm; omega
 ·refine h v' w' ⟨G ++ F, h2, ?_, fun b hb => ?_⟩ h3 (zm.grown h3 (by simp; omega) (fun k hk => (g1.top k hk).1))
  ·rw [List.nodup_append]
   exact ⟨g2, f2, fun a ha b hb e => by have := g1.lt a ha; have := f3 b hb; omega⟩
  ·rcases List.mem_append.1 hb with hb | hb
   ·exact g3 b hb
   ·have := f3 b hb; omega
end
end Go.Proofs.YtfaeojmndaplcaaGreatDoor
