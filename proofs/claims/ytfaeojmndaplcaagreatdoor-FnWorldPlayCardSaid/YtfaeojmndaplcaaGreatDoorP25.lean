/- Texts that the last file leans on (part 25). -/
import Derived.Test.YtfaeojmndaplcaaGreatDoorP21
import Derived.Test.YtfaeojmndaplcaaGreatDoorP24
import Derived.Test.YtfaeojmndaplcaaGreatDoorP9
set_option linter.unusedVariables false
set_option linter.unusedSimpArgs false
set_option maxHeartbeats 4000000
set_option maxRecDepth 100000
namespace Go.Proofs.YtfaeojmndaplcaaGreatDoor
open Go Go.RowKit
set_option maxHeartbeats 40000000
def RwS (B g b2 b3 q : Nat) (w0 w : World) (x : Wd) (vm vs vn vg : Value) (Fm Fs Fn Fg : List Nat) : Prop :=
 Run (b2 + 1) w b3 0 x vm vs vn vg Fm Fs Fn Fg ∧ x.got.length ≤ 1000 ∧ Rdr B w g q ∧ Tch [g] w0 w ∧ g < b2 ∧ b2 = w0.heap.size ∧ b2 < b3 ∧
  w.heap[b2]? = some (.cells #[.slice none 0 0, .slice none 0 0, .slice none 0 0, .slice none 0 0, .int .i64 0, .int .i64 0] 33 (0, 0))
def tp (B g p n : Nat) (w : World) (e : Ending) (w' : World) : Prop :=
 ∃ (v : Value) (x : Wd) (q : Nat), e = .returned v ∧ x.got.length ≤ 1000 ∧ q ≤ p + n ∧ Rdr B w' g q ∧ Tch [g] w w' ∧ WdR (fun b => w.heap.size ≤ b) w' v x
def RwF (B g b2 b3 q : Nat) (w0 w : World) : Prop := ∃ x vm vs vn vg Fm Fs Fn Fg, RwS B g b2 b3 q w0 w x vm vs vn vg Fm Fs Fn Fg
section
variable {B g b2 b3 q : Nat} {w0 w w' : World} {x x' : Wd} {vm vs vn vg vm' vs' vn' vg' : Value} {Fm Fs Fn Fg Fm' Fs' Fn' Fg' : List Nat}
theorem RwS.tch {q' : Nat} (h : RwS B g b2 b3 q w0 w x vm vs vn vg Fm Fs Fn Fg) (hr : Rdr B w' g q') (ht : Tch [g] w w') : RwS B g b2 b3 q' w0 w' x vm vs vn vg Fm Fs Fn Fg := by
 obtain ⟨h1, h2, h3, h4, h5, h6, h7, h8⟩ := h
 exact ⟨h1.keep (fun c hc => ht.block c (h1.lt c hc) (fun hm => by have := h1.lo c hc; simp at hm; omega)), h2, hr, h4.trans ht, h5, h6, h7, ht.row h8 (by simp; omega)⟩
theorem RwS.to (h : RwS B g b2 b3 q w0 w x vm vs vn vg Fm Fs Fn Fg) (hb : Below (b2 + 1) w w') (hr : Run (b2 + 1) w' b3 0 x' vm' vs' vn' vg' Fm' Fs' Fn' Fg') (hl : x'.got.length ≤ 1000) : RwS B g b2 b3 q w0 w' x' vm' vs' vn' vg' Fm' Fs' Fn' Fg' := by
 obtain ⟨h1, h2, h3, h4, h5, h6, h7, h8⟩ := h
 have hw := (aL h8)
 refine ⟨hr, hl, h3.below hb (by omega) (by have := h3.lt.1; omega), ⟨hb.os.trans h4.os, hb.tape.trans h4.tape, hb.output.trans h4.output, Nat.le_trans h4.size hb.size, fun k hk hn => (hb.block k (by omega)).trans (h4.block k hk hn)⟩, h5, h6, h7, (hb.block b2 (by omega)).trans h8⟩
theorem Run.forms (h : Run B w b3 0 x vm vs vn vg Fm Fs Fn Fg) : ∃ A1 c1 A2 c2 A3 c3 A4 c4, vm = .slice A1 x.mixes.length c1 ∧ vs = .slice A2 x.sent.length c2 ∧ vn = .slice A3 x.net.length c3 ∧ vg = .slice A4 x.got.length c4 := by
 obtain ⟨A1, c1, A2, c2, A3, c3, A4, c4, e⟩ := (h.wdR (P := fun _ => True) (fun _ _ => trivial)).form
 simp at e
 obtain ⟨rfl, rfl, rfl, rfl⟩ := e
 exact ⟨_, _, _, _, _, _, _, _, rfl, rfl, rfl, rfl⟩
theorem Run.box {n t : Nat} (h : aC oWd n w [vm, vs, vn, vg, .int .i64 x.made, .int .i64 x.lost] x) (hb : Below w.heap.size w w') (hB : B ≤ n) (hn : n ≤ w.heap.size) (hr : w'.heap[w.heap.size]? = some (.cells #[vm, vs, vn, vg, .int .i64 x.made, .int .i64 x.lost] t (0, 0))) :
  ∃ Fm Fs Fn Fg, Run B w' w.heap.size 0 x vm vs vn vg Fm Fs Fn Fg := by
 obtain ⟨Fm, Fs, Fn, Fg, h1, h2, h3, h4, n1, n2⟩ := dC h
 obtain ⟨q0, q1, q2, q3, q4, q5, qf⟩ := az hr
 have l1 : ∀ c ∈ Fm ++ (Fs ++ (Fn ++ Fg)), c < w.heap.size := fun c hc => by
  simp only [List.mem_append] at hc
  rcases hc with hc | hc | hc | hc
  ·exact dU.lt h1 c hc
  ·exact bT.lt h2 c hc
  ·exact dV.lt h3 c hc
  ·exact bT.lt h4 c hc
 have k : ∀ c ∈ Fm ++ (Fs ++ (Fn ++ Fg)), w'.heap[c]? = w.heap[c]? := fun c hc => hb.block c (l1 c hc)
 refine ⟨Fm, Fs, Fn, Fg, ⟨q0, q1, q2, q3, q4, q5, qf, dU.keep h1 (fun c hc => k c (by simp [hc])), bT.keep h2 (fun c hc => k c (by simp [hc])), dV.keep h3 (fun c hc => k c (by simp [hc])), bT.keep h4 (fun c hc => k c (by simp [hc])), List.nodup_cons.2 ⟨fun hm => by have := l1 _ hm; omega, n1⟩, fun c hc => ?_⟩⟩
 rcases List.mem_cons.1 hc with rfl | hc
 ·omega
 ·have := n2 c hc; omega
theorem Run.pushNet0 {n0 s8 : Nat} {t : Tr} {v' : Value} {G F : List Nat} (h : Run B w b3 0 x vm vs vn vg Fm Fs (vn.ownBlock.toList ++ G) Fg) (h0 : ∀ c ∈ b3 :: (Fm ++ (Fs ++ ((vn.ownBlock.toList ++ G) ++ Fg))), c < n0) (hB : B ≤ n0) (ht : Tch (vn.ownBlock.toList ++ G) w w') (ho : Own oTr 74 0 w' v' (x.net ++ [t]) (G ++ F)) (hv : v'.ownBlock = vn.ownBlock ∨ v'.ownBlock = some s8) (hF : F.Nodup) (hFn : ∀ c ∈ F, n0 ≤ c ∧ c < s8) (hs : n0 ≤ s8) :
  Run B (w'.setCell ⟨b3, 2, none⟩ v') b3 0 ⟨x.mixes, x.sent, x.net ++ [t], x.got, x.made, x.lost⟩ vm vs v' vg Fm Fs (v'.ownBlock.toList ++ (G ++ F)) Fg := by
 obtain ⟨a1, a2, a3⟩ := ft (n0 := n0) ho hv (List.nodup_append.1 (List.nodup_append.1 (List.nodup_append.1 (List.nodup_cons.1 h.nd).2).2.1).2.1).1 hF (fun c hc => h0 c (by simp only [List.mem_cons, List.mem_append] at hc ⊢; exact .inr (.inr (.inr (.inl hc))))) hFn hs
 refine h.net' ht a1 a2 (fun c hc => ?_) (fun c hc => ?_)
 ·rcases a3 c hc with h1 | h1
  ·exact .inl h1
  ·exact .inr (fun hm => by have := h0 c hm; omega)
 ·rcases a3 c hc with h1 | h1
  ·exact h.lo c (by simp only [List.mem_cons, List.mem_append] at h1 ⊢; exact .inr (.inr (.inr (.inl h1))))
  ·omega
theorem Run.pushSent0 {s8 : Nat} {t : Lt} {v' : Value} (h : Run B w b3 0 x vm vs vn vg Fm (vs.ownBlock.toList ++ []) Fn Fg) (ht : Tch (vs.ownBlock.toList ++ []) w w') (ho : Own tLt 56 0 w' v' (x.sent ++ [t]) []) (hv : v'.ownBlock = vs.ownBlock ∨ v'.ownBlock = some s8) (hs : w.heap.size ≤ s8) (hB : B ≤ w.heap.size) :
  Run B (w'.setCell ⟨b3, 1, none⟩ v') b3 0 ⟨x.mixes, x.sent ++ [t], x.net, x.got, x.made, x.lost⟩ vm v' vn vg Fm (v'.ownBlock.toList ++ ([] ++ [])) Fn Fg := by
 obtain ⟨a1, a2, a3⟩ := ft (T := tLt) (G := []) (F := []) (n0 := w.heap.size) ho hv (List.nodup_append.1 (List.nodup_append.1 (List.nodup_cons.1 h.nd).2).2.1).1 List.nodup_nil (fun c hc => h.lt c (by simp only [List.mem_cons, List.mem_append] at hc ⊢; exact .inr (.inr (.inl hc)))) (fun _ h => by cases h) hs
 refine h.sent' ht a1 a2 (fun c hc => ?_) (fun c hc => ?_)
 ·rcases a3 c hc with h1 | h1
  ·exact .inl h1
  ·exact .inr (fun hm => by have := h.lt c hm; omega)
 ·rcases a3 c hc with h1 | h1
  ·exact h.lo c (by simp only [List.mem_cons, List.mem_append] at h1 ⊢; exact .inr (.inr (.inl h1)))
  ·omega
theorem Run.pushGot0 {s8 : Nat} {t : Lt} {v' : Value} (h : Run B w b3 0 x vm vs vn vg Fm Fs Fn (vg.ownBlock.toList ++ [])) (ht : Tch (vg.ownBlock.toList ++ []) w w') (ho : Own tLt 56 0 w' v' (x.got ++ [t]) []) (hv : v'.ownBlock = vg.ownBlock ∨ v'.ownBlock = some s8) (hs : w.heap.size ≤ s8) (hB : B ≤ w.heap.size) :
  Run B (w'.setCell ⟨b3, 3, none⟩ v') b3 0 ⟨x.mixes, x.sent, x.net, x.got ++ [t], x.made, x.lost⟩ vm vs vn v' Fm Fs Fn (v'.ownBlock.toList ++ ([] ++ [])) := by
 obtain ⟨a1, a2, a3⟩ := ft (T := tLt) (G := []) (F := []) (n0 := w.heap.size) ho hv (List.nodup_append.1 (List.nodup_append.1 (List.nodup_append.1 (List.nodup_cons.1 h.nd).2).2.1).2.1).2.1 List.nodup_nil (fun c hc => h.lt c (by simp only [List.mem_cons, List.mem_append] at hc ⊢; exact .inr (.inr (.inr (.inr hc))))) (fun _ h => by cases h) hs
 refine h.got' ht a1 a2 (fun c hc => ?_) (fun c hc => ?_)
 ·rcases a3 c hc with h1 | h1
  ·exact .inl h1
  ·exact .inr (fun hm => by have := h.lt c hm; omega)
 ·rcases a3 c hc with h1 | h1
  ·exact h.lo c (by simp only [List.mem_cons, List.mem_append] at h1 ⊢; exact .inr (.inr (.inr (.inr h1))))
  ·omega
end
theorem WdB.partsD {B : Nat} {w : World} {x : Wd} {vm vs vn vg a b : Value} (h : WdB B w (.agg #[vm, vs, vn, vg, a, b]) x) : SlB tMx B w vm x.mixes ∧ SlB tLt B w vs x.sent ∧ SlB tTr B w vn x.net ∧ SlB tLt B w vg x.got := by
 obtain ⟨um, us, un, ug, e, h1, h2, h3, h4⟩ := h
 simp at e
 obtain ⟨rfl, rfl, rfl, rfl, _, _⟩ := e
 exact ⟨h1, h2, h3, h4⟩
theorem rC : (Tryz.prog.info? 56).map (fun i => (i.zero, i.size, i.bytes)) = some (some (.agg #[.int .i64 0, .int .i64 0, .int .i64 0]), 3, 24) := by kernel_rfl
theorem nN (B : Nat) (w : World) (g p : Nat) (h : Rdr B w g p) (hp : p ≤ 800000) : Calls Tryz.prog 46 #[.pointer (some ⟨g, 0, none⟩)] w (tp B g p 2000 w) := by
 obtain ⟨k0', ki, kz0, kz1, kz2⟩ := info_parts fW
 obtain ⟨l0', li, lz0, lz1, lz2⟩ := info_parts rC
 have hgw := h.lt.2
 go_enter Tryz.func46, Tryz.ntmps46
 go_upto_region 1 with fail
 generalize hgw' : World.alloc w _ = W0
 obtain ⟨e0, hb0, s0⟩ := al hgw'
 have hr := h.go hb0
 have E0 := hid e0; have HT := hid (Tch.of (S := [g]) hb0)
 clear hgw' e0 hb0 h
 go_wp2_with fail
 with_reducible refine (jc B _ g _ hr (by omega)).mono ?_
 rintro e w1 ⟨v1, x, q1, rfl, hv, hq1, hr1, ht1, hw1⟩
 replace HT := hid (HT.out.trans ht1)
 replace E0 := hid (ht1.row E0.out (by simp; omega))
 have s1 := ht1.size
 have Hv := hid hv; have Hw1 := hid hw1
 clear hv ht1 hr hw1
 go_wp2_with fail
 with_reducible refine (eC x _ _ Hw1.out.wdB Hv.out.sm).mono ?_
 rintro e w2 ⟨um, us, un, ug, rfl, n2, hb2⟩
 have hr2 := hr1.go hb2
 replace HT := hid (HT.out.trans (Tch.of hb2))
 replace E0 := hid (ac hb2 E0.out)
 have s2 := hb2.size
 have N2 := hid n2; have Hr2 := hid hr2
 obtain ⟨A1, c1, A2, c2, A3, c3, A4, c4, rfl, rfl, rfl, rfl⟩ := cr n2
 clear n2 hb2 hr1 hr2 Hw1
 go_upto_region 2 with fail
 generalize hgw' : World.alloc w2 _ = W3
 obtain ⟨e3, hb3, s3⟩ := al hgw'
 obtain ⟨Fm, Fs, Fn, Fg, hrun⟩ := Run.box (B := w.heap.size + 1) N2.out hb3 (by omega) s2 e3
 have HP : Hid (RwS B g w.heap.size w2.heap.size q1 w W3 x _ _ _ _ Fm Fs Fn Fg) := hid ⟨hrun, by have := Hv.out.gl; omega, Hr2.out.go hb3, HT.out.trans (Tch.of hb3), hgw, rfl, by omega, ac hb3 E0.out⟩
 have hmx : 3 ≤ x.mixes.length := by have := bX Hv.out.mix; omega
 have hmx2 : x.mixes.length ≤ 3 := by have := bX Hv.out.mix; omega
 have hnt : x.net.length ≤ 10 := Hv.out.nn
 have hsn : x.sent.length ≤ 12 := Hv.out.sn
 have hgt : x.got.length ≤ 999 := Hv.out.gl
 have hmd : x.made ≤ 999 := Hv.out.md
 have hm0 : 0 ≤ x.made := by have := Hv.out.cnt; unfold cU at this; have := Hv.out.l0; omega
 obtain ⟨Gm, hGm, hom⟩ := ax hrun.em
 obtain ⟨gm, rfl⟩ := Own.addr hom (by omega)
 obtain ⟨Gn, hGn, -⟩ := ax hrun.en
 obtain ⟨Gs, hGs, hos⟩ := ax hrun.es
 obtain ⟨Gg, hGg, hog⟩ := ax hrun.eg
 obtain rfl := am bM hos
 obtain rfl := am bM hog
 subst hGm hGn hGs hGg
 clear hgw' e3 hb3 N2 Hr2 HT E0 hrun Hv hom hos hog
 go_cut [8] (fun s8 wx => ∃ m : Int, s8 = .int .i64 m ∧ 0 ≤ m ∧ RwS B g w.heap.size w2.heap.size (q1 + 1) w wx x (.slice (some ⟨gm, 0, none⟩) x.mixes.length c1) (.slice A2 x.sent.length c2) (.slice A3 x.net.length c3) (.slice A4 x.got.length c4) ((Value.slice (some ⟨gm, 0, none⟩) x.mixes.length c1).ownBlock.toList ++ Gm) ((Value.slice A2 x.sent.length c2).ownBlock.toList ++ []) ((Value.slice A3 x.net.length c3).ownBlock.toList ++ Gn) ((Value.slice A4 x.got.length c4).ownBlock.toList ++ []))
 case first =>
  go_wp2_with fail
  have hR' := HP.out.2.2.1; with_reducible refine (ay B _ g _ _ hR' (by omega)).mono ?_; clear hR'
  rintro e w5 ⟨m, rfl, m0, m1, _, hr, hg⟩
  have HP5 := hid (HP.out.tch hr (bP hg))
  clear hr hg HP
  go_wp2_with fail
  go_meet
  exact ⟨m, rfl, m0, HP5.out⟩
 case rest =>
  obtain ⟨m, rfl, m0, hst⟩ := hcut
  clear HP
  have HP := hid hst
  clear hst
  rename_i hK
  refine hK _ _ ?_
  go_cut [3] (fun s3 wx => s3 = .pointer (some ⟨w2.heap.size, 0, none⟩) ∧ ∃ q, q ≤ q1 + 1200 ∧ RwF B g w.heap.size w2.heap.size q w wx)
  case first =>
   have hg3 : ¬ w2.heap.size = g := by omega
   have HS := hid (fun (wx : World) (hT : Tch [g] wc wx) => HP.out.1.cells0 hT (by simp; omega))
   obtain ⟨k0, k1, k2, k3, k4, k5, zb, kf0, kf1, kf2, kf3, kf4, kf5⟩ := HS.out _ (Tch.refl _ _)
   have hgm1 : w.heap.size + 1 ≤ gm := HP.out.1.lo gm (by simp [Value.ownBlock])
   have hm : m = 0 ∨ m = 1 ∨ m = 2 ∨ m = 3 ∨ m = 4 ∨ m = 5 ∨ m = 6 ∨ 7 ≤ m := by omega
   rcases hm with rfl | rfl | rfl | rfl | rfl | rfl | rfl | hm
   ·go_wp2_with fail
    have hR' := HP.out.2.2.1; with_reducible refine (ay B _ g _ _ hR' (by omega)).mono ?_; clear hR'
    rintro e w5 ⟨n, rfl, n0, n1, _, hr, hg⟩
    have HP5 := hid (HP.out.tch hr (bP hg))
    clear hr hg k0 k1 k2 k3 k4 k5 zb kf0 kf1 kf2 kf3 kf4 kf5 HS
    obtain ⟨k0, k1, k2, k3, k4, k5, zb, kf0, kf1, kf2, kf3, kf4, kf5⟩ := HP5.out.1.cells0 (Tch.refl [] _) (by simp)
    go_wp2_with fail
    go_meet
    exact ⟨rfl, q1 + 1 + 1, by omega, ⟨_, _, _, _, _, _, _, _, _, HP5.out.to (ah.setCell (by dsimp only; omega) _) (HP5.out.1.made n) HP5.out.2.1⟩⟩
   ·go_wp2_with fail
    have hR' := HP.out.2.2.1; with_reducible refine (ay B _ g _ _ hR' (by omega)).mono ?_; clear hR'
    rintro e w5 ⟨n, rfl, n0, n1, _, hr, hg⟩
    have n1 := n1 (by omega)
    have HP5 := hid (HP.out.tch hr (bP hg))
    have f1 : IntKind.i64.wrap (n - 1) = n - 1 := aZ (by omega) (by omega)
    clear hr hg k0 k1 k2 k3 k4 k5 zb kf0 kf1 kf2 kf3 kf4 kf5 HS
    obtain ⟨k0, k1, k2, k3, k4, k5, zb, kf0, kf1, kf2, kf3, kf4, kf5⟩ := HP5.out.1.cells0 (Tch.refl [] _) (by simp)
    go_wp2_with fail
    go_meet
    exact ⟨rfl, q1 + 1 + 1, by omega, ⟨_, _, _, _, _, _, _, _, _, HP5.out.to (ah.setCell (by dsimp only; omega) _) (HP5.out.1.lost (n - 1)) HP5.out.2.1⟩⟩
   ·clear k0 k1 k2 k3 k4 k5 zb kf0 kf1 kf2 kf3 kf4 kf5
    go_wp2_with fail
    refine rgN [g] 8 (by kernel_rfl) rfl (fun | none, _, _, _, _ => id | some _, _, _, _, _ => id) fun wd hH hbwd swd => ?_
    simp only [pw]
    refine ag [0, 1, 2, 4] ?_
    iterate 4 (refine ra HS.out rfl (by kernel_rfl) rfl (fun _ f => by go_simp; try with_reducible rfl) ?_; try simp only [pw])
    refine rq 3 (by kernel_rfl) rfl fun K hK => ?_
    have fC := HS.out _ hH
    go_simp
    clear fC
    (go_at_call 27; refine (ay B _ g _ _ (HP.out.2.2.1.go hbwd) (by omega)).mono ?_; rintro e w5 ⟨m4, rfl, m40, m41, _, hr5, hg5⟩; have m41 := m41 (by omega); have HT5 := hid ((Tch.of (S := [g]) hbwd).trans (bP hg5)); have hbT := hH.trans ((bP hg5).mono (by simp)); have Hr5 := hid hr5; clear hr5 hg5)
    refine hK.out _ _ (hbT) (fun hH => ?_)
    clear hK K
    refine rq 5 (by kernel_rfl) rfl fun K hK => ?_
    have fC := HS.out _ hH
    go_simp
    clear fC
    (go_at_call 74; refine (qB B _ g _ Hr5.out (by omega)).mono ?_; rintro e w6 ⟨m', q6, us', up', rfl, hq6, hr6, ht6, n6⟩; obtain ⟨As', cs', Ap', cp', rfl, rfl⟩ := aQ n6; have HT6 := hid (HT5.out.trans ht6); have hbT := hH.trans ht6; obtain ⟨j, rfl⟩ := Int.eq_ofNat_of_zero_le m40; have hjl : j < x.mixes.length := (by omega); have HP6 := hid (HP.out.tch hr6 HT6.out); have N6 := hid n6; have s56 := HT5.out.size; have hgm6 := HP6.out.1.lt gm (by simp [Value.ownBlock]); obtain ⟨G6, hG6, ho6⟩ := ax HP6.out.1.em; have fz0 := ho6.frozen (j * 3); have fz1 := ho6.frozen (j * 3 + 1); have fz2 := ho6.frozen (j * 3 + 2); obtain ⟨xm, hxm⟩ := ak (xs := x.mixes) (k := j) (by omega); obtain ⟨bb, oo, us0, up0, eA, _, hbb, _, _, t0, t1, t2⟩ := (HP6.out.1.wdR (P := fun _ => True) (fun _ _ => trivial)).wdB.partsD.1.mx hxm; injection eA with eA; injection eA with eA eO _; subst eA eO; simp only [Nat.zero_add] at t0 t1 t2; clear hr6 ht6 n6 ho6 hG6 hxm)
    refine hK.out _ _ (hbT) (fun hH => ?_)
    clear hK K
    refine tr 6 HS.out rfl (by kernel_rfl) rfl (fun _ f => by go_simp; try with_reducible rfl) ?_
    try simp only [pw]
    refine rz 7 (by kernel_rfl) rfl fun K hK => ?_
    have fC := HS.out _ hH
    go_simp
    clear fC
    refine hK.out _ _ ?_
    clear hK K
    obtain ⟨K, n1', n2', n3'⟩ := N6.out
    obtain ⟨g', F2, e, hgm, hr3, hF2⟩ := Run.setMix (m := m') HP6.out.1 (by omega) n1' n2' (fun a ha => ⟨by have h1 := n3' a ha; have h3 := HT5.out.size; have h4 := HP.out.1.blk; omega, fun hm => by have h1 := n3' a ha; have h2 := HP.out.1.lt a hm; have h3 := HT5.out.size; omega⟩)
    injection e with e; injection e with e _ _; subst e
    have HPf := hid (HP6.out.to ((ah.setCell (by dsimp only; omega) _).setCell (by dsimp only; omega) _ |>.setCell (by dsimp only; omega) _) hr3 HP6.out.2.1)
    clear hr3 hF2 hgm n1' n2' n3'
    go_wp2_with fail
    go_meet
    exact ⟨rfl, q6, by omega, ⟨_, _, _, _, _, _, _, _, _, HPf.out⟩⟩
   ·have hcap : 2 ≤ c1 := by obtain ⟨_, _, he, hc, _⟩ := (HP.out.1.wdR (P := fun _ => True) (fun _ _ => trivial)).wdB.partsD.1.form; injection he with _ _ he; omega
    obtain ⟨G6, hG6, ho6⟩ := ax HP.out.1.em
    have hG6' : G6 = Gm := by simpa using hG6.symm
    subst hG6'
    obtain ⟨F, hoF, F2, hF2⟩ := ho6.cutAt 2 (by omega)
    have hndm := (List.nodup_append.1 (List.nodup_cons.1 HP.out.1.nd).2).1
    subst hF2
    have hr3 := HP.out.1.mixes' (Tch.refl _ _) (v' := .slice (some ⟨gm, 0, none⟩) 2 c1) (ys := x.mixes.take 2) (F' := gm :: F) ⟨_, F, rfl, hoF, by simp [Value.ownBlock]⟩ (by have h1 := hndm; simp [Value.ownBlock] at h1 ⊢; exact ⟨h1.1.1, (List.nodup_append.1 h1.2).1⟩) (fun c hc => .inl (by simp [Value.ownBlock] at hc ⊢; rcases hc with hc | hc; exact .inl hc; exact .inr (.inl hc))) (fun c hc => HP.out.1.lo c (by simp [Value.ownBlock] at hc ⊢; rcases hc with hc | hc; exact .inr (.inl hc); exact .inr (.inr (.inl hc))))
    have HPf := hid (HP.out.to (ah.setCell (by dsimp only; omega) _) hr3 HP.out.2.1)
    clear hr3 hoF ho6 hG6 hndm HS
    go_wp2_with fail
    go_meet
    exact ⟨rfl, q1 + 1, by omega, ⟨_, _, _, _, _, _, _, _, _, HPf.out⟩⟩
   ·clear k0 k1 k2 k3 k4 k5 zb kf0 kf1 kf2 kf3 kf4 kf5 HS
    have HS := hid (fun (wx : World) (hT : Tch (g :: ((Value.slice A3 x.net.length c3).ownBlock.toList ++ Gn)) wc wx) => HP.out.1.cells0 hT (by have h1 := HP.out.1.nb; simp only [List.mem_cons, not_or]; exact ⟨by omega, h1.2.2.1⟩))
    go_wp2_with fail
    refine rgN (g :: ((Value.slice A3 x.net.length c3).ownBlock.toList ++ Gn)) 13 (by kernel_rfl) rfl (fun | none, _, _, _, _ => id | some _, _, _, _, _ => id) fun wd hH hbwd swd => ?_
    simp only [pw]
    refine ag [0, 1, 2, 4, 5] ?_
    iterate 5 (refine ra HS.out rfl (by kernel_rfl) rfl (fun _ f => by go_simp; try with_reducible rfl) ?_; try simp only [pw])
    refine rq 3 (by kernel_rfl) rfl fun K hK => ?_
    have fC := HS.out _ hH
    go_simp
    clear fC
    (go_at_call 27; refine (ay B _ g _ _ (HP.out.2.2.1.go hbwd) (by omega)).mono ?_; rintro e w5 ⟨m4, rfl, m40, m41, _, hr5, hg5⟩; have m41 := m41 (by omega); have HT5 := hid ((Tch.of (S := [g]) hbwd).trans (bP hg5)); have hbT := hH.trans ((bP hg5).mono (by simp)); have Hr5 := hid hr5; clear hr5 hg5)
    refine hK.out _ _ (hbT) (fun hH => ?_)
    clear hK K
    refine rq 6 (by kernel_rfl) rfl fun K hK => ?_
    have fC := HS.out _ hH
    go_simp
    clear fC
    (go_at_call 76; refine (fj B 100 _ g _ Hr5.out (by omega) (by decide)).mono ?_; rintro e w6 ⟨k6, q6, vh, vb, rfl, hk6, hq6, hr6, ht6, s6, s6'⟩; have HT6 := hid (HT5.out.trans ht6); have hbT := hH.trans (ht6.mono (by simp)); have Hr6 := hid hr6; have S6 := hid s6; have S6' := hid s6'; have Hk6 := hid hk6; clear hr6 ht6 s6 s6' hk6)
    refine hK.out _ _ (hbT) (fun hH => ?_)
    clear hK K
    refine rq 7 (by kernel_rfl) rfl fun K hK => ?_
    have fC := HS.out _ hH
    go_simp
    clear fC
    (go_at_call 75; refine (mo B k6 _ _ _ g _ Hr6.out (by omega) S6.out S6'.out Hk6.out).mono ?_; rintro e w7 ⟨k7, q7, uh, ub, rfl, hq7, hr7, ht7, n7⟩; obtain ⟨Ah7, ch7, Ab7, cb7, rfl, rfl⟩ := cQ n7; have s67 := ht7.size; have s06 := HT6.out.size; have HT7 := hid (HT6.out.trans ht7); have hbT := hH.trans (ht7.mono (by simp)); have HP7 := hid (HP.out.tch hr7 HT7.out); have N7 := hid n7; clear hr7 ht7 n7)
    refine hK.out _ _ (hbT) (fun hH => ?_)
    clear hK K
    refine tr 8 HS.out rfl (by kernel_rfl) rfl (fun _ f => by go_simp; try with_reducible rfl) ?_
    try simp only [pw]
    refine rq 9 (by kernel_rfl) rfl fun K hK => ?_
    go_simp
    (generalize hgw : World.alloc _ _ = wa0; obtain ⟨ea0, hbC, sa0⟩ := al hgw; have HBa := hid hbC; have Ea0 := hid ea0; clear hgw ea0)
    refine hK.out _ _ (hH.trans (Tch.of hbC)) (fun hH => ?_)
    clear hK K
    refine rq 10 (by kernel_rfl) rfl fun K hK => ?_
    (obtain ⟨F7, f1, f2, f3⟩ := fJ (x := ⟨m4, k7, false⟩) N7.out; have HRa := hid (HP7.out.1.go HBa.out); have hoA := lJ (HRa.out.en); refine aT rfl (.tmp 38) (.tmp 46) 31 rfl oTr (B := 0) Tryz.underlying31 ki kz0 kz1 kz2 rfl (by decide) (v := .slice A3 x.net.length c3) (xs := x.net) rfl hoA (some ⟨w7.heap.size, 0, none⟩) 1 1 rfl (cz (cs := [.int .i64 m4, .int .i64 k7.el, .slice Ah7 k7.hd.length ch7, .int .i64 k7.tag, .slice Ab7 k7.bd.length cb7, .bool false]) Ea0.out (oTr.keep f1 (fun b hb => HBa.out.block b (oTr.lt f1 b hb)))) (fun b hb hm => ?_) ?_ ?_ (by omega) ?_; (have h1 := HP7.out.1.lt b (by simp [hb]); have h2 := f3 b hm; have h3 := HP.out.1.lt b (by simp [hb]); omega); (simp; omega); (simp [maxLen]; omega); intro v10 w10 ho10 hg10 hv10; obtain ⟨A10, c10, rfl, _, _, _⟩ := ho10.form; rw [List.length_append] at ho10 hv10; have HO := hid ho10; have hbP := hH.grow hg10 (fun k hk hlt => List.mem_cons_of_mem _ (List.mem_append_left _ (aA.2 hk))))
    refine hK.out _ _ (hbP) (fun hH => ?_)
    clear hK K
    refine tr 11 HS.out rfl (by kernel_rfl) rfl (fun _ f => by go_simp; try with_reducible rfl) ?_
    try simp only [pw]
    refine rz 12 (by kernel_rfl) rfl fun K hK => ?_
    have fC := HS.out _ hH
    go_simp
    clear fC
    refine hK.out _ _ ?_
    clear hK K
    have hFs := hid (fun b hb => (⟨f3 b hb, by have := oTr.lt f1 b hb; omega⟩ : w6.heap.size ≤ b ∧ b < wa0.heap.size))
    have HRn := hid (Run.pushNet0 (n0 := w6.heap.size) (s8 := wa0.heap.size) (t := ⟨m4, k7, false⟩) (F := F7) HP7.out.1 (fun c hc => Nat.lt_of_lt_of_le (HP.out.1.lt c hc) s06) (by have := HP.out.1.blk; omega) ((Tch.of HBa.out).trans (Tch.grown hg10 (fun k hk _ => List.mem_append_left _ (aA.2 hk)))) HO.out hv10 f2 hFs.out (by omega))
    have hbl : Below (w.heap.size + 1) w7 (w10.setCell ⟨w2.heap.size, 2, none⟩ (.slice A10 (x.net.length + [(⟨m4, k7, false⟩ : Tr)].length) c10)) := ((HBa.out.mono (by have := HP7.out.1.blk; omega)).trans (ah.grown hg10 (by have := HP7.out.1.blk; omega) (fun b hb => HP7.out.1.lo b (by simp [hb])))).setCell (by dsimp only; omega) _
    have HP11 := hid (HP7.out.to hbl HRn.out HP7.out.2.1)
    simp only [List.length_cons, List.length_nil, Nat.zero_add] at HP11
    have f9 : IntKind.i64.wrap (x.made + 1) = x.made + 1 := aZ (by omega) (by omega)
    clear hH hbwd hbC hbT hbP hbl HRn hFs hg10 hv10 ho10 HO f1 f2 f3 HRa hoA HBa Ea0 N7 HS
    obtain ⟨k0, k1, k2, k3, k4, k5, zb, kf0, kf1, kf2, kf3, kf4, kf5⟩ := HP11.out.1.cells0 (Tch.refl [] _) (by simp)
    go_wp2_with fail
    go_meet
    exact ⟨rfl, q7, by omega, ⟨_, _, _, _, _, _, _, _, _, HP11.out.to (ah.setCell (by dsimp only; omega) _) (HP11.out.1.made (x.made + 1)) HP11.out.2.1⟩⟩
   ·clear k0 k1 k2 k3 k4 k5 zb kf0 kf1 kf2 kf3 kf4 kf5 HS
    have HS := hid (fun (wx : World) (hT : Tch (g :: ((Value.slice A2 x.sent.length c2).ownBlock.toList ++ [])) wc wx) => HP.out.1.cells0 hT (by have h1 := HP.out.1.nb; simp only [List.mem_cons, not_or]; exact ⟨by omega, h1.2.1⟩))
    go_wp2_with fail
    refine rgN (g :: ((Value.slice A2 x.sent.length c2).ownBlock.toList ++ [])) 11 (by kernel_rfl) rfl (fun | none, _, _, _, _ => id | some _, _, _, _, _ => id) fun wd hH hbwd swd => ?_
    simp only [pw]
    refine ag [0, 1, 2, 4] ?_
    iterate 4 (refine ra HS.out rfl (by kernel_rfl) rfl (fun _ f => by go_simp; try with_reducible rfl) ?_; try simp only [pw])
    refine rq 3 (by kernel_rfl) rfl fun K hK => ?_
    have fC := HS.out _ hH
    go_simp
    clear fC
    (go_at_call 27; refine (ay B _ g _ _ (HP.out.2.2.1.go hbwd) (by omega)).mono ?_; rintro e w5 ⟨m4, rfl, m40, m41, _, hr5, hg5⟩; have m41 := m41 (by omega); have HT5 := hid ((Tch.of (S := [g]) hbwd).trans (bP hg5)); have hbT := hH.trans ((bP hg5).mono (by simp)); have Hr5 := hid hr5; clear hr5 hg5)
    refine hK.out _ _ (hbT) (fun hH => ?_)
    clear hK K
    refine rq 5 (by kernel_rfl) rfl fun K hK => ?_
    have fC := HS.out _ hH
    go_simp
    clear fC
    (go_at_call 27; refine (ay B _ g _ _ Hr5.out (by omega)).mono ?_; rintro e w6 ⟨m5, rfl, m50, m51, _, hr6, hg6⟩; have m51 := m51 (by omega); have HT6 := hid (HT5.out.trans (bP hg6)); have hbT := hH.trans ((bP hg6).mono (by simp)); have HP6 := hid (HP.out.tch hr6 HT6.out); clear hr6 hg6)
    refine hK.out _ _ (hbT) (fun hH => ?_)
    clear hK K
    refine tr 6 HS.out rfl (by kernel_rfl) rfl (fun _ f => by go_simp; try with_reducible rfl) ?_
    try simp only [pw]
    refine rq 7 (by kernel_rfl) rfl fun K hK => ?_
    go_simp
    (generalize hgw : World.alloc _ _ = wa0; obtain ⟨ea0, hbC, sa0⟩ := al hgw; have HBa := hid hbC; have Ea0 := hid ea0; clear hgw ea0)
    refine hK.out _ _ (hH.trans (Tch.of hbC)) (fun hH => ?_)
    clear hK K
    refine rq 8 (by kernel_rfl) rfl fun K hK => ?_
    (have HPa := HP6.out.1.go HBa.out; have hoA := lJ (HPa.es); refine bf rfl (.tmp 56) (.tmp 62) 30 rfl tLt bM (B := 0) Tryz.underlying30 li lz0 lz1 lz2 rfl (by decide) (by decide) (v := .slice A2 x.sent.length c2) (xs := x.sent) rfl hoA (some ⟨w6.heap.size, 0, none⟩) 1 1 rfl ⟨_, cz (x := (⟨1, m4, m5⟩ : Lt)) (cs := [.int .i64 1, .int .i64 m4, .int .i64 m5]) Ea0.out ⟨rfl, rfl⟩⟩ ?_ (by omega) ?_; (simp; omega); intro v10 w10 ho10 hg10 hv10; obtain ⟨A10, c10, rfl, _, _, _⟩ := ho10.form; rw [List.length_append] at ho10 hv10; have HO := hid ho10; have hbP := hH.grow hg10 (fun k hk hlt => List.mem_cons_of_mem _ (List.mem_append_left _ (aA.2 hk))))
    refine hK.out _ _ (hbP) (fun hH => ?_)
    clear hK K
    refine tr 9 HS.out rfl (by kernel_rfl) rfl (fun _ f => by go_simp; try with_reducible rfl) ?_
    try simp only [pw]
    refine rz 10 (by kernel_rfl) rfl fun K hK => ?_
    have fC := HS.out _ hH
    go_simp
    clear fC
    refine hK.out _ _ ?_
    clear hK K
    have HRn := hid (Run.pushSent0 (s8 := wa0.heap.size) (t := ⟨1, m4, m5⟩) HP6.out.1 ((Tch.of HBa.out).trans (Tch.grown hg10 (fun k hk _ => List.mem_append_left _ (aA.2 hk)))) HO.out hv10 (by omega) (by have := HP6.out.1.blk; omega))
    have hbl : Below (w.heap.size + 1) w6 (w10.setCell ⟨w2.heap.size, 1, none⟩ (.slice A10 (x.sent.length + [(⟨1, m4, m5⟩ : Lt)].length) c10)) := ((HBa.out.mono (by have := HP6.out.1.blk; omega)).trans (ah.grown hg10 (by have := HP6.out.1.blk; omega) (fun b hb => HP6.out.1.lo b (by simp [hb])))).setCell (by dsimp only; omega) _
    have HP11 := hid (HP6.out.to hbl HRn.out HP6.out.2.1)
    simp only [List.length_cons, List.length_nil, Nat.zero_add] at HP11
    clear hH hbwd hbC hbT hbP hbl HRn hg10 hv10 ho10 HO hoA HBa Ea0 HS
    go_wp2_with fail
    go_meet
    exact ⟨rfl, q1 + 1 + 1 + 1, by omega, ⟨_, _, _, _, _, _, _, _, _, HP11.out⟩⟩
   ·clear k0 k1 k2 k3 k4 k5 zb kf0 kf1 kf2 kf3 kf4 kf5 HS
    have HS := hid (fun (wx : World) (hT : Tch (g :: ((Value.slice A4 x.got.length c4).ownBlock.toList ++ [])) wc wx) => HP.out.1.cells0 hT (by have h1 := HP.out.1.nb; simp only [List.mem_cons, not_or]; exact ⟨by omega, h1.2.2.2⟩))
    go_wp2_with fail
    refine rgN (g :: ((Value.slice A4 x.got.length c4).ownBlock.toList ++ [])) 11 (by kernel_rfl) rfl (fun | none, _, _, _, _ => id | some _, _, _, _, _ => id) fun wd hH hbwd swd => ?_
    simp only [pw]
    refine ag [0, 1, 2, 4] ?_
    iterate 4 (refine ra HS.out rfl (by kernel_rfl) rfl (fun _ f => by go_simp; try with_reducible rfl) ?_; try simp only [pw])
    refine rq 3 (by kernel_rfl) rfl fun K hK => ?_
    have fC := HS.out _ hH
    go_simp
    clear fC
    (go_at_call 27; refine (ay B _ g _ _ (HP.out.2.2.1.go hbwd) (by omega)).mono ?_; rintro e w5 ⟨m4, rfl, m40, m41, _, hr5, hg5⟩; have m41 := m41 (by omega); have HT5 := hid ((Tch.of (S := [g]) hbwd).trans (bP hg5)); have hbT := hH.trans ((bP hg5).mono (by simp)); have Hr5 := hid hr5; clear hr5 hg5)
    refine hK.out _ _ (hbT) (fun hH => ?_)
    clear hK K
    refine rq 5 (by kernel_rfl) rfl fun K hK => ?_
    have fC := HS.out _ hH
    go_simp
    clear fC
    (go_at_call 27; refine (ay B _ g _ _ Hr5.out (by omega)).mono ?_; rintro e w6 ⟨m5, rfl, m50, m51, _, hr6, hg6⟩; have m51 := m51 (by omega); have HT6 := hid (HT5.out.trans (bP hg6)); have hbT := hH.trans ((bP hg6).mono (by simp)); have HP6 := hid (HP.out.tch hr6 HT6.out); clear hr6 hg6)
    refine hK.out _ _ (hbT) (fun hH => ?_)
    clear hK K
    refine tr 6 HS.out rfl (by kernel_rfl) rfl (fun _ f => by go_simp; try with_reducible rfl) ?_
    try simp only [pw]
    refine rq 7 (by kernel_rfl) rfl fun K hK => ?_
    go_simp
    (generalize hgw : World.alloc _ _ = wa0; obtain ⟨ea0, hbC, sa0⟩ := al hgw; have HBa := hid hbC; have Ea0 := hid ea0; clear hgw ea0)
    refine hK.out _ _ (hH.trans (Tch.of hbC)) (fun hH => ?_)
    clear hK K
    refine rq 8 (by kernel_rfl) rfl fun K hK => ?_
    (have HPa := HP6.out.1.go HBa.out; have hoA := lJ (HPa.eg); refine bf rfl (.tmp 68) (.tmp 74) 30 rfl tLt bM (B := 0) Tryz.underlying30 li lz0 lz1 lz2 rfl (by decide) (by decide) (v := .slice A4 x.got.length c4) (xs := x.got) rfl hoA (some ⟨w6.heap.size, 0, none⟩) 1 1 rfl ⟨_, cz (x := (⟨m4, 1, m5⟩ : Lt)) (cs := [.int .i64 m4, .int .i64 1, .int .i64 m5]) Ea0.out ⟨rfl, rfl⟩⟩ ?_ (by omega) ?_; (simp; omega); intro v10 w10 ho10 hg10 hv10; obtain ⟨A10, c10, rfl, _, _, _⟩ := ho10.form; rw [List.length_append] at ho10 hv10; have HO := hid ho10; have hbP := hH.grow hg10 (fun k hk hlt => List.mem_cons_of_mem _ (List.mem_append_left _ (aA.2 hk))))
    refine hK.out _ _ (hbP) (fun hH => ?_)
    clear hK K
    refine tr 9 HS.out rfl (by kernel_rfl) rfl (fun _ f => by go_simp; try with_reducible rfl) ?_
    try simp only [pw]
    refine rz 10 (by kernel_rfl) rfl fun K hK => ?_
    have fC := HS.out _ hH
    go_simp
    clear fC
    refine hK.out _ _ ?_
    clear hK K
    have HRn := hid (Run.pushGot0 (s8 := wa0.heap.size) (t := ⟨m4, 1, m5⟩) HP6.out.1 ((Tch.of HBa.out).trans (Tch.grown hg10 (fun k hk _ => List.mem_append_left _ (aA.2 hk)))) HO.out hv10 (by omega) (by have := HP6.out.1.blk; omega))
    have hbl : Below (w.heap.size + 1) w6 (w10.setCell ⟨w2.heap.size, 3, none⟩ (.slice A10 (x.got.length + [(⟨m4, 1, m5⟩ : Lt)].length) c10)) := ((HBa.out.mono (by have := HP6.out.1.blk; omega)).trans (ah.grown hg10 (by have := HP6.out.1.blk; omega) (fun b hb => HP6.out.1.lo b (by simp [hb])))).setCell (by dsimp only; omega) _
    have HP11 := hid (HP6.out.to hbl HRn.out (by simp; omega))
    simp only [List.length_cons, List.length_nil, Nat.zero_add] at HP11
    have f9 : IntKind.i64.wrap (x.made + 1) = x.made + 1 := aZ (by omega) (by omega)
    clear hH hbwd hbC hbT hbP hbl HRn hg10 hv10 ho10 HO hoA HBa Ea0 HS
    obtain ⟨k0, k1, k2, k3, k4, k5, zb, kf0, kf1, kf2, kf3, kf4, kf5⟩ := HP11.out.1.cells0 (Tch.refl [] _) (by simp)
    go_wp2_with fail
    go_meet
    exact ⟨rfl, q1 + 1 + 1 + 1, by omega, ⟨_, _, _, _, _, _, _, _, _, HP11.out.to (ah.setCell (by dsimp only; omega) _) (HP11.out.1.made (x.made + 1)) HP11.out.2.1⟩⟩
   ·have b0 : (m == 0) = false := by simp; omega
    have b1 : (m == 1) = false := by simp; omega
    have b2 : (m == 2) = false := by simp; omega
    have b3 : (m == 3) = false := by simp; omega
    have b4 : (m == 4) = false := by simp; omega
    have b5 : (m == 5) = false := by simp; omega
    have b6 : (m == 6) = false := by simp; omega
    go_wp2_with fail
    go_meet
    exact ⟨rfl, q1 + 1, by omega, ⟨_, _, _, _, _, _, _, _, _, HP.out⟩⟩
  case rest =>
   obtain ⟨rfl, q, hq, x', vm, vs, vn, vg, Fm, Fs, Fn, Fg, hst⟩ := hcut
   obtain ⟨B1, d1, B2, d2, B3, d3, B4, d4, rfl, rfl, rfl, rfl⟩ := hst.1.forms
   obtain ⟨k0, k1, k2, k3, k4, k5, zb, kf0, kf1, kf2, kf3, kf4, kf5⟩ := hst.1.cells0 (Tch.refl [] _) (by simp)
   have hwr := hst.1.wdR (P := fun b => w.heap.size < b) (fun c hc => hst.1.lo c (List.mem_cons_of_mem _ hc))
   obtain ⟨_, hgl', hr, ht, hgb, _, _, hz⟩ := hst
   obtain ⟨z0, z1, z2, z3, z4, z5, zf⟩ := az hz
   have zf0 := zf 0; have zf1 := zf 1; have zf2 := zf 2; have zf3 := zf 3; have zf4 := zf 4; have zf5 := zf 5
   have zw := (aL hz)
   have HR := hid hr; have HT := hid ht; have HW := hid hwr; have Hgl' := hid hgl'
   clear zf hz hr ht hwr hgl' HP
   go_wp2_with fail
   refine bodyPost_ret (v := .agg #[.slice B1 x'.mixes.length d1, .slice B2 x'.sent.length d2, .slice B3 x'.net.length d3, .slice B4 x'.got.length d4, .int .i64 x'.made, .int .i64 x'.lost]) (by simp [results, Tryz.results46, go_sem, z0, z1, z2, z3, z4, z5]) rfl ⟨_, x', q, rfl, Hgl'.out, by omega, ?_, ?_, ?_⟩
   ·refine HR.out.below (n := g + 1) ?_ (by omega) (by have := HR.out.lt.1; omega)
    repeat (refine Below.setCell ?_ (by dsimp only; omega) _)
    exact ah
   ·repeat (refine Tch.setCell ?_ (.inr (by dsimp only; omega)) _)
    exact HT.out
   ·refine WdR.mono (R := fun b => w.heap.size < b) ?_ (fun b _ hb => Nat.le_of_lt hb)
    repeat (refine WdR.set ?_ (by dsimp only; omega))
    exact HW.out
end Go.Proofs.YtfaeojmndaplcaaGreatDoor
