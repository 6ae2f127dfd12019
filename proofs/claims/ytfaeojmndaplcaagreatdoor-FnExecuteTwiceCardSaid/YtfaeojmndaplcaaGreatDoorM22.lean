/- Texts that the last file leans on (part 22). -/
import Derived.Test.YtfaeojmndaplcaaGreatDoorM15
import Derived.Test.YtfaeojmndaplcaaGreatDoorM18
import Derived.Test.YtfaeojmndaplcaaGreatDoorM20
set_option linter.unusedVariables false
set_option linter.unusedSimpArgs false
set_option maxHeartbeats 4000000
set_option maxRecDepth 100000
namespace Go.Proofs.YtfaeojmndaplcaaGreatDoor
open Go Go.RowKit
theorem Tch.frozen {L : List Nat} {W a : World} {b j : Nat} (h : Tch L W a) (hf : W.frozen? ⟨b, j, none⟩ = false) (hb : b < W.heap.size) (hn : b ∉ L) : a.frozen? ⟨b, j, none⟩ = false :=
 (World.frozen?_of_block (w := W) (a := ⟨b, j, none⟩) (h.block b hb hn)).trans hf
def yQ (B : Nat) (w : World) (b o : Nat) (F : List Nat) (x y : Wd) (code : Int) (e : Ending) (w' : World) : Prop :=
 (code = 0 ∧ e = .returned .nilIface ∧ ∃ F', Rn B w' b o y F' ∧ (∀ c ∈ F', c ∈ F ∨ w.heap.size ≤ c) ∧ Tch F w w' ∧ an b o w w') ∨
 (code ≠ 0 ∧ ∃ bb, e = .returned (.iface 159 (.pointer (some ⟨bb, 0, none⟩))) ∧ w'.heap[bb]? = some (.cells #[.int .i64 code] 208 (0, 0)) ∧ w.heap.size ≤ bb ∧ Rn B w' b o x F ∧ Below w.heap.size w w')
theorem vP (B rb ro : Nat) (x : Wd) (F : List Nat) (k : Nat) (p : Pk) (cg : Bool) (m m2 : Mx) (code : Int) (Ah Ab : Option Addr) (ch cb : Nat) (w : World) (h : Rn B w rb ro x F) (hk : k < x.mixes.length) (hk3 : k ≤ 1000) (hm1 : x.mixes[k]? = some m) (hm3 : mxB m = true) (hpk : pkB p = true) (hrr : bW m p = (m2, code)) (h3 : SlB af w.heap.size w (.slice Ah p.hd.length ch) p.hd) (h4 : SlB af w.heap.size w (.slice Ab p.bd.length cb) p.bd) (hB : B ≤ w.heap.size) :
  Calls Tryz.prog 138 #[.pointer (some ⟨rb, ro, none⟩), .agg #[.int .i64 (k : Int), .int .i64 p.el, .slice Ah p.hd.length ch, .int .i64 p.tag, .slice Ab p.bd.length cb, .bool cg]] w (yQ B w rb ro F x (cV x k m2) code) := by
 obtain ⟨vm, vs, vn, vg, Fm, Fs, Fn, Fg, hr, rfl⟩ := h
 obtain ⟨Gm, hFm, hO⟩ := aG hr.em
 clear hFm
 obtain ⟨A1, d1, rfl, _, _, _⟩ := hO.form
 obtain ⟨g, rfl⟩ := Own.addr hO (by omega)
 have hgw := (hO.top g rfl).2
 have hrbw := hr.blk
 have HM3 := hid hm3; have Hpk := hid hpk; have Hrr := hid hrr; have HM1 := hid hm1
 have hr1 := hr.go (ab w (.cells #[.int .i64 (k : Int), .int .i64 p.el, .slice Ah p.hd.length ch, .int .i64 p.tag, .slice Ab p.bd.length cb, .bool cg] 74))
 have eb := heap_alloc_new w (.cells #[.int .i64 (k : Int), .int .i64 p.el, .slice Ah p.hd.length ch, .int .i64 p.tag, .slice Ab p.bd.length cb, .bool cg] 74)
 have HTW := hid (ab w (.cells #[.int .i64 (k : Int), .int .i64 p.el, .slice Ah p.hd.length ch, .int .i64 p.tag, .slice Ab p.bd.length cb, .bool cg] 74))
 have hsW : w.heap.size < (w.alloc (.cells #[.int .i64 (k : Int), .int .i64 p.el, .slice Ah p.hd.length ch, .int .i64 p.tag, .slice Ab p.bd.length cb, .bool cg] 74)).heap.size := by simp
 have G3 := hid (h3.go (ab w (.cells #[.int .i64 (k : Int), .int .i64 p.el, .slice Ah p.hd.length ch, .int .i64 p.tag, .slice Ab p.bd.length cb, .bool cg] 74))); have G4 := hid (h4.go (ab w (.cells #[.int .i64 (k : Int), .int .i64 p.el, .slice Ah p.hd.length ch, .int .i64 p.tag, .slice Ab p.bd.length cb, .bool cg] 74)))
 have hlo : ∀ c ∈ Fm ++ (Fs ++ (Fn ++ Fg)), (fun _ : Nat => True) c := fun _ _ => trivial
 clear hr hO hm1 hm3 hpk hrr h3 h4
 go_enter Tryz.func138, Tryz.ntmps138
 go_wp2_with fail
 generalize hgn : w.heap.size = nW at eb ⊢
 generalize w.alloc (.cells #[.int .i64 (k : Int), .int .i64 p.el, .slice Ah p.hd.length ch, .int .i64 p.tag, .slice Ab p.bd.length cb, .bool cg] 74) = W1 at *
 obtain ⟨bb, o, us, up, e, _, _, hvs, hvp, q0, q1, q2⟩ := ((hr1.wdR hlo).un.1.slB).mx HM1.out
 injection e with e; injection e with e1 e2; subst e1 e2
 simp only [Nat.zero_add] at q0 q1 q2
 obtain ⟨As, cs, rfl, _, _, _⟩ := hvs.form
 obtain ⟨Ap, cp, rfl, _, _, _⟩ := hvp.form
 have Hvs := hid (fun (wx : World) (hT : Tch [] W1 wx) => hvs.go hT.nil)
 have Hvp := hid (fun (wx : World) (hT : Tch [] W1 wx) => hvp.go hT.nil)
 have H3 := hid (fun (wx : World) (hT : Tch [] W1 wx) => G3.out.go hT.nil)
 have H4 := hid (fun (wx : World) (hT : Tch [] W1 wx) => G4.out.go hT.nil)
 have HS := hid (fun (wx : World) (hT : Tch [] W1 wx) => And.intro (hr1.cells hT (by simp)) (And.intro (aC (hT.row eb (by simp))) (And.intro (hT.cell q0 (by simp)) (And.intro (hT.cell q1 (by simp)) (hT.cell q2 (by simp))))))
 have Hr := hid hr1; have Eb := hid eb
 clear hvs hvp hr1 q0 q1 q2 eb
 have u1 : (0 : Int) ≤ (k : Int) := by omega
 have u2 : ((k : Int)).toNat = k := by omega
 have u3 : (k : Int) < (x.mixes.length : Int) := by omega
 refine rgN [] 17 (by kernel_rfl) rfl (fun | none, _, _, _, _ => id | some _, _, _, _, _ => id) fun wd hH hbwd swd => ?_
 simp only [pw]
 refine ag [0, 1, 2, 3, 4, 5, 6, 7, 8, 9] ?_
 iterate 10 (refine ra HS.out rfl (by kernel_rfl) rfl (fun _ f => by go_simp; try with_reducible rfl) ?_; try simp only [pw])
 repeat' (first
  | (have t10 := hK10; clear t10; go_simp; (go_at_call 188; refine (uG m _ _ p _ _ _ (Hvs.out _ hH) (Hvp.out _ hH) (H3.out _ hH) (H4.out _ hH) HM3.out Hpk.out).mono ?_; rw [Hrr.out]; rintro e w5 ⟨us5, up5, rfl, n5, hbC⟩; obtain ⟨A5, c5, A6, c6, rfl, rfl⟩ := bo n5; have sb5 := hbC.size; (try replace ea := ac hbC ea); obtain ⟨F5, h5E, h5n, h5l⟩ := n5; (try have h5 : ∀ b ∈ F5, W1.heap.size ≤ b ∧ b ≠ ga := fun b hb => by have h1 := h5l b hb; have h2 := oMx.lt h5E b hb; omega)); refine hK10.out _ _ (hH.trans (Tch.of hbC)) (fun hH => ?_); clear hK10 K10; try simp only [pw])
  | (have t14 := hK14; clear t14; go_simp; (have la := hH.size; generalize hgw : World.alloc _ _ = wa; obtain ⟨ea, hbC, sa⟩ := aD hgw; clear hgw; (first | (generalize hga : w5.heap.size = ga at ea ⊢) | (generalize hga : wd.heap.size = ga at ea ⊢)); (try have h5 : ∀ b ∈ F5, W1.heap.size ≤ b ∧ b ≠ ga := fun b hb => by have h1 := h5l b hb; have h2 := oMx.lt h5E b hb; omega); (try replace h5E := oMx.keep h5E (fun b hb => hbC.block b (oMx.lt h5E b hb))); have hga1 : W1.heap.size ≤ ga := (by omega); have hga2 : ga < wa.heap.size := (by omega); clear hga); refine hK14.out _ _ (hH.trans (Tch.of hbC)) (fun hH => ?_); clear hK14 K14; try simp only [pw])
  | (have t15 := hK15; clear t15; (obtain ⟨z0, z1, z2, zf⟩ := aN ea; have zf0 := zf 0; have zf1 := zf 1; have zf2 := zf 2; have hga3 := World.block_lt_of_cell? _ _ z0; dsimp only at hga3); have fC := HS.out _ hH; go_simp; clear fC; (have hbT := ((hH.put (p := ⟨ga, 0, none⟩) (.inr hga1) (.int .i64 m2.sec)).put (p := ⟨ga, 1, none⟩) (.inr hga1) (.slice A5 m2.seen.length c5)).put (p := ⟨ga, 2, none⟩) (.inr hga1) (.slice A6 m2.pool.length c6)); refine hK15.out _ _ (hbT) (fun hH => ?_); clear hK15 K15; try simp only [pw])
  | (refine tr 11 HS.out rfl (by decide +kernel) rfl (fun _ f => by go_simp; try with_reducible rfl) ?_; try simp only [pw])
  | (refine tr 12 HS.out rfl (by decide +kernel) rfl (fun _ f => by go_simp; try with_reducible rfl) ?_; try simp only [pw])
  | (refine tr 13 HS.out rfl (by decide +kernel) rfl (fun _ f => by go_simp; try with_reducible rfl) ?_; try simp only [pw])
  | (refine tr 16 HS.out rfl (by decide +kernel) rfl (fun _ f => by go_simp; try with_reducible rfl) ?_; try simp only [pw])
  | (refine rk (i := 10) [14] (by decide +kernel) (rc rfl (fun K10 hK10 => ?_) (rc rfl (fun K14 hK14 => ?_) rn)))
  | (refine rk (i := 10) [] (by decide +kernel) (rc rfl (fun K10 hK10 => ?_) rn))
  | (refine rk (i := 14) [] (by decide +kernel) (rc rfl (fun K14 hK14 => ?_) rn))
  | (refine rk (i := 15) [] (by decide +kernel) (rc rfl (fun K15 hK15 => ?_) rn))
  | fail)
 all_goals refine dm (by kernel_rfl) ?_
 all_goals
  have e9 := aI 2 (.slice A6 m2.pool.length c6) (aI 1 (.slice A5 m2.seen.length c5) (aI 0 (.int .i64 m2.sec) ea))
  have h9E := oMx.keep h5E (fun b hb => ((Below.heap_setCell _ ⟨ga, 2, none⟩ (.slice A6 m2.pool.length c6) b (h5 b hb).2).trans (Below.heap_setCell _ ⟨ga, 1, none⟩ (.slice A5 m2.seen.length c5) b (h5 b hb).2)).trans (Below.heap_setCell _ ⟨ga, 0, none⟩ (.int .i64 m2.sec) b (h5 b hb).2))
  clear z0 z1 z2 zf zf0 zf1 zf2 ea h5E hbC hbT h5l hga3
  generalize World.setCell (World.setCell (World.setCell _ _ _) _ _) _ _ = w9 at *
  have hb9 := hH.nil
  have eb9 := ac hb9 Eb.out
  have hr9 := Hr.out.go hb9
  obtain ⟨Gm', hFm, hO⟩ := aG hr9.em
  clear hFm
  have fz0 := hO.frozen (k * 3); have fz1 := hO.frozen (k * 3 + 1); have fz2 := hO.frozen (k * 3 + 2)
  obtain ⟨bb, o, us, up, e, _, _, _, _, y0, y1, y2⟩ := ((hr9.wdR hlo).un.1.slB).mx HM1.out
  injection e with e; injection e with e1 e2; subst e1 e2
  simp only [Nat.zero_add] at y0 y1 y2
  have s9 := hb9.size
  have hg9 : g < w9.heap.size := by omega
  have Hr9 := hid hr9; have He9 := hid h9E; have Hb9 := hid hb9; have H5 := hid h5; have H5n := hid h5n
  have HS9 := hid (fun (wx : World) (hT : Tch [] w9 wx) => And.intro (hr9.cells hT (by simp)) (And.intro (aC (hT.row eb9 (by simp))) (And.intro (aN (hT.row e9 (by simp))) (And.intro (hT.cell y0 (by simp)) (And.intro (hT.cell y1 (by simp)) (And.intro (hT.cell y2 (by simp)) (And.intro (hT.frozen fz0 hg9 (by simp)) (And.intro (hT.frozen fz1 hg9 (by simp)) (And.intro (hT.frozen fz2 hg9 (by simp)) (show g < wx.heap.size by have := hT.size; omega))))))))))
  clear hr9 h9E hb9 eb9 e9 hH hO h5 h5n swd y0 y1 y2 fz0 fz1 fz2
  by_cases hcd : code = 0
  ·have i1 : (code != 0) = false := by simp [hcd]
   have Hcd := hid hcd
   clear hcd
   go_wp2_with fail
   refine rgN [] 9 (by kernel_rfl) rfl (fun | none, _, _, _, _ => id | some _, _, _, _, _ => id) fun we hH hbwe swe => ?_
   simp only [pw]
   refine ag [0, 1, 2, 3, 4, 5, 6, 7] ?_
   iterate 8 (refine ra HS9.out rfl (by kernel_rfl) rfl (fun _ f => by go_simp; try with_reducible rfl) ?_; try simp only [pw])
   refine rz 8 (by kernel_rfl) rfl fun K hK => ?_
   have fC := HS9.out _ hH
   go_simp
   clear fC
   refine hK.out _ _ ?_
   clear hK K
   have hbe := hH.nil
   obtain ⟨g', F2, e, hgm, hr3, hF2⟩ := Run.setMix (m := m2) (Hr9.out.go hbe) hk (oMx.keep He9.out (fun b hb => hbe.block b (oMx.lt He9.out b hb))) H5n.out (fun a ha => ⟨by have := (H5.out a ha).1; omega, fun hm => by have h1 := (H5.out a ha).1; have h2 := Hr.out.lt a hm; omega⟩)
   injection e with e; injection e with e1 e2; subst e1
   have HR3 := hid hr3; have HBE := hid (bt (bt HTW.out Hb9.out) hbe)
   clear hH hbe hr3
   go_wp2_with fail
   refine bodyPost_ret (v := .nilIface) (by simp [results, Tryz.results138, go_sem]) rfl (.inl ⟨Hcd.out, rfl, _, ⟨_, _, _, _, _, _, _, _, HR3.out, rfl⟩, fun c hc => ?_, ?_, ?_⟩)
   ·simp only [List.mem_cons, List.mem_append] at hc ⊢
    rcases hc with h1 | h1 | h1
    ·exact .inl (.inl h1)
    ·rcases hF2 c h1 with h2 | h2
     ·exact .inl (.inr (.inl h2))
     ·exact .inr (by have := (H5.out c h2).1; omega)
    ·exact .inl (.inr (.inr h1))
   ·have hgF : g ∈ rb :: (Fm ++ (Fs ++ (Fn ++ Fg))) := List.mem_cons_of_mem _ (List.mem_append_left _ hgm)
    exact (((Tch.of HBE.out).setCell (p := ⟨g, k * 3, none⟩) (.inl hgF) _).setCell (p := ⟨g, k * 3 + 1, none⟩) (.inl hgF) _).setCell (p := ⟨g, k * 3 + 2, none⟩) (.inl hgF) _
   ·have hne : rb ≠ g := fun e => Hr.out.nb.1 (e ▸ hgm)
    exact (((an.below HBE.out hrbw).setne (p := ⟨g, k * 3, none⟩) hne _).setne (p := ⟨g, k * 3 + 1, none⟩) hne _).setne (p := ⟨g, k * 3 + 2, none⟩) hne _
  ·have i1 : (code != 0) = true := by simp [hcd]
   have Hcd := hid hcd
   clear hcd
   go_wp2_with fail
   exact bodyPost_ret (v := .iface 159 (.pointer (some ⟨w9.heap.size, 0, none⟩))) (by simp [results, Tryz.results138, go_sem]) rfl (.inr ⟨Hcd.out, w9.heap.size, rfl, heap_alloc_new _ _, by omega, ⟨_, _, _, _, _, _, _, _, Hr9.out.go (ab _ _), rfl⟩, bt (bt HTW.out Hb9.out) (ab _ _)⟩)
theorem Rn.go {B b o : Nat} {w w' : World} {x : Wd} {F : List Nat} (h : Rn B w b o x F) (hb : Below w.heap.size w w') : Rn B w' b o x F := by
 obtain ⟨_, _, _, _, _, _, _, _, hr, e⟩ := h
 exact ⟨_, _, _, _, _, _, _, _, hr.go hb, e⟩
theorem Rn.lt {B b o : Nat} {w : World} {x : Wd} {F : List Nat} (h : Rn B w b o x F) : ∀ c ∈ F, c < w.heap.size := by
 obtain ⟨_, _, _, _, _, _, _, _, hr, rfl⟩ := h
 exact hr.lt
theorem Rn.blk {B b o : Nat} {w : World} {x : Wd} {F : List Nat} (h : Rn B w b o x F) : b < w.heap.size := by
 obtain ⟨_, _, _, _, _, _, _, _, hr, _⟩ := h
 exact hr.blk
def nC (B : Nat) (w : World) (gl j : Nat) (l : List Pl) (F : List Nat) : Prop :=
 ∃ cs G, oPl.els w cs l G ∧ (∀ i u, cs[i]? = some u → w.cell? ⟨gl, j * 6 + i, none⟩ = some u) ∧ G.Nodup ∧ gl < w.heap.size ∧ gl ∉ F ∧ gl ∉ G ∧ ∀ c ∈ G, B ≤ c ∧ c ∉ F
theorem nC.step {B gl j : Nat} {w : World} {z : Pl} {l : List Pl} {F : List Nat} (h : nC B w gl j (z :: l) F) :
  ∃ A c A' d Gz, oPl.E w [.int .i64 z.kind, .int .i64 z.next, .int .i64 z.pk.el, .slice A z.pk.hd.length c, .int .i64 z.pk.tag, .slice A' z.pk.bd.length d] z Gz ∧ Gz.Nodup ∧ (∀ c ∈ Gz, B ≤ c ∧ c ∉ F) ∧
   w.cell? ⟨gl, j * 6, none⟩ = some (.int .i64 z.kind) ∧ w.cell? ⟨gl, j * 6 + 1, none⟩ = some (.int .i64 z.next) ∧ w.cell? ⟨gl, j * 6 + 2, none⟩ = some (.int .i64 z.pk.el) ∧ w.cell? ⟨gl, j * 6 + 3, none⟩ = some (.slice A z.pk.hd.length c) ∧ w.cell? ⟨gl, j * 6 + 4, none⟩ = some (.int .i64 z.pk.tag) ∧ w.cell? ⟨gl, j * 6 + 5, none⟩ = some (.slice A' z.pk.bd.length d) ∧
   ∀ (w' : World) (F' : List Nat), Tch F w w' → (∀ c ∈ F', c ∈ F ∨ c ∈ Gz ∨ w.heap.size ≤ c) → nC B w' gl (j + 1) l F' := by
 obtain ⟨cs, G, hE, hc, hn, hg, hgF, hgG, hG⟩ := h
 obtain ⟨c1, c2, G1, G2, rfl, rfl, h1, h2⟩ := hE
 obtain ⟨A, c, A', d, rfl⟩ := iY h1
 obtain ⟨n1, n2, n3⟩ := List.nodup_append.1 hn
 have l1 := oPl.lt h1
 have l2 := Ty.els_lt h2
 refine ⟨A, c, A', d, G1, h1, n1, fun b hb => hG b (List.mem_append_left _ hb), hc 0 _ rfl, hc 1 _ rfl, hc 2 _ rfl, hc 3 _ rfl, hc 4 _ rfl, hc 5 _ rfl, fun w' F' hT hF => ?_⟩
 refine ⟨c2, G2, Ty.els_keep h2 (fun b hb => hT.block b (l2 b hb) (hG b (List.mem_append_right _ hb)).2), fun i u hi => ?_, n2, Nat.lt_of_lt_of_le hg hT.size, fun hm => ?_, fun hm => hgG (List.mem_append_right _ hm), fun b hb => ⟨(hG b (List.mem_append_right _ hb)).1, fun hm => ?_⟩⟩
 ·have e := hc (6 + i) u (by rw [Nat.add_comm]; exact hi)
  refine (World.cell?_of_block (w := w) (a := ⟨gl, _, none⟩) (hT.block gl hg hgF)).trans ?_
  rw [show (j + 1) * 6 + i = j * 6 + (6 + i) from by omega]; exact e
 ·rcases hF gl hm with h | h | h
  ·exact hgF h
  ·exact hgG (List.mem_append_left _ h)
  ·omega
 ·rcases hF b hm with h | h | h
  ·exact (hG b (List.mem_append_right _ hb)).2 h
  ·exact n3 b h b hb rfl
  ·have := l2 b hb; omega
theorem nC.start {B gl n c : Nat} {w : World} {l : List Pl} {F G : List Nat} (h : Own oPl 144 0 w (.slice (some ⟨gl, 0, none⟩) n c) l G) (hn : G.Nodup) (hF : ∀ b ∈ gl :: G, B ≤ b ∧ b ∉ F) : nC B w gl 0 l F := by
 have hg := (h.top gl rfl).2
 obtain ⟨A0, c0, e0, _⟩ := h.form
 injection e0 with e1 e2 e3; subst e2 e3
 obtain ⟨cs, h1, h2, h3⟩ := h
 refine ⟨cs, G, h2, fun i u hi => ?_, hn, hg, (hF gl List.mem_cons_self).2, h3 gl rfl, fun b hb => hF b (List.mem_cons_of_mem _ hb)⟩
 have hl' := (List.getElem?_eq_some_iff.1 hi).1
 rw [Nat.zero_mul, Nat.zero_add, h1.cellAt i (by rw [h1.1] at hl'; exact hl')]; exact hi
theorem mU {w : World} {z : Pl} {A A' : Option Addr} {c d : Nat} {G : List Nat} (h : oPl.E w [.int .i64 z.kind, .int .i64 z.next, .int .i64 z.pk.el, .slice A z.pk.hd.length c, .int .i64 z.pk.tag, .slice A' z.pk.bd.length d] z G) (cg : Bool) :
  oTr.E w [.int .i64 z.next, .int .i64 z.pk.el, .slice A z.pk.hd.length c, .int .i64 z.pk.tag, .slice A' z.pk.bd.length d, .bool cg] ⟨z.next, z.pk, cg⟩ G ∧ SlB af w.heap.size w (.slice A' z.pk.bd.length d) z.pk.bd := by
 obtain ⟨c1, c2, F1, F2, e1, rfl, ⟨rfl, rfl⟩, c3, c4, F3, F4, rfl, rfl, ⟨rfl, rfl⟩, ⟨c5, c6, F5, F6, rfl, rfl, ⟨rfl, rfl⟩, c7, c8, F7, F8, rfl, rfl, ⟨vh, Gh, rfl, hh, rfl⟩, c9, c10, F9, F10, rfl, rfl, ⟨rfl, rfl⟩, ⟨vb, Gb, rfl, hb, rfl⟩⟩⟩ := h
 simp at e1
 obtain ⟨rfl, rfl⟩ := e1
 have := sp (t := ⟨z.next, z.pk, cg⟩) (w := w) (Fh := _) (Fb := _) ⟨_, Gh, rfl, hh, rfl⟩ ⟨_, Gb, rfl, hb, rfl⟩
 exact ⟨by simpa using this, hb.slB⟩
theorem Tch.seq {F F' : List Nat} {w a b : World} (h : Tch F w a) (k : Tch F' a b) (hF : ∀ c ∈ F', c ∈ F ∨ w.heap.size ≤ c) : Tch F w b :=
 ⟨k.os.trans h.os, k.tape.trans h.tape, k.output.trans h.output, Nat.le_trans h.size k.size, fun c hc hn => (k.block c (Nat.lt_of_lt_of_le hc h.size) (fun hm => by
  rcases hF c hm with h1 | h1
  ·exact hn h1
  ·omega)).trans (h.block c hc hn)⟩
theorem vM {B : Nat} {w : World} {a us up vl : Value} {m : Mx} {l : List Pl} (h : aJ (oMx.prod fM) B w [a, us, up, vl] (m, l)) : ∃ F1 Gl, oMx.E w [a, us, up] m F1 ∧ Own oPl 144 0 w vl l Gl ∧ F1.Nodup ∧ (vl.ownBlock.toList ++ Gl).Nodup ∧ (∀ c ∈ F1, B ≤ c ∧ c ∉ vl.ownBlock.toList ++ Gl) ∧ ∀ c ∈ vl.ownBlock.toList ++ Gl, B ≤ c := by
 obtain ⟨Fa, ⟨c1, c2, F1, F2, e1, rfl, hm, ⟨v', Gl, rfl, hl, rfl⟩⟩, hn, hlo⟩ := h
 obtain ⟨rfl, e2⟩ := List.append_inj' (s₁ := [a, us, up]) (t₁ := [vl]) e1 rfl
 injection e2 with e2; subst e2
 obtain ⟨n1, n2, n3⟩ := List.nodup_append.1 hn
 exact ⟨F1, Gl, hm, hl, n1, n2, fun c hc => ⟨hlo c (List.mem_append_left _ hc), fun hm => n3 c hc c hm rfl⟩, fun c hc => hlo c (List.mem_append_right _ hc)⟩
theorem sU (B rb ro : Nat) (x : Wd) (F : List Nat) (k : Nat) (all : Bool) (w : World) (h : Rn B w rb ro x F) (hx : VD 0 x) (hk : k < 3) (hB : B ≤ w.heap.size) :
  Calls Tryz.prog 89 #[.pointer (some ⟨rb, ro, none⟩), .int .i64 k, .bool all] w (eN B w rb ro F [] (cJ x k all)) := by
 obtain ⟨m, hm1, hm2, hm3, hm4⟩ := js hx.mix hk
 have hml := cP hx.mix
 have hkl : k < x.mixes.length := by omega
 obtain ⟨m2, list, hrr⟩ : ∃ m2 list, dG m all = (m2, list) := ⟨_, _, rfl⟩
 have hok := mr hm3 all
 rw [hrr] at hok
 obtain ⟨o1, o2, o3, o4⟩ := hok
 dsimp only at o1 o2 o3 o4
 have hV := VD.set hx hk hm1 (m := m2) o1 (o2.trans hm4) (d' := list.length) (by omega)
 have Hfin := hid (show cJ x k all = list.foldl dE (cV x k m2) by unfold cJ; rw [hm2, hrr])
 have hl5 : list.length ≤ 1000000 := by have := (bN.1 hm3).2.2.1; omega
 have Hml := hid hml; have Hrr := hid hrr; have HV := hid hV; have O3 := hid o3
 have HM1 := hid hm1; have HM3 := hid hm3
 obtain ⟨vm, vs, vn, vg, Fm, Fs, Fn, Fg, hr, rfl⟩ := h
 obtain ⟨Gm, hFm, hO⟩ := aG hr.em
 clear hFm
 obtain ⟨A1, d1, rfl, _, _, _⟩ := hO.form
 obtain ⟨g, rfl⟩ := Own.addr hO (by omega)
 have hgw := (hO.top g rfl).2
 have hrbw := hr.blk
 have hlo : ∀ c ∈ Fm ++ (Fs ++ (Fn ++ Fg)), (fun _ : Nat => True) c := fun _ _ => trivial
 obtain ⟨bb, o, us, up, e, _, _, hvs, hvp, q0, q1, q2⟩ := ((hr.wdR hlo).un.1.slB).mx HM1.out
 injection e with e; injection e with e1 e2; subst e1 e2
 simp only [Nat.zero_add] at q0 q1 q2
 obtain ⟨As, cs, rfl, _, _, _⟩ := hvs.form
 obtain ⟨Ap, cp, rfl, _, _, _⟩ := hvp.form
 obtain ⟨g0, g1, g2, g3, g4, g5, _⟩ := hr.cells (Tch.refl [] _) (by simp)
 have Hvs := hid hvs; have Hvp := hid hvp; have Hr := hid hr
 have u1 : (0 : Int) ≤ (k : Int) := by omega
 have u2 : ((k : Int)).toNat = k := by omega
 have u3 : (k : Int) < (x.mixes.length : Int) := by omega
 clear hvs hvp hr hx hm1 hm2 hm3 hm4 hml hrr o1 o2 o3 o4 hV hO
 go_enter Tryz.func89, Tryz.ntmps89
 go_wp2_with fail
 refine (sf m _ _ all _ Hvs.out Hvp.out HM3.out).mono ?_
 rw [Hrr.out]
 rintro e w2 ⟨us2, up2, vl, rfl, n3, hb3⟩
 dsimp only at n3 ⊢
 obtain ⟨F1, Gl, hE, hL, hn1, hnl, hF1, hGl⟩ := vM n3
 obtain ⟨A5, c5, A6, c6, rfl, rfl⟩ := bo ⟨F1, hE, hn1, fun c hc => (hF1 c hc).1⟩
 obtain ⟨Al, cl, rfl, _, _, _⟩ := hL.form
 have hr2 := Hr.out.go hb3
 have s3 := hb3.size
 clear g0 g1 g2 g3 g4 g5 q0 q1 q2 n3
 go_wp2_with fail
 have HW4 := hid (bt hb3 (ab w2 (.cells #[.int .i64 m2.sec, .slice A5 m2.seen.length c5, .slice A6 m2.pool.length c6] 70)))
 have hr4 := hr2.go (ab w2 (.cells #[.int .i64 m2.sec, .slice A5 m2.seen.length c5, .slice A6 m2.pool.length c6] 70))
 have eb := heap_alloc_new w2 (.cells #[.int .i64 m2.sec, .slice A5 m2.seen.length c5, .slice A6 m2.pool.length c6] 70)
 have hE4 := oMx.keep hE (fun b hb => (ab w2 (.cells #[.int .i64 m2.sec, .slice A5 m2.seen.length c5, .slice A6 m2.pool.length c6] 70)).block b (oMx.lt hE b hb))
 have hL4 := hL.go (ab w2 (.cells #[.int .i64 m2.sec, .slice A5 m2.seen.length c5, .slice A6 m2.pool.length c6] 70))
 have s4 : w2.heap.size < (w2.alloc (.cells #[.int .i64 m2.sec, .slice A5 m2.seen.length c5, .slice A6 m2.pool.length c6] 70)).heap.size := by simp
 clear hE hL hr2 hb3
 generalize hgn : w2.heap.size = nW at eb ⊢
 generalize w2.alloc (.cells #[.int .i64 m2.sec, .slice A5 m2.seen.length c5, .slice A6 m2.pool.length c6] 70) = W4 at *
 obtain ⟨Gm', hFm, hO⟩ := aG hr4.em
 clear hFm
 have fz0 := hO.frozen (k * 3); have fz1 := hO.frozen (k * 3 + 1); have fz2 := hO.frozen (k * 3 + 2)
 obtain ⟨bb, o, us, up, e, _, _, _, _, y0, y1, y2⟩ := ((hr4.wdR hlo).un.1.slB).mx HM1.out
 injection e with e; injection e with e1 e2; subst e1 e2
 simp only [Nat.zero_add] at y0 y1 y2
 have hg4 : g < W4.heap.size := by omega
 have HS9 := hid (fun (wx : World) (hT : Tch [] W4 wx) => And.intro (hr4.cells hT (by simp)) (And.intro (aN (hT.row eb (by simp))) (And.intro (hT.cell y0 (by simp)) (And.intro (hT.cell y1 (by simp)) (And.intro (hT.cell y2 (by simp)) (And.intro (hT.frozen fz0 hg4 (by simp)) (And.intro (hT.frozen fz1 hg4 (by simp)) (And.intro (hT.frozen fz2 hg4 (by simp)) (show g < wx.heap.size by have := hT.size; omega)))))))))
 have Hr4 := hid hr4; have He4 := hid hE4; have HL4 := hid hL4; have Hn1 := hid hn1; have Hnl := hid hnl; have HF1 := hid hF1; have HGl := hid hGl
 clear hr4 eb hE4 hL4 hO y0 y1 y2 fz0 fz1 fz2 hn1 hnl hF1 hGl
 refine rgN [] 8 (by kernel_rfl) rfl (fun | none, _, _, _, _ => id | some _, _, _, _, _ => id) fun we hH hbwe swe => ?_
 simp only [pw]
 refine ag [0, 1, 2, 3, 4, 5, 6] ?_
 iterate 7 (refine ra HS9.out rfl (by kernel_rfl) rfl (fun _ f => by go_simp; try with_reducible rfl) ?_; try simp only [pw])
 refine rz 7 (by kernel_rfl) rfl fun K hK => ?_
 have fC := HS9.out _ hH
 go_simp
 clear fC
 refine hK.out _ _ ?_
 clear hK K
 have hbe := hH.nil
 obtain ⟨g', F2, e, hgm, hr3, hF2⟩ := Run.setMix (m := m2) (Hr4.out.go hbe) hkl (oMx.keep He4.out (fun b hb => hbe.block b (oMx.lt He4.out b hb))) Hn1.out (fun a ha => ⟨by have := (HF1.out a ha).1; omega, fun hm => by have h1 := (HF1.out a ha).1; have h2 := Hr.out.lt a hm; omega⟩)
 injection e with e; injection e with e1 e2; subst e1
 have hgF : g ∈ rb :: (Fm ++ (Fs ++ (Fn ++ Fg))) := List.mem_cons_of_mem _ (List.mem_append_left _ hgm)
 have hT5 := (((Tch.of (bt HW4.out hbe)).setCell (p := ⟨g, k * 3, none⟩) (.inl hgF) (.int .i64 m2.sec)).setCell (p := ⟨g, k * 3 + 1, none⟩) (.inl hgF) (.slice A5 m2.seen.length c5)).setCell (p := ⟨g, k * 3 + 2, none⟩) (.inl hgF) (.slice A6 m2.pool.length c6)
 have hne : rb ≠ g := fun e => Hr.out.nb.1 (e ▸ hgm)
 have hKL5 := (((an.below (o := ro) (bt HW4.out hbe) hrbw).setne (p := ⟨g, k * 3, none⟩) hne (.int .i64 m2.sec)).setne (p := ⟨g, k * 3 + 1, none⟩) hne (.slice A5 m2.seen.length c5)).setne (p := ⟨g, k * 3 + 2, none⟩) hne (.slice A6 m2.pool.length c6)
 have hF5 : ∀ c ∈ rb :: (F2 ++ (Fs ++ (Fn ++ Fg))), c ∈ rb :: (Fm ++ (Fs ++ (Fn ++ Fg))) ∨ (c ∈ F1 ∧ w.heap.size ≤ c) := fun c hc => by
  simp only [List.mem_cons, List.mem_append] at hc ⊢
  rcases hc with h1 | h1 | h1
  ·exact .inl (.inl h1)
  ·rcases hF2 c h1 with h2 | h2
   ·exact .inl (.inr (.inl h2))
   ·exact .inr ⟨h2, (HF1.out c h2).1⟩
  ·exact .inl (.inr (.inr h1))
 have P0 : fM.E we [.slice Al list.length cl] list ((Value.slice Al list.length cl).ownBlock.toList ++ Gl) := ⟨_, Gl, rfl, HL4.out.go hbe, rfl⟩
 have hgl : ∀ c ∈ (Value.slice Al list.length cl).ownBlock.toList ++ Gl, c ≠ g := fun c hc => by have := HGl.out c hc; omega
 have hL5 := uO (fM.keep P0 (fun c hc => ((Below.heap_setCell _ ⟨g, k * 3 + 2, none⟩ (.slice A6 m2.pool.length c6) c (hgl c hc)).trans (Below.heap_setCell _ ⟨g, k * 3 + 1, none⟩ (.slice A5 m2.seen.length c5) c (hgl c hc))).trans (Below.heap_setCell we ⟨g, k * 3, none⟩ (.int .i64 m2.sec) c (hgl c hc))))
 clear P0 hgl hH hbwe hbe
 generalize ((we.setCell ⟨g, k * 3, none⟩ (.int .i64 m2.sec)).setCell ⟨g, k * 3 + 1, none⟩ (.slice A5 m2.seen.length c5)).setCell ⟨g, k * 3 + 2, none⟩ (.slice A6 m2.pool.length c6) = W5 at *
 have hres : 0 < list.length → ∃ gl, Al = some ⟨gl, 0, none⟩ ∧ nC w.heap.size W5 gl 0 (list.drop 0) (rb :: (F2 ++ (Fs ++ (Fn ++ Fg)))) := fun h0 => by
  obtain ⟨gl, rfl⟩ := Own.addr hL5 h0
  refine ⟨gl, rfl, nC.start hL5 (List.nodup_append.1 Hnl.out).2.1 (fun c hc => ?_)⟩
  have hc' : c ∈ (Value.slice (some ⟨gl, 0, none⟩) list.length cl).ownBlock.toList ++ Gl := by simpa [Value.ownBlock] using hc
  refine ⟨HGl.out c hc', fun hm => ?_⟩
  rcases hF5 c hm with h | h
  ·have h1 := Hr.out.lt c h; have h2 := HGl.out c hc'; omega
  ·exact (HF1.out c h.1).2 hc'
 have H0 := hid (show Rn B W5 rb ro (cV x k m2) (rb :: (F2 ++ (Fs ++ (Fn ++ Fg)))) ∧ (∀ c ∈ rb :: (F2 ++ (Fs ++ (Fn ++ Fg))), c ∈ rb :: (Fm ++ (Fs ++ (Fn ++ Fg))) ∨ w.heap.size ≤ c) ∧ Tch (rb :: (Fm ++ (Fs ++ (Fn ++ Fg)))) w W5 ∧ an rb ro w W5 from ⟨⟨_, _, _, _, _, _, _, _, hr3, rfl⟩, fun c hc => (hF5 c hc).imp id And.right, hT5, hKL5⟩)
 have Hres := hid hres
 clear hr3 hF5 hT5 hKL5 hres hL5 hF2 hgm hgF
 go_wp2_with fail
 go_loopw [9, 31] (fun bv iv wr => ∃ (j : Nat) (y : Wd) (F' : List Nat), j ≤ list.length ∧ iv = .int .i64 j ∧ (list.take j).foldl dE (cV x k m2) = y ∧ VD (list.length - j) y ∧ Rn B wr rb ro y F' ∧ (∀ c ∈ F', c ∈ rb :: (Fm ++ (Fs ++ (Fn ++ Fg))) ∨ w.heap.size ≤ c) ∧ Tch (rb :: (Fm ++ (Fs ++ (Fn ++ Fg)))) w wr ∧ an rb ro w wr ∧ (j < list.length → ∃ gl, Al = some ⟨gl, 0, none⟩ ∧ nC w.heap.size wr gl j (list.drop j) F')) (fun _ iv _ => list.length - (intOf iv).toNat)
 case atStart => exact ⟨0, _, _, by omega, rfl, rfl, HV.out, H0.out.1, H0.out.2.1, H0.out.2.2.1, H0.out.2.2.2, Hres.out⟩
 case round =>
  obtain ⟨j, y, F', hj, rfl, hy, hv, hR, hF, hT, hKL, hres⟩ := hrel
  clear Hres H0
  by_cases hlt : j < list.length
  ·obtain ⟨z, hz⟩ := ai hlt
   obtain ⟨gl, rfl, hrest⟩ := hres hlt
   rw [dd hz] at hrest
   obtain ⟨A, c, A', d, Gz, hEz, hnz, hGz, t0, t1, t2, t3, t4, t5, hstep⟩ := hrest.step
   have hglw : gl < wr.heap.size := World.block_lt_of_cell? _ _ t0
   have hpz := O3.out z (List.mem_of_getElem? hz)
   have hvs := VD.pass (x := y) (d := list.length - (j + 1)) (by have := hv; rwa [show list.length - (j + 1) + 1 = list.length - j from by omega]) hpz
   have hst : (list.take (j + 1)).foldl dE (cV x k m2) = dE y z := by rw [aK hz, List.foldl_append, hy]; rfl
   have Hst := hid hst; have Hvs := hid hvs; have HR := hid hR; have HF := hid hF; have HT := hid hT; have HKL := hid hKL; have Hstep := hid hstep; have HE := hid hEz; have Hn := hid hnz; have Hz := hid hGz; have Hv := hid hv; have Hpz := hid hpz
   have hBw : B ≤ (wr.alloc (.cells #[.int .i64 z.kind, .int .i64 z.next, .int .i64 z.pk.el, .slice A z.pk.hd.length c, .int .i64 z.pk.tag, .slice A' z.pk.bd.length d] 144)).heap.size := by have := hT.size; simp only [World.size_alloc]; omega
   clear hz hrest hvs hst hR hF hT hKL hres hstep hEz hnz hGz hv hy hpz
   by_cases hkd : z.kind = 1
   ·have Hp := hid (show dE y z = fj y z by unfold dE; rw [if_pos hkd])
    have i1 : (z.kind == 0) = false := by simp [hkd]
    clear hkd
    go_wp2_with (go_at_call 140; refine (aRv B rb ro y F' [] z A A' z.pk.hd.length c d _ (HR.out.go (ab _ _)) Hv.out.lim (by have := Hv.out.gl; omega) hBw ((mU HE.out false).2.go (ab _ _)) Hpz.out).mono ?_; rintro e w5 ⟨rfl, F5, hr5, hF5, ht5, hk5⟩)
    have hK5 : an rb ro w w5 := HKL.out.trans ((an.below (ab wr (.cells #[.int .i64 z.kind, .int .i64 z.next, .int .i64 z.pk.el, .slice A z.pk.hd.length c, .int .i64 z.pk.tag, .slice A' z.pk.bd.length d] 144)) HR.out.blk).trans hk5)
    have hT5 := (Tch.of (S := F') (ab wr (.cells #[.int .i64 z.kind, .int .i64 z.next, .int .i64 z.pk.el, .slice A z.pk.hd.length c, .int .i64 z.pk.tag, .slice A' z.pk.bd.length d] 144))).trans ht5
    have hF6 : ∀ c ∈ F5, c ∈ F' ∨ c ∈ Gz ∨ wr.heap.size ≤ c := fun c hc => by
     rcases hF5 c hc with h | h | h
     ·exact .inl h
     ·cases h
     ·simp only [World.size_alloc] at h; exact .inr (.inr (by omega))
    have hsw := HT.out.size
    have HX := hid (show Rn B w5 rb ro (dE y z) F5 ∧ (∀ c ∈ F5, c ∈ rb :: (Fm ++ (Fs ++ (Fn ++ Fg))) ∨ w.heap.size ≤ c) ∧ Tch (rb :: (Fm ++ (Fs ++ (Fn ++ Fg)))) w w5 ∧ an rb ro w w5 ∧ nC w.heap.size w5 gl (j + 1) (list.drop (j + 1)) F5 from
     ⟨by rw [Hp.out]; exact hr5, fun c hc => by
      rcases hF6 c hc with h | h | h
      ·exact HF.out c h
      ·exact .inr (Hz.out c h).1
      ·exact .inr (by omega), HT.out.seq hT5 HF.out, hK5, Hstep.out w5 F5 hT5 hF6⟩)
    clear hr5 hF5 ht5 hT5 hF6 hk5 hK5 i1
    go_wp2_with fail
    go_roundw
    case rel => exact ⟨j + 1, _, F5, by omega, by go_num, Hst.out, Hvs.out, HX.out.1, HX.out.2.1, HX.out.2.2.1, HX.out.2.2.2.1, fun _ => ⟨gl, rfl, HX.out.2.2.2.2⟩⟩
    case measure => simp [intOf]; omega
   ·have Hp := hid (show dE y z = ew y z.next z.pk false by unfold dE; rw [if_neg hkd])
    have i1 : (z.kind == 0) = true := by have := aH.1 (bc.1 Hpz.out).1; simp; omega
    clear hkd
    go_wp2_with (go_at_call 136; refine (kx B rb ro y F' Gz ⟨z.next, z.pk, false⟩ A A' c d _ (HR.out.go (ab _ _)) Hv.out.lim (by have := Hv.out.nn; omega) hBw (oTr.keep (mU HE.out false).1 (fun b hb => (ab _ _).block b (oTr.lt (mU HE.out false).1 b hb))) Hn.out (fun c hc => ⟨by have := (Hz.out c hc).1; omega, (Hz.out c hc).2⟩)).mono ?_; rintro e w5 ⟨rfl, F5, hr5, hF5, ht5, hk5⟩)
    have hK5 : an rb ro w w5 := HKL.out.trans ((an.below (ab wr (.cells #[.int .i64 z.kind, .int .i64 z.next, .int .i64 z.pk.el, .slice A z.pk.hd.length c, .int .i64 z.pk.tag, .slice A' z.pk.bd.length d] 144)) HR.out.blk).trans hk5)
    have hT5 := (Tch.of (S := F') (ab wr (.cells #[.int .i64 z.kind, .int .i64 z.next, .int .i64 z.pk.el, .slice A z.pk.hd.length c, .int .i64 z.pk.tag, .slice A' z.pk.bd.length d] 144))).trans ht5
    have hF6 : ∀ c ∈ F5, c ∈ F' ∨ c ∈ Gz ∨ wr.heap.size ≤ c := fun c hc => by
     rcases hF5 c hc with h | h | h
     ·exact .inl h
     ·exact .inr (.inl h)
     ·simp only [World.size_alloc] at h; exact .inr (.inr (by omega))
    have hsw := HT.out.size
    have HX := hid (show Rn B w5 rb ro (dE y z) F5 ∧ (∀ c ∈ F5, c ∈ rb :: (Fm ++ (Fs ++ (Fn ++ Fg))) ∨ w.heap.size ≤ c) ∧ Tch (rb :: (Fm ++ (Fs ++ (Fn ++ Fg)))) w w5 ∧ an rb ro w w5 ∧ nC w.heap.size w5 gl (j + 1) (list.drop (j + 1)) F5 from
     ⟨by rw [Hp.out]; exact hr5, fun c hc => by
      rcases hF6 c hc with h | h | h
      ·exact HF.out c h
      ·exact .inr (Hz.out c h).1
      ·exact .inr (by omega), HT.out.seq hT5 HF.out, hK5, Hstep.out w5 F5 hT5 hF6⟩)
    clear hr5 hF5 ht5 hT5 hF6 hk5 hK5 i1
    go_wp2_with fail
    go_roundw
    case rel => exact ⟨j + 1, _, F5, by omega, by go_num, Hst.out, Hvs.out, HX.out.1, HX.out.2.1, HX.out.2.2.1, HX.out.2.2.2.1, fun _ => ⟨gl, rfl, HX.out.2.2.2.2⟩⟩
    case measure => simp [intOf]; omega
  ·have hje : list.take j = list := List.take_of_length_le (by omega)
   have Hres := hid (show cJ x k all = y by rw [Hfin.out, ← hy, hje])
   clear hy hje hv hres
   go_wp2_with fail
   exact bodyPost_end (results_none rfl _ _ _) rfl ⟨rfl, F', by rw [Hres.out]; exact hR, fun c hc => (hF c hc).imp id .inr, hT, hKL⟩
end Go.Proofs.YtfaeojmndaplcaaGreatDoor
