/- Texts that the last file leans on (part 26). -/
import Derived.Test.YtfmibcofgckldaaGreatDoorM21
import Derived.Test.YtfmibcofgckldaaGreatDoorM25
import Derived.Test.YtfmibcofgckldaaGreatDoorM9
set_option linter.unusedVariables false
set_option linter.unusedSimpArgs false
set_option maxHeartbeats 4000000
set_option maxRecDepth 100000
namespace Go.Proofs.YtfmibcofgckldaaGreatDoor
open Go Go.RowKit
theorem Run.pushSent {B b o s8 : Nat} {w w9 : World} {x : Wd} {vm vs vn vg v' : Value} {Fm Fn G Fg : List Nat} {l : Lt} (h : Run B w b o x vm vs vn vg Fm (vs.ownBlock.toList ++ G) Fn Fg) (ht : Tch (vs.ownBlock.toList ++ G) w w9) (ho : Own tLt 35 0 w9 v' (x.sent ++ [l]) (G ++ [])) (hv : v'.ownBlock = vs.ownBlock ∨ v'.ownBlock = some s8) (hs : w.heap.size ≤ s8) (hB : B ≤ w.heap.size) :
  Run B (w9.setCell ⟨b, o + 1, none⟩ v') b o ⟨x.mixes, x.sent ++ [l], x.net, x.got, x.made, x.lost⟩ vm v' vn vg Fm (v'.ownBlock.toList ++ (G ++ [])) Fn Fg ∧ ∀ c ∈ v'.ownBlock.toList ++ (G ++ []), c ∈ vs.ownBlock.toList ++ G ∨ c = s8 := by
 have hlt := h.lt
 obtain ⟨a1, a2, a3⟩ := fU (s8 := s8) ho hv (List.nodup_append.1 (List.nodup_append.1 (List.nodup_cons.1 h.nd).2).2.1).1 List.nodup_nil (fun c hc => Nat.lt_of_lt_of_le (hlt c (by simp only [List.mem_cons, List.mem_append] at hc ⊢; exact .inr (.inr (.inl hc)))) hs)
  (fun c hc => by cases hc)
 have a4 : ∀ c ∈ v'.ownBlock.toList ++ (G ++ []), c ∈ vs.ownBlock.toList ++ G ∨ c = s8 := fun c hc => by
  rcases a3 c hc with h1 | h1 | h1
  ·exact .inl h1
  ·cases h1
  ·exact .inr h1
 refine ⟨h.sent' ht a1 a2 (fun c hc => ?_) (fun c hc => ?_), a4⟩
 ·rcases a4 c hc with h1 | h1
  ·exact .inl h1
  ·exact .inr (fun hm => by have := hlt c hm; omega)
 ·rcases a4 c hc with h1 | h1
  ·exact h.lo c (by simp only [List.mem_cons, List.mem_append] at h1 ⊢; exact .inr (.inr (.inl h1)))
  ·omega
theorem tR (B rb ro : Nat) (x : Wd) (F : List Nat) (fr dst path : Int) (w : World) (h : Rn B w rb ro x F) (hx : VD 0 x) (hq : ¬ (win fr 0 7 = true ∧ win dst 0 7 = true ∧ az path ≠ [] ∧ x.sent.length < 12 ∧ x.made < 999)) :
  Calls Tryz.prog 63 #[.pointer (some ⟨rb, ro, none⟩), .int .i64 fr, .int .i64 dst, .int .i64 path] w (dY B w rb ro F [] x) := by
 obtain ⟨vm, vs, vn, vg, Fm, Fs, Fn, Fg, hr, rfl⟩ := h
 obtain ⟨Gs, hFs, os⟩ := ap hr.es
 clear hFs
 obtain ⟨As, cs, rfl, _, _, _⟩ := os.form
 clear os
 obtain ⟨g0, g1, g2, g3, g4, g5, _⟩ := hr.cells (Tch.refl [] _) (by simp)
 have hsn := hx.sn
 have hmd := hx.md
 have Hr := hid hr
 clear hr hx
 go_enter Tryz.func63, Tryz.ntmps63
 go_wp2_with fail
 refine (lz path _).mono ?_
 rintro e w1 ⟨vp, rfl, np, hb1⟩
 obtain ⟨Ap, cp, rfl⟩ := np.form
 obtain ⟨k0, k1, k2, k3, k4, k5, _⟩ := (Hr.out.go hb1).cells (Tch.refl [] _) (by simp)
 have Hb := hid hb1
 clear np hb1 g0 g1 g2 g3 g4 g5
 generalize az path = names at *
 cases hf : win fr 0 7 with
 | false =>
  clear hq
  go_wp2_with (go_at_call 54; refine (bx _ _).mono ?_; (first | rw [hf] | rw [hd]); rintro e w' ⟨rfl, rfl⟩)
  exact bodyPost_ret (results_none rfl _ _ _) rfl ⟨rfl, _, ⟨_, _, _, _, _, _, _, _, Hr.out.go Hb.out, rfl⟩, fun c hc => .inl hc, Tch.of Hb.out, an.below Hb.out Hr.out.blk⟩
 | true =>
 cases hd : win dst 0 7 with
 | false =>
  clear hq
  go_wp2_with (go_at_call 54; refine (bx _ _).mono ?_; (first | rw [hf] | rw [hd]); rintro e w' ⟨rfl, rfl⟩)
  exact bodyPost_ret (results_none rfl _ _ _) rfl ⟨rfl, _, ⟨_, _, _, _, _, _, _, _, Hr.out.go Hb.out, rfl⟩, fun c hc => .inl hc, Tch.of Hb.out, an.below Hb.out Hr.out.blk⟩
 | true =>
 by_cases h0 : names.length = 0
 ·have i1 : ((names.length : Int) == 0) = true := beq_iff_eq.2 (by omega)
  clear hq h0
  go_wp2_with (go_at_call 54; refine (bx _ _).mono ?_; (first | rw [hf] | rw [hd]); rintro e w' ⟨rfl, rfl⟩)
  exact bodyPost_ret (results_none rfl _ _ _) rfl ⟨rfl, _, ⟨_, _, _, _, _, _, _, _, Hr.out.go Hb.out, rfl⟩, fun c hc => .inl hc, Tch.of Hb.out, an.below Hb.out Hr.out.blk⟩
 have i1 : ((names.length : Int) == 0) = false := beq_eq_false_iff_ne.2 (by omega)
 by_cases h2 : x.sent.length = 12
 ·have i2 : ((x.sent.length : Int) == 12) = true := by simp; omega
  clear hq h0 h2
  go_wp2_with (go_at_call 54; refine (bx _ _).mono ?_; (first | rw [hf] | rw [hd]); rintro e w' ⟨rfl, rfl⟩)
  exact bodyPost_ret (results_none rfl _ _ _) rfl ⟨rfl, _, ⟨_, _, _, _, _, _, _, _, Hr.out.go Hb.out, rfl⟩, fun c hc => .inl hc, Tch.of Hb.out, an.below Hb.out Hr.out.blk⟩
 have i2 : ((x.sent.length : Int) == 12) = false := by simp; omega
 by_cases h3 : x.made = 999
 ·have i3 : (x.made == 999) = true := by simp; omega
  clear hq h0 h2 h3
  go_wp2_with (go_at_call 54; refine (bx _ _).mono ?_; (first | rw [hf] | rw [hd]); rintro e w' ⟨rfl, rfl⟩)
  exact bodyPost_ret (results_none rfl _ _ _) rfl ⟨rfl, _, ⟨_, _, _, _, _, _, _, _, Hr.out.go Hb.out, rfl⟩, fun c hc => .inl hc, Tch.of Hb.out, an.below Hb.out Hr.out.blk⟩
 exact absurd ⟨hf, hd, fun e => h0 (by rw [e]; rfl), by omega, by omega⟩ hq
theorem tQ (B rb ro : Nat) (x : Wd) (F : List Nat) (fr dst path : Int) (w : World) (h : Rn B w rb ro x F) (hx : VD 0 x) (hB : B ≤ w.heap.size) (hf : win fr 0 7 = true) (hd : win dst 0 7 = true) (hp : az path ≠ []) (hn : x.sent.length < 12) (hm : x.made < 999) :
  Calls Tryz.prog 63 #[.pointer (some ⟨rb, ro, none⟩), .int .i64 fr, .int .i64 dst, .int .i64 path] w (dY B w rb ro F [] (cS ⟨x.mixes, x.sent ++ [⟨fr, dst, x.sent.length⟩], x.net, x.got, x.made + 1, x.lost⟩ ((az path).getD 0 0) (kI x.sent.length fr dst path) false)) := by
 obtain ⟨j0, ji, jz0, jz1, jz2⟩ := info_parts aV
 obtain ⟨k00, li, lz0, lz1, lz2⟩ := info_parts gO
 have hpk : pkB (kI x.sent.length fr dst path) = true := lW (by omega) hf hp
 have HLim := hid (show Lim ⟨x.mixes, x.sent ++ [⟨fr, dst, x.sent.length⟩], x.net, x.got, x.made + 1, x.lost⟩ from by have := hx.lim; have h1 := hx.l0; have h2 := hx.l1; have h3 := hx.md; unfold Lim at *; dsimp only at *; omega)
 obtain ⟨m0, m1, _, _⟩ := hx.lim
 have hmd := hx.l0
 have hmd1 := hx.l1
 have hnn := hx.nn
 have iwm : IntKind.i64.wrap (x.made + 1) = x.made + 1 := aS (by omega)
 have hmem := jT (k := path)
 have hlen := fX path
 rw [show kI x.sent.length fr dst path = bZ (7 + 41 * (x.sent.length : Int)) (bp (az path)) (az path) dst [fr, (x.sent.length : Int)] from rfl] at hpk ⊢
 have hsb : ∀ y ∈ az path, win (ak (100 + 37 * y) 5) 1 996 = true := fun y hy => by
  obtain ⟨h1, h2⟩ := hmem y hy
  exact bz (ar.2 (by omega)) (by decide)
 obtain ⟨n0, hn0, hg0, hl1, i1⟩ : ∃ n0, (az path).getD 0 0 = n0 ∧ (az path)[0]? = some n0 ∧ 1 ≤ (az path).length ∧ (((az path).length : Int) == 0) = false := by
  cases h : az path with
  | nil => exact absurd h hp
  | cons a l => exact ⟨a, rfl, rfl, by simp, beq_eq_false_iff_ne.2 (by simp only [List.length_cons]; omega)⟩
 rw [hn0]
 have Hg0 := hid hg0
 clear hn0 hg0
 obtain ⟨vm, vs, vn, vg, Fm, Fs, Fn, Fg, hr, rfl⟩ := h
 obtain ⟨Gs, rfl, os⟩ := ap hr.es
 obtain rfl := am cN os
 obtain ⟨As, cs, rfl, _, _, _⟩ := os.form
 clear os
 obtain ⟨g0, g1, g2, g3, g4, g5, _⟩ := hr.cells (Tch.refl [] _) (by simp)
 have i2 : ((x.sent.length : Int) == 12) = false := beq_eq_false_iff_ne.2 (by omega)
 have i3 : (x.made == 999) = false := beq_eq_false_iff_ne.2 (by omega)
 have Hr := hid hr
 clear hr hx
 go_enter Tryz.func63, Tryz.ntmps63
 go_wp2_with fail
 refine (lz path _).mono ?_
 rintro e w1 ⟨vp, rfl, np, hb1⟩
 obtain ⟨Ap, cp, rfl⟩ := np.form
 obtain ⟨k0, k1, k2, k3, k4, k5, _⟩ := (Hr.out.go hb1).cells (Tch.refl [] _) (by simp)
 have Hb1 := hid hb1; have Np := hid np
 clear np hb1 g0 g1 g2 g3 g4 g5 hp
 generalize az path = names at *
 go_wp2_with (go_at_call 54; refine (bx _ _).mono ?_; (first | rw [hf] | rw [hd]); rintro e w' ⟨rfl, rfl⟩)
 go_loopw [10, 12, 49] (fun pv _ iv wr => ∃ j : Nat, j ≤ names.length ∧ iv = .int .i64 j ∧ Own ae 3 w1.heap.size wr pv (bp (names.take j)) [] ∧ Below w1.heap.size w1 wr) (fun _ _ iv _ => names.length - (intOf iv).toNat)
 case atStart => exact ⟨0, by omega, rfl, bP (w := w1) (Nat.le_refl _), (Below.refl _ _).alloc (Nat.le_refl _) _⟩
 case round =>
  obtain ⟨j, hj, rfl, ho, hb⟩ := hrel
  by_cases hlt : j < names.length
  ·obtain ⟨y, hy⟩ := ah hlt
   obtain ⟨y0, y1⟩ := hmem y (List.mem_of_getElem? hy)
   obtain ⟨ky, rfl⟩ := Int.eq_ofNat_of_zero_le y0
   have hky : ky < 3 := by omega
   obtain ⟨bb, ob, rfl, hbz, _, hcx⟩ := (Np.out.go hb).slB.int hy
   have Ht := hid (show bp (names.take (j + 1)) = bp (names.take j) ++ [ak (bm ky) 5] from by rw [ax hy]; simp [bp, bm])
   have hpl : (bp (names.take j)).length = j := by rw [bR, List.length_take]; omega
   have Hpl := hid hpl
   have Hb := hid hb; have Ho := hid ho
   have hsz := hb.size
   clear hy hb ho hpl
   go_wp2_with (first
    | (go_at_call 48; refine (gn ky (by omega) _).mono ?_; rintro e w' ⟨rfl, rfl⟩)
    | (go_at_call 89; refine (kZ _ _ (pR hky)).mono ?_; rintro e w' ⟨rfl, rfl⟩)
    | (at_builtin; go_loud (refine aD rfl (.tmp 53) (.tmp 57) 38 rfl ae ai (B := w1.heap.size) Tryz.underlying38 ji jz0 jz1 jz2 rfl (by decide) (by decide) (v := u10) rfl (Ho.out.below (lit_below _ _) (Nat.le_refl _)) _ 1 1 rfl (Sl.box' (T := ae) (x := ak (bm ky) 5) wr.heap.size rfl ⟨rfl, rfl⟩) ?_ ?_ ?_; (rw [Hpl.out]; simp; omega); (simp; omega); intro v2 w2 ho2 hg2 hv2; have hb2 : Below w1.heap.size w1 w2 := ((Hb.out.alloc hsz _)).grown hg2 (by simp; omega) (fun q hq => (Ho.out.top q hq).1))))
   go_roundw
   case rel => exact ⟨j + 1, by omega, by go_num, by rw [Ht.out]; exact ho2, hb2⟩
   case measure => simp [intOf]; omega
  ·have Ha := hid (aI hj hlt)
   rw [aI hj hlt] at ho
   obtain ⟨Aq, cq, rfl, _, _, _⟩ := ho.form
   have Ho := hid ho; have Hb := hid hb
   clear ho hb
   go_wp2_with fail
   refine (oB (7 + 41 * (x.sent.length : Int)) dst _ _ _ (bp names) names [fr, (x.sent.length : Int)] _ (Ho.out.slB.go (lit_below _ _)) ((Np.out.go Hb.out).slB.go (lit_below _ _)) (jc [fr, (x.sent.length : Int)] (Nat.zero_le _) (by simp [maxLen])).slB (by rw [bR]; exact hl1) (by rw [bR]; exact hlen) (by rw [bR]) (ar.2 (by omega)) (fun q hq => by
    unfold bp at hq
    obtain ⟨y, hy, rfl⟩ := List.mem_map.1 hq
    exact hsb y hy) (fun q hq => ar.2 (by have := hmem q hq; omega)) hd (by simp) (aT.2 (fun q hq => by
    simp at hq
    rcases hq with rfl | rfl
    ·have := ar.1 hf; omega
    ·omega))).mono ?_
   generalize bZ (7 + 41 * (x.sent.length : Int)) (bp names) names dst [fr, (x.sent.length : Int)] = p at *
   rintro e w5 ⟨vh, vb, rfl, np5, hb5⟩
   obtain ⟨Ah, ch, Ab, cb, rfl, rfl⟩ := cJ np5
   have hW5 : Below w.heap.size w w5 := bt (bt (bt Hb1.out Hb.out) (lit_below _ _)) hb5
   obtain ⟨Fp, hE5, hn5, hF5⟩ := gw (x := ⟨n0, p, false⟩) np5
   replace hF5 : ∀ c ∈ Fp, w.heap.size ≤ c := fun c hc => by
    have h1 := hF5 c hc
    have h2 := Hb1.out.size; have h3 := Hb.out.size
    simp only [World.size_alloc] at h1; omega
   have hl5 := oTr.lt hE5
   have hr5 := Hr.out.go hW5
   obtain ⟨_, o1, _, _⟩ := Np.out
   obtain ⟨gp, rfl, hgp, hgp5, hcp, _⟩ := ((((o1.go Hb.out)).go (lit_below _ (.cells #[.int .i64 fr, .int .i64 x.sent.length] 3))).go hb5).int Hg0.out
   have hrlt := Hr.out.lt
   have s5 := hW5.size
   have hl0 : 0 < names.length := by omega
   have HF5 := hid hF5; have HE5 := hid hE5; have HN5 := hid hn5; have HW5 := hid hW5; have HL5 := hid hl5; have HR5 := hid hr5; have Hrlt := hid hrlt; have HCP := hid hcp
   obtain ⟨g0, g1, g2, g3, g4, g5, _⟩ := hr5.cells (Tch.refl [] _) (by simp)
   have hrb5 := hr5.blk
   have gz1 := hr5.fz (ro + 1); have gz4 := hr5.fz (ro + 4)
   clear np5 hb5 hF5 hE5 hn5 hW5 hl5 hr5 hrlt k0 k1 k2 k3 k4 k5 Ho Hb Np Hb1 Ha o1 hcp
   have OS := hid (qM HR5.out.es)
   go_wp2_with (at_builtin; go_loud (refine aD rfl (.tmp 77) (.tmp 82) 26 rfl tLt cN (B := 0) Tryz.underlying26 li lz0 lz1 lz2 rfl (by decide) (by decide) (v := .slice As x.sent.length cs) rfl ((OS.out.go (lit_below w5 (.cells #[.int .i64 p.el, .slice Ah p.hd.length ch, .int .i64 p.tag, .slice Ab p.bd.length cb] 40))).go (lit_below _ (.cells #[.int .i64 fr, .int .i64 dst, .int .i64 x.sent.length] 35))) (some ⟨w5.heap.size + 1, 0, none⟩) 1 1 rfl (Sl.box' (T := tLt) (w := w5.alloc (.cells #[.int .i64 p.el, .slice Ah p.hd.length ch, .int .i64 p.tag, .slice Ab p.bd.length cb] 40)) (x := (⟨fr, dst, x.sent.length⟩ : Lt)) (cs := [.int .i64 fr, .int .i64 dst, .int .i64 x.sent.length]) (w5.heap.size + 1) (by simp) ⟨rfl, rfl⟩) ?_ ?_ ?_; (simp; omega); (exact Nat.zero_le _); intro v9 w9 ho9 hg9 hv9; obtain ⟨A9, c9, e9, _, _, _⟩ := ho9.form; rw [show (x.sent ++ [(⟨fr, dst, x.sent.length⟩ : Lt)]).length = x.sent.length + 1 from by simp] at e9; subst e9; have HT9 := hid (Tch.grown (S := (Value.slice As x.sent.length cs).ownBlock.toList ++ []) hg9 (fun k hk _ => List.mem_append_left _ (aM.2 hk))); obtain ⟨k0, k1, k2, k3, k4, k5, k6, kz⟩ := ((HR5.out.go (lit_below w5 (.cells #[.int .i64 p.el, .slice Ah p.hd.length ch, .int .i64 p.tag, .slice Ab p.bd.length cb] 40))).go (lit_below _ (.cells #[.int .i64 fr, .int .i64 dst, .int .i64 x.sent.length] 35))).cells HT9.out HR5.out.nb.2.1; have kz1 := kz (ro + 1); have kz4 := kz (ro + 4); have HO9 := hid ho9; have HV9 := hid hv9; have s9 := hg9.size; simp only [World.size_alloc] at s9; clear ho9 hg9 hv9 kz g0 g1 g2 g3 g4 g5 gz1 gz4))
   have hr8 := (HR5.out.go (lit_below w5 (.cells #[.int .i64 p.el, .slice Ah p.hd.length ch, .int .i64 p.tag, .slice Ab p.bd.length cb] 40))).go (lit_below _ (.cells #[.int .i64 fr, .int .i64 dst, .int .i64 x.sent.length] 35))
   have s8 : ((w5.alloc (.cells #[.int .i64 p.el, .slice Ah p.hd.length ch, .int .i64 p.tag, .slice Ab p.bd.length cb] 40)).alloc (.cells #[.int .i64 fr, .int .i64 dst, .int .i64 x.sent.length] 35)).heap.size = w5.heap.size + 1 + 1 := by simp
   obtain ⟨hr9, hf9⟩ := hr8.pushSent (s8 := w5.heap.size + 1 + 1) HT9.out HO9.out (by rw [← s8]; exact HV9.out) (by omega) (by omega)
   have hr10 := hr9.made (x.made + 1)
   have nb := HR5.out.nb.2.1
   have hne : ∀ c, w.heap.size ≤ c → c < w5.heap.size + 1 + 1 → c ≠ rb ∧ c ∉ (Value.slice As x.sent.length cs).ownBlock.toList ++ [] := fun c h1 _ => ⟨fun e => by have := Hrlt.out rb List.mem_cons_self; omega, fun hm => by have := Hrlt.out c (by simp only [List.mem_cons, List.mem_append] at hm ⊢; exact .inr (.inr (.inl hm))); omega⟩
   have blk : ∀ c, w.heap.size ≤ c → c < w5.heap.size + 1 + 1 → ((w9.setCell ⟨rb, ro + 1, none⟩ (.slice A9 (x.sent.length + 1) c9)).setCell ⟨rb, ro + 4, none⟩ (.int .i64 (x.made + 1))).heap[c]? = ((w5.alloc (.cells #[.int .i64 p.el, .slice Ah p.hd.length ch, .int .i64 p.tag, .slice Ab p.bd.length cb] 40)).alloc (.cells #[.int .i64 fr, .int .i64 dst, .int .i64 x.sent.length] 35)).heap[c]? := fun c h1 h2 => (Below.heap_setCell _ _ _ _ (hne c h1 h2).1).trans ((Below.heap_setCell _ _ _ _ (hne c h1 h2).1).trans (HT9.out.block c (by rw [s8]; exact h2) (hne c h1 h2).2))
   have ePK := (blk w5.heap.size s5 (by omega)).trans (heap_go (lit_below (w5.alloc (.cells #[.int .i64 p.el, .slice Ah p.hd.length ch, .int .i64 p.tag, .slice Ab p.bd.length cb] 40)) (.cells #[.int .i64 fr, .int .i64 dst, .int .i64 x.sent.length] 35)) (heap_alloc_new w5 (.cells #[.int .i64 p.el, .slice Ah p.hd.length ch, .int .i64 p.tag, .slice Ab p.bd.length cb] 40)))
   have hcp := (World.cell?_of_block (w := (w5.alloc (.cells #[.int .i64 p.el, .slice Ah p.hd.length ch, .int .i64 p.tag, .slice Ab p.bd.length cb] 40)).alloc (.cells #[.int .i64 fr, .int .i64 dst, .int .i64 x.sent.length] 35)) (a := ⟨gp, 0, none⟩) (blk gp hgp (by omega))).trans (((lit_below (w5.alloc (.cells #[.int .i64 p.el, .slice Ah p.hd.length ch, .int .i64 p.tag, .slice Ab p.bd.length cb] 40)) (.cells #[.int .i64 fr, .int .i64 dst, .int .i64 x.sent.length] 35)).cell (p := ⟨gp, 0, none⟩) (by simp only [World.size_alloc]; omega)).trans (((lit_below w5 (.cells #[.int .i64 p.el, .slice Ah p.hd.length ch, .int .i64 p.tag, .slice Ab p.bd.length cb] 40)).cell (p := ⟨gp, 0, none⟩) hgp5).trans HCP.out))
   have hE6 := oTr.keep HE5.out (fun b hb => (blk b (HF5.out b hb) (by have := HL5.out b hb; omega)).trans (((lit_below (w5.alloc (.cells #[.int .i64 p.el, .slice Ah p.hd.length ch, .int .i64 p.tag, .slice Ab p.bd.length cb] 40)) (.cells #[.int .i64 fr, .int .i64 dst, .int .i64 x.sent.length] 35)).block b (by have := HL5.out b hb; simp only [World.size_alloc]; omega)).trans ((lit_below w5 (.cells #[.int .i64 p.el, .slice Ah p.hd.length ch, .int .i64 p.tag, .slice Ab p.bd.length cb] 40)).block b (HL5.out b hb))))
   have hT6 : Tch (rb :: (Fm ++ ((Value.slice As x.sent.length cs).ownBlock.toList ++ [] ++ (Fn ++ Fg)))) w ((w9.setCell ⟨rb, ro + 1, none⟩ (.slice A9 (x.sent.length + 1) c9)).setCell ⟨rb, ro + 4, none⟩ (.int .i64 (x.made + 1))) :=
    ((((((Tch.of HW5.out).trans (Tch.of (lit_below w5 (.cells #[.int .i64 p.el, .slice Ah p.hd.length ch, .int .i64 p.tag, .slice Ab p.bd.length cb] 40)))).trans (Tch.of (lit_below _ (.cells #[.int .i64 fr, .int .i64 dst, .int .i64 x.sent.length] 35)))).trans (HT9.out.mono (fun b hb => by simp only [List.mem_cons, List.mem_append] at hb ⊢; exact .inr (.inr (.inl hb)))))).setCell (p := ⟨rb, ro + 1, none⟩) (.inl List.mem_cons_self) _).setCell (p := ⟨rb, ro + 4, none⟩) (.inl List.mem_cons_self) _
   have hK6 : an rb ro w ((w9.setCell ⟨rb, ro + 1, none⟩ (.slice A9 (x.sent.length + 1) c9)).setCell ⟨rb, ro + 4, none⟩ (.int .i64 (x.made + 1))) :=
    (((((an.below HW5.out Hr.out.blk).trans (an.below (lit_below w5 (.cells #[.int .i64 p.el, .slice Ah p.hd.length ch, .int .i64 p.tag, .slice Ab p.bd.length cb] 40)) hrb5)).trans (an.below (lit_below _ (.cells #[.int .i64 fr, .int .i64 dst, .int .i64 x.sent.length] 35)) (by simp only [World.size_alloc]; omega))).trans (an.tch HT9.out nb (by simp only [World.size_alloc]; omega))).set (by omega) _).set (by omega) _
   have s10 : ((w9.setCell ⟨rb, ro + 1, none⟩ (.slice A9 (x.sent.length + 1) c9)).setCell ⟨rb, ro + 4, none⟩ (.int .i64 (x.made + 1))).heap.size = w9.heap.size := by simp only [aj]
   have HD := hid (show ∀ c ∈ Fp, B ≤ c ∧ c ∉ rb :: (Fm ++ ((Value.slice A9 (x.sent.length + 1) c9).ownBlock.toList ++ ([] ++ []) ++ (Fn ++ Fg))) from fun c hc => ⟨by have := HF5.out c hc; omega, fun hm => by
    have h1 := HF5.out c hc; have h2 := HL5.out c hc
    simp only [List.mem_cons, List.mem_append] at hm
    have hlt := Hrlt.out
    simp only [List.mem_cons, List.mem_append] at hlt
    rcases hm with h | h | h | h | h
    ·have := hlt c (.inl h); omega
    ·have := hlt c (.inr (.inl h)); omega
    ·rcases hf9 c (by simp only [List.mem_append]; exact h) with h3 | h3
     ·have := hlt c (.inr (.inr (.inl (by simpa only [List.mem_append] using h3)))); omega
     ·omega
    ·have := hlt c (.inr (.inr (.inr (.inl h)))); omega
    ·have := hlt c (.inr (.inr (.inr (.inr h)))); omega⟩)
   have HF6 := hid (show ∀ c ∈ rb :: (Fm ++ ((Value.slice A9 (x.sent.length + 1) c9).ownBlock.toList ++ ([] ++ []) ++ (Fn ++ Fg))), c ∈ rb :: (Fm ++ ((Value.slice As x.sent.length cs).ownBlock.toList ++ [] ++ (Fn ++ Fg))) ∨ w.heap.size ≤ c from fun c hc => by
    simp only [List.mem_cons, List.mem_append] at hc ⊢
    rcases hc with h | h | h | h | h
    ·exact .inl (.inl h)
    ·exact .inl (.inr (.inl h))
    ·rcases hf9 c (by simp only [List.mem_append]; exact h) with h3 | h3
     ·exact .inl (.inr (.inr (.inl (by simpa only [List.mem_append] using h3))))
     ·exact .inr (by omega)
    ·exact .inl (.inr (.inr (.inr (.inl h))))
    ·exact .inl (.inr (.inr (.inr (.inr h)))))
   have Hrn := hid (show Rn B _ rb ro _ _ from ⟨_, _, _, _, _, _, _, _, hr10, rfl⟩)
   have HE6 := hid hE6; have HT6 := hid hT6; have HK6 := hid hK6
   clear hr8 hr9 hr10 hf9 hne blk hE6 hT6 hK6 k0 k1 k2 k3 k4 k5 kz1 kz4 s8 OS HO9 HV9 HT9
   generalize (w9.setCell ⟨rb, ro + 1, none⟩ (.slice A9 (x.sent.length + 1) c9)).setCell ⟨rb, ro + 4, none⟩ (.int .i64 (x.made + 1)) = W6 at *
   have hgp6 : gp < W6.heap.size := by omega
   have HS6 := hid (fun (wx : World) (hT : Tch [] W6 wx) => And.intro (aQ (hT.row ePK (by simp))) (And.intro (hT.cell hcp (by simp)) (show gp < wx.heap.size by have := hT.size; omega)))
   clear ePK hcp
   refine rgN [] 7 (by kernel_rfl) rfl (fun | none, _, _, _, _ => id | some _, _, _, _, _ => id) fun wd hHeld hbwd swd => ?_
   simp only [pw]
   refine tr 0 HS6.out rfl (by kernel_rfl) rfl (fun _ f => by go_simp; try with_reducible rfl) ?_
   refine tr 1 HS6.out rfl (by kernel_rfl) rfl (fun _ f => by go_simp; try with_reducible rfl) ?_
   refine tr 2 HS6.out rfl (by kernel_rfl) rfl (fun _ f => by go_simp; try with_reducible rfl) ?_
   try simp only [pw]
   refine tr 3 HS6.out rfl (by kernel_rfl) rfl (fun _ f => by go_simp; try with_reducible rfl) ?_
   refine tr 4 HS6.out rfl (by kernel_rfl) rfl (fun _ f => by go_simp; try with_reducible rfl) ?_
   refine tr 5 HS6.out rfl (by kernel_rfl) rfl (fun _ f => by go_simp; try with_reducible rfl) ?_
   try simp only [pw]
   refine rz 6 (by kernel_rfl) rfl fun K hK => ?_
   go_simp
   (have swd2 := hHeld.size; go_at_call 64; refine (gV B rb ro ⟨x.mixes, x.sent ++ [⟨fr, dst, x.sent.length⟩], x.net, x.got, x.made + 1, x.lost⟩ _ Fp ⟨n0, p, false⟩ Ah Ab ch cb _ (Hrn.out.go hHeld.nil) HLim.out hnn (by omega) (oTr.keep HE6.out (fun b hb => hHeld.nil.block b (oTr.lt HE6.out b hb))) HN5.out HD.out).mono ?_; rintro e w7 ⟨rfl, F7, hr7, hF7, ht7, hk7⟩)
   refine hK.out _ _ ?_
   clear hK K
   have hF6 := HF6.out
   exact bodyPost_end (results_none rfl _ _ _) rfl ⟨rfl, F7, hr7, fun c hc => by
    rcases hF7 c hc with h | h | h
    ·exact (hF6 c h).imp id .inr
    ·exact .inr (.inr (HF5.out c h))
    ·exact .inr (.inr (by omega)), (HT6.out.trans (Tch.of hHeld.nil)).seq ht7 hF6, (HK6.out.trans (an.below hHeld.nil Hrn.out.blk)).trans hk7⟩
theorem uU (B rb ro : Nat) (x : Wd) (F : List Nat) (fr dst path : Int) (w : World) (h : Rn B w rb ro x F) (hx : VD 0 x) (hB : B ≤ w.heap.size) :
  Calls Tryz.prog 63 #[.pointer (some ⟨rb, ro, none⟩), .int .i64 fr, .int .i64 dst, .int .i64 path] w (dY B w rb ro F [] (cU x fr dst path)) := by
 unfold cU
 by_cases hq : win fr 0 7 = true ∧ win dst 0 7 = true ∧ az path ≠ [] ∧ x.sent.length < 12 ∧ x.made < 999
 ·rw [if_pos hq]
  obtain ⟨h1, h2, h3, h4, h5⟩ := hq
  exact tQ B rb ro x F fr dst path w h hx hB h1 h2 h3 h4 h5
 ·rw [if_neg hq]
  exact tR B rb ro x F fr dst path w h hx hq
end Go.Proofs.YtfmibcofgckldaaGreatDoor
