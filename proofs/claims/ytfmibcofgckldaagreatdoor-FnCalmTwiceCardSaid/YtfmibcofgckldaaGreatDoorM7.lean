/- Texts that the last file leans on (part 7). -/
import Derived.Test.YtfmibcofgckldaaGreatDoorM0
import Derived.Test.YtfmibcofgckldaaGreatDoorM5
set_option linter.unusedVariables false
set_option linter.unusedSimpArgs false
set_option maxHeartbeats 4000000
set_option maxRecDepth 100000
namespace Go.Proofs.YtfmibcofgckldaaGreatDoor
open Go Go.RowKit
theorem aE {w : World} {n t : Nat} {a b c : Value} (h : w.heap[n]? = some (.cells #[a, b, c] t (0, 0))) :
  w.cell? ⟨n, 0, none⟩ = some a ∧ w.cell? ⟨n, 1, none⟩ = some b ∧ w.cell? ⟨n, 2, none⟩ = some c ∧ ∀ j, w.frozen? ⟨n, j, none⟩ = false :=
 ⟨by rw [cell_of_row w n 0 _ _ _ h]; rfl, by rw [cell_of_row w n 1 _ _ _ h]; rfl, by rw [cell_of_row w n 2 _ _ _ h]; rfl, fun j => frozen_of_row w n j _ _ h⟩
theorem du (w : World) (p q : Addr) (u : Value) (h : q.block ≠ p.block) : (w.setCell p u).cell? q = w.cell? q := World.cell?_of_block (w := w) (Below.heap_setCell _ _ _ _ h)
theorem qK {α : Type} {T : Ty α} {e B : Nat} {w : World} (h : B ≤ w.heap.size) : be T e B (w.alloc (.cells #[] e)) (.slice (some ⟨w.heap.size, 0, none⟩) 0 0) [] :=
 ⟨[], ⟨[], World.ownsRow_made w #[] 0 h (by simp [maxLen]) (by simp), ⟨rfl, rfl⟩, fun _ _ h => by cases h⟩, List.nodup_nil, fun _ h => by cases h⟩
theorem lc (v : Value) (xs : List Pl) (w : World) (h : SlB tPl w.heap.size w v xs) (hl : xs.length ≤ 1073741824) (hs : ∀ x ∈ xs, x.pk.hd.length ≤ 1073741824 ∧ x.pk.bd.length ≤ 1073741824) :
  Calls Tryz.prog 79 #[v] w fun e w' => ∃ v', e = .returned v' ∧ be oPl 102 w.heap.size w' v' xs ∧ Below w.heap.size w w' := by
 obtain ⟨i0, hi, hz0, hz1, hz2⟩ := info_parts iB
 obtain ⟨A, c, rfl, h1, h2, h3⟩ := h.form
 have H := hid (fun (wx : World) (hb : Below w.heap.size w wx) => h.go hb)
 have Hs := hid hs
 clear h2 h hs
 go_enter Tryz.func79, Tryz.ntmps79
 go_wp2_with fail
 go_loopw [3, 4] (fun ov i wr => ∃ j : Nat, j ≤ xs.length ∧ i = .int .i64 j ∧ be oPl 102 w.heap.size wr ov (xs.take j) ∧ Below w.heap.size w wr) (fun _ i _ => xs.length - (intOf i).toNat)
 case atStart => exact ⟨0, by omega, rfl, qK (Nat.le_refl _), lit_below _ _⟩
 case round =>
  obtain ⟨j, hj, rfl, ho, hb⟩ := hrel
  have Ho := hid ho; have Hb := hid hb
  have hsz := hb.size
  by_cases hlt : j < xs.length
  ·obtain ⟨x, hx⟩ := ah hlt
   obtain ⟨bb, o, vh, vb, rfl, hbB, hbz, hvh, hvb, k0, k1, k2, k3, k4, k5⟩ := (H.out _ hb).pl hx
   have Hx := hid hx
   have hsx := Hs.out x (List.mem_of_getElem? hx)
   obtain ⟨Ah, ch, rfl, _, _, _⟩ := hvh.form
   obtain ⟨Ab, cb, rfl, _, _, _⟩ := hvb.form
   have Hvh := hid hvh; have Hvb := hid hvb
   clear hx ho hb hvh hvb
   go_wp2_with fail
   refine (fK x.pk _ _ _ (Hvh.out.go (lit_below _ _)) (Hvb.out.go (lit_below _ _)) hsx.1 hsx.2).mono ?_
   rintro e w1 ⟨uh, ub, rfl, n1, hb1⟩
   obtain ⟨A1, d1, A2, d2, rfl, rfl⟩ := cJ n1
   have e1 := heap_go hb1 (heap_alloc_new wr _)
   have sb := (Array.getElem?_eq_some_iff.1 e1).1
   obtain ⟨q0, q1, q2, q3, q4, q5, qf⟩ := al e1
   have qf2 := qf 2; have qf3 := qf 3; have qf4 := qf 4; have qf5 := qf 5
   have N1 := hid n1; have Hb1 := hid (bt (lit_below wr _) hb1)
   clear n1 hb1 e1 qf k0 k1 k2 k3 k4 k5
   go_wp2_with (at_builtin; go_loud (refine nO rfl (.tmp 21) (.tmp 23) 55 rfl oPl Tryz.underlying55 hi hz0 hz1 hz2 rfl (by decide) [.int .i64 x.kind, .int .i64 x.next, .int .i64 x.pk.el, .slice A1 x.pk.hd.length d1, .int .i64 x.pk.tag, .slice A2 x.pk.bd.length d2] (v := u3) rfl Ho.out ((((Hb1.out.setCell (by dsimp only; omega) _).setCell (by dsimp only; omega) _).setCell (by dsimp only; omega) _).setCell (by dsimp only; omega) _) ((gv ((((N1.out.set (by simp)).set (by simp)).set (by simp)).set (by simp))).base (by simp)) rfl _ (by simp [aj]) rfl ?_ ?_ hsz ?_; (simp; omega); (simp [maxLen]; omega); intro v2 w2 n2 hg2 hb2))
   have HB2 := hid ((Hb.out.trans (((((Hb1.out.setCell (p := ⟨wr.heap.size, 2, none⟩) (by dsimp only; omega) (.int .i64 x.pk.el)).setCell (p := ⟨wr.heap.size, 3, none⟩) (by dsimp only; omega) (.slice A1 x.pk.hd.length d1)).setCell (p := ⟨wr.heap.size, 4, none⟩) (by dsimp only; omega) (.int .i64 x.pk.tag)).setCell (p := ⟨wr.heap.size, 5, none⟩) (by dsimp only; omega) (.slice A2 x.pk.bd.length d2)).mono hsz)).trans ((((Below.refl _ _).alloc (by simp [aj]; omega) _)).trans hb2))
   have N2 := hid n2
   clear n2 hb2 hg2
   go_roundw
   case rel => exact ⟨j + 1, by omega, by go_num, by rw [ax Hx.out]; exact N2.out, HB2.out⟩
   case measure => simp [intOf]; omega
  ·have Ha := hid (aI hj hlt)
   clear ho hb
   go_wp2
   go_ret
   exact ⟨_, rfl, by rw [← Ha.out]; exact Ho.out, Hb.out⟩
theorem dE (m : Mx) (vs vp : Value) (w : World) (h1 : SlB ae w.heap.size w vs m.seen) (h2 : SlB tPl w.heap.size w vp m.pool) (l1 : m.seen.length ≤ 1073741824) (l2 : m.pool.length ≤ 1073741824) (hs : ∀ x ∈ m.pool, x.pk.hd.length ≤ 1073741824 ∧ x.pk.bd.length ≤ 1073741824) :
  Calls Tryz.prog 49 #[.agg #[.int .i64 m.sec, vs, vp]] w fun e w' => ∃ us up, e = .returned (.agg #[.int .i64 m.sec, us, up]) ∧ ao oMx w.heap.size w' [.int .i64 m.sec, us, up] m ∧ Below w.heap.size w w' := by
 obtain ⟨i0, hi, hz0, hz1, hz2⟩ := info_parts aV
 have H1 := hid (fun (wx : World) (hb : Below w.heap.size w wx) => h1.go hb)
 have H2 := hid (fun (wx : World) (hb : Below w.heap.size w wx) => h2.go hb)
 obtain ⟨As, cs, rfl, _, _, _⟩ := h1.form
 obtain ⟨Ap, cp, rfl, _, _, _⟩ := h2.form
 clear h1 h2
 go_enter Tryz.func49, Tryz.ntmps49
 go_wp2_with fail
 have Hs := hid hs
 have e0 := heap_alloc_new w (.cells #[.int .i64 m.sec, .slice As m.seen.length cs, .slice Ap m.pool.length cp] 57)
 have e1 := heap_alloc_new (w.alloc (.cells #[.int .i64 m.sec, .slice As m.seen.length cs, .slice Ap m.pool.length cp] 57)) (.cells #[.int .i64 0, .slice none 0 0, .slice none 0 0] 57)
 rw [World.size_alloc] at e1
 have e0 := heap_go (lit_below _ (.cells #[.int .i64 0, .slice none 0 0, .slice none 0 0] 57)) e0
 have hW0 : Below w.heap.size w ((w.alloc (.cells #[.int .i64 m.sec, .slice As m.seen.length cs, .slice Ap m.pool.length cp] 57)).alloc (.cells #[.int .i64 0, .slice none 0 0, .slice none 0 0] 57)) := by repeat (first | exact Below.refl _ _ | apply ab | refine bA ?_ (by omega) | refine Below.setCell ?_ (by first | omega | simp <;> omega) _)
 have sW0 : ((w.alloc (.cells #[.int .i64 m.sec, .slice As m.seen.length cs, .slice Ap m.pool.length cp] 57)).alloc (.cells #[.int .i64 0, .slice none 0 0, .slice none 0 0] 57)).heap.size = w.heap.size + 1 + 1 := by simp
 generalize ((w.alloc (.cells #[.int .i64 m.sec, .slice As m.seen.length cs, .slice Ap m.pool.length cp] 57)).alloc (.cells #[.int .i64 0, .slice none 0 0, .slice none 0 0] 57)) = W0 at *
 have HS := hid (fun (wx : World) (hb : Below W0.heap.size W0 wx) => (⟨bt hW0 hb, (aE (heap_go hb e0)).1, (aE (heap_go hb e0)).2.1, (aE (heap_go hb e0)).2.2.1⟩ : (fun w' : World => Below w.heap.size w w' ∧ (w'.cell? ⟨w.heap.size, 0, none⟩ = some (.int .i64 m.sec) ∧ w'.cell? ⟨w.heap.size, 1, none⟩ = some (.slice As m.seen.length cs) ∧ w'.cell? ⟨w.heap.size, 2, none⟩ = some (.slice Ap m.pool.length cp))) wx))
 have HZ := hid (fun (wx : World) (h : (fun w' : World => Below w.heap.size w w' ∧ (w'.cell? ⟨w.heap.size, 0, none⟩ = some (.int .i64 m.sec) ∧ w'.cell? ⟨w.heap.size, 1, none⟩ = some (.slice As m.seen.length cs) ∧ w'.cell? ⟨w.heap.size, 2, none⟩ = some (.slice Ap m.pool.length cp))) wx) (a b c : Value) => (⟨(((h.1.setCell (p := ⟨w.heap.size + 1, 0, none⟩) (by simp) a).setCell (p := ⟨w.heap.size + 1, 1, none⟩) (by simp) b).setCell (p := ⟨w.heap.size + 1, 2, none⟩) (by simp) c), by rw [du _ _ _ _ (by simp), du _ _ _ _ (by simp), du _ _ _ _ (by simp)]; exact h.2.1, by rw [du _ _ _ _ (by simp), du _ _ _ _ (by simp), du _ _ _ _ (by simp)]; exact h.2.2.1, by rw [du _ _ _ _ (by simp), du _ _ _ _ (by simp), du _ _ _ _ (by simp)]; exact h.2.2.2⟩ : (fun w' : World => Below w.heap.size w w' ∧ (w'.cell? ⟨w.heap.size, 0, none⟩ = some (.int .i64 m.sec) ∧ w'.cell? ⟨w.heap.size, 1, none⟩ = some (.slice As m.seen.length cs) ∧ w'.cell? ⟨w.heap.size, 2, none⟩ = some (.slice Ap m.pool.length cp))) (((wx.setCell ⟨w.heap.size + 1, 0, none⟩ a).setCell ⟨w.heap.size + 1, 1, none⟩ b).setCell ⟨w.heap.size + 1, 2, none⟩ c)))
 refine rh (S := (fun w' : World => Below w.heap.size w w' ∧ (w'.cell? ⟨w.heap.size, 0, none⟩ = some (.int .i64 m.sec) ∧ w'.cell? ⟨w.heap.size, 1, none⟩ = some (.slice As m.seen.length cs) ∧ w'.cell? ⟨w.heap.size, 2, none⟩ = some (.slice Ap m.pool.length cp)))) 11 (by kernel_rfl) rfl (fun | none, _, _, _, _ => id | some _, _, _, _, _ => id) ?_ (fun hHeld => ?_)
 ·(try dsimp only); first | assumption | exact HS.out _ (Below.refl _ _).drew | exact HS.out _ ((lit_below _ _).drew) | exact HS.out _ ((lit_below _ _).drew.drew) | exact HS.out _ HB2.out | exact HS.out _ HB3.out | exact HZ.out _ (HS.out _ HB3.out) _ _ _ | trace_state
 simp only [pw]
 refine ts 0 rfl (by kernel_rfl) rfl (fun _ f => by (try dsimp only at f); go_simp; try with_reducible rfl) ?_
 refine ts 1 rfl (by kernel_rfl) rfl (fun _ f => by (try dsimp only at f); go_simp; try with_reducible rfl) ?_
 refine ts 3 rfl (by kernel_rfl) rfl (fun _ f => by (try dsimp only at f); go_simp; try with_reducible rfl) ?_
 try simp only [pw]
 refine ts 4 rfl (by kernel_rfl) rfl (fun _ f => by (try dsimp only at f); go_simp; try with_reducible rfl) ?_
 refine ts 6 rfl (by kernel_rfl) rfl (fun _ f => by (try dsimp only at f); go_simp; try with_reducible rfl) ?_
 refine ts 7 rfl (by kernel_rfl) rfl (fun _ f => by (try dsimp only at f); go_simp; try with_reducible rfl) ?_
 try simp only [pw]
 refine rq 2 (by kernel_rfl) rfl fun K hK => ?_
 go_simp
 skip
 refine hK.out _ _ ?_ (fun hHeld => ?_)
 ·(try dsimp only); first | assumption | exact HS.out _ (Below.refl _ _).drew | exact HS.out _ ((lit_below _ _).drew) | exact HS.out _ ((lit_below _ _).drew.drew) | exact HS.out _ HB2.out | exact HS.out _ HB3.out | exact HZ.out _ (HS.out _ HB3.out) _ _ _ | trace_state
 clear hK K
 refine rq 5 (by kernel_rfl) rfl fun K hK => ?_
 (refine bL rfl (.tmp 5) (.tmp 7) 38 rfl ae ai (B := w.heap.size + 1 + 1) Tryz.underlying38 hi hz0 hz1 hz2 rfl (by decide) (by decide) (v := .slice (some ⟨w.heap.size + 1 + 1, 0, none⟩) 0 0) rfl (((fI (w.heap.size + 1 + 1) sW0.symm (Nat.le_refl _)).below (ab (Below.refl _ _)) (Nat.le_refl _))) As m.seen.length cs rfl (slE (H1.out _ (And.left (by assumption)))) (by simp; omega) (by simp [sW0]) ?_; intro v2 w2 ho2 hg2 hv2; rw [List.nil_append] at ho2; obtain ⟨A2, c2, rfl, _, _⟩ := ho2.formN rfl; have HB2 := hid ((lit_below W0 _).drew.grown hg2 (by simp) (fun q hq => by simp [Value.ownBlock] at hq; omega)); have O2 := hid ho2)
 refine hK.out _ _ ?_ (fun hHeld => ?_)
 ·(try dsimp only); first | assumption | exact HS.out _ (Below.refl _ _).drew | exact HS.out _ ((lit_below _ _).drew) | exact HS.out _ ((lit_below _ _).drew.drew) | exact HS.out _ HB2.out | exact HS.out _ HB3.out | exact HZ.out _ (HS.out _ HB3.out) _ _ _ | trace_state
 clear hK K
 refine rq 8 (by kernel_rfl) rfl fun K hK => ?_
 go_simp
 (go_at_call 79; refine (lc _ m.pool _ (H2.out _ (And.left (by assumption))) l2 Hs.out).mono ?_; rintro e w3 ⟨v3, rfl, n3, hb3⟩; obtain ⟨A3, c3, rfl, _, _, _⟩ := n3.slB.form; have N3 := hid n3; have Hb3 := hid hb3; have HB3 : Hid (Below W0.heap.size W0 w3) := hid (by first | exact bt HB2.out hb3 | exact bt HB2.out.drew hb3); obtain ⟨q0, q1, q2, qf⟩ := aE (heap_go HB3.out e1); have qf0 := qf 0; have qf1 := qf 1; have qf2 := qf 2; have I2 := ng (⟨[], O2.out, List.nodup_nil, fun _ h => by cases h⟩ : be ae 3 (w.heap.size + 1 + 1) w2 (.slice A2 m.seen.length c2) m.seen); have I3 := hid (show cZ bK (w.heap.size + 1 + 1) w2.heap.size w3 [.slice A2 m.seen.length c2] m.seen from (by first | exact I2.inn.go hb3 (Nat.le_refl _) | exact (I2.inn.go (Below.refl w2.heap.size w2).drew (Nat.le_refl _)).go hb3 (Nat.le_refl _))); clear n3 hb3 qf I2)
 refine hK.out _ _ ?_ (fun hHeld => ?_)
 ·(try dsimp only); first | assumption | exact HS.out _ (Below.refl _ _).drew | exact HS.out _ ((lit_below _ _).drew) | exact HS.out _ ((lit_below _ _).drew.drew) | exact HS.out _ HB2.out | exact HS.out _ HB3.out | exact HZ.out _ (HS.out _ HB3.out) _ _ _ | trace_state
 clear hK K
 refine ts 9 rfl (by kernel_rfl) rfl (fun _ f => by (try dsimp only at f); go_simp; try with_reducible rfl) ?_
 try simp only [pw]
 refine rq 10 (by kernel_rfl) rfl fun K hK => ?_
 go_simp
 skip
 refine hK.out _ _ ?_ (fun hHeld => ?_)
 ·(try dsimp only); first | assumption | exact HS.out _ (Below.refl _ _).drew | exact HS.out _ ((lit_below _ _).drew) | exact HS.out _ ((lit_below _ _).drew.drew) | exact HS.out _ HB2.out | exact HS.out _ HB3.out | exact HZ.out _ (HS.out _ HB3.out) _ _ _ | trace_state
 clear hK K
 refine dm (by kernel_rfl) ?_
 have hS2 : w.heap.size + 1 + 1 ≤ w2.heap.size := by have := HB2.out.size; omega
 go_wp2
 refine bodyPost_ret (v := .agg #[.int .i64 m.sec, .slice A2 m.seen.length c2, .slice A3 m.pool.length c3]) (by simp [results, go_sem, q0, q1, q2]) rfl ⟨_, _, rfl, ?_, ?_⟩
 ·refine ao.base (B := w.heap.size + 1 + 1) ?_ (by omega)
  repeat (refine ao.set ?_ (by dsimp only; omega))
  exact me I3.out (dO N3.out) hS2
 ·exact (((hW0.trans (HB3.out.mono (by omega))).setCell (by dsimp only; omega) _).setCell (by dsimp only; omega) _).setCell (by dsimp only; omega) _
end Go.Proofs.YtfmibcofgckldaaGreatDoor
