/- Texts that the last file leans on (part 6). -/
import Derived.BigQuiet
import Derived.Deep.DeepCutAuto
import Derived.Deep.QuietTactic
import Derived.Test.YtfaeojmndaplcaaGreatDoorM0
import Derived.Test.YtfaeojmndaplcaaGreatDoorM4
set_option linter.unusedVariables false
set_option linter.unusedSimpArgs false
set_option maxHeartbeats 4000000
set_option maxRecDepth 100000
namespace Go.Proofs.YtfaeojmndaplcaaGreatDoor
open Go Go.RowKit
theorem aN {w : World} {n t : Nat} {a b c : Value} (h : w.heap[n]? = some (.cells #[a, b, c] t (0, 0))) :
  w.cell? ⟨n, 0, none⟩ = some a ∧ w.cell? ⟨n, 1, none⟩ = some b ∧ w.cell? ⟨n, 2, none⟩ = some c ∧ ∀ j, w.frozen? ⟨n, j, none⟩ = false :=
 ⟨by rw [cell_of_row w n 0 _ _ _ h]; rfl, by rw [cell_of_row w n 1 _ _ _ h]; rfl, by rw [cell_of_row w n 2 _ _ _ h]; rfl, fun j => frozen_of_row w n j _ _ h⟩
theorem dW (w : World) (p q : Addr) (u : Value) (h : q.block ≠ p.block) : (w.setCell p u).cell? q = w.cell? q := World.cell?_of_block (w := w) (Below.heap_setCell _ _ _ _ h)
theorem uL {α : Type} {T : Ty α} {e B : Nat} {w : World} (h : B ≤ w.heap.size) : bF T e B (w.alloc (.cells #[] e)) (.slice (some ⟨w.heap.size, 0, none⟩) 0 0) [] :=
 ⟨[], ⟨[], World.ownsRow_made w #[] 0 h (by simp [maxLen]) (by simp), ⟨rfl, rfl⟩, fun _ _ h => by cases h⟩, List.nodup_nil, fun _ h => by cases h⟩
theorem oC (v : Value) (xs : List Pl) (w : World) (h : SlB tPl w.heap.size w v xs) (hl : xs.length ≤ 1073741824) (hs : ∀ x ∈ xs, x.pk.hd.length ≤ 1073741824 ∧ x.pk.bd.length ≤ 1073741824) :
  Calls Tryz.prog 118 #[v] w fun e w' => ∃ v', e = .returned v' ∧ bF oPl 144 w.heap.size w' v' xs ∧ Below w.heap.size w w' := by
 obtain ⟨i0, hi, hz0, hz1, hz2⟩ := info_parts mu
 obtain ⟨A, c, rfl, h1, h2, h3⟩ := h.form
 have H := hid (fun (wx : World) (hb : Below w.heap.size w wx) => h.go hb)
 have Hs := hid hs
 clear h2 h hs
 go_enter Tryz.func118, Tryz.ntmps118
 go_wp2_with fail
 go_loopw [3, 4] (fun ov i wr => ∃ j : Nat, j ≤ xs.length ∧ i = .int .i64 j ∧ bF oPl 144 w.heap.size wr ov (xs.take j) ∧ Below w.heap.size w wr) (fun _ i _ => xs.length - (intOf i).toNat)
 case atStart => exact ⟨0, by omega, rfl, uL (Nat.le_refl _), ab _ _⟩
 case round =>
  obtain ⟨j, hj, rfl, ho, hb⟩ := hrel
  have Ho := hid ho; have Hb := hid hb
  have hsz := hb.size
  by_cases hlt : j < xs.length
  ·obtain ⟨x, hx⟩ := ai hlt
   obtain ⟨bb, o, vh, vb, rfl, hbB, hbz, hvh, hvb, k0, k1, k2, k3, k4, k5⟩ := (H.out _ hb).pl hx
   have Hx := hid hx
   have hsx := Hs.out x (List.mem_of_getElem? hx)
   obtain ⟨Ah, ch, rfl, _, _, _⟩ := hvh.form
   obtain ⟨Ab, cb, rfl, _, _, _⟩ := hvb.form
   have Hvh := hid hvh; have Hvb := hid hvb
   clear hx ho hb hvh hvb
   go_wp2_with fail
   refine (iQ x.pk _ _ _ (Hvh.out.go (ab _ _)) (Hvb.out.go (ab _ _)) hsx.1 hsx.2).mono ?_
   rintro e w1 ⟨uh, ub, rfl, n1, hb1⟩
   obtain ⟨A1, d1, A2, d2, rfl, rfl⟩ := eQ n1
   have e1 := ac hb1 (heap_alloc_new wr _)
   have sb := (zn e1)
   obtain ⟨q0, q1, q2, q3, q4, q5, qf⟩ := aC e1
   have qf2 := qf 2; have qf3 := qf 3; have qf4 := qf 4; have qf5 := qf 5
   have N1 := hid n1; have Hb1 := hid (bt (ab wr _) hb1)
   clear n1 hb1 e1 qf k0 k1 k2 k3 k4 k5
   go_wp2_with (at_builtin; go_loud (refine q9 rfl (.tmp 21) (.tmp 23) 68 rfl oPl Tryz.underlying68 hi hz0 hz1 hz2 rfl (by decide) [.int .i64 x.kind, .int .i64 x.next, .int .i64 x.pk.el, .slice A1 x.pk.hd.length d1, .int .i64 x.pk.tag, .slice A2 x.pk.bd.length d2] (v := u3) rfl Ho.out ((((Hb1.out.setCell (by dsimp only; omega) _).setCell (by dsimp only; omega) _).setCell (by dsimp only; omega) _).setCell (by dsimp only; omega) _) ((kT ((((N1.out.set (by simp)).set (by simp)).set (by simp)).set (by simp))).base (by simp)) rfl _ (by simp [al]) rfl ?_ ?_ hsz ?_; (simp; omega); (simp [maxLen]; omega); intro v2 w2 n2 hg2 hb2))
   have HB2 := hid ((Hb.out.trans (((((Hb1.out.setCell (p := ⟨wr.heap.size, 2, none⟩) (by dsimp only; omega) (.int .i64 x.pk.el)).setCell (p := ⟨wr.heap.size, 3, none⟩) (by dsimp only; omega) (.slice A1 x.pk.hd.length d1)).setCell (p := ⟨wr.heap.size, 4, none⟩) (by dsimp only; omega) (.int .i64 x.pk.tag)).setCell (p := ⟨wr.heap.size, 5, none⟩) (by dsimp only; omega) (.slice A2 x.pk.bd.length d2)).mono hsz)).trans (((zm.alloc (by simp [al]; omega) _)).trans hb2))
   have N2 := hid n2
   clear n2 hb2 hg2
   go_roundw
   case rel => exact ⟨j + 1, by omega, by go_num, by rw [aK Hx.out]; exact N2.out, HB2.out⟩
   case measure => simp [intOf]; omega
  ·have Ha := hid (aV hj hlt)
   clear ho hb
   go_wp2
   go_ret
   exact ⟨_, rfl, by rw [← Ha.out]; exact Ho.out, Hb.out⟩
theorem eD (m : Mx) (vs vp : Value) (w : World) (h1 : SlB af w.heap.size w vs m.seen) (h2 : SlB tPl w.heap.size w vp m.pool) (l1 : m.seen.length ≤ 1073741824) (l2 : m.pool.length ≤ 1073741824) (hs : ∀ x ∈ m.pool, x.pk.hd.length ≤ 1073741824 ∧ x.pk.bd.length ≤ 1073741824) :
  Calls Tryz.prog 70 #[.agg #[.int .i64 m.sec, vs, vp]] w fun e w' => ∃ us up, e = .returned (.agg #[.int .i64 m.sec, us, up]) ∧ aJ oMx w.heap.size w' [.int .i64 m.sec, us, up] m ∧ Below w.heap.size w w' := by
 obtain ⟨i0, hi, hz0, hz1, hz2⟩ := info_parts bi
 have H1 := hid (fun (wx : World) (hb : Below w.heap.size w wx) => h1.go hb)
 have H2 := hid (fun (wx : World) (hb : Below w.heap.size w wx) => h2.go hb)
 obtain ⟨As, cs, rfl, _, _, _⟩ := h1.form
 obtain ⟨Ap, cp, rfl, _, _, _⟩ := h2.form
 clear h1 h2
 go_enter Tryz.func70, Tryz.ntmps70
 go_wp2_with fail
 have Hs := hid hs
 have e0 := heap_alloc_new w (.cells #[.int .i64 m.sec, .slice As m.seen.length cs, .slice Ap m.pool.length cp] 70)
 have e1 := heap_alloc_new (w.alloc (.cells #[.int .i64 m.sec, .slice As m.seen.length cs, .slice Ap m.pool.length cp] 70)) (.cells #[.int .i64 0, .slice none 0 0, .slice none 0 0] 70)
 rw [World.size_alloc] at e1
 have e0 := ac (ab _ (.cells #[.int .i64 0, .slice none 0 0, .slice none 0 0] 70)) e0
 have hW0 : Below w.heap.size w ((w.alloc (.cells #[.int .i64 m.sec, .slice As m.seen.length cs, .slice Ap m.pool.length cp] 70)).alloc (.cells #[.int .i64 0, .slice none 0 0, .slice none 0 0] 70)) := by repeat (first | exact zm | apply ae | refine bA ?_ (by omega) | refine Below.setCell ?_ (by first | omega | simp <;> omega) _)
 have sW0 : ((w.alloc (.cells #[.int .i64 m.sec, .slice As m.seen.length cs, .slice Ap m.pool.length cp] 70)).alloc (.cells #[.int .i64 0, .slice none 0 0, .slice none 0 0] 70)).heap.size = w.heap.size + 1 + 1 := by simp
 generalize ((w.alloc (.cells #[.int .i64 m.sec, .slice As m.seen.length cs, .slice Ap m.pool.length cp] 70)).alloc (.cells #[.int .i64 0, .slice none 0 0, .slice none 0 0] 70)) = W0 at *
 have HS := hid (fun (wx : World) (hb : Below W0.heap.size W0 wx) => (⟨bt hW0 hb, (aN (ac hb e0)).1, (aN (ac hb e0)).2.1, (aN (ac hb e0)).2.2.1⟩ : (fun w' : World => Below w.heap.size w w' ∧ (w'.cell? ⟨w.heap.size, 0, none⟩ = some (.int .i64 m.sec) ∧ w'.cell? ⟨w.heap.size, 1, none⟩ = some (.slice As m.seen.length cs) ∧ w'.cell? ⟨w.heap.size, 2, none⟩ = some (.slice Ap m.pool.length cp))) wx))
 have HZ := hid (fun (wx : World) (h : (fun w' : World => Below w.heap.size w w' ∧ (w'.cell? ⟨w.heap.size, 0, none⟩ = some (.int .i64 m.sec) ∧ w'.cell? ⟨w.heap.size, 1, none⟩ = some (.slice As m.seen.length cs) ∧ w'.cell? ⟨w.heap.size, 2, none⟩ = some (.slice Ap m.pool.length cp))) wx) (a b c : Value) => (⟨(((h.1.setCell (p := ⟨w.heap.size + 1, 0, none⟩) (by simp) a).setCell (p := ⟨w.heap.size + 1, 1, none⟩) (by simp) b).setCell (p := ⟨w.heap.size + 1, 2, none⟩) (by simp) c), by rw [dW _ _ _ _ (by simp), dW _ _ _ _ (by simp), dW _ _ _ _ (by simp)]; exact h.2.1, by rw [dW _ _ _ _ (by simp), dW _ _ _ _ (by simp), dW _ _ _ _ (by simp)]; exact h.2.2.1, by rw [dW _ _ _ _ (by simp), dW _ _ _ _ (by simp), dW _ _ _ _ (by simp)]; exact h.2.2.2⟩ : (fun w' : World => Below w.heap.size w w' ∧ (w'.cell? ⟨w.heap.size, 0, none⟩ = some (.int .i64 m.sec) ∧ w'.cell? ⟨w.heap.size, 1, none⟩ = some (.slice As m.seen.length cs) ∧ w'.cell? ⟨w.heap.size, 2, none⟩ = some (.slice Ap m.pool.length cp))) (((wx.setCell ⟨w.heap.size + 1, 0, none⟩ a).setCell ⟨w.heap.size + 1, 1, none⟩ b).setCell ⟨w.heap.size + 1, 2, none⟩ c)))
 refine rh (S := (fun w' : World => Below w.heap.size w w' ∧ (w'.cell? ⟨w.heap.size, 0, none⟩ = some (.int .i64 m.sec) ∧ w'.cell? ⟨w.heap.size, 1, none⟩ = some (.slice As m.seen.length cs) ∧ w'.cell? ⟨w.heap.size, 2, none⟩ = some (.slice Ap m.pool.length cp)))) 11 (by kernel_rfl) rfl (fun | none, _, _, _, _ => id | some _, _, _, _, _ => id) ?_ (fun hH => ?_)
 ·(try dsimp only); first | assumption | exact HS.out _ zm.drew | exact HS.out _ ((ab _ _).drew) | exact HS.out _ ((ab _ _).drew.drew) | exact HS.out _ HB2.out | exact HS.out _ HB3.out | exact HZ.out _ (HS.out _ HB3.out) _ _ _ | trace_state
 simp only [pw]
 refine ts 0 rfl (by kernel_rfl) rfl (fun _ f => by (try dsimp only at f); go_simp; try with_reducible rfl) ?_
 refine ts 1 rfl (by kernel_rfl) rfl (fun _ f => by (try dsimp only at f); go_simp; try with_reducible rfl) ?_
 refine ts 3 rfl (by kernel_rfl) rfl (fun _ f => by (try dsimp only at f); go_simp; try with_reducible rfl) ?_
 try simp only [pw]
 refine ts 4 rfl (by kernel_rfl) rfl (fun _ f => by (try dsimp only at f); go_simp; try with_reducible rfl) ?_
 refine ts 6 rfl (by kernel_rfl) rfl (fun _ f => by (try dsimp only at f); go_simp; try with_reducible rfl) ?_
 refine ts 7 rfl (by kernel_rfl) rfl (fun _ f => by (try dsimp only at f); go_simp; try with_reducible rfl) ?_
 try simp only [pw]
 refine rq 2 (by kernel_rfl) rfl fun K hK => ?_
 go_simp
 skip
 refine hK.out _ _ ?_ (fun hH => ?_)
 ·(try dsimp only); first | assumption | exact HS.out _ zm.drew | exact HS.out _ ((ab _ _).drew) | exact HS.out _ ((ab _ _).drew.drew) | exact HS.out _ HB2.out | exact HS.out _ HB3.out | exact HZ.out _ (HS.out _ HB3.out) _ _ _ | trace_state
 clear hK K
 refine rq 5 (by kernel_rfl) rfl fun K hK => ?_
 (refine cd rfl (.tmp 5) (.tmp 7) 67 rfl af aj (B := w.heap.size + 1 + 1) Tryz.underlying67 hi hz0 hz1 hz2 rfl (by decide) (by decide) (v := .slice (some ⟨w.heap.size + 1 + 1, 0, none⟩) 0 0) rfl (((iO (w.heap.size + 1 + 1) sW0.symm (Nat.le_refl _)).below (ae zm) (Nat.le_refl _))) As m.seen.length cs rfl (slE (H1.out _ (And.left (by assumption)))) (by simp; omega) (by simp [sW0]) ?_; intro v2 w2 ho2 hg2 hv2; rw [List.nil_append] at ho2; obtain ⟨A2, c2, rfl, _, _⟩ := ho2.formN rfl; have HB2 := hid ((ab W0 _).drew.grown hg2 (by simp) (fun q hq => by simp [Value.ownBlock] at hq; omega)); have O2 := hid ho2)
 refine hK.out _ _ ?_ (fun hH => ?_)
 ·(try dsimp only); first | assumption | exact HS.out _ zm.drew | exact HS.out _ ((ab _ _).drew) | exact HS.out _ ((ab _ _).drew.drew) | exact HS.out _ HB2.out | exact HS.out _ HB3.out | exact HZ.out _ (HS.out _ HB3.out) _ _ _ | trace_state
 clear hK K
 refine rq 8 (by kernel_rfl) rfl fun K hK => ?_
 go_simp
 (go_at_call 118; refine (oC _ m.pool _ (H2.out _ (And.left (by assumption))) l2 Hs.out).mono ?_; rintro e w3 ⟨v3, rfl, n3, hb3⟩; obtain ⟨A3, c3, rfl, _, _, _⟩ := n3.slB.form; have N3 := hid n3; have Hb3 := hid hb3; have HB3 : Hid (Below W0.heap.size W0 w3) := hid (by first | exact bt HB2.out hb3 | exact bt HB2.out.drew hb3); obtain ⟨q0, q1, q2, qf⟩ := aN (ac HB3.out e1); have qf0 := qf 0; have qf1 := qf 1; have qf2 := qf 2; have I2 := qF (⟨[], O2.out, List.nodup_nil, fun _ h => by cases h⟩ : bF af 3 (w.heap.size + 1 + 1) w2 (.slice A2 m.seen.length c2) m.seen); have I3 := hid (show fT ee (w.heap.size + 1 + 1) w2.heap.size w3 [.slice A2 m.seen.length c2] m.seen from (by first | exact I2.inn.go hb3 (Nat.le_refl _) | exact (I2.inn.go (Below.refl w2.heap.size w2).drew (Nat.le_refl _)).go hb3 (Nat.le_refl _))); clear n3 hb3 qf I2)
 refine hK.out _ _ ?_ (fun hH => ?_)
 ·(try dsimp only); first | assumption | exact HS.out _ zm.drew | exact HS.out _ ((ab _ _).drew) | exact HS.out _ ((ab _ _).drew.drew) | exact HS.out _ HB2.out | exact HS.out _ HB3.out | exact HZ.out _ (HS.out _ HB3.out) _ _ _ | trace_state
 clear hK K
 refine ts 9 rfl (by kernel_rfl) rfl (fun _ f => by (try dsimp only at f); go_simp; try with_reducible rfl) ?_
 try simp only [pw]
 refine rq 10 (by kernel_rfl) rfl fun K hK => ?_
 go_simp
 skip
 refine hK.out _ _ ?_ (fun hH => ?_)
 ·(try dsimp only); first | assumption | exact HS.out _ zm.drew | exact HS.out _ ((ab _ _).drew) | exact HS.out _ ((ab _ _).drew.drew) | exact HS.out _ HB2.out | exact HS.out _ HB3.out | exact HZ.out _ (HS.out _ HB3.out) _ _ _ | trace_state
 clear hK K
 refine dm (by kernel_rfl) ?_
 have hS2 : w.heap.size + 1 + 1 ≤ w2.heap.size := by have := HB2.out.size; omega
 go_wp2
 refine bodyPost_ret (v := .agg #[.int .i64 m.sec, .slice A2 m.seen.length c2, .slice A3 m.pool.length c3]) (by simp [results, go_sem, q0, q1, q2]) rfl ⟨_, _, rfl, ?_, ?_⟩
 ·refine aJ.base (B := w.heap.size + 1 + 1) ?_ (by omega)
  repeat (refine aJ.set ?_ (by dsimp only; omega))
  exact tf I3.out (qG N3.out) hS2
 ·exact (((hW0.trans (HB3.out.mono (by omega))).setCell (by dsimp only; omega) _).setCell (by dsimp only; omega) _).setCell (by dsimp only; omega) _
def nB : Pl := ⟨0, 0, ⟨0, [], 0, []⟩⟩
def ma (w : World) (r : Option Pl) (e : Ending) (w' : World) : Prop :=
 ∃ vh vb, e = .returned (.tuple #[.agg #[.int .i64 (r.getD nB).kind, .int .i64 (r.getD nB).next, .int .i64 (r.getD nB).pk.el, vh, .int .i64 (r.getD nB).pk.tag, vb], .bool r.isSome]) ∧
  aJ oPl w.heap.size w' [.int .i64 (r.getD nB).kind, .int .i64 (r.getD nB).next, .int .i64 (r.getD nB).pk.el, vh, .int .i64 (r.getD nB).pk.tag, vb] (r.getD nB) ∧ Below w.heap.size w w'
theorem xV (B : Nat) (w : World) : aJ oPl B w [.int .i64 0, .int .i64 0, .int .i64 0, .slice none 0 0, .int .i64 0, .slice none 0 0] nB :=
 kT (x := nB) (pF (p := ⟨0, [], 0, []⟩) (Own.nil _ B) (Own.nil _ B) (Nat.le_refl _) (Nat.le_refl _) (fun _ h => by cases h))
theorem eF {w w' : World} (hb : Below w.heap.size w w') : ma w none (.returned (.tuple #[.agg #[.int .i64 0, .int .i64 0, .int .i64 0, .slice none 0 0, .int .i64 0, .slice none 0 0], .bool false])) w' := ⟨_, _, rfl, xV _ _, hb⟩
theorem kX {s : Int} {p : Pk} (h : ¬ (dy (ao s p.el) p.hd = p.tag ∧ win ((aQ (ao s p.el) p).getD 0 0) 0 1 = true ∧ win ((aQ (ao s p.el) p).getD 1 0) 0 7 = true)) : bJ s p = none := by unfold bJ; dsimp only; rw [if_neg h]
theorem jc {s : Int} {p : Pk} (h : dy (ao s p.el) p.hd = p.tag ∧ win ((aQ (ao s p.el) p).getD 0 0) 0 1 = true ∧ win ((aQ (ao s p.el) p).getD 1 0) 0 7 = true) :
  bJ s p = some ⟨(aQ (ao s p.el) p).getD 0 0, (aQ (ao s p.el) p).getD 1 0, ⟨ao p.el (eC (ao s p.el)), (aQ (ao s p.el) p).drop 3, (aQ (ao s p.el) p).getD 2 0, cR p.bd (ao s p.el)⟩⟩ := by unfold bJ; dsimp only; rw [if_pos h]
set_option maxHeartbeats 6000000 in
theorem qu (s : Int) (p : Pk) (vh vb : Value) (w : World) (h1 : SlB af w.heap.size w vh p.hd) (h2 : SlB af w.heap.size w vb p.bd) (hs : win s 1 996 = true) (hp : pkB p = true) :
  Calls Tryz.prog 164 #[.int .i64 s, .agg #[.int .i64 p.el, vh, .int .i64 p.tag, vb]] w (ma w (bJ s p)) := by
 obtain ⟨i0, hi, hz0, hz1, hz2⟩ := info_parts bi
 obtain ⟨p1, ⟨p2, p3⟩, ⟨p4, p5⟩, p6⟩ := aA.1 hp
 have hk := bQ hs p1
 have H1 := hid (fun (wx : World) (hb : Below w.heap.size w wx) => h1.go hb)
 have H2 := hid (fun (wx : World) (hb : Below w.heap.size w wx) => h2.go hb)
 obtain ⟨Ah, ch, rfl, _, _, _⟩ := h1.form
 obtain ⟨Ab, cb, rfl, _, _, _⟩ := h2.form
 have hno := kX (s := s) (p := p)
 have hyes := jc (s := s) (p := p)
 have hpl : (aQ (ao s p.el) p).length = 12 := by rw [eG, p2]
 have hpn : aM (aQ (ao s p.el) p) = true := dk _ _
 have hpd : aQ (ao s p.el) p = cR (p.hd ++ [0, 0, 0]) (ao s p.el) := rfl
 have hm := hid (show ao s p.el = ao s p.el from rfl)
 generalize hkey : ao s p.el = key at *
 have Hkey := hid hkey
 clear hkey
 have Hno := hid hno; have Hyes := hid hyes; have Hpl := hid hpl; have Hpn := hid hpn; have Hpd := hid hpd
 have Hn9 := hid p3; have Hl9 := hid p2; have Hl6 := hid p4; have Hn6 := hid p5
 clear h1 h2 hno hyes hpl hpn hpd hm p2 p3 p4 p5 p6 hp
 cases ht : (dy key p.hd != p.tag) with
 | true =>
  have hr := Hno.out (fun h => by rw [h.1] at ht; simp at ht)
  rw [hr]
  clear hr
  go_enter Tryz.func164, Tryz.ntmps164
  go_wp2_with (go_at_call 155; refine (cO _ _ _ hs p1).mono ?_; rw [Hkey.out]; rintro e w' ⟨rfl, rfl⟩)
  go_quiet ((go_at_call 209; exact Calls.quiet_of_same (kP key _ p.hd _ _ (by exact H1.out _ (by repeat (first | exact zm | apply ae | refine bA ?_ (by omega) | refine Below.setCell ?_ (by first | omega | simp <;> omega) _))) Hn9.out (by rw [Hl9.out]; omega) hk)))
  go_wp2
  refine bodyPost_ret (v := .tuple #[.agg #[.int .i64 0, .int .i64 0, .int .i64 0, .slice none 0 0, .int .i64 0, .slice none 0 0], .bool false]) (by simp [results, Tryz.results164, go_sem]) rfl (eF ?_)
  repeat (refine Below.setCell ?_ (by dsimp only; omega) _)
  exact below_drewN (by repeat (first | exact zm | apply ae | refine bA ?_ (by omega) | refine Below.setCell ?_ (by first | omega | simp <;> omega) _)) _
 | false =>
  have hteq : dy key p.hd = p.tag := by simpa using ht
  have Hteq := hid hteq
  obtain ⟨a0, x0⟩ := ai (xs := aQ key p) (k := 0) (by rw [Hpl.out]; omega)
  obtain ⟨a1, x1⟩ := ai (xs := aQ key p) (k := 1) (by rw [Hpl.out]; omega)
  obtain ⟨a2, x2⟩ := ai (xs := aQ key p) (k := 2) (by rw [Hpl.out]; omega)
  have G0 := hid (show (aQ key p).getD 0 0 = a0 by simp [List.getD_eq_getElem?_getD, x0])
  have G1 := hid (show (aQ key p).getD 1 0 = a1 by simp [List.getD_eq_getElem?_getD, x1])
  have G2 := hid (show (aQ key p).getD 2 0 = a2 by simp [List.getD_eq_getElem?_getD, x2])
  have X0 := hid x0; have X1 := hid x1; have X2 := hid x2
  clear hteq x0 x1 x2
  have l9 : p.hd.length ≤ 1073741824 := by rw [Hl9.out]; omega
  have l6 : p.bd.length ≤ 1073741824 := by rw [Hl6.out]; omega
  go_enter Tryz.func164, Tryz.ntmps164
  go_wp2_with (go_at_call 155; refine (cO _ _ _ hs p1).mono ?_; rw [Hkey.out]; rintro e w' ⟨rfl, rfl⟩)
  go_quiet ((go_at_call 209; exact Calls.quiet_of_same (kP key _ p.hd _ _ (by exact H1.out _ (by repeat (first | exact zm | apply ae | refine bA ?_ (by omega) | refine Below.setCell ?_ (by first | omega | simp <;> omega) _))) Hn9.out (by rw [Hl9.out]; omega) hk)))
  have hW : Below w.heap.size w (((w.alloc (.cells #[.int .i64 p.el, .slice Ah p.hd.length ch, .int .i64 p.tag, .slice Ab p.bd.length cb] 72)).alloc (.cells #[.int .i64 0, .int .i64 0, .int .i64 0, .slice none 0 0, .int .i64 0, .slice none 0 0] 144)).drewN nq) := below_drewN (by repeat (first | exact zm | apply ae | refine bA ?_ (by omega) | refine Below.setCell ?_ (by first | omega | simp <;> omega) _)) _
  have hs1 : (((w.alloc (.cells #[.int .i64 p.el, .slice Ah p.hd.length ch, .int .i64 p.tag, .slice Ab p.bd.length cb] 72)).alloc (.cells #[.int .i64 0, .int .i64 0, .int .i64 0, .slice none 0 0, .int .i64 0, .slice none 0 0] 144)).drewN nq).heap.size = w.heap.size + 1 + 1 := by simp
  have e0 : (((w.alloc (.cells #[.int .i64 p.el, .slice Ah p.hd.length ch, .int .i64 p.tag, .slice Ab p.bd.length cb] 72)).alloc (.cells #[.int .i64 0, .int .i64 0, .int .i64 0, .slice none 0 0, .int .i64 0, .slice none 0 0] 144)).drewN nq).heap[w.heap.size]? = some (.cells #[.int .i64 p.el, .slice Ah p.hd.length ch, .int .i64 p.tag, .slice Ab p.bd.length cb] 72 (0, 0)) := ac (below_drewN (ab _ _) nq) (heap_alloc_new w _)
  have e1 : (((w.alloc (.cells #[.int .i64 p.el, .slice Ah p.hd.length ch, .int .i64 p.tag, .slice Ab p.bd.length cb] 72)).alloc (.cells #[.int .i64 0, .int .i64 0, .int .i64 0, .slice none 0 0, .int .i64 0, .slice none 0 0] 144)).drewN nq).heap[w.heap.size + 1]? = some (.cells #[.int .i64 0, .int .i64 0, .int .i64 0, .slice none 0 0, .int .i64 0, .slice none 0 0] 144 (0, 0)) := by
   have := heap_alloc_new (w.alloc (.cells #[.int .i64 p.el, .slice Ah p.hd.length ch, .int .i64 p.tag, .slice Ab p.bd.length cb] 72)) (.cells #[.int .i64 0, .int .i64 0, .int .i64 0, .slice none 0 0, .int .i64 0, .slice none 0 0] 144)
   rw [World.size_alloc] at this
   exact this
  obtain ⟨k0, k1, k2, k3, _⟩ := bh e0
  have HW := hid hW; have Hs1 := hid hs1; have E0 := hid e0; have E1 := hid e1
  generalize (((w.alloc (.cells #[.int .i64 p.el, .slice Ah p.hd.length ch, .int .i64 p.tag, .slice Ab p.bd.length cb] 72)).alloc (.cells #[.int .i64 0, .int .i64 0, .int .i64 0, .slice none 0 0, .int .i64 0, .slice none 0 0] 144)).drewN nq) = W1 at *
  clear hW hs1 e0 e1
  have b0 : w.heap.size < W1.heap.size := by have := Hs1.out; omega
  have b1 : w.heap.size + 1 < W1.heap.size := by have := Hs1.out; omega
  go_wp2_with (first
   | (at_builtin; go_loud (refine ay rfl (.tmp 21) (.tmp 23) 67 rfl af aj (B := W1.heap.size) (v := .slice (some ⟨W1.heap.size, 0, none⟩) 0 0) Tryz.underlying67 hi hz0 hz1 hz2 rfl (by decide) (by decide) rfl (iO _ (by simp) (Nat.le_refl _)) Ah p.hd.length ch rfl (slE (H1.out _ (bt HW.out (ab _ _)))) ?_ ?_ ?_; (simp; omega); (first | omega | (simp only [World.size_alloc, al]; omega)); intro v2 w2 ho2 hg2 hv2; rw [List.nil_append] at ho2; have hb2 := (Below.refl (W1.heap.size) _).grown hg2 (by first | omega | (simp; done) | (simp; omega)) (fun q hq => by simp [Value.ownBlock] at hq; omega); obtain ⟨hc2, hf2⟩ := ry hb2; have sz2 := hb2.size; simp at sz2; obtain ⟨A2, c2, rfl, _, _⟩ := ho2.formN rfl; (have Hb2 := hid ((ab W1 _).trans hb2); have O2 := hid ho2; clear ho2 hg2 hv2 hb2 hc2 hf2)))
   | (at_builtin; go_loud (refine ay rfl (.tmp 24) (.tmp 25) 67 rfl af aj (B := W1.heap.size) (v := .slice A2 p.hd.length c2) Tryz.underlying67 hi hz0 hz1 hz2 rfl (by decide) (by decide) rfl (O2.out.go (ab w2 _)) (some ⟨w2.heap.size, 0, none⟩) 3 3 rfl (jf (kR 0 0 0 (Nat.le_refl _))) ?_ ?_ ?_; (simp; have := Hl9.out; omega); (simp only [World.size_alloc]; omega); intro v3 w3 ho3 hg3 hv3; obtain ⟨A3, c3, rfl, _, _⟩ := ho3.formN (n := 12) (by simp [Hl9.out]); have Hb3 := hid ((Hb2.out.trans ((ab w2 _).mono (by omega))).grown hg3 (by simp; omega) (fun q hq => (O2.out.top q hq).1)); have O3 := hid ho3; have sz3 := Hb3.out.size; clear ho3 hg3 hv3))
   | (go_at_call 214; refine (sZ _ (p.hd ++ [0, 0, 0]) key _ O3.out.slB (bI Hn9.out rfl) (by simp [Hl9.out]) hk).mono ?_; rintro e w4 ⟨v4, rfl, n4, hb4⟩))
  rw [← Hpd.out] at n4
  obtain ⟨G4, o4, _, _⟩ := n4
  obtain rfl := au aj o4
  obtain ⟨A4, c4, rfl, _, _⟩ := o4.formN (n := 12) Hpl.out
  obtain ⟨g4, rfl⟩ := o4.addr (by rw [Hpl.out]; omega)
  obtain ⟨_, e', hg4, hg4s, y0, _⟩ := o4.int X0.out
  injection e' with e'; injection e' with e' _; subst e'
  obtain ⟨_, e', _, _, y1, _⟩ := o4.int X1.out
  injection e' with e'; injection e' with e' _; subst e'
  obtain ⟨_, e', _, _, y2, _⟩ := o4.int X2.out
  injection e' with e'; injection e' with e' _; subst e'
  have O4 := hid o4
  have Hb4 := hid (Hb3.out.trans (hb4.mono sz3))
  have sz4 := Hb4.out.size
  have szz := Hs1.out
  have k1' : W1.heap.size ≤ g4 := by omega
  have Y := hid (And.intro y0 (And.intro y1 y2))
  clear o4 hb4 O2 O3 k0 k1 k2 k3 szz
  have K5 := hid (fun (wx : World) (hb : Below w4.heap.size w4 wx) => And.intro hb (And.intro ((hb.cell (p := ⟨g4, 0, none⟩) hg4s).trans y0) ((hb.cell (p := ⟨g4, 1, none⟩) hg4s).trans y1)))
  have K6 := hid (fun (wx : World) (hb : Below w4.heap.size w4 wx) => (hb.cell (p := ⟨g4, 2, none⟩) hg4s).trans y2)
  go_wp2_with fail
  go_region_held3 (fun w' : World => Below w4.heap.size w4 w' ∧ w'.cell? ⟨g4, 0, none⟩ = some (.int .i64 a0) ∧ w'.cell? ⟨g4, 1, none⟩ = some (.int .i64 a1))
   (first | assumption | (refine K5.out _ ?_; (repeat (first | exact zm | refine Below.drew ?_ | refine Below.setCell ?_ (by simp) _ | refine Below.alloc ?_ (by simp) _))))
   (fail)
  have E5 := hid (show (w4.alloc (.cells #[.int .i64 a0, .int .i64 a1, .int .i64 0, .slice none 0 0, .int .i64 0, .slice none 0 0] 144)).heap[w4.heap.size]? = some (.cells #[.int .i64 a0, .int .i64 a1, .int .i64 0, .slice none 0 0, .int .i64 0, .slice none 0 0] 144 (0, 0)) from heap_alloc_new w4 _)
  have bw4 : w.heap.size < w4.heap.size := by omega
  have K7 := hid (fun (wx : World) (hb : Below w4.heap.size w4 wx) => And.intro hb (And.intro (bh (ac (bt Hb4.out hb) E0.out)).1 (And.intro (bh (ac (bt Hb4.out hb) E0.out)).2.2.2.1 (K6.out wx hb))))
  have Hfac := iM key
  have hc12 : (12 : Int) ≤ (c4 : Int) := by have := O4.out.form; obtain ⟨_, _, e, h1, _⟩ := this; injection e with e1 e2 e3; omega
  have hc3 : ¬ c4 = 3 := by omega
  have Hdr := hid (show SlB af w4.heap.size w4 (.slice (some ⟨g4, 3, none⟩) 9 (c4 - 3)) ((aQ key p).drop 3) from by have := O4.out.slB.drop 3 (by omega); simpa [af, Ty.flat] using this)
  have Hd9 := hid (show ((aQ key p).drop 3).length = 9 by simp [Hpl.out])
  clear y0 y1 y2
  go_upto_region 6 with fail
  go_cut [8] (fun s8 wx => s8 = .pointer (some ⟨w4.heap.size, 0, none⟩) ∧ ∃ A6 c6 A7 c7 n w7, Own af 3 (w4.heap.size + 1) w7 (.slice A6 9 c6) ((aQ key p).drop 3) [] ∧ (∀ b, (Value.slice A6 9 c6).ownBlock = some b → b < n) ∧
   bF af 3 n w7 (.slice A7 (cR p.bd key).length c7) (cR p.bd key) ∧ w4.heap.size + 1 ≤ n ∧ Below (w4.heap.size + 1) (w4.alloc (.cells #[.int .i64 a0, .int .i64 a1, .int .i64 0, .slice none 0 0, .int .i64 0, .slice none 0 0] 144)) w7 ∧
   wx = (((w7.setCell ⟨w4.heap.size, 2, none⟩ (.int .i64 (ao p.el (eC key)))).setCell ⟨w4.heap.size, 3, none⟩ (.slice A6 9 c6)).setCell ⟨w4.heap.size, 4, none⟩ (.int .i64 a2)).setCell ⟨w4.heap.size, 5, none⟩ (.slice A7 (cR p.bd key).length c7))
  case first =>
   go_region_held3 (fun w' : World => Below w4.heap.size w4 w' ∧ w'.cell? ⟨w.heap.size, 0, none⟩ = some (.int .i64 p.el) ∧ w'.cell? ⟨w.heap.size, 3, none⟩ = some (.slice Ab p.bd.length cb) ∧ w'.cell? ⟨g4, 2, none⟩ = some (.int .i64 a2))
    (first | assumption | (refine K7.out _ ?_; first | assumption | (repeat (first | exact zm | exact H64.out | exact H74.out | refine Below.drew ?_ | refine Below.setCell ?_ (by simp) _ | refine Below.alloc ?_ (by first | (simp; done) | (simp; omega)) _))))
    (first
     | (go_at_call 210; refine (my key _ hk).mono ?_; rintro e w' ⟨rfl, rfl⟩)
     | (go_at_call 155; refine (cO p.el _ _ p1 Hfac).mono ?_; rintro e w' ⟨rfl, rfl⟩)
     | (go_at_call 214; go_loud (refine (sZ _ p.bd key _ (H2.out _ (bt HW.out (bt Hb4.out (And.left (by assumption))))) Hn6.out (by rw [Hl6.out]; omega) hk).mono ?_; rintro e w7 ⟨v7, rfl, n7, hb7⟩; obtain ⟨A7, c7, rfl, _, _, _⟩ := n7.slB.form; have N7 : Hid (bF af 3 w6.heap.size w7 (.slice A7 (cR p.bd key).length c7) (cR p.bd key)) := hid n7; have Hb7 := hid hb7; have O67 : Hid (Own af 3 (w4.heap.size + 1) w7 (.slice A6 9 c6) ((aQ key p).drop 3) []) := hid (by first | exact O6.out.go hb7 | exact (O6.out.go zm.drew).go hb7 | exact (O6.out.go zm.drew.drew).go hb7); have HB7 : Hid (Below (w4.heap.size + 1) (w4.alloc (.cells #[.int .i64 a0, .int .i64 a1, .int .i64 0, .slice none 0 0, .int .i64 0, .slice none 0 0] 144)) w7) := hid (by first | exact HB6.out.trans (hb7.mono s6) | exact HB6.out.drew.trans (hb7.mono s6) | exact HB6.out.drew.drew.trans (hb7.mono s6)); have H74 := hid ((ab w4 (.cells #[.int .i64 a0, .int .i64 a1, .int .i64 0, .slice none 0 0, .int .i64 0, .slice none 0 0] 144)).trans (HB7.out.mono (by omega))); have e7 := (HB7.out.block w4.heap.size (by omega)).trans E5.out; obtain ⟨r0, r1, r2, r3, r4, r5, rf⟩ := aC e7; have rf2 := rf 2; have rf3 := rf 3; have rf4 := rf 4; have rf5 := rf 5; clear n7 hb7 e7 rf))
     | (go_loud (refine cd rfl (.tmp 41) (.tmp 43) 67 rfl af aj (B := w4.heap.size + 1) Tryz.underlying67 hi hz0 hz1 hz2 rfl (by decide) (by decide) (v := .slice (some ⟨w4.heap.size + 1, 0, none⟩) 0 0) (xs := []) rfl ?_ (some ⟨g4, 3, none⟩) 9 (c4 - 3) rfl (slE (Hdr.out.below (And.left (by assumption)) (Nat.le_refl _))) (by rw [Hd9.out]; simp) (by simp) ?_; (repeat (first | exact iO (w4.heap.size + 1) (by simp) (Nat.le_refl _) | refine own_drew ?_)); intro v6 w6 ho6 hg6 hv6; rw [List.nil_append] at ho6; obtain ⟨A6, c6, rfl, _, _⟩ := ho6.formN Hd9.out; have O6 := hid ho6; have HB6 : Hid (Below (w4.heap.size + 1) (w4.alloc (.cells #[.int .i64 a0, .int .i64 a1, .int .i64 0, .slice none 0 0, .int .i64 0, .slice none 0 0] 144)) w6) := hid ((show Below (w4.heap.size + 1) (w4.alloc (.cells #[.int .i64 a0, .int .i64 a1, .int .i64 0, .slice none 0 0, .int .i64 0, .slice none 0 0] 144)) _ from (by repeat (first | exact zm | refine Below.drew ?_ | refine Below.alloc ?_ (by first | omega | (simp; done) | (simp; omega)) _))).grown hg6 (by simp) (fun q hq => by simp [Value.ownBlock] at hq; omega)); have s6 : w4.heap.size + 1 ≤ w6.heap.size := (by have := HB6.out.size; simpa using this); have H64 := hid ((ab w4 (.cells #[.int .i64 a0, .int .i64 a1, .int .i64 0, .slice none 0 0, .int .i64 0, .slice none 0 0] 144)).trans (HB6.out.mono (by omega))); clear ho6 hg6 hv6)))
   all_goals (go_wp2_with fail; go_meet; exact ⟨rfl, A6, c6, A7, c7, w6.heap.size, w7, O67.out, fun b hb => (O6.out.top b hb).2, N7.out, s6, HB7.out, rfl⟩)
  case rest =>
   obtain ⟨rfl, A6, c6, A7, c7, n, w7, o67, t6, n7, hn, hb7, rfl⟩ := hcut
   have O67 := hid o67; have T6 := hid t6; have N7 := hid n7
   have H74 := hid ((ab w4 (.cells #[.int .i64 a0, .int .i64 a1, .int .i64 0, .slice none 0 0, .int .i64 0, .slice none 0 0] 144)).trans (hb7.mono (by omega)))
   have e7 := (hb7.block w4.heap.size (by omega)).trans E5.out
   obtain ⟨r0, r1, r2, r3, r4, r5, _⟩ := aC e7
   clear o67 t6 n7 hb7 e7
   have eR := ac (bt Hb4.out H74.out) E1.out
   obtain ⟨q0, q1, q2, q3, q4, q5, qf, qf0, qf1, qf2, qf3, qf4, qf5⟩ := bs eR
   have HF := hid (bt HW.out (bt Hb4.out H74.out))
   clear eR qf
   cases hw0 : win a0 0 1 with
   | false =>
    have hr := Hno.out (fun h => by rw [G0.out, hw0] at h; exact absurd h.2.1 (by decide))
    have Hr := hid hr
    clear hr
    go_wp2_with (go_at_call 68; refine (aU _ _ _ _).mono ?_; rw [hw0]; rintro e w' ⟨rfl, rfl⟩)
    refine bodyPost_ret (v := .tuple #[.agg #[.int .i64 0, .int .i64 0, .int .i64 0, .slice none 0 0, .int .i64 0, .slice none 0 0], .bool false]) (by simp [results, Tryz.results164, go_sem, q0, q1, q2, q3, q4, q5]) rfl ?_
    rw [Hr.out]
    refine eF ?_
    repeat (refine Below.setCell ?_ (by dsimp only; omega) _)
    exact HF.out
   | true =>
    cases hw1 : win a1 0 7 with
    | false =>
     have hr := Hno.out (fun h => by rw [G1.out, hw1] at h; exact absurd h.2.2 (by decide))
     have Hr := hid hr
     clear hr
     go_wp2_with (go_at_call 68; first | (with_reducible refine (aU a0 0 1 _).mono ?_; rw [hw0]; rintro e w' ⟨rfl, rfl⟩) | (with_reducible refine (aU a1 0 7 _).mono ?_; rw [hw1]; rintro e w' ⟨rfl, rfl⟩))
     refine bodyPost_ret (v := .tuple #[.agg #[.int .i64 0, .int .i64 0, .int .i64 0, .slice none 0 0, .int .i64 0, .slice none 0 0], .bool false]) (by simp [results, Tryz.results164, go_sem, q0, q1, q2, q3, q4, q5]) rfl ?_
     rw [Hr.out]
     refine eF ?_
     repeat (refine Below.setCell ?_ (by dsimp only; omega) _)
     exact HF.out
    | true =>
     have hr := Hyes.out ⟨Hteq.out, by rw [G0.out]; exact hw0, by rw [G1.out]; exact hw1⟩
     rw [G0.out, G1.out, G2.out] at hr
     have Hr := hid hr
     clear hr
     go_wp2_with (go_at_call 68; first | (with_reducible refine (aU a0 0 1 _).mono ?_; rw [hw0]; rintro e w' ⟨rfl, rfl⟩) | (with_reducible refine (aU a1 0 7 _).mono ?_; rw [hw1]; rintro e w' ⟨rfl, rfl⟩))
     refine bodyPost_ret (v := .tuple #[.agg #[.int .i64 a0, .int .i64 a1, .int .i64 (ao p.el (eC key)), .slice A6 9 c6, .int .i64 a2, .slice A7 (cR p.bd key).length c7], .bool true]) (by simp [results, Tryz.results164, go_sem, q0, q1, q2, q3, q4, q5]) rfl ?_
     rw [Hr.out]
     refine ⟨_, _, rfl, ?_, ?_⟩
     ·refine kT (x := ⟨a0, a1, ⟨ao p.el (eC key), (aQ key p).drop 3, a2, cR p.bd key⟩⟩) (pF (p := ⟨ao p.el (eC key), (aQ key p).drop 3, a2, cR p.bd key⟩) (B1 := w4.heap.size + 1) (B2 := n) ?_ ?_ (by omega) (by omega) T6.out)
      ·repeat (refine ax ?_ (by dsimp only; omega))
       exact O67.out
      ·repeat (refine ax ?_ (by dsimp only; omega))
       obtain ⟨G7, o7, _, _⟩ := N7.out
       obtain rfl := au aj o7
       exact o7
     ·repeat (refine Below.setCell ?_ (by dsimp only; omega) _)
      exact HF.out
end Go.Proofs.YtfaeojmndaplcaaGreatDoor
