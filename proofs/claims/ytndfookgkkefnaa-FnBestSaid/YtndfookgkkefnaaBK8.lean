/- perReceiver: its walk. -/
import Derived.Test.YtndfookgkkefnaaBK7
import Derived.Laws.MakeOwn
namespace Go.Proofs.Ytndfookgkkefnaa
set_option linter.unusedSimpArgs false
set_option linter.unusedVariables false
set_option linter.unusedSectionVars false
open Go Go.Conc Go.RowKit Go.Conc.Lib
open Go.ConcN (WgLive PayAt Has)
open Go.ConcR (KK WgAt stA smA rd wr mk Payload DC0)
theorem cell_alloc (w : World) (v : Value) (t : TypeId) : (w.alloc (.cells #[v] t)).cell? ⟨w.heap.size, 0, none⟩ = some v := by
  unfold World.cell?
  rw [alloc_new]
  rfl
theorem fz_alloc (w : World) (cs : Array Value) (t : TypeId) (i : Nat) : (w.alloc (.cells cs t)).frozen? ⟨w.heap.size, i, none⟩ = false := by
  unfold World.frozen?
  rw [alloc_new]
  rfl
theorem spawn_nil {P : Program} {main : Bool} {b : Frame} {a : Act} {k : List Item} {cs : List Frame} {w : World} {ops : Array Oper} {i : Nat} {rest : List Nat} {o : Oper} {d : Deferred} {f : Fn} {c : Array Value} (ho : ops[i]? = some o) (hw : Region.wanted o (yielded ops a.tmps) = true)
    (hk : b.kind ≠ .early) (hr : (execOp a.eval o).run P w = .ok (.spawn d) w) (hd : d.target = .fn f c) (he : (execOp a.eval o).events P w #[] = #[]) :
    stepG P main (G (b.at a (.inRegion ops (i :: rest) :: k)) cs) w = .spawn (G (b.at (a.put o.dst undef) (.inRegion ops rest :: k)) cs) (born P d) w #[] := by
  rw [stepG_spawn ho hw hk hr hd]
  unfold listed
  rw [he, seen_none]
set_option maxHeartbeats 8000000 in
set_option maxRecDepth 100000 in
theorem perReceiver_c (γ : Gh) (w : World) (v : Value) (xs : List (List Bool)) (s : Nat) (hT : TabI γ w v xs) (h0 : xs ≠ []) (hn : xs.length ≤ 5) (hr : ∀ bs ∈ xs, bs.length = xs.length) (hs : s < xs.length) (hL : Lies γ w) (hp : γ.p = .no) (hCs : ∀ a, ¬ γ.Cs a) :
    CallsI Try.prog true XB 37 #[v, .int .i64 s] γ w fun γ' u w' => Ext γ w γ' w' ∧ Lies γ' w' ∧ (∀ a, ¬ γ'.Cs a) ∧ ∃ b c, u = .slice (some ⟨b, 0, none⟩) xs.length c ∧ γ'.F b ∧ w.heap.size ≤ b ∧ ∀ r, r < xs.length → w'.cell? ⟨b, r, none⟩ = some (.int .i64 (perR xs s r)) := by
  obtain ⟨i0, hi, hz0, hz1, hz2⟩ := info_parts infoInt
  have hlen0 := List.length_pos_iff.2 h0
  obtain ⟨tb, to, tc, rfl, htb, htx⟩ := id hT
  (refine callsI_of Try.func37 (by rfl) rfl ?_; simp only [Try.ntmps37, List.size_toArray, List.length_cons, List.length_nil, Nat.reduceAdd, Nat.reduceSub, Array.replicate_succ, Array.replicate_zero, List.push_toArray, List.append_toArray, List.nil_append, List.cons_append])
  repeat (first | ((first | refine wpI_seq ?_ | refine wpI_block ?_ | refine wpI_skip ?_ | refine wpI_label ?_ | refine wpI_ret ?_ | refine wpI_exit ?_ | refine opI_nil ?_); try simp only [thenI, blkI, if_true, if_false, reduceIte, Nat.reduceEqDiff]) | (refine wpI_region ?_; simp only [List.size_toArray, List.length_cons, List.length_nil, Nat.reduceAdd, Nat.zero_add, List.range, List.range.loop]) | (refine opI_unwanted rfl (by rfl) ?_; try walk_nrm) | (refine opI_k rfl (by rfl) (fun w₁ hR K hK => ?_); skip; go_simp; refine hK _ (fun e he => ?_) ?_; (first | done | ((rw [listed_nil (by simp [go_sem, *])] at he; simp at he))); (try clear hc₁); (clear hK K hR; clear w₁); (try walk_nrm)))
  (refine opI_new (v := fun n => .pointer (some ⟨n, 0, none⟩)) (ob := .cells #[.slice (some ⟨tb, to, none⟩) xs.length tc] 23) rfl (by rfl) (fun w₁ hR => ⟨run_eq_of (fun K hK => (by go_simp; exact hK)), fun e he => (by exfalso; have hm := mem_listed he; simp [go_sem, *] at hm)⟩) fun w₁ hR => ?_)
  have hE1 := Ext.new' hL hR (.cells #[.slice (some ⟨tb, to, none⟩) xs.length tc] 23)
  have hL1 := Lies.new (hL.rely hR) (.cells #[.slice (some ⟨tb, to, none⟩) xs.length tc] 23)
  have c1 := cell_alloc w₁ (.slice (some ⟨tb, to, none⟩) xs.length tc) 23
  have hb1 : w.heap.size ≤ w₁.heap.size := hR.size
  have hcs1 : ∀ a, ¬ (γ.new w₁.heap.size).Cs a := hCs
  have F1 : (γ.new w₁.heap.size).F w₁.heap.size := .inr rfl
  clear hR
  generalize w₁.alloc (.cells #[.slice (some ⟨tb, to, none⟩) xs.length tc] 23) = w1 at hE1 hL1 c1 ⊢
  generalize γ.new w₁.heap.size = γ1 at hE1 hL1 F1 hcs1 ⊢
  generalize w₁.heap.size = b1 at c1 hb1 F1 ⊢
  clear w₁
  walk_nrm
  repeat (first | ((first | refine wpI_seq ?_ | refine wpI_block ?_ | refine wpI_skip ?_ | refine wpI_label ?_ | refine wpI_ret ?_ | refine wpI_exit ?_ | refine opI_nil ?_); try simp only [thenI, blkI, if_true, if_false, reduceIte, Nat.reduceEqDiff]) | (refine wpI_region ?_; simp only [List.size_toArray, List.length_cons, List.length_nil, Nat.reduceAdd, Nat.zero_add, List.range, List.range.loop]) | (refine opI_unwanted rfl (by rfl) ?_; try walk_nrm) | (refine opI_k rfl (by rfl) (fun w₁ hR K hK => ?_); skip; go_simp; refine hK _ (fun e he => ?_) ?_; (first | done | ((rw [listed_nil (by simp [go_sem, *])] at he; simp at he))); (try clear hc₁); (clear hK K hR; clear w₁); (try walk_nrm)))
  (refine opI_new (v := fun n => .pointer (some ⟨n, 0, none⟩)) (ob := .cells #[.int .i64 s] 3) rfl (by rfl) (fun w₁ hR => ⟨run_eq_of (fun K hK => (by go_simp; exact hK)), fun e he => (by exfalso; have hm := mem_listed he; simp [go_sem, *] at hm)⟩) fun w₁ hR => ?_)
  have hE2 := Ext.new' hL1 hR (.cells #[.int .i64 s] 3)
  have hL2 := Lies.new (hL1.rely hR) (.cells #[.int .i64 s] 3)
  have c2 := cell_alloc w₁ (.int .i64 s) 3
  have hcs2 : ∀ a, ¬ (γ1.new w₁.heap.size).Cs a := hcs1
  have F2 : (γ1.new w₁.heap.size).F w₁.heap.size := .inr rfl
  clear hR
  generalize w₁.alloc (.cells #[.int .i64 s] 3) = w2 at hE2 hL2 c2 ⊢
  generalize γ1.new w₁.heap.size = γ2 at hE2 hL2 F2 hcs2 ⊢
  generalize w₁.heap.size = b2 at c2 F2 ⊢
  clear w₁
  replace c1 := (cell_of (a := ⟨b1, 0, none⟩) (hE2.rl.blk b1 F1)).trans c1
  replace F1 := hE2.F b1 F1
  replace hE2 := hE1.trans hE2
  clear hE1 hL1
  walk_nrm
  repeat (first | ((first | refine wpI_seq ?_ | refine wpI_block ?_ | refine wpI_skip ?_ | refine wpI_label ?_ | refine wpI_ret ?_ | refine wpI_exit ?_ | refine opI_nil ?_); try simp only [thenI, blkI, if_true, if_false, reduceIte, Nat.reduceEqDiff]) | (refine wpI_region ?_; simp only [List.size_toArray, List.length_cons, List.length_nil, Nat.reduceAdd, Nat.zero_add, List.range, List.range.loop]) | (refine opI_unwanted rfl (by rfl) ?_; try walk_nrm) | (refine opI_k rfl (by rfl) (fun w₁ hR K hK => ?_); skip; go_simp; refine hK _ (fun e he => ?_) ?_; (first | done | ((rw [listed_nil (by simp [go_sem, *])] at he; simp at he))); (try clear hc₁); (clear hK K hR; clear w₁); (try walk_nrm)))
  (refine opI_k rfl (by rfl) (fun w₁ hR K hK => ?_); have hc₁ := hR.get F1 c1; go_simp; refine hK _ (fun e he => ?_) ?_; (first | done | ((have hm := mem_listed he; simp [go_sem, *] at hm; subst hm; exact Ev.read F1))); (try clear hc₁); (clear hK K hR; clear w₁); (try walk_nrm))
  repeat (first | ((first | refine wpI_seq ?_ | refine wpI_block ?_ | refine wpI_skip ?_ | refine wpI_label ?_ | refine wpI_ret ?_ | refine wpI_exit ?_ | refine opI_nil ?_); try simp only [thenI, blkI, if_true, if_false, reduceIte, Nat.reduceEqDiff]) | (refine wpI_region ?_; simp only [List.size_toArray, List.length_cons, List.length_nil, Nat.reduceAdd, Nat.zero_add, List.range, List.range.loop]) | (refine opI_unwanted rfl (by rfl) ?_; try walk_nrm) | (refine opI_k rfl (by rfl) (fun w₁ hR K hK => ?_); skip; go_simp; refine hK _ (fun e he => ?_) ?_; (first | done | ((rw [listed_nil (by simp [go_sem, *])] at he; simp at he))); (try clear hc₁); (clear hK K hR; clear w₁); (try walk_nrm)))
  have hmk := fun w => run_make (P := Try.prog) w 30 3 i0 (.int .i64 0) (by kernel_rfl) hi hz0 .i64 .i64 xs.length xs.length (by omega) (by omega) (by rw [hz2]; omega) (by omega)
  have hme := fun w es => events_make (P := Try.prog) w 30 3 i0 (.int .i64 0) (by kernel_rfl) hi hz0 .i64 .i64 xs.length xs.length (by omega) (by omega) (by rw [hz2]; omega) (by omega) (by rw [hz2]; simp; omega) es
  refine opI_new (v := fun n => .slice (some ⟨n, 0, none⟩) xs.length xs.length) (ob := .cells (madeCells #[.int .i64 0] xs.length) 3) rfl (by rfl) (fun w₁ hR => ⟨?_, fun e he => ?_⟩) fun w₁ hR => ?_
  · have h := hmk w₁
    refine run_eq_of (fun K hK => ?_)
    go_simp
    exact hK
  · have h := hme w₁
    exfalso
    have hm := mem_listed he
    simp [go_sem, *] at hm
  clear hmk hme
  have hE3 := Ext.new' hL2 hR (.cells (madeCells #[.int .i64 0] xs.length) 3)
  have hL3 := Lies.new (hL2.rely hR) (.cells (madeCells #[.int .i64 0] xs.length) 3)
  have hC : PayAt w₁.heap.size xs.length (w₁.alloc (.cells (madeCells #[.int .i64 0] xs.length) 3)) := ⟨_, alloc_new _ _, by simp [madeCells]⟩
  have FC : (γ2.new w₁.heap.size).F w₁.heap.size ∧ (γ2.new w₁.heap.size).W w₁.heap.size := ⟨.inr rfl, .inr rfl⟩
  have hnC : ¬ γ2.Q w₁.heap.size ∧ ¬ γ2.G w₁.heap.size := by
    have h1 := hR.size
    exact ⟨fun x => by have := (hL2.Q _ (.inl x)).1; omega, fun x => by have := (hL2.Q _ (.inr x)).1; omega⟩
  have hgC : w.heap.size ≤ w₁.heap.size := Nat.le_trans hE2.rl.size hR.size
  have hb12 : b1 < w₁.heap.size ∧ b2 < w₁.heap.size := ⟨Nat.lt_of_lt_of_le (hL2.F _ F1) hR.size, Nat.lt_of_lt_of_le (hL2.F _ F2) hR.size⟩
  have hcs3 : ∀ a, ¬ (γ2.new w₁.heap.size).Cs a := hcs2
  have hγ3 : (γ2.new w₁.heap.size).Q = γ2.Q ∧ (γ2.new w₁.heap.size).G = γ2.G ∧ (γ2.new w₁.heap.size).Cs = γ2.Cs ∧ (γ2.new w₁.heap.size).p = γ2.p := ⟨rfl, rfl, rfl, rfl⟩
  clear hR hcs2
  generalize w₁.alloc (.cells (madeCells #[.int .i64 0] xs.length) 3) = w3 at hE3 hL3 hC ⊢
  generalize γ2.new w₁.heap.size = γ3 at hE3 hL3 FC hγ3 hcs3 ⊢
  generalize w₁.heap.size = C at hC FC hnC hgC hb12 ⊢
  rw [← hγ3.1, ← hγ3.2.1] at hnC
  clear hγ3 w₁
  replace c1 := (cell_of (a := ⟨b1, 0, none⟩) (hE3.rl.blk b1 F1)).trans c1
  replace c2 := (cell_of (a := ⟨b2, 0, none⟩) (hE3.rl.blk b2 F2)).trans c2
  replace F1 := hE3.F b1 F1
  replace F2 := hE3.F b2 F2
  replace hE3 := hE2.trans hE3
  clear hE2 hL2
  walk_nrm
  repeat (first | ((first | refine wpI_seq ?_ | refine wpI_block ?_ | refine wpI_skip ?_ | refine wpI_label ?_ | refine wpI_ret ?_ | refine wpI_exit ?_ | refine opI_nil ?_); try simp only [thenI, blkI, if_true, if_false, reduceIte, Nat.reduceEqDiff]) | (refine wpI_region ?_; simp only [List.size_toArray, List.length_cons, List.length_nil, Nat.reduceAdd, Nat.zero_add, List.range, List.range.loop]) | (refine opI_unwanted rfl (by rfl) ?_; try walk_nrm) | (refine opI_k rfl (by rfl) (fun w₁ hR K hK => ?_); skip; go_simp; refine hK _ (fun e he => ?_) ?_; (first | done | ((rw [listed_nil (by simp [go_sem, *])] at he; simp at he))); (try clear hc₁); (clear hK K hR; clear w₁); (try walk_nrm)))
  (refine opI_new (v := fun n => .pointer (some ⟨n, 0, none⟩)) (ob := .cells #[.slice none 0 0] 30) rfl (by rfl) (fun w₁ hR => ⟨run_eq_of (fun K hK => (by go_simp; exact hK)), fun e he => (by exfalso; have hm := mem_listed he; simp [go_sem, *] at hm)⟩) fun w₁ hR => ?_)
  have hE4 := Ext.new' hL3 hR (.cells #[.slice none 0 0] 30)
  have hL4 := Lies.new (hL3.rely hR) (.cells #[.slice none 0 0] 30)
  have c5 := cell_alloc w₁ (.slice none 0 0) 30
  have z5 := fz_alloc w₁ #[.slice none 0 0] 30 0
  have F5 : (γ3.new w₁.heap.size).F w₁.heap.size ∧ (γ3.new w₁.heap.size).W w₁.heap.size := ⟨.inr rfl, .inr rfl⟩
  have hg5 : w.heap.size ≤ w₁.heap.size ∧ b1 < w₁.heap.size ∧ b2 < w₁.heap.size ∧ C < w₁.heap.size := ⟨Nat.le_trans hE3.rl.size hR.size, Nat.lt_of_lt_of_le (hL3.F _ F1) hR.size, Nat.lt_of_lt_of_le (hL3.F _ F2) hR.size, Nat.lt_of_lt_of_le (hL3.F _ FC.1) hR.size⟩
  have hγ4 : (γ3.new w₁.heap.size).Q = γ3.Q ∧ (γ3.new w₁.heap.size).G = γ3.G := ⟨rfl, rfl⟩
  have hcs4 : ∀ a, ¬ (γ3.new w₁.heap.size).Cs a := hcs3
  clear hR hcs3
  generalize w₁.alloc (.cells #[.slice none 0 0] 30) = w4 at hE4 hL4 c5 z5 ⊢
  generalize γ3.new w₁.heap.size = γ4 at hE4 hL4 F5 hγ4 hcs4 ⊢
  generalize w₁.heap.size = b5 at c5 z5 F5 hg5 ⊢
  rw [← hγ4.1, ← hγ4.2] at hnC
  clear hγ4 w₁
  replace c1 := (cell_of (a := ⟨b1, 0, none⟩) (hE4.rl.blk b1 F1)).trans c1
  replace c2 := (cell_of (a := ⟨b2, 0, none⟩) (hE4.rl.blk b2 F2)).trans c2
  replace hC : PayAt C xs.length w4 := by obtain ⟨cs, h1, h2⟩ := hC; exact ⟨cs, (hE4.rl.blk C FC.1).trans h1, h2⟩
  replace F1 := hE4.F b1 F1
  replace F2 := hE4.F b2 F2
  replace FC : γ4.F C ∧ γ4.W C := ⟨hE4.F C FC.1, hE4.W C FC.2⟩
  replace hE4 := hE3.trans hE4
  clear hE3 hL3
  walk_nrm
  repeat (first | ((first | refine wpI_seq ?_ | refine wpI_block ?_ | refine wpI_skip ?_ | refine wpI_label ?_ | refine wpI_ret ?_ | refine wpI_exit ?_ | refine opI_nil ?_); try simp only [thenI, blkI, if_true, if_false, reduceIte, Nat.reduceEqDiff]) | (refine wpI_region ?_; simp only [List.size_toArray, List.length_cons, List.length_nil, Nat.reduceAdd, Nat.zero_add, List.range, List.range.loop]) | (refine opI_unwanted rfl (by rfl) ?_; try walk_nrm) | (refine opI_k rfl (by rfl) (fun w₁ hR K hK => ?_); skip; go_simp; refine hK _ (fun e he => ?_) ?_; (first | done | ((rw [listed_nil (by simp [go_sem, *])] at he; simp at he))); (try clear hc₁); (clear hK K hR; clear w₁); (try walk_nrm)))
  (refine opI_st (⟨b5, 0, none⟩) (.slice none 0 0) (.slice (some ⟨C, 0, none⟩) xs.length xs.length) rfl (by rfl) c5 z5 ⟨F5.2, F5.1⟩ (fun w₁ hc₁ hz₁ K hK => ?_); go_simp; refine hK _ (fun e he => ?_) ?_; (first | done | (have hm := mem_listed he; simp [go_sem, evS_bool, evS_slice, evS_int, evS_ptr, storedEv, *] at hm; exact hm)); (clear hK K hc₁ hz₁; clear w₁); (try walk_nrm))
  have ne5 : ∀ {b : Nat}, b < b5 → b ≠ (⟨b5, 0, none⟩ : Addr).block := fun h e => by have : _ = b5 := e; omega
  have hE5 := hE4.set hL (x := ⟨b5, 0, none⟩) hg5.1 (.slice (some ⟨C, 0, none⟩) xs.length xs.length)
  have hL5 := hL4.set ⟨b5, 0, none⟩ (.slice (some ⟨C, 0, none⟩) xs.length xs.length)
  have c5' := set_same c5 (.slice (some ⟨C, 0, none⟩) xs.length xs.length)
  replace c1 := (cell_of (a := ⟨b1, 0, none⟩) (set_other (w := w4) (ne5 hg5.2.1) (.slice (some ⟨C, 0, none⟩) xs.length xs.length))).trans c1
  replace c2 := (cell_of (a := ⟨b2, 0, none⟩) (set_other (w := w4) (ne5 hg5.2.2.1) (.slice (some ⟨C, 0, none⟩) xs.length xs.length))).trans c2
  replace hC : PayAt C xs.length (w4.setCell ⟨b5, 0, none⟩ (.slice (some ⟨C, 0, none⟩) xs.length xs.length)) := by obtain ⟨cs, h1, h2⟩ := hC; exact ⟨cs, (set_other (ne5 hg5.2.2.2) _).trans h1, h2⟩
  clear c5 z5 hE4 hL4 ne5
  generalize w4.setCell ⟨b5, 0, none⟩ (.slice (some ⟨C, 0, none⟩) xs.length xs.length) = w5 at *
  clear w4
  repeat (first | ((first | refine wpI_seq ?_ | refine wpI_block ?_ | refine wpI_skip ?_ | refine wpI_label ?_ | refine wpI_ret ?_ | refine wpI_exit ?_ | refine opI_nil ?_); try simp only [thenI, blkI, if_true, if_false, reduceIte, Nat.reduceEqDiff]) | (refine wpI_region ?_; simp only [List.size_toArray, List.length_cons, List.length_nil, Nat.reduceAdd, Nat.zero_add, List.range, List.range.loop]) | (refine opI_unwanted rfl (by rfl) ?_; try walk_nrm) | (refine opI_k rfl (by rfl) (fun w₁ hR K hK => ?_); skip; go_simp; refine hK _ (fun e he => ?_) ?_; (first | done | ((rw [listed_nil (by simp [go_sem, *])] at he; simp at he))); (try clear hc₁); (clear hK K hR; clear w₁); (try walk_nrm)))
  refine opI_newQ (v := fun n => .pointer (some ⟨n, 0, none⟩)) (ob := .cells #[.int .u64 0, .int .u32 0] tWG) rfl (by rfl) (fun w₁ hR => ⟨run_eq_of (fun K hK => (by go_simp; exact hK)), ?_⟩) (fun b hb => hL5.F b (hb.elim id (hL5.W b))) fun w₁ hR => ?_
  · rw [listed_nil]
    simp [go_sem, *]
  have hE6 := hE5.trans (Ext.of_rl hR)
  have hL6 := hL5.rely hR
  have hB : Bx γ w (γ4.newQ w₁.heap.size) (w₁.alloc (.cells #[.int .u64 0, .int .u32 0] tWG)) b1 b2 b5 C xs.length (.slice (some ⟨tb, to, none⟩) xs.length tc) s := by
    have hsz := size_alloc' w₁ (.cells #[.int .u64 0, .int .u32 0] tWG)
    have hr6 := Rl.alloc hL6 (.cells #[.int .u64 0, .int .u32 0] tWG)
    refine ⟨hE6.F, fun b hb => .inl (hE6.Q b hb), hE6.G, hE6.rl.trans (hr6.anyG hE6.F hE6.Cs hE6.Q hE6.G), ⟨fun b hb => ?_, fun y hy => (hcs4 y hy).elim, fun b hb => ?_, hL6.W⟩, F1, F2, F5.1, hr6.get (a := ⟨b1, 0, none⟩) F1 (hR.get F1 c1), hr6.get (a := ⟨b2, 0, none⟩) F2 (hR.get F2 c2), hr6.get (a := ⟨b5, 0, none⟩) F5.1 (hR.get F5.1 c5'), hgC, ⟨fun x => ?_, hnC.2⟩⟩
    · have := hL6.F b hb; omega
    · rcases hb with (hb | rfl) | hb
      · have := hL6.Q b (.inl hb); exact ⟨by omega, this.2⟩
      · exact ⟨by omega, fun x => by have := hL6.F _ x; omega⟩
      · have := hL6.Q b (.inr hb); exact ⟨by omega, this.2⟩
    · rcases x with x | x
      · exact hnC.1 x
      · have := hL6.F C FC.1; omega
  have hP : Pre γ w (γ4.newQ w₁.heap.size) (w₁.alloc (.cells #[.int .u64 0, .int .u32 0] tWG)) C w₁.heap.size xs.length := by
    have hr6 := Rl.alloc hL6 (.cells #[.int .u64 0, .int .u32 0] tWG)
    refine ⟨hE6.W, .inr rfl, alloc_new _ _, FC.2, FC.1, ?_, hcs4, hE6.p.trans hp, hE6.rl.size⟩
    obtain ⟨cs, h1, h2⟩ := hC
    exact ⟨cs, (hr6.blk C FC.1).trans ((hR.blk C FC.1).trans h1), h2⟩
  have h5 : b1 ≠ C ∧ b2 ≠ C ∧ b5 ≠ C := by omega
  clear hE6 hL6 hR hE5 hL5 hC F1 F2 F5 FC c1 c2 c5' hcs4 hnC
  generalize w₁.alloc (.cells #[.int .u64 0, .int .u32 0] tWG) = w6 at hB hP ⊢
  generalize γ4.newQ w₁.heap.size = γ6 at hB hP ⊢
  generalize w₁.heap.size = Wg at hP ⊢
  clear w₁ w5 γ4
  have hF5 := hB.F5
  have hc5 := hB.c5
  walk_nrm
  repeat (first | ((first | refine wpI_seq ?_ | refine wpI_block ?_ | refine wpI_skip ?_ | refine wpI_label ?_ | refine wpI_ret ?_ | refine wpI_exit ?_ | refine opI_nil ?_); try simp only [thenI, blkI, if_true, if_false, reduceIte, Nat.reduceEqDiff]) | (refine wpI_region ?_; simp only [List.size_toArray, List.length_cons, List.length_nil, Nat.reduceAdd, Nat.zero_add, List.range, List.range.loop]) | (refine opI_unwanted rfl (by rfl) ?_; try walk_nrm) | (refine opI_k rfl (by rfl) (fun w₁ hR K hK => ?_); skip; go_simp; refine hK _ (fun e he => ?_) ?_; (first | done | ((rw [listed_nil (by simp [go_sem, *])] at he; simp at he))); (try clear hc₁); (clear hK K hR; clear w₁); (try walk_nrm)))
  (refine opI_k rfl (by rfl) (fun w₁ hR K hK => ?_); have hc₁ := hR.get hF5 hc5; go_simp; refine hK _ (fun e he => ?_) ?_; (first | done | ((have hm := mem_listed he; simp [go_sem, *] at hm; subst hm; exact Ev.read hF5))); (try clear hc₁); (clear hK K hR; clear w₁); (try walk_nrm))
  repeat (first | ((first | refine wpI_seq ?_ | refine wpI_block ?_ | refine wpI_skip ?_ | refine wpI_label ?_ | refine wpI_ret ?_ | refine wpI_exit ?_ | refine opI_nil ?_); try simp only [thenI, blkI, if_true, if_false, reduceIte, Nat.reduceEqDiff]) | (refine wpI_region ?_; simp only [List.size_toArray, List.length_cons, List.length_nil, Nat.reduceAdd, Nat.zero_add, List.range, List.range.loop]) | (refine opI_unwanted rfl (by rfl) ?_; try walk_nrm) | (refine opI_k rfl (by rfl) (fun w₁ hR K hK => ?_); skip; go_simp; refine hK _ (fun e he => ?_) ?_; (first | done | ((rw [listed_nil (by simp [go_sem, *])] at he; simp at he))); (try clear hc₁); (clear hK K hR; clear w₁); (try walk_nrm)))
  clear hF5 hc5
  refine wpI_loop (fun m γ' a' w' => ∃ (k : Nat) (kz : Int) (u0 u1 u7 u8 u9 u10 u14 u15 u16 u17 u18 u19 u20 : Value), a' = ⟨#[u0, u1, .pointer (some ⟨b1, 0, none⟩), .pointer (some ⟨b2, 0, none⟩), .slice none 0 0, .pointer (some ⟨b5, 0, none⟩), .pointer (some ⟨Wg, 0, none⟩), u7, u8, u9, u10, .slice (some ⟨C, 0, none⟩) xs.length xs.length, .int .i64 xs.length, .int .i64 kz, u14, u15, u16, u17, u18, u19, u20], []⟩ ∧ k ≤ xs.length ∧ m = xs.length - k ∧ kz = k ∧ Bx γ w γ' w' b1 b2 b5 C xs.length (.slice (some ⟨tb, to, none⟩) xs.length tc) s ∧
      ((k = 0 ∧ Pre γ w γ' w' C Wg xs.length) ∨ (0 < k ∧ ∃ K, OpS γ γ' w' C Wg xs.length k K ∧ γ'.p = .at Wg C xs.length K (fun r => .int .i64 (perR xs s r)) k (nextTag (xs.length - k)) 0))) xs.length
    ⟨0, _, _, _, _, _, _, _, _, _, _, _, _, _, _, rfl, Nat.zero_le _, rfl, rfl, hB, .inl ⟨rfl, hP⟩⟩ ?_
  clear hB hP γ6 w6
  rintro m γ' a' w' ⟨k, kz, u0, u1, u7, u8, u9, u10, u14, u15, u16, u17, u18, u19, u20, rfl, hk, rfl, rfl, hB, hd⟩
  repeat (first | ((first | refine wpI_seq ?_ | refine wpI_block ?_ | refine wpI_skip ?_ | refine wpI_label ?_ | refine wpI_ret ?_ | refine wpI_exit ?_ | refine opI_nil ?_); try simp only [thenI, blkI, if_true, if_false, reduceIte, Nat.reduceEqDiff]) | (refine wpI_region ?_; simp only [List.size_toArray, List.length_cons, List.length_nil, Nat.reduceAdd, Nat.zero_add, List.range, List.range.loop]) | (refine opI_unwanted rfl (by rfl) ?_; try walk_nrm) | (refine opI_k rfl (by rfl) (fun w₁ hR K hK => ?_); skip; go_simp; refine hK _ (fun e he => ?_) ?_; (first | done | ((rw [listed_nil (by simp [go_sem, *])] at he; simp at he))); (try clear hc₁); (clear hK K hR; clear w₁); (try walk_nrm)))
  by_cases hlt : k < xs.length
  · refine wpI_cond rfl ?_
    simp only [hlt, decide_true, if_true]
    repeat (first | ((first | refine wpI_seq ?_ | refine wpI_block ?_ | refine wpI_skip ?_ | refine wpI_label ?_ | refine wpI_ret ?_ | refine wpI_exit ?_ | refine opI_nil ?_); try simp only [thenI, blkI, if_true, if_false, reduceIte, Nat.reduceEqDiff]) | (refine wpI_region ?_; simp only [List.size_toArray, List.length_cons, List.length_nil, Nat.reduceAdd, Nat.zero_add, List.range, List.range.loop]) | (refine opI_unwanted rfl (by rfl) ?_; try walk_nrm) | (refine opI_k rfl (by rfl) (fun w₁ hR K hK => ?_); skip; go_simp; refine hK _ (fun e he => ?_) ?_; (first | done | ((rw [listed_nil (by simp [go_sem, *])] at he; simp at he))); (try clear hc₁); (clear hK K hR; clear w₁); (try walk_nrm)))
    (refine opI_new (v := fun n => .pointer (some ⟨n, 0, none⟩)) (ob := .cells #[.int .i64 0] 3) rfl (by rfl) (fun w₁ hR => ⟨run_eq_of (fun K hK => (by go_simp; exact hK)), fun e he => (by exfalso; have hm := mem_listed he; simp [go_sem, *] at hm)⟩) fun w₁ hR => ?_)
    have hL1 := hB.lies.rely hR
    have c3 := cell_alloc w₁ (.int .i64 0) 3
    have z3 := fz_alloc w₁ #[.int .i64 0] 3 0
    walk_nrm
    (refine opI_st (⟨w₁.heap.size, 0, none⟩) (.int .i64 0) (.int .i64 k) rfl (by rfl) c3 z3 ⟨.inr rfl, .inr rfl⟩ (fun w₁ hc₁ hz₁ K hK => ?_); go_simp; refine hK _ (fun e he => ?_) ?_; (first | done | (have hm := mem_listed he; simp [go_sem, evS_bool, evS_slice, evS_int, evS_ptr, storedEv, *] at hm; exact hm)); (clear hK K hc₁ hz₁; clear w₁); (try walk_nrm))
    have hRf := hR.trans (Rl.allocSet hL1 (.cells #[.int .i64 0] 3) 0 (.int .i64 k))
    have c3f := set_same c3 (.int .i64 k)
    have hsz : w₁.heap.size < ((w₁.alloc (.cells #[.int .i64 0] 3)).setCell ⟨w₁.heap.size, 0, none⟩ (.int .i64 k)).heap.size := by rw [size_set, size_alloc']; omega
    have hB1 := (hB.rely hCs hRf).grow hsz ⟨fun x => by have := (hL1.Q _ (.inl x)).1; omega, fun x => by have := (hL1.Q _ (.inr x)).1; omega⟩ (fun y hy e => by have := (hL1.Cs y hy).1; omega)
    have hd1 : ∃ γa K, Rdy (γ'.new w₁.heap.size) γa ((w₁.alloc (.cells #[.int .i64 0] 3)).setCell ⟨w₁.heap.size, 0, none⟩ (.int .i64 k)) C Wg xs.length k K (fun r => .int .i64 (perR xs s r)) ∧
        Bx γ w γa ((w₁.alloc (.cells #[.int .i64 0] 3)).setCell ⟨w₁.heap.size, 0, none⟩ (.int .i64 k)) b1 b2 b5 C xs.length (.slice (some ⟨tb, to, none⟩) xs.length tc) s ∧
        OpS γ γa ((w₁.alloc (.cells #[.int .i64 0] 3)).setCell ⟨w₁.heap.size, 0, none⟩ (.int .i64 k)) C Wg xs.length k K ∧ γa.F w₁.heap.size := by
      rcases hd with ⟨rfl, h2⟩ | ⟨h1, K, h2, h3⟩
      · have h4 := (h2.rely hRf).grow w₁.heap.size
        have h6 := h4.opn hB1 h5 (fun b hb => hb.elim (hL.F b) fun x => (hL.Q b (.inl x)).1) (fun r => .int .i64 (perR xs s r))
        refine ⟨_, _, h4.rdy hB1.lies (by omega) (by omega) _, h6.1, h6.2, .inr rfl, fun e => ?_⟩
        have := hL1.F C h2.FC
        omega
      · have hW := (hL1.Q Wg (.inr h2.aw.G)).1
        have h4 := (h2.rely hRf).grow (N := w₁.heap.size) (by omega)
        exact ⟨_, K, h4.rdy hlt h3, hB1.to _, h4.to _, .inr rfl⟩
    clear hd hRf hL1 hR c3 z3 hB hsz hB1
    obtain ⟨γa, K, hrdy, hBa, hOa, hF3⟩ := hd1
    generalize (w₁.alloc (.cells #[.int .i64 0] 3)).setCell ⟨w₁.heap.size, 0, none⟩ (.int .i64 k) = wf at hrdy hBa hOa c3f ⊢
    generalize γ'.new w₁.heap.size = γf at hrdy ⊢
    generalize w₁.heap.size = b3 at c3f hF3 ⊢
    clear w₁ γ' w'
    repeat (first | ((first | refine wpI_seq ?_ | refine wpI_block ?_ | refine wpI_skip ?_ | refine wpI_label ?_ | refine wpI_ret ?_ | refine wpI_exit ?_ | refine opI_nil ?_); try simp only [thenI, blkI, if_true, if_false, reduceIte, Nat.reduceEqDiff]) | (refine wpI_region ?_; simp only [List.size_toArray, List.length_cons, List.length_nil, Nat.reduceAdd, Nat.zero_add, List.range, List.range.loop]) | (refine opI_unwanted rfl (by rfl) ?_; try walk_nrm) | (refine opI_k rfl (by rfl) (fun w₁ hR K hK => ?_); skip; go_simp; refine hK _ (fun e he => ?_) ?_; (first | done | ((rw [listed_nil (by simp [go_sem, *])] at he; simp at he))); (try clear hc₁); (clear hK K hR; clear w₁); (try walk_nrm)))
    refine opI_add wgLib hrdy.X hrdy.p hOa.aw hrdy.ex hrdy.R rfl (by rfl) rfl (by simp [Act.eval]) fun w3 hR3 => ?_
    replace hBa := (hBa.rely hCs hR3).to (.at Wg C xs.length K (fun r => .int .i64 (perR xs s r)) k (.sp (xs.length - k - 1) 2) 0)
    replace hOa := (hOa.rely hR3).to (.at Wg C xs.length K (fun r => .int .i64 (perR xs s r)) k (.sp (xs.length - k - 1) 2) 0)
    replace c3f := hR3.get hF3 c3f
    clear hrdy hR3
    have hpa : (γa.to (.at Wg C xs.length K (fun r => .int .i64 (perR xs s r)) k (.sp (xs.length - k - 1) 2) 0)).p = .at Wg C xs.length K (fun r => .int .i64 (perR xs s r)) k (.sp (xs.length - k - 1) 2) 0 := rfl
    have hF3' : (γa.to (.at Wg C xs.length K (fun r => .int .i64 (perR xs s r)) k (.sp (xs.length - k - 1) 2) 0)).F b3 := hF3
    generalize γa.to (.at Wg C xs.length K (fun r => .int .i64 (perR xs s r)) k (.sp (xs.length - k - 1) 2) 0) = γb at hBa hOa hpa hF3' ⊢
    clear hF3 γa wf γf
    have mf1 : ∀ (fn : Fn) (first cap : Array Value) (w : World), (Instr.makeFunc fn first cap).run Try.prog w = .ok (.func fn first cap) w := fun _ _ _ _ => rfl
    have mf2 : ∀ (fn : Fn) (first cap : Array Value) (w : World) (es : Array Event), (Instr.makeFunc fn first cap).events Try.prog w es = es := fun _ _ _ _ _ => rfl
    walk_nrm
    repeat (first | ((first | refine wpI_seq ?_ | refine wpI_block ?_ | refine wpI_skip ?_ | refine wpI_label ?_ | refine wpI_ret ?_ | refine wpI_exit ?_ | refine opI_nil ?_); try simp only [thenI, blkI, if_true, if_false, reduceIte, Nat.reduceEqDiff]) | (refine wpI_region ?_; simp only [List.size_toArray, List.length_cons, List.length_nil, Nat.reduceAdd, Nat.zero_add, List.range, List.range.loop]) | (refine opI_unwanted rfl (by rfl) ?_; try walk_nrm) | (refine opI_k rfl (by rfl) (fun w₁ hR K hK => ?_); skip; go_simp; refine hK _ (fun e he => ?_) ?_; (first | done | ((rw [listed_nil (by simp [go_sem, *])] at he; simp at he))); (try clear hc₁); (clear hK K hR; clear w₁); (try walk_nrm)))
    refine opI_X (ty := tWG) fun b k' cs hk' w₁ hR => ?_
    have hBs := hBa.rely hCs hR
    have hOs := hOa.rely hR
    have c3 := hR.get (a := ⟨b3, 0, none⟩) hF3' c3f
    have hck : γb.Cs ⟨C, k, none⟩ := (hOs.cs _).2 ⟨k, Nat.le_refl _, hlt, rfl⟩
    clear hBa hOa c3f hR
    refine .spawn Wg C xs.length K _ k 0 (xs.length - k - 1) _ (born Try.prog (callW Wg b1 b2 b3 b5)) hpa hck rfl (spawn_nil (d := callW Wg b1 b2 b3 b5) (f := .func 50) (c := #[.pointer (some ⟨Wg, 0, none⟩), .pointer (some ⟨b1, 0, none⟩), .pointer (some ⟨b2, 0, none⟩), .pointer (some ⟨b3, 0, none⟩), .pointer (some ⟨b5, 0, none⟩)]) rfl (by rfl) hk' (by simp [go_sem, callW, Deferred.ofValue]) rfl (by simp [go_sem, Deferred.ofValue])) ?_ ⟨_, rfl, ?_⟩
    · have e : Ext { γ with W := fun _ => False, Cs := fun _ => False, Q := fun _ => False, G := fun _ => False, p := .no } w (γb.child Wg C k) w₁ :=
        ⟨hBs.F, fun _ h => h.elim, fun _ h => h.elim, fun _ h => h.elim, fun _ h => h.elim, rfl, ⟨hBs.rl.size, hBs.rl.blk, fun _ h => h.elim, fun _ h => h.elim, fun _ h => h.elim, fun _ _ h => h.elim⟩⟩
      have hT' : TabI { γ with W := fun _ => False, Cs := fun _ => False, Q := fun _ => False, G := fun _ => False, p := .no } w (.slice (some ⟨tb, to, none⟩) xs.length tc) xs := hT
      obtain ⟨hcl1, hcl2⟩ := hOs.cl k (Nat.le_refl _) hlt
      exact worker_c (γ := γb.child Wg C k) (w := w₁) (b1 := b1) (b2 := b2) (b3 := b3) (b5 := b5) ⟨hBs.F1, hBs.F2, hF3', hBs.F5, hBs.c1, hBs.c2, c3, hBs.c5, hT'.ext e⟩
        ⟨hBs.lies.F, fun y hy => (by obtain rfl : y = ⟨C, k, none⟩ := hy; exact hBs.lies.Cs _ hck), fun b hb => (by rcases hb with hb | hb; exact hb.elim; obtain rfl : b = Wg := hb; exact hBs.lies.Q _ (.inr hOs.aw.G)), fun _ h => h.elim⟩
        rfl rfl hOs.x0 (fun a => Iff.rfl) hcl1 hcl2 h0 hn hr hs hlt
    · have e13 : Hd (IntKind.i64.wrap ((k : Int) + 1) = ((k + 1 : Nat) : Int)) := ⟨by rw [IntKind.wrap_i64]; omega⟩
      have hBn := hBs.started k (.at Wg C xs.length K (fun r => .int .i64 (perR xs s r)) (k + 1) (nextTag (xs.length - k - 1)) 0)
      have hOn := hOs.started (.at Wg C xs.length K (fun r => .int .i64 (perR xs s r)) (k + 1) (nextTag (xs.length - k - 1)) 0)
      have hpn : (γb.started C k (.at Wg C xs.length K (fun r => .int .i64 (perR xs s r)) (k + 1) (nextTag (xs.length - k - 1)) 0)).p = .at Wg C xs.length K (fun r => .int .i64 (perR xs s r)) (k + 1) (nextTag (xs.length - (k + 1))) 0 := by rw [Nat.sub_add_eq]; rfl
      clear hBs hOs hpa hF3' hck c3
      generalize γb.started C k (.at Wg C xs.length K (fun r => .int .i64 (perR xs s r)) (k + 1) (nextTag (xs.length - k - 1)) 0) = γn at hBn hOn hpn ⊢
      clear γb mf1 mf2
      walk_nrm
      repeat (first | ((first | refine wpI_seq ?_ | refine wpI_block ?_ | refine wpI_skip ?_ | refine wpI_label ?_ | refine wpI_ret ?_ | refine wpI_exit ?_ | refine opI_nil ?_); try simp only [thenI, blkI, if_true, if_false, reduceIte, Nat.reduceEqDiff]) | (refine wpI_region ?_; simp only [List.size_toArray, List.length_cons, List.length_nil, Nat.reduceAdd, Nat.zero_add, List.range, List.range.loop]) | (refine opI_unwanted rfl (by rfl) ?_; try walk_nrm) | (refine opI_k rfl (by rfl) (fun w₁ hR K hK => ?_); skip; go_simp; refine hK _ (fun e he => ?_) ?_; (first | done | ((rw [listed_nil (by simp [go_sem, *])] at he; simp at he))); (try clear hc₁); (clear hK K hR; clear w₁); (try walk_nrm)))
      exact ⟨xs.length - (k + 1), by omega, k + 1, _, _, _, _, _, _, _, _, _, _, _, _, _, _, rfl, by omega, rfl, e13.out, hBn, .inr ⟨by omega, K, hOn, hpn⟩⟩
  · refine wpI_cond rfl ?_
    simp only [hlt, decide_false, if_false, Bool.false_eq_true]
    obtain rfl : k = xs.length := by omega
    rcases hd with ⟨h1, _⟩ | ⟨_, K, hO, hpp⟩
    · omega
    rw [Nat.sub_self] at hpp
    repeat (first | ((first | refine wpI_seq ?_ | refine wpI_block ?_ | refine wpI_skip ?_ | refine wpI_label ?_ | refine wpI_ret ?_ | refine wpI_exit ?_ | refine opI_nil ?_); try simp only [thenI, blkI, if_true, if_false, reduceIte, Nat.reduceEqDiff]) | (refine wpI_region ?_; simp only [List.size_toArray, List.length_cons, List.length_nil, Nat.reduceAdd, Nat.zero_add, List.range, List.range.loop]) | (refine opI_unwanted rfl (by rfl) ?_; try walk_nrm) | (refine opI_k rfl (by rfl) (fun w₁ hR K hK => ?_); skip; go_simp; refine hK _ (fun e he => ?_) ?_; (first | done | ((rw [listed_nil (by simp [go_sem, *])] at he; simp at he))); (try clear hc₁); (clear hK K hR; clear w₁); (try walk_nrm)))
    refine opI_call rfl (by rfl) rfl (by
      have h := wait_c (γ := γ') (w := w') wgLib hpp hO.aw hO.x0 hO.x1
      walk_nrm
      exact h) ?_
    rintro γ7 u7 w7 ⟨rfl, rfl, hR7, hpay, hhas⟩
    have hB7 := hB.rely hCs hR7
    have hF5 : (γ'.joined C K).F b5 := .inl hB.F5
    have hc5 := hB7.c5
    walk_nrm
    repeat (first | ((first | refine wpI_seq ?_ | refine wpI_block ?_ | refine wpI_skip ?_ | refine wpI_label ?_ | refine wpI_ret ?_ | refine wpI_exit ?_ | refine opI_nil ?_); try simp only [thenI, blkI, if_true, if_false, reduceIte, Nat.reduceEqDiff]) | (refine wpI_region ?_; simp only [List.size_toArray, List.length_cons, List.length_nil, Nat.reduceAdd, Nat.zero_add, List.range, List.range.loop]) | (refine opI_unwanted rfl (by rfl) ?_; try walk_nrm) | (refine opI_k rfl (by rfl) (fun w₁ hR K hK => ?_); skip; go_simp; refine hK _ (fun e he => ?_) ?_; (first | done | ((rw [listed_nil (by simp [go_sem, *])] at he; simp at he))); (try clear hc₁); (clear hK K hR; clear w₁); (try walk_nrm)))
    (refine opI_k rfl (by rfl) (fun w₁ hR K hK => ?_); have hc₁ := hR.get hF5 hc5; go_simp; refine hK _ (fun e he => ?_) ?_; (first | done | ((have hm := mem_listed he; simp [go_sem, *] at hm; subst hm; exact Ev.read hF5))); (try clear hc₁); (clear hK K hR; clear w₁); (try walk_nrm))
    repeat (first | ((first | refine wpI_seq ?_ | refine wpI_block ?_ | refine wpI_skip ?_ | refine wpI_label ?_ | refine wpI_ret ?_ | refine wpI_exit ?_ | refine opI_nil ?_); try simp only [thenI, blkI, if_true, if_false, reduceIte, Nat.reduceEqDiff]) | (refine wpI_region ?_; simp only [List.size_toArray, List.length_cons, List.length_nil, Nat.reduceAdd, Nat.zero_add, List.range, List.range.loop]) | (refine opI_unwanted rfl (by rfl) ?_; try walk_nrm) | (refine opI_k rfl (by rfl) (fun w₁ hR K hK => ?_); skip; go_simp; refine hK _ (fun e he => ?_) ?_; (first | done | ((rw [listed_nil (by simp [go_sem, *])] at he; simp at he))); (try clear hc₁); (clear hK K hR; clear w₁); (try walk_nrm)))
    have hCl : C < w7.heap.size := by obtain ⟨cs, h1, _⟩ := hpay; exact (Array.getElem?_eq_some_iff.1 h1).1
    refine ⟨rfl, _, resultsC_tmp rfl _, ⟨fun b hb => .inl (hB.F b hb), hO.hK, fun a ha => (hCs a ha).elim, hB.Q, hB.G, hp.symm, hB7.rl⟩, ⟨fun b hb => ?_, fun y hy => hy.elim, fun b hb => ?_, hO.KF⟩, fun a => id, C, xs.length, rfl, .inr rfl, hB.ge, fun r hr => hhas r hr⟩
    · rcases hb with hb | rfl
      · exact hB7.lies.F b hb
      · exact hCl
    · have h1 := hB7.lies.Q b hb
      refine ⟨h1.1, fun x => ?_⟩
      rcases x with x | rfl
      · exact h1.2 x
      · exact hb.elim hB.nC.1 hB.nC.2
end Go.Proofs.Ytndfookgkkefnaa
