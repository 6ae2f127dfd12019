/- Walks in company: clone of a row of truth values. -/
import Derived.Test.YtndfookgkkefnaaBE
import Derived.Test.YtndfookgkkefnaaBW1
import Derived.OwnWalk
namespace Go.Proofs.Ytndfookgkkefnaa
set_option linter.unusedSimpArgs false
set_option linter.unusedVariables false
set_option linter.unusedSectionVars false
open Go Go.Conc Go.RowKit
theorem infoBool : (Try.prog.info? 4).map (fun i => (i.zero, i.size, i.bytes)) = some (some (.bool false), 1, 1) := by kernel_rfl
/-- the blocks and cells that one counts on lie in the heap; single cells in no block of one's own -/
structure Lies (γ : Gh) (w : World) : Prop where
  F : ∀ b, γ.F b → b < w.heap.size
  Cs : ∀ y, γ.Cs y → y.block < w.heap.size ∧ ¬ γ.F y.block
  Q : ∀ b, γ.Q b ∨ γ.G b → b < w.heap.size ∧ ¬ γ.F b
  W : ∀ b, γ.W b → γ.F b
/-- a new row of one's own -/
def NewRow (γ γ' : Gh) (w w' : World) (r : Value) (bs : List Bool) : Prop :=
  Ext γ w γ' w' ∧ Lies γ' w' ∧ ∃ b c, r = .slice (some ⟨b, 0, none⟩) bs.length c ∧ γ'.W b ∧ γ'.F b ∧ w.heap.size ≤ b ∧ w'.ownsRow w.heap.size 4 1 r bs.length (bs.map .bool)
set_option maxHeartbeats 8000000 in
set_option maxRecDepth 100000 in
theorem clone_c (main : Bool) (X : Pha) (γ : Gh) (w : World) (v : Value) (bs : List Bool) (hR : RowI γ w v bs) (h0 : bs ≠ []) (h5 : bs.length ≤ 5) (hL : Lies γ w) :
    CallsI Try.prog main X 67 #[v] γ w fun γ' r w' => NewRow γ γ' w w' r bs := by
  obtain ⟨i0, hi, hz0, hz1, hz2⟩ := info_parts infoBool
  rcases hR with ⟨_, h⟩ | ⟨b, o, c, rfl, hb, hx⟩
  · exact absurd h h0
  have hmk := fun w => run_make (P := Try.prog) w 28 4 i0 (.bool false) (by kernel_rfl) hi hz0 .i64 .i64 0 bs.length (by omega) (by omega) (by rw [hz2]; omega) (by omega)
  have hme := fun w es => events_make (P := Try.prog) w 28 4 i0 (.bool false) (by kernel_rfl) hi hz0 .i64 .i64 0 bs.length (by omega) (by omega) (by rw [hz2]; omega) (by omega) (by rw [hz2]; simp; omega) es
  (refine callsI_of Try.func67 (by rfl) rfl ?_; simp only [Try.ntmps67, List.size_toArray, List.length_cons, List.length_nil, Nat.reduceAdd, Nat.reduceSub, Array.replicate_succ, Array.replicate_zero, List.push_toArray, List.append_toArray, List.nil_append, List.cons_append])
  repeat (first | ((first | refine wpI_seq ?_ | refine wpI_block ?_ | refine wpI_skip ?_ | refine wpI_label ?_ | refine wpI_ret ?_ | refine wpI_exit ?_ | refine opI_nil ?_); try simp only [thenI, blkI, if_true, if_false, reduceIte, Nat.reduceEqDiff]) | (refine wpI_region ?_; simp only [List.size_toArray, List.length_cons, List.length_nil, Nat.reduceAdd, Nat.zero_add, List.range, List.range.loop]) | (refine opI_unwanted rfl (by rfl) ?_; try walk_nrm) | (refine opI_k rfl (by rfl) (fun w₁ hR K hK => ?_); skip; go_simp; refine hK _ (fun e he => ?_) ?_; (first | done | ((rw [listed_nil (by simp [go_sem, *])] at he; simp at he))); (try clear hc₁); (clear hK K hR; clear w₁); (try walk_nrm)))
  refine opI_new (v := fun n => .slice (some ⟨n, 0, none⟩) 0 bs.length) (ob := .cells (madeCells #[.bool false] bs.length) 4) rfl (by rfl) (fun w₁ hR => ⟨?_, fun e he => ?_⟩) fun w₁ hR => ?_
  · have h := hmk w₁
    refine run_eq_of (fun K hK => ?_)
    go_simp
    exact hK
  · have h := hme w₁
    rw [listed_nil (by simp [go_sem, *])] at he; simp at he
  clear hmk hme
  obtain ⟨N, hN⟩ : ∃ N, Hd (N = w₁.heap.size) := ⟨_, ⟨rfl⟩⟩
  obtain ⟨w2, hw2⟩ : ∃ w2, Hd (w2 = w₁.alloc (.cells (madeCells #[.bool false] bs.length) 4)) := ⟨_, ⟨rfl⟩⟩
  rw [← hN.out, ← hw2.out]
  have hsz : Hd (w2.heap.size = N + 1) := ⟨by rw [hw2.out, hN.out]; simp [World.alloc, -World.alloc_eq]⟩
  have hold : ∀ b, b < N → w2.heap[b]? = w₁.heap[b]? := fun b hb => by rw [hw2.out]; simp only [World.alloc]; rw [hN.out] at hb; rw [Array.getElem?_push, if_neg (by omega)]
  have hown : w2.ownsRow w.heap.size 4 1 (.slice (some ⟨N, 0, none⟩) 0 bs.length) 0 [] := by
    refine ⟨rfl, .inr ⟨N, bs.length, madeCells #[.bool false] bs.length, rfl, by rw [hN.out]; exact hR.size, ?_, Nat.zero_le _, by simp [maxLen]; omega, by simp [madeCells], rfl⟩⟩
    rw [hw2.out, hN.out]; simp [World.alloc, -World.alloc_eq]
  have hbN : b < N := Nat.lt_of_lt_of_le (hL.F b hb) (by rw [hN.out]; exact hR.size)
  walk_nrm
  repeat (first | ((first | refine wpI_seq ?_ | refine wpI_block ?_ | refine wpI_skip ?_ | refine wpI_label ?_ | refine wpI_ret ?_ | refine wpI_exit ?_ | refine opI_nil ?_); try simp only [thenI, blkI, if_true, if_false, reduceIte, Nat.reduceEqDiff]) | (refine wpI_region ?_; simp only [List.size_toArray, List.length_cons, List.length_nil, Nat.reduceAdd, Nat.zero_add, List.range, List.range.loop]) | (refine opI_unwanted rfl (by rfl) ?_; try walk_nrm) | (refine opI_k rfl (by rfl) (fun w₁ hR K hK => ?_); skip; go_simp; refine hK _ (fun e he => ?_) ?_; (first | done | ((rw [listed_nil (by simp [go_sem, *])] at he; simp at he))); (try clear hc₁); (clear hK K hR; clear w₁); (try walk_nrm)))
  refine opI_app rfl (by rfl) (.tmp 5) (.tmp 6) 28 rfl w.heap.size 4 i0 (.bool false) 1 1 (by kernel_rfl) hi hz0 hz1 hz2 rfl (by decide)
    (.slice (some ⟨N, 0, none⟩) 0 bs.length) 0 [] rfl hown (fun b hb => ?_) ⟨b, o, none⟩ bs.length c rfl (.inl hb) (bs.map .bool) (by simp) (fun j u hj => ?_) ?_ (by simp [maxLen]; omega) (by omega) (by rw [hsz.out]; have := hR.size; rw [← hN.out] at this; omega)
    (fun y hy => ?_) (fun b hb => ?_) (fun b hb => ?_) ?_
  · obtain rfl : N = b := by simpa [Value.ownBlock] using hb
    exact ⟨.inr rfl, .inr rfl⟩
  · rw [List.getElem?_map] at hj
    obtain ⟨x, hx1, rfl⟩ := Option.map_eq_some_iff.1 hj
    rw [Addr.add_lit, cell_of (hold b hbN)]
    exact hR.get hb (hx j x hx1)
  · intro u hu
    obtain ⟨x, _, rfl⟩ := List.mem_map.1 hu
    rfl
  · have h1 := hL.Cs y hy
    have h2 := hR.size
    rw [← hN.out] at h2
    refine ⟨by rw [hsz.out]; omega, fun b hb => ?_⟩
    obtain rfl : N = b := by simpa [Value.ownBlock] using hb
    omega
  · rw [hsz.out]
    have h2 := hR.size
    rw [← hN.out] at h2
    rcases hb with hb | rfl
    · have := hL.F b hb; omega
    · omega
  · have h2 := hR.size
    rw [← hN.out] at h2
    have h3 := hL.Q b hb
    rw [hsz.out]
    refine ⟨by omega, fun hf => ?_⟩
    rcases (show γ.F b ∨ b = N from hf) with hf | rfl
    · exact h3.2 hf
    · omega
  intro γ' v' w' hWF _ hQ' hG' hp' hqb hex hF' hW' hC' hv' ho' hs' hblk hlt' hcell'
  walk_nrm
  repeat (first | ((first | refine wpI_seq ?_ | refine wpI_block ?_ | refine wpI_skip ?_ | refine wpI_label ?_ | refine wpI_ret ?_ | refine wpI_exit ?_ | refine opI_nil ?_); try simp only [thenI, blkI, if_true, if_false, reduceIte, Nat.reduceEqDiff]) | (refine wpI_region ?_; simp only [List.size_toArray, List.length_cons, List.length_nil, Nat.reduceAdd, Nat.zero_add, List.range, List.range.loop]) | (refine opI_unwanted rfl (by rfl) ?_; try walk_nrm) | (refine opI_k rfl (by rfl) (fun w₁ hR K hK => ?_); skip; go_simp; refine hK _ (fun e he => ?_) ?_; (first | done | ((rw [listed_nil (by simp [go_sem, *])] at he; simp at he))); (try clear hc₁); (clear hK K hR; clear w₁); (try walk_nrm)))
  refine ⟨rfl, _, resultsC_tmp rfl _, ⟨⟨fun b hb => hF' b (.inl hb), fun b hb => hW' b (.inl hb), fun y hy => by rw [hC']; exact hy, fun b hb => by rw [hQ']; exact hb, fun b hb => by rw [hG']; exact hb, hp', ⟨?_, fun b hb => ?_, fun y hy => ?_, fun y hy => ?_, fun b hb => ?_, fun a u hg hu => ?_⟩⟩, ⟨fun b hb => (hlt' b hb).1, fun y hy => ?_, fun b hb => ?_, hWF fun b hb => hb.imp (hL.W b) id⟩, ?_⟩⟩
  all_goals have h2 := hR.size
  all_goals rw [← hN.out] at h2
  all_goals have h3 := hsz.out
  · omega
  · have h1 := hL.F b hb
    exact (hblk b (.inl hb) fun e => by simp [Value.ownBlock] at e; omega).trans ((hold b (by omega)).trans (hR.blk b hb))
  · have h1 := hL.Cs y hy
    exact (hcell' y hy).1.trans ((cell_of (hold y.block (by omega))).trans (hR.cell y hy))
  · have h1 := hL.Cs y hy
    exact (hcell' y hy).2.trans ((World.frozen?_of_block (hold y.block (by omega))).trans (hR.fz y hy))
  · have h1 := hL.Q b (.inl hb)
    exact (hqb b hb).trans ((hold b (by omega)).trans (hR.q b hb))
  · have h1 := hL.Q _ (.inr hg)
    obtain ⟨u', hu'⟩ := hR.ex a u hg hu
    exact hex a u' hg ((cell_of (hold a.block (by omega))).trans hu')
  · rw [hC'] at hy
    have h1 := hL.Cs y hy
    refine ⟨by omega, fun hF => ?_⟩
    rcases (hlt' _ hF).2 with (h | h) | h
    · exact h1.2 h
    · omega
    · omega
  · rw [hQ', hG'] at hb
    have h1 := hL.Q b hb
    refine ⟨by omega, fun hF => ?_⟩
    rcases (hlt' _ hF).2 with (h | h) | h
    · exact h1.2 h
    · omega
    · omega
  · have hpos : 0 < bs.length := List.length_pos_iff.2 h0
    rcases ho'.2 with ⟨_, h⟩ | ⟨g, cap, cur, rfl, hg1, _⟩
    · omega
    · refine ⟨g, cap, ?_, (hv' g rfl).1, (hv' g rfl).2, hg1, ?_⟩
      · show Value.slice _ _ _ = _
        rw [Nat.zero_add]
      · have := ho'
        rw [Nat.zero_add, List.nil_append] at this
        rw [Nat.zero_add]
        exact this
end Go.Proofs.Ytndfookgkkefnaa
