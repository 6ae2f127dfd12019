/- The starter's Add, among others. -/
import Derived.Test.YtndfookgkkefnaaBK1
import Derived.Test.YtndfookgkkefnaaBD
import Derived.Conc.WgGenN3
namespace Go.Proofs.Ytndfookgkkefnaa
set_option linter.unusedSimpArgs false
set_option linter.unusedVariables false
set_option linter.unusedSectionVars false
open Go Go.Conc Go.RowKit Go.Conc.Lib Go.ConcR.Gen
open Go.ConcN (WgLive PayAt Has)
open Go.ConcR (KK WgAt stA smA rd wr mk Payload DC0)

section
variable [Payload] {P : Program} {ty : TypeId} {γ : Gh} {w : World} {fn : FuncId} {ops : Array Oper} {Q : PoI}
/-- a step that the library makes -/
theorem opI_X {i : Nat} {rest : List Nat} {a : Act} (h : ∀ (b : Frame) (k : List Item) (cs : List Frame), b.kind ≠ .early → ∀ w₁, Rl γ w w₁ → XS P ty γ (G (b.at a (.inRegion ops (i :: rest) :: k)) cs) w₁ fun γ' g' w' => ∃ a', g' = G (b.at a' (.inRegion ops rest :: k)) cs ∧ opI P true (XS P ty) fn ops rest Q γ' a' w') :
    opI P true (XS P ty) fn ops (i :: rest) Q γ a w := fun b k cs Stop hb hk hc =>
  GI.phase _ (fun w₁ hR => h b k cs hk w₁ hR) fun γ' g' w' ⟨a', e, hn⟩ => by subst e; exact hn b k cs Stop hb hk hc
/-- an operation that yields a value and turns nothing, by its step -/
theorem opI_pure {main : Bool} {X : Pha} {i : Nat} {rest : List Nat} {o : Oper} {a : Act} (v : Value) (ho : ops[i]? = some o)
    (h : ∀ (b : Frame) (k : List Item) (cs : List Frame), b.kind ≠ .early → ∀ w₁, stepG P main (G (b.at a (.inRegion ops (i :: rest) :: k)) cs) w₁ = .go (G (b.at (a.put o.dst v) (.inRegion ops rest :: k)) cs) w₁ #[])
    (hn : opI P main X fn ops rest Q γ (a.put o.dst v) w) : opI P main X fn ops (i :: rest) Q γ a w := fun b k cs Stop hb hk hc => GI.ctl rfl (fun w₁ => h b k cs hk w₁) (hn b k cs Stop hb hk hc)
theorem opI_defer {main : Bool} {X : Pha} {i : Nat} {rest : List Nat} {o : Oper} {a : Act} {f : FuncId} {args : Array Operand} {ats : Array TypeId} (ho : ops[i]? = some o) (hw : Region.wanted o (yielded ops a.tmps) = true) (hop : o.op = .defer { callee := .value (.func f), args := args, argTypes := ats })
    (hn : opI P main X fn ops rest Q γ (Act.put ⟨a.tmps, dcall f (args.map a.eval) :: a.defers⟩ o.dst undef) w) : opI P main X fn ops (i :: rest) Q γ a w :=
  fun b k cs Stop hb hk hc => GI.ctl rfl (fun _ => stepG_defer ho hw hk hop) (hn b k cs Stop hb hk hc)
theorem Rl.of_to {γ : Gh} {p : Pt} {w w' : World} (h : Rl (γ.to p) w w') : Rl γ w w' := ⟨h.size, h.blk, h.cell, h.fz, h.q, h.ex⟩
theorem Rl.to {γ : Gh} {p : Pt} {w w' : World} (h : Rl γ w w') : Rl (γ.to p) w w' := ⟨h.size, h.blk, h.cell, h.fz, h.q, h.ex⟩
theorem Rl.same {γ γ' : Gh} {w w' : World} (h : Rl γ' w w') (e : γ' = γ.to γ'.p) : Rl γ w w' := by rw [e] at h; exact h.of_to
/-- where it does not touch the group's block -/
structure Aw (γ : Gh) (Wg : Nat) : Prop where
  F : ¬ γ.F Wg
  Q : ¬ γ.Q Wg
  C : ∀ a, γ.Cs a → a.block ≠ Wg
  G : γ.G Wg
theorem Rl.book {Wg : Nat} (h : Aw γ Wg) (x : Addr) (v : Value) (hx : x.block = Wg) (w : World) : Rl γ w (w.setCell x v) := by
  refine ⟨by rw [size_set]; exact Nat.le_refl _, fun b hb => set_other (fun e => h.F (by rw [← hx, ← e]; exact hb)) v, fun a ha => cell_of (set_other (fun e => h.C a ha (e.trans hx)) v), fun a ha => fz_set w x a v, fun b hb => set_other (fun e => h.Q (by rw [← hx, ← e]; exact hb)) v, fun a u _ hu => cell_set hu x v⟩
end

section
variable [Payload] {P : Program} {L : WgLink} {γ γ1 : Gh} {w : World}
set_option maxRecDepth 100000 in
set_option maxHeartbeats 8000000 in
/-- the state's Add -/
theorem uAddW (H : WgLib P L) {Wg C n j bd r : Nat} {K : Nat → Prop} {val : Nat → Value} (hp : γ.p = .at Wg C n K val j (.sp r 4) bd) (hA : Aw γ Wg) :
    CallsI P true (XS P L.tWg) L.uAdd #[.pointer (some ⟨Wg, 0, none⟩), .int .u64 4294967296] γ w fun γ' u w' => γ' = γ.to (.at Wg C n K val j (.sp r 3) bd) ∧ Rl γ w w' ∧ ∃ v : Nat, v < 2147483647 ∧ u = .int .u64 (((v : Int) + 1) * KK) := by
  lib_facts
  refine callsI_of H.f_uAdd (nm_uAdd L) rfl ?_
  simp only [uAddFn, Option.getD_some]
  walk_nrm
  repeat (first | ((first | refine wpI_seq ?_ | refine wpI_block ?_ | refine wpI_skip ?_ | refine wpI_label ?_ | refine wpI_ret ?_ | refine wpI_exit ?_ | refine opI_nil ?_); try simp only [thenI, blkI, if_true, if_false, reduceIte, Nat.reduceEqDiff]) | (refine wpI_region ?_; simp only [List.size_toArray, List.length_cons, List.length_nil, Nat.reduceAdd, Nat.zero_add, List.range, List.range.loop]) | (refine opI_unwanted rfl (by rfl) ?_; try walk_nrm) | (refine opI_k rfl (by rfl) (fun w₁ hR K hK => ?_); skip; go_simp; refine hK _ (fun e he => ?_) ?_; (first | done | ((rw [listed_nil (by simp [go_sem, *])] at he; simp at he))); (try clear hc₁); (clear hK K hR; clear w₁); (try walk_nrm)))
  refine opI_X (ty := L.tWg) fun b k cs hk w₁ hR => ?_
  refine .add Wg C n K val j bd r hp rfl fun v hv hw => ?_
  have e0 : IntKind.u64.wrap ((v : Int) * KK + 4294967296) = ((v : Int) + 1) * KK := by rw [IntKind.wrap_u64]; simp only [KK]; omega
  refine ⟨_, (stepG_add_atomic rfl (by rfl) hk rfl H.f_addU64 (x_addU64_n L) (x_addU64_b L) (x_addU64_x L) .u64 (x_addU64_f L) rfl rfl hw.cellSt (hw.thaw 0)).trans (by rw [e0]; rfl), _, rfl, ?_⟩
  have hR2 : Rl γ w (w₁.setCell (stA Wg) (.int .u64 (((v : Int) + 1) * KK))) := hR.trans (Rl.book hA _ _ rfl _)
  generalize w₁.setCell (stA Wg) (.int .u64 (((v : Int) + 1) * KK)) = w2 at hR2 ⊢
  generalize hS : ((v : Int) + 1) * KK = S
  walk_nrm
  repeat (first | ((first | refine wpI_seq ?_ | refine wpI_block ?_ | refine wpI_skip ?_ | refine wpI_label ?_ | refine wpI_ret ?_ | refine wpI_exit ?_ | refine opI_nil ?_); try simp only [thenI, blkI, if_true, if_false, reduceIte, Nat.reduceEqDiff]) | (refine wpI_region ?_; simp only [List.size_toArray, List.length_cons, List.length_nil, Nat.reduceAdd, Nat.zero_add, List.range, List.range.loop]) | (refine opI_unwanted rfl (by rfl) ?_; try walk_nrm) | (refine opI_k rfl (by rfl) (fun w₁ hR K hK => ?_); skip; go_simp; refine hK _ (fun e he => ?_) ?_; (first | done | ((rw [listed_nil (by simp [go_sem, *])] at he; simp at he))); (try clear hc₁); (clear hK K hR; clear w₁); (try walk_nrm)))
  exact ⟨rfl, _, resultsC_tmp rfl _, rfl, hR2, v, hv, by rw [hS]; rfl⟩

set_option maxRecDepth 100000 in
set_option maxHeartbeats 8000000 in
theorem addW (H : WgLib P L) {Wg C n j bd r : Nat} {K : Nat → Prop} {val : Nat → Value} (hX : ∀ (g g' : Goroutine) (w₁ : World) (Post : Stp), Rl γ w w₁ → g.status = .running → stepG P true g w₁ = .go g' w₁ #[mk .disable] → Post γ1 g' w₁ → XS P L.tWg γ g w₁ Post)
    (hp1 : γ1.p = .at Wg C n K val j (.sp r 4) bd) (hA : Aw γ1 Wg) (hex : ∀ w₁, Rl γ w w₁ → ∃ u, w₁.cell? ⟨Wg, 1, none⟩ = some u) (hR1 : ∀ w₁, Rl γ w w₁ → Rl γ1 w w₁) :
    wpI P true (XS P L.tWg) L.add (body_add L) (fun e γ' a' w' => e = .ret ∧ a'.defers = [dcall L.enable #[]] ∧ γ' = γ1.to (.at Wg C n K val j (.sp r 3) bd) ∧ Rl γ1 w w') γ
      ⟨#[.pointer (some ⟨Wg, 0, none⟩), .int .i64 1] ++ Array.replicate 115 undef, []⟩ w := by
  lib_facts
  have n1 : IntKind.i32.wrap 1 = 1 := by decide
  have n2 : IntKind.u32.wrap 0 = 0 := by decide
  have n3 : IntKind.u64.wrap 1 = 1 := by decide
  have n4 : IntKind.u64.wrap 4294967296 = 4294967296 := by decide
  have n5 : IntKind.u64.wrap (1 * 4294967296) = 4294967296 := by decide
  simp only [body_add, addFn, Option.getD_some]
  walk_nrm
  repeat (first | ((first | refine wpI_seq ?_ | refine wpI_block ?_ | refine wpI_skip ?_ | refine wpI_label ?_ | refine wpI_ret ?_ | refine wpI_exit ?_ | refine opI_nil ?_); try simp only [thenI, blkI, if_true, if_false, reduceIte, Nat.reduceEqDiff]) | (refine wpI_region ?_; simp only [List.size_toArray, List.length_cons, List.length_nil, Nat.reduceAdd, Nat.zero_add, List.range, List.range.loop]) | (refine opI_unwanted rfl (by rfl) ?_; try walk_nrm) | (refine opI_k rfl (by rfl) (fun w₁ hR K hK => ?_); skip; go_simp; refine hK _ (fun e he => ?_) ?_; (first | done | ((rw [listed_nil (by simp [go_sem, *])] at he; simp at he))); (try clear hc₁); (clear hK K hR; clear w₁); (try walk_nrm)))
  (refine wpI_cond (t := true) rfl ?_; simp only [if_true, if_false, Bool.false_eq_true, reduceIte])
  repeat (first | ((first | refine wpI_seq ?_ | refine wpI_block ?_ | refine wpI_skip ?_ | refine wpI_label ?_ | refine wpI_ret ?_ | refine wpI_exit ?_ | refine opI_nil ?_); try simp only [thenI, blkI, if_true, if_false, reduceIte, Nat.reduceEqDiff]) | (refine wpI_region ?_; simp only [List.size_toArray, List.length_cons, List.length_nil, Nat.reduceAdd, Nat.zero_add, List.range, List.range.loop]) | (refine opI_unwanted rfl (by rfl) ?_; try walk_nrm) | (refine opI_k rfl (by rfl) (fun w₁ hR K hK => ?_); skip; go_simp; refine hK _ (fun e he => ?_) ?_; (first | done | ((rw [listed_nil (by simp [go_sem, *])] at he; simp at he))); (try clear hc₁); (clear hK K hR; clear w₁); (try walk_nrm)))
  (refine wpI_cond (t := false) rfl ?_; simp only [if_true, if_false, Bool.false_eq_true, reduceIte])
  repeat (first | ((first | refine wpI_seq ?_ | refine wpI_block ?_ | refine wpI_skip ?_ | refine wpI_label ?_ | refine wpI_ret ?_ | refine wpI_exit ?_ | refine opI_nil ?_); try simp only [thenI, blkI, if_true, if_false, reduceIte, Nat.reduceEqDiff]) | (refine wpI_region ?_; simp only [List.size_toArray, List.length_cons, List.length_nil, Nat.reduceAdd, Nat.zero_add, List.range, List.range.loop]) | (refine opI_unwanted rfl (by rfl) ?_; try walk_nrm) | (refine opI_k rfl (by rfl) (fun w₁ hR K hK => ?_); skip; go_simp; refine hK _ (fun e he => ?_) ?_; (first | done | ((rw [listed_nil (by simp [go_sem, *])] at he; simp at he))); (try clear hc₁); (clear hK K hR; clear w₁); (try walk_nrm)))
  refine opI_X (ty := L.tWg) fun b k cs hk w₁ hR => ?_
  refine hX _ _ w₁ _ hR rfl (stepG_mark0 .disable (by simp) rfl (by rfl) hk rfl H.f_disable (x_disable_n L) (x_disable_b L) (x_disable_x L) (x_disable_f L)) ⟨_, rfl, ?_⟩
  obtain ⟨u1, hu1⟩ := hex w₁ hR
  replace hR := hR1 w₁ hR
  clear hex hR1 hX
  walk_nrm
  repeat (first | ((first | refine wpI_seq ?_ | refine wpI_block ?_ | refine wpI_skip ?_ | refine wpI_label ?_ | refine wpI_ret ?_ | refine wpI_exit ?_ | refine opI_nil ?_); try simp only [thenI, blkI, if_true, if_false, reduceIte, Nat.reduceEqDiff]) | (refine wpI_region ?_; simp only [List.size_toArray, List.length_cons, List.length_nil, Nat.reduceAdd, Nat.zero_add, List.range, List.range.loop]) | (refine opI_unwanted rfl (by rfl) ?_; try walk_nrm) | (refine opI_k rfl (by rfl) (fun w₁ hR K hK => ?_); skip; go_simp; refine hK _ (fun e he => ?_) ?_; (first | done | ((rw [listed_nil (by simp [go_sem, *])] at he; simp at he))); (try clear hc₁); (clear hK K hR; clear w₁); (try walk_nrm)))
  refine opI_defer rfl (by rfl) rfl ?_
  walk_nrm
  repeat (first | ((first | refine wpI_seq ?_ | refine wpI_block ?_ | refine wpI_skip ?_ | refine wpI_label ?_ | refine wpI_ret ?_ | refine wpI_exit ?_ | refine opI_nil ?_); try simp only [thenI, blkI, if_true, if_false, reduceIte, Nat.reduceEqDiff]) | (refine wpI_region ?_; simp only [List.size_toArray, List.length_cons, List.length_nil, Nat.reduceAdd, Nat.zero_add, List.range, List.range.loop]) | (refine opI_unwanted rfl (by rfl) ?_; try walk_nrm) | (refine opI_k rfl (by rfl) (fun w₁ hR K hK => ?_); skip; go_simp; refine hK _ (fun e he => ?_) ?_; (first | done | ((rw [listed_nil (by simp [go_sem, *])] at he; simp at he))); (try clear hc₁); (clear hK K hR; clear w₁); (try walk_nrm)))
  refine opI_pure (.bool false) rfl (fun b k cs hk w₁ => stepG_entry_pure (.bool false) rfl (by rfl) hk rfl H.f_inBubble (x_inBubble_n L) (x_inBubble_b L) (x_inBubble_x L) (x_inBubble_f L)) ?_
  walk_nrm
  repeat (first | ((first | refine wpI_seq ?_ | refine wpI_block ?_ | refine wpI_skip ?_ | refine wpI_label ?_ | refine wpI_ret ?_ | refine wpI_exit ?_ | refine opI_nil ?_); try simp only [thenI, blkI, if_true, if_false, reduceIte, Nat.reduceEqDiff]) | (refine wpI_region ?_; simp only [List.size_toArray, List.length_cons, List.length_nil, Nat.reduceAdd, Nat.zero_add, List.range, List.range.loop]) | (refine opI_unwanted rfl (by rfl) ?_; try walk_nrm) | (refine opI_k rfl (by rfl) (fun w₁ hR K hK => ?_); skip; go_simp; refine hK _ (fun e he => ?_) ?_; (first | done | ((rw [listed_nil (by simp [go_sem, *])] at he; simp at he))); (try clear hc₁); (clear hK K hR; clear w₁); (try walk_nrm)))
  (refine wpI_cond (t := false) rfl ?_; simp only [if_true, if_false, Bool.false_eq_true, reduceIte])
  repeat (first | ((first | refine wpI_seq ?_ | refine wpI_block ?_ | refine wpI_skip ?_ | refine wpI_label ?_ | refine wpI_ret ?_ | refine wpI_exit ?_ | refine opI_nil ?_); try simp only [thenI, blkI, if_true, if_false, reduceIte, Nat.reduceEqDiff]) | (refine wpI_region ?_; simp only [List.size_toArray, List.length_cons, List.length_nil, Nat.reduceAdd, Nat.zero_add, List.range, List.range.loop]) | (refine opI_unwanted rfl (by rfl) ?_; try walk_nrm) | (refine opI_k rfl (by rfl) (fun w₁ hR K hK => ?_); skip; go_simp; refine hK _ (fun e he => ?_) ?_; (first | done | ((rw [listed_nil (by simp [go_sem, *])] at he; simp at he))); (try clear hc₁); (clear hK K hR; clear w₁); (try walk_nrm)))
  refine opI_call rfl (by rfl) rfl (by
    have h := uAddW (γ := γ1) (w := w₁) H hp1 hA
    walk_nrm
    exact h) ?_
  rintro γ2 u2 w2 ⟨rfl, hR2, v, hv, rfl⟩
  replace hR := hR.trans hR2
  have hu2 : ∃ u, w2.cell? ⟨Wg, 1, none⟩ = some u := hR2.ex _ u1 hA.G hu1
  clear hR2 hu1
  obtain ⟨u1, hu1⟩ := hu2
  obtain ⟨V, hV⟩ : ∃ V : Int, Hd (V = (v : Int) + 1) := ⟨_, ⟨rfl⟩⟩
  obtain ⟨S, hS⟩ : ∃ S : Int, Hd (S = V * KK) := ⟨_, ⟨rfl⟩⟩
  rw [← hV.out, ← hS.out]
  have a1 : S / 4294967296 = V := by rw [hS.out]; simp only [KK]; omega
  have b1 : bits .and .u64 S 2147483648 = 0 := by rw [hS.out, hV.out]; have := ConcN.st_flag (v + 1) 0 (by omega) (by omega); simpa [KK] using this
  have b2 : bits .and .u64 S 2147483647 = 0 := by rw [hS.out, hV.out]; have := ConcN.st_waiters (v + 1) 0 (by omega) (by omega); simpa [KK] using this
  have hVb : 0 < V ∧ V < 2147483648 := by have := hV.out; omega
  have c1 : IntKind.i32.wrap V = V := by rw [IntKind.wrap_i32]; omega
  have q3 : decide (V < 0) = false := decide_eq_false (by omega)
  have q4 : decide (0 < V) = true := decide_eq_true (by omega)
  have q5 : (V == 0) = false := by simp; omega
  have q6 : decide (V = 0) = false := decide_eq_false (by omega)
  walk_nrm
  repeat (first | ((first | refine wpI_seq ?_ | refine wpI_block ?_ | refine wpI_skip ?_ | refine wpI_label ?_ | refine wpI_ret ?_ | refine wpI_exit ?_ | refine opI_nil ?_); try simp only [thenI, blkI, if_true, if_false, reduceIte, Nat.reduceEqDiff]) | (refine wpI_region ?_; simp only [List.size_toArray, List.length_cons, List.length_nil, Nat.reduceAdd, Nat.zero_add, List.range, List.range.loop]) | (refine opI_unwanted rfl (by rfl) ?_; try walk_nrm) | (refine opI_k rfl (by rfl) (fun w₁ hR K hK => ?_); skip; go_simp; refine hK _ (fun e he => ?_) ?_; (first | done | ((rw [listed_nil (by simp [go_sem, *])] at he; simp at he))); (try clear hc₁); (clear hK K hR; clear w₁); (try walk_nrm)))
  (refine wpI_cond (t := false) rfl ?_; simp only [if_true, if_false, Bool.false_eq_true, reduceIte])
  by_cases hV1 : V = 1
  · have q1 : (V == 1) = true := by simp [hV1]
    have q2 : decide (V = 1) = true := decide_eq_true hV1
    clear hV1
    repeat (first | ((first | refine wpI_seq ?_ | refine wpI_block ?_ | refine wpI_skip ?_ | refine wpI_label ?_ | refine wpI_ret ?_ | refine wpI_exit ?_ | refine opI_nil ?_); try simp only [thenI, blkI, if_true, if_false, reduceIte, Nat.reduceEqDiff]) | (refine wpI_region ?_; simp only [List.size_toArray, List.length_cons, List.length_nil, Nat.reduceAdd, Nat.zero_add, List.range, List.range.loop]) | (refine opI_unwanted rfl (by rfl) ?_; try walk_nrm) | (refine opI_k rfl (by rfl) (fun w₁ hR K hK => ?_); skip; go_simp; refine hK _ (fun e he => ?_) ?_; (first | done | ((rw [listed_nil (by simp [go_sem, *])] at he; simp at he))); (try clear hc₁); (clear hK K hR; clear w₁); (try walk_nrm)))
    (refine wpI_cond (t := true) rfl ?_; simp only [if_true, if_false, Bool.false_eq_true, reduceIte])
    repeat (first | ((first | refine wpI_seq ?_ | refine wpI_block ?_ | refine wpI_skip ?_ | refine wpI_label ?_ | refine wpI_ret ?_ | refine wpI_exit ?_ | refine opI_nil ?_); try simp only [thenI, blkI, if_true, if_false, reduceIte, Nat.reduceEqDiff]) | (refine wpI_region ?_; simp only [List.size_toArray, List.length_cons, List.length_nil, Nat.reduceAdd, Nat.zero_add, List.range, List.range.loop]) | (refine opI_unwanted rfl (by rfl) ?_; try walk_nrm) | (refine opI_k rfl (by rfl) (fun w₁ hR K hK => ?_); skip; go_simp; refine hK _ (fun e he => ?_) ?_; (first | done | ((rw [listed_nil (by simp [go_sem, *])] at he; simp at he))); (try clear hc₁); (clear hK K hR; clear w₁); (try walk_nrm)))
    refine opI_k rfl (by rfl) (fun w₁ hR' Kx hKx => ?_)
    obtain ⟨uu, huu⟩ := hR'.ex ⟨Wg, 1, none⟩ u1 hA.G hu1
    have hcv := run_convert_to_unsafe (P := P) H.underlying_tPU32 H.underlying_tUP H.room_tU32 huu
    have hce := fun es => events_convert_to_unsafe (P := P) H.underlying_tPU32 H.underlying_tUP H.room_tU32 huu es
    go_simp
    refine hKx _ (fun e he => ?_) ?_
    · have hm := mem_listed he
      simp [go_sem, hce, *] at hm
    clear hKx Kx hcv hce huu uu hR' w₁
    try walk_nrm
    refine opI_X (ty := L.tWg) fun b k cs hk w₁ hR' => ?_
    refine .said Wg C n K val j bd r _ .read rfl (.inl rfl) rfl (stepG_markAt .read (by simp) rfl (by rfl) hk rfl H.f_raceRead (x_raceRead_n L) (x_raceRead_b L) (x_raceRead_x L) (x_raceRead_f L) (ad := ⟨Wg, 1, none⟩) (by simp [Act.eval])) ⟨_, rfl, ?_⟩
    replace hR : Rl γ1 w w₁ := hR.trans hR'.of_to
    try walk_nrm
    repeat (first | ((first | refine wpI_seq ?_ | refine wpI_block ?_ | refine wpI_skip ?_ | refine wpI_label ?_ | refine wpI_ret ?_ | refine wpI_exit ?_ | refine opI_nil ?_); try simp only [thenI, blkI, if_true, if_false, reduceIte, Nat.reduceEqDiff]) | (refine wpI_region ?_; simp only [List.size_toArray, List.length_cons, List.length_nil, Nat.reduceAdd, Nat.zero_add, List.range, List.range.loop]) | (refine opI_unwanted rfl (by rfl) ?_; try walk_nrm) | (refine opI_k rfl (by rfl) (fun w₁ hR K hK => ?_); skip; go_simp; refine hK _ (fun e he => ?_) ?_; (first | done | ((rw [listed_nil (by simp [go_sem, *])] at he; simp at he))); (try clear hc₁); (clear hK K hR; clear w₁); (try walk_nrm)))
    (refine wpI_cond (t := false) rfl ?_; simp only [if_true, if_false, Bool.false_eq_true, reduceIte])
    repeat (first | ((first | refine wpI_seq ?_ | refine wpI_block ?_ | refine wpI_skip ?_ | refine wpI_label ?_ | refine wpI_ret ?_ | refine wpI_exit ?_ | refine opI_nil ?_); try simp only [thenI, blkI, if_true, if_false, reduceIte, Nat.reduceEqDiff]) | (refine wpI_region ?_; simp only [List.size_toArray, List.length_cons, List.length_nil, Nat.reduceAdd, Nat.zero_add, List.range, List.range.loop]) | (refine opI_unwanted rfl (by rfl) ?_; try walk_nrm) | (refine opI_k rfl (by rfl) (fun w₁ hR K hK => ?_); skip; go_simp; refine hK _ (fun e he => ?_) ?_; (first | done | ((rw [listed_nil (by simp [go_sem, *])] at he; simp at he))); (try clear hc₁); (clear hK K hR; clear w₁); (try walk_nrm)))
    (refine wpI_cond (t := false) rfl ?_; simp only [if_true, if_false, Bool.false_eq_true, reduceIte])
    repeat (first | ((first | refine wpI_seq ?_ | refine wpI_block ?_ | refine wpI_skip ?_ | refine wpI_label ?_ | refine wpI_ret ?_ | refine wpI_exit ?_ | refine opI_nil ?_); try simp only [thenI, blkI, if_true, if_false, reduceIte, Nat.reduceEqDiff]) | (refine wpI_region ?_; simp only [List.size_toArray, List.length_cons, List.length_nil, Nat.reduceAdd, Nat.zero_add, List.range, List.range.loop]) | (refine opI_unwanted rfl (by rfl) ?_; try walk_nrm) | (refine opI_k rfl (by rfl) (fun w₁ hR K hK => ?_); skip; go_simp; refine hK _ (fun e he => ?_) ?_; (first | done | ((rw [listed_nil (by simp [go_sem, *])] at he; simp at he))); (try clear hc₁); (clear hK K hR; clear w₁); (try walk_nrm)))
    (refine wpI_cond (t := true) rfl ?_; simp only [if_true, if_false, Bool.false_eq_true, reduceIte])
    repeat (first | ((first | refine wpI_seq ?_ | refine wpI_block ?_ | refine wpI_skip ?_ | refine wpI_label ?_ | refine wpI_ret ?_ | refine wpI_exit ?_ | refine opI_nil ?_); try simp only [thenI, blkI, if_true, if_false, reduceIte, Nat.reduceEqDiff]) | (refine wpI_region ?_; simp only [List.size_toArray, List.length_cons, List.length_nil, Nat.reduceAdd, Nat.zero_add, List.range, List.range.loop]) | (refine opI_unwanted rfl (by rfl) ?_; try walk_nrm) | (refine opI_k rfl (by rfl) (fun w₁ hR K hK => ?_); skip; go_simp; refine hK _ (fun e he => ?_) ?_; (first | done | ((rw [listed_nil (by simp [go_sem, *])] at he; simp at he))); (try clear hc₁); (clear hK K hR; clear w₁); (try walk_nrm)))
    first | exact ⟨rfl, rfl, rfl, hR⟩ | exact ⟨trivial, trivial, trivial, hR⟩
  · have q1 : (V == 1) = false := by simp [hV1]
    have q2 : decide (V = 1) = false := decide_eq_false hV1
    clear hV1
    repeat (first | ((first | refine wpI_seq ?_ | refine wpI_block ?_ | refine wpI_skip ?_ | refine wpI_label ?_ | refine wpI_ret ?_ | refine wpI_exit ?_ | refine opI_nil ?_); try simp only [thenI, blkI, if_true, if_false, reduceIte, Nat.reduceEqDiff]) | (refine wpI_region ?_; simp only [List.size_toArray, List.length_cons, List.length_nil, Nat.reduceAdd, Nat.zero_add, List.range, List.range.loop]) | (refine opI_unwanted rfl (by rfl) ?_; try walk_nrm) | (refine opI_k rfl (by rfl) (fun w₁ hR K hK => ?_); skip; go_simp; refine hK _ (fun e he => ?_) ?_; (first | done | ((rw [listed_nil (by simp [go_sem, *])] at he; simp at he))); (try clear hc₁); (clear hK K hR; clear w₁); (try walk_nrm)))
    (refine wpI_cond (t := false) rfl ?_; simp only [if_true, if_false, Bool.false_eq_true, reduceIte])
    repeat (first | ((first | refine wpI_seq ?_ | refine wpI_block ?_ | refine wpI_skip ?_ | refine wpI_label ?_ | refine wpI_ret ?_ | refine wpI_exit ?_ | refine opI_nil ?_); try simp only [thenI, blkI, if_true, if_false, reduceIte, Nat.reduceEqDiff]) | (refine wpI_region ?_; simp only [List.size_toArray, List.length_cons, List.length_nil, Nat.reduceAdd, Nat.zero_add, List.range, List.range.loop]) | (refine opI_unwanted rfl (by rfl) ?_; try walk_nrm) | (refine opI_k rfl (by rfl) (fun w₁ hR K hK => ?_); skip; go_simp; refine hK _ (fun e he => ?_) ?_; (first | done | ((rw [listed_nil (by simp [go_sem, *])] at he; simp at he))); (try clear hc₁); (clear hK K hR; clear w₁); (try walk_nrm)))
    (refine wpI_cond (t := false) rfl ?_; simp only [if_true, if_false, Bool.false_eq_true, reduceIte])
    repeat (first | ((first | refine wpI_seq ?_ | refine wpI_block ?_ | refine wpI_skip ?_ | refine wpI_label ?_ | refine wpI_ret ?_ | refine wpI_exit ?_ | refine opI_nil ?_); try simp only [thenI, blkI, if_true, if_false, reduceIte, Nat.reduceEqDiff]) | (refine wpI_region ?_; simp only [List.size_toArray, List.length_cons, List.length_nil, Nat.reduceAdd, Nat.zero_add, List.range, List.range.loop]) | (refine opI_unwanted rfl (by rfl) ?_; try walk_nrm) | (refine opI_k rfl (by rfl) (fun w₁ hR K hK => ?_); skip; go_simp; refine hK _ (fun e he => ?_) ?_; (first | done | ((rw [listed_nil (by simp [go_sem, *])] at he; simp at he))); (try clear hc₁); (clear hK K hR; clear w₁); (try walk_nrm)))
    (refine wpI_cond (t := false) rfl ?_; simp only [if_true, if_false, Bool.false_eq_true, reduceIte])
    repeat (first | ((first | refine wpI_seq ?_ | refine wpI_block ?_ | refine wpI_skip ?_ | refine wpI_label ?_ | refine wpI_ret ?_ | refine wpI_exit ?_ | refine opI_nil ?_); try simp only [thenI, blkI, if_true, if_false, reduceIte, Nat.reduceEqDiff]) | (refine wpI_region ?_; simp only [List.size_toArray, List.length_cons, List.length_nil, Nat.reduceAdd, Nat.zero_add, List.range, List.range.loop]) | (refine opI_unwanted rfl (by rfl) ?_; try walk_nrm) | (refine opI_k rfl (by rfl) (fun w₁ hR K hK => ?_); skip; go_simp; refine hK _ (fun e he => ?_) ?_; (first | done | ((rw [listed_nil (by simp [go_sem, *])] at he; simp at he))); (try clear hc₁); (clear hK K hR; clear w₁); (try walk_nrm)))
    (refine wpI_cond (t := true) rfl ?_; simp only [if_true, if_false, Bool.false_eq_true, reduceIte])
    repeat (first | ((first | refine wpI_seq ?_ | refine wpI_block ?_ | refine wpI_skip ?_ | refine wpI_label ?_ | refine wpI_ret ?_ | refine wpI_exit ?_ | refine opI_nil ?_); try simp only [thenI, blkI, if_true, if_false, reduceIte, Nat.reduceEqDiff]) | (refine wpI_region ?_; simp only [List.size_toArray, List.length_cons, List.length_nil, Nat.reduceAdd, Nat.zero_add, List.range, List.range.loop]) | (refine opI_unwanted rfl (by rfl) ?_; try walk_nrm) | (refine opI_k rfl (by rfl) (fun w₁ hR K hK => ?_); skip; go_simp; refine hK _ (fun e he => ?_) ?_; (first | done | ((rw [listed_nil (by simp [go_sem, *])] at he; simp at he))); (try clear hc₁); (clear hK K hR; clear w₁); (try walk_nrm)))
    first | exact ⟨rfl, rfl, rfl, hR⟩ | exact ⟨trivial, trivial, trivial, hR⟩
end
end Go.Proofs.Ytndfookgkkefnaa
