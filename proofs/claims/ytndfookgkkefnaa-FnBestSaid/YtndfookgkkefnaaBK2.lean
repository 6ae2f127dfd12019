/- A worker of perReceiver. -/
import Derived.Test.YtndfookgkkefnaaBK3
import Derived.Test.YtndfookgkkefnaaBWg
import Derived.Test.YtndfookgkkefnaaBW3
namespace Go.Proofs.Ytndfookgkkefnaa
set_option linter.unusedSimpArgs false
set_option linter.unusedVariables false
set_option linter.unusedSectionVars false
open Go Go.Conc Go.RowKit Go.Conc.Lib
open Go.ConcN (WgLive PayAt Has)
open Go.ConcR (KK WgAt stA smA rd wr mk Payload DC0)

section
variable {P : Program} {main : Bool} {X : Pha} {γ : Gh} {w : World} {fn : FuncId} {ops : Array Oper} {Q : PoI}
theorem oneI_call {i : Nat} {o : Oper} {a : Act} {f : FuncId} {fu : Func} {c : Code} {args : Array Operand} {ats : Array TypeId} {K : Gh → Act → World → Prop} (ho : ops[i]? = some o) (hw : Region.wanted o (yielded ops a.tmps) = true) (hop : o.op = .call { callee := .value (.func f), args, argTypes := ats })
    (hf : P.funcs[f]? = some fu) (hname : (fu.name == "runtime.NumGoroutine") = false) (hb : fu.body = some c)
    (hcall : ∀ w₁, Rl γ w w₁ → CallsI P main X f (args.map a.eval) γ w₁ fun γ' v w'' => K γ' (a.put o.dst v) w'') : oneI P main X fn ops i K γ a w := by
  have hb' : fu.body.isNone = false := by rw [hb]; rfl
  unfold oneI
  simp only [ho]
  rw [if_pos hw]
  intro w₁ h₁
  rw [run_call_body hop hf hname hb']
  exact ⟨rfl, listed_call hop hf hname hb', hcall w₁ h₁⟩
/-- a store into a single cell of one's own, in a drawn region -/
theorem oneI_pt {i : Nat} {o : Oper} {a : Act} {K : Gh → Act → World → Prop} (x : Addr) (u v : Value) (ho : ops[i]? = some o) (hw : Region.wanted o (yielded ops a.tmps) = true) (hu : w.cell? x = some u) (hz : w.frozen? x = false) (hx : γ.Cs x)
    (hr : ∀ w₁, w₁.cell? x = some u → w₁.frozen? x = false → (execOp a.eval o).run P w₁ = .ok .skip (w₁.setCell x v) ∧ ∀ e ∈ listed P fn a o w₁, e = ⟨.cell x, true, false⟩)
    (hn : ∀ w₁, Rl γ w w₁ → w₁.cell? x = some u → K γ (a.put o.dst undef) (w₁.setCell x v)) : oneI P main X fn ops i K γ a w := by
  unfold oneI
  simp only [ho]
  rw [if_pos hw]
  intro w₁ h₁
  have hu1 := (h₁.cell x hx).trans hu
  obtain ⟨h1, h2⟩ := hr w₁ hu1 ((h₁.fz x hx).trans hz)
  rw [h1]
  exact ⟨γ, ⟨by rw [size_set]; exact Nat.le_refl _, .inr ⟨x, u, v, hx, hu1, rfl⟩, fun _ h => .inl h, fun _ h => .inl h, fun _ h => h, fun e hm => (h2 e hm) ▸ .inl ⟨x, true, false, rfl, .inr (.inr (.inl hx))⟩, fun _ h => .inl h, rfl, rfl, ⟨rfl, rfl⟩⟩, hn w₁ h₁ hu1⟩
end

/-- what a worker reads -/
structure WkF (γ : Gh) (w : World) (b1 b2 b3 b5 : Nat) (tv : Value) (xs : List (List Bool)) (s r C : Nat) (cc : Nat) : Prop where
  F1 : γ.F b1
  F2 : γ.F b2
  F3 : γ.F b3
  F5 : γ.F b5
  c1 : w.cell? ⟨b1, 0, none⟩ = some tv
  c2 : w.cell? ⟨b2, 0, none⟩ = some (.int .i64 s)
  c3 : w.cell? ⟨b3, 0, none⟩ = some (.int .i64 r)
  c5 : w.cell? ⟨b5, 0, none⟩ = some (.slice (some ⟨C, 0, none⟩) xs.length cc)
  tab : TabI γ w tv xs
theorem WkF.ext {γ γ' : Gh} {w w' : World} {b1 b2 b3 b5 : Nat} {tv : Value} {xs : List (List Bool)} {s r C cc : Nat} (h : WkF γ w b1 b2 b3 b5 tv xs s r C cc) (e : Ext γ w γ' w') : WkF γ' w' b1 b2 b3 b5 tv xs s r C cc :=
  ⟨e.F _ h.F1, e.F _ h.F2, e.F _ h.F3, e.F _ h.F5, (cell_of (a := ⟨b1, 0, none⟩) (e.rl.blk _ h.F1)).trans h.c1, (cell_of (a := ⟨b2, 0, none⟩) (e.rl.blk _ h.F2)).trans h.c2, (cell_of (a := ⟨b3, 0, none⟩) (e.rl.blk _ h.F3)).trans h.c3, (cell_of (a := ⟨b5, 0, none⟩) (e.rl.blk _ h.F5)).trans h.c5, h.tab.ext e⟩

def callW (Wg b1 b2 b3 b5 : Nat) : Deferred := { target := .fn (.func 50) #[.pointer (some ⟨Wg, 0, none⟩), .pointer (some ⟨b1, 0, none⟩), .pointer (some ⟨b2, 0, none⟩), .pointer (some ⟨b3, 0, none⟩), .pointer (some ⟨b5, 0, none⟩)], args := #[] }
def bW : Frame := baseD 50
noncomputable def botW : Frame := { (default : Frame) with fn := Try.prog.funcs.size, defers := [], mode := .panicking [goexitEntry] }
noncomputable def bodyW : Code := Try.f50.body.getD .skip
theorem quitsTailW (T : Array Value) : QuitsD Try.prog 2 0 (G { bW.at ⟨T, []⟩ [] with mode := .returning } [botW]) := by
  refine QuitsD.ctl (g' := G botW []) rfl (fun w => ?_) ?_
  · simp [G, stepG, unwind, doReturn, results, Frame.at, bW, baseD, botW, Try.func50, Try.f50, seen, GStep.after, goexitEntry]
  refine QuitsD.ctl (g' := { G botW [] with status := .finished }) rfl (fun w => ?_) ⟨rfl, rfl⟩
  simp [G, stepG, unwind, botW, goexitEntry, Frame.catches]
  rfl
theorem born_stepW (Wg b1 b2 b3 b5 : Nat) (w : World) : stepG Try.prog false (born Try.prog (callW Wg b1 b2 b3 b5)) w =
    .go (G (bW.at ⟨#[.pointer (some ⟨Wg, 0, none⟩), .pointer (some ⟨b1, 0, none⟩), .pointer (some ⟨b2, 0, none⟩), .pointer (some ⟨b3, 0, none⟩), .pointer (some ⟨b5, 0, none⟩), undef, undef, undef, undef, undef, undef, undef, undef], []⟩ [.code bodyW]) [botW]) w #[] := by
  simp [born, callW, stepG, unwind, callDeferred, invoke, callFunc, Try.func50, Try.f50, seen, GStep.after, G, Frame.enter, Frame.at, bW, baseD, botW, bodyW]

instance : Payload := ⟨3⟩

set_option maxHeartbeats 8000000 in
set_option maxRecDepth 100000 in
theorem worker_c {γ : Gh} {w : World} {Wg C n r : Nat} {b1 b2 b3 b5 : Nat} {tv : Value} {xs : List (List Bool)} {s cc : Nat} (hF : WkF γ w b1 b2 b3 b5 tv xs s r C cc) (hL : Lies γ w) (hG : γ.G Wg) (hp : γ.p = .no) (hx : ∃ u, w.cell? ⟨Wg, 0, none⟩ = some u) (hC : ∀ a, γ.Cs a ↔ a = ⟨C, r, none⟩)
    (hu : ∃ u, w.cell? ⟨C, r, none⟩ = some u) (hz : w.frozen? ⟨C, r, none⟩ = false) (h0 : xs ≠ []) (hn : xs.length ≤ 5) (hr : ∀ bs ∈ xs, bs.length = xs.length) (hs : s < xs.length) (hrr : r < xs.length) :
    GI Try.prog false noPh (StopW Try.prog 68 Wg C n (r + 1) (.int .i64 (asg (onlyT s r xs) xs.length 0))) γ (born Try.prog (callW Wg b1 b2 b3 b5)) w := by
  refine GI.step rfl fun w₁ hR => ?_
  rw [born_stepW]
  refine ⟨γ, Up.idle0 γ w₁, ?_⟩
  replace hF := hF.ext (Ext.of_rl hR)
  replace hL := hL.rely hR
  replace hx : ∃ u, w₁.cell? ⟨Wg, 0, none⟩ = some u := by obtain ⟨u, hu⟩ := hx; exact hR.ex _ u hG hu
  replace hz := (hR.fz _ ((hC _).2 rfl)).trans hz
  replace hu : ∃ u, w₁.cell? ⟨C, r, none⟩ = some u := by obtain ⟨u, hu⟩ := hu; exact ⟨u, (hR.cell _ ((hC _).2 rfl)).trans hu⟩
  clear hR w
  simp only [bodyW, Try.f50, Option.getD_some]
  let Q : PoI := fun e γ' a' w' => e = .normal ∧ a'.defers = [dcall 51 #[.pointer (some ⟨Wg, 0, none⟩)]] ∧ γ'.Cs ⟨C, r, none⟩ ∧ γ'.G Wg ∧ (∃ u, w'.cell? ⟨Wg, 0, none⟩ = some u) ∧ Has C r (.int .i64 (asg (onlyT s r xs) xs.length 0)) w'
  refine wpI_seq (Q := Q) ?_ bW [] [botW] _ rfl (by simp [bW, baseD]) fun e γ' a' w' q => ?_
  · (refine wpI_region ?_; simp only [List.size_toArray, List.length_cons, List.length_nil, Nat.reduceAdd, Nat.zero_add, List.range, List.range.loop])
    refine opI_defer rfl (by rfl) rfl ?_
    try walk_nrm
    refine opI_nil ?_
    simp only [thenI]
    have hQ : RelyI Q := fun γ a w w₁ h r => ⟨h.1, h.2.1, h.2.2.1, h.2.2.2.1, (let ⟨u, hu⟩ := h.2.2.2.2.1; r.ex _ u h.2.2.2.1 hu), (r.cell _ h.2.2.1).trans h.2.2.2.2.2⟩
    refine wpI_draw (γ₀ := { γ with Cs := fun _ => False, Q := fun _ => False }) (w₀ := w₁) (by kernel_rfl) hQ ?_
    have hE0 : Ext { γ with Cs := fun _ => False, Q := fun _ => False } w₁ γ w₁ := ⟨fun _ h => h, fun _ h => h, fun _ h => h.elim, fun _ h => h.elim, fun _ h => h, rfl, ⟨Nat.le_refl _, fun _ _ => rfl, fun _ _ => rfl, fun _ _ => rfl, fun _ _ => rfl, fun _ v _ h => ⟨v, h⟩⟩⟩
    have hrn : (r : Int) < (xs.length : Int) := by omega
    have hr0 : (0 : Int) ≤ (r : Int) := by omega
    (refine anyI_take hQ (i := 0) (v := .slice (some ⟨C, 0, none⟩) xs.length cc) rfl (by kernel_rfl) (by kernel_rfl) (by kernel_rfl) (.inl ⟨by rfl, fun γ' w' hE => ?_⟩) hE0 ?_; (have hcc := (cell_of (a := ⟨b5, 0, none⟩) (hE.rl.blk _ hF.F5)).trans hF.c5; refine ⟨run_eq_of fun K hK => (by go_simp; exact hK), fun e he => ?_⟩; have hm := mem_listed he; simp [go_sem, *] at hm; subst hm; exact Ev.read (hE.F _ hF.F5)); walk_nrm)
    (refine anyI_take hQ (i := 1) (v := .int .i64 r) rfl (by kernel_rfl) (by kernel_rfl) (by kernel_rfl) (.inl ⟨by rfl, fun γ' w' hE => ?_⟩) hE0 ?_; (have hcc := (cell_of (a := ⟨b3, 0, none⟩) (hE.rl.blk _ hF.F3)).trans hF.c3; refine ⟨run_eq_of fun K hK => (by go_simp; exact hK), fun e he => ?_⟩; have hm := mem_listed he; simp [go_sem, *] at hm; subst hm; exact Ev.read (hE.F _ hF.F3)); walk_nrm)
    (refine anyI_take hQ (i := 2) (v := tv) rfl (by kernel_rfl) (by kernel_rfl) (by kernel_rfl) (.inl ⟨by rfl, fun γ' w' hE => ?_⟩) hE0 ?_; (have hcc := (cell_of (a := ⟨b1, 0, none⟩) (hE.rl.blk _ hF.F1)).trans hF.c1; refine ⟨run_eq_of fun K hK => (by go_simp; exact hK), fun e he => ?_⟩; have hm := mem_listed he; simp [go_sem, *] at hm; subst hm; exact Ev.read (hE.F _ hF.F1)); walk_nrm)
    (refine anyI_take hQ (i := 3) (v := .int .i64 s) rfl (by kernel_rfl) (by kernel_rfl) (by kernel_rfl) (.inl ⟨by rfl, fun γ' w' hE => ?_⟩) hE0 ?_; (have hcc := (cell_of (a := ⟨b2, 0, none⟩) (hE.rl.blk _ hF.F2)).trans hF.c2; refine ⟨run_eq_of fun K hK => (by go_simp; exact hK), fun e he => ?_⟩; have hm := mem_listed he; simp [go_sem, *] at hm; subst hm; exact Ev.read (hE.F _ hF.F2)); walk_nrm)
    (refine anyI_take hQ (i := 4) (v := .int .i64 r) rfl (by kernel_rfl) (by kernel_rfl) (by kernel_rfl) (.inl ⟨by rfl, fun γ' w' hE => ?_⟩) hE0 ?_; (have hcc := (cell_of (a := ⟨b3, 0, none⟩) (hE.rl.blk _ hF.F3)).trans hF.c3; refine ⟨run_eq_of fun K hK => (by go_simp; exact hK), fun e he => ?_⟩; have hm := mem_listed he; simp [go_sem, *] at hm; subst hm; exact Ev.read (hE.F _ hF.F3)); walk_nrm)
    refine anyI_all (rs := [5]) (by kernel_rfl) (by simp) fun i hi => ?_
    obtain rfl : i = 5 := by simpa using hi
    refine oneI_call rfl (by rfl) rfl Try.func52 (by kernel_rfl) rfl fun w₂ hR₂ => ?_
    try walk_nrm
    refine (only_c false noPh γ w₂ tv xs s r (hF.ext (Ext.of_rl hR₂)).tab h0 hn hr hs hrr (hL.rely hR₂)).mono ?_
    rintro γ3 u3 w3 ⟨hE3, hL3, hT3⟩
    replace hE3 := (Ext.of_rl hR₂).trans hE3
    refine ⟨hE0.trans hE3, ?_⟩
    try walk_nrm
    refine anyI_all (rs := [6]) (by kernel_rfl) (by simp) fun i hi => ?_
    obtain rfl : i = 6 := by simpa using hi
    refine oneI_call rfl (by rfl) rfl Try.func33 (by kernel_rfl) rfl fun w₄ hR₄ => ?_
    try walk_nrm
    refine (assignments_c false noPh γ3 w₄ u3 (onlyT s r xs) (hT3.ext (Ext.of_rl hR₄)) (by rw [onlyT_length]; exact hn) (fun bs hb => ?_) xs.length 0 0 (by rw [onlyT_length]; omega)).mono ?_
    · simp only [onlyT, List.mem_mapIdx] at hb
      obtain ⟨i, hi, rfl⟩ := hb
      rw [onlyR_length, hr _ (List.getElem_mem hi)]
      exact hn
    rintro _ _ _ ⟨rfl, rfl, rfl⟩
    replace hE3 := hE3.trans (Ext.of_rl hR₄)
    refine ⟨hE0.trans hE3, ?_⟩
    try walk_nrm
    refine anyI_take hQ (i := 7) (v := .pointer (some ⟨C, r, none⟩)) rfl (by kernel_rfl) (by kernel_rfl) (by kernel_rfl) ?_ (hE0.trans hE3) ?_
    · refine .inl ⟨by rfl, fun γ' w' hE => ⟨run_eq_of fun K hK => (by go_simp; exact hK), fun e he => ?_⟩⟩
      have hm := mem_listed he
      simp [go_sem, *] at hm
    try walk_nrm
    refine anyI_all (rs := [8]) (by kernel_rfl) (by simp) fun i hi => ?_
    obtain rfl : i = 8 := by simpa using hi
    obtain ⟨u, hu⟩ := hu
    have hC0 := (hC ⟨C, r, none⟩).2 rfl
    have hu4 := (hE3.rl.cell _ hC0).trans hu
    have hz4 := (hE3.rl.fz _ hC0).trans hz
    refine oneI_pt ⟨C, r, none⟩ u (.int .i64 (asg (onlyT s r xs) xs.length 0)) rfl (by rfl) hu4 hz4 (hE3.Cs _ hC0) (fun w₅ hc₅ hz₅ => ⟨by simp [go_sem, stored, *], fun e he => ?_⟩) fun w₅ hR₅ hc₅ => ?_
    · have hm := mem_listed he
      simp [go_sem, evS_int, storedEv, *] at hm
      exact hm
    have hCF : ¬ γ.F C := fun h => (hL.Cs _ hC0).2 h
    have hE5 := hE3.trans (Ext.of_rl hR₅)
    refine ⟨⟨hE5.F, hE5.W, fun _ h => h.elim, fun _ h => h.elim, hE5.G, hE5.p, ⟨by rw [size_set]; exact hE5.rl.size, fun b hb => (set_other (fun e => hCF (by have : b = C := e; exact this ▸ hb)) _).trans (hE5.rl.blk b hb), fun _ h => h.elim, fun _ h => h.elim, fun _ h => h.elim, fun a v hg hv => let ⟨v', hv'⟩ := hE5.rl.ex a v hg hv; cell_set hv' _ _⟩⟩, ?_⟩
    refine anyI_done (by kernel_rfl) ?_ _
    refine ⟨rfl, rfl, hE5.Cs _ hC0, hE5.G _ hG, ?_, set_same hc₅ _⟩
    obtain ⟨ux, hux⟩ := hx
    obtain ⟨v', hv'⟩ := hE5.rl.ex _ ux hG hux
    exact cell_set hv' _ _
  · obtain ⟨rfl, hd, hc', hG', hx', hh'⟩ := q
    refine GI.ctl rfl (fun _ => stepG_end) ?_
    refine GI.ctl rfl (fun _ => stepG_unwind_enter hd Try.func51 (by kernel_rfl) rfl) ?_
    exact doneI wgLib rfl (quitsTailW a'.tmps) hG' hx' hc' hh'
end Go.Proofs.Ytndfookgkkefnaa
