/- The starter's Add, as a rule. -/
import Derived.Test.YtndfookgkkefnaaBK3
namespace Go.Proofs.Ytndfookgkkefnaa
set_option linter.unusedSimpArgs false
set_option linter.unusedVariables false
set_option linter.unusedSectionVars false
open Go Go.Conc Go.RowKit Go.Conc.Lib Go.ConcR.Gen
open Go.ConcN (WgLive PayAt Has)
open Go.ConcR (KK WgAt stA smA rd wr mk Payload DC0)

section
variable [Payload] {P : Program} {L : WgLink} {γ γ1 : Gh} {w : World} {fn : FuncId} {ops : Array Oper} {Q : PoI}
theorem unwind_mark {main : Bool} {b : Frame} {a : Act} {todo : List Item} {cs : List Frame} {f : FuncId} {fu : Func} {ds : List Deferred} (hd : a.defers = dcall f #[] :: ds) (hf : P.funcs[f]? = some fu) (hname : (fu.name == "runtime.NumGoroutine") = false)
    (hb : fu.body.isNone = true) (hn : Extern.findNext fu = none) (he : Extern.find fu = some (fun _ => do mark .enable; pure Extern.Race.none_)) :
    stepG P main (G { b.at a todo with mode := .returning } cs) w = .go (G { b.at ⟨a.tmps, ds⟩ todo with mode := .returning } cs) w #[mk .enable] :=
  stepG_unwind_entry (v := .tuple #[]) hd hf hname hb hn he (by simp [Extern.Race.none_]) (by simp [mk]) (by
    intro x hx'
    simp [mk] at hx'
    subst hx'
    exact ⟨rfl, fun g h => by cases h⟩)

theorem opI_add (H : WgLib P L) {Wg C n j bd r : Nat} {K : Nat → Prop} {val : Nat → Value} {i : Nat} {rest : List Nat} {o : Oper} {a : Act} {args : Array Operand} {ats : Array TypeId}
    (hX : ∀ (g g' : Goroutine) (w₁ : World) (Post : Stp), Rl γ w w₁ → g.status = .running → stepG P true g w₁ = .go g' w₁ #[mk .disable] → Post γ1 g' w₁ → XS P L.tWg γ g w₁ Post)
    (hp1 : γ1.p = .at Wg C n K val j (.sp r 4) bd) (hA : Aw γ1 Wg) (hex : ∀ w₁, Rl γ w w₁ → ∃ u, w₁.cell? ⟨Wg, 1, none⟩ = some u) (hR1 : ∀ w₁ w₂, Rl γ w₁ w₂ → Rl γ w w₁ → Rl γ1 w₁ w₂)
    (ho : ops[i]? = some o) (hw : Region.wanted o (yielded ops a.tmps) = true) (hop : o.op = .call { callee := .value (.func L.add), args, argTypes := ats }) (hargs : args.map a.eval = #[.pointer (some ⟨Wg, 0, none⟩), .int .i64 1])
    (hn : ∀ w', Rl γ1 w w' → opI P true (XS P L.tWg) fn ops rest Q (γ1.to (.at Wg C n K val j (.sp r 2) bd)) (a.put o.dst (.tuple #[])) w') : opI P true (XS P L.tWg) fn ops (i :: rest) Q γ a w := by
  intro b k cs Stop hb hk hc
  refine GI.step rfl fun w₁ hR0 => ?_
  rw [call_nil ho hw hk hop H.f_add (nm_add L) rfl, hargs]
  refine ⟨γ, Up.idle0 γ w₁, ?_⟩
  have hW := addW (γ := γ) (γ1 := γ1) (w := w₁) (Wg := Wg) (C := C) (n := n) (j := j) (bd := bd) (r := r) (K := K) (val := val) H (fun g g' w₂ Post h => hX g g' w₂ Post (hR0.trans h)) hp1 hA (fun w₂ h => hex w₂ (hR0.trans h)) (fun w₂ h => hR1 w₁ w₂ h hR0)
  refine hW (base L.add) [] (b.at a (.inRegion ops (i :: rest) :: k) :: cs) Stop rfl (by simp [base]) ?_
  rintro e γ' a' w' ⟨rfl, hd, rfl, hR⟩
  intro todo
  have hRw : Rl γ1 w w' := (hR1 w w₁ hR0 (Rl.refl _ _)).trans hR
  refine GI.phase (fun γ'' g'' w'' => γ'' = γ1.to (.at Wg C n K val j (.sp r 2) bd) ∧ g'' = G { (base L.add).at ⟨a'.tmps, []⟩ todo with mode := .returning } (b.at a (.inRegion ops (i :: rest) :: k) :: cs) ∧ Rl γ1 w w'')
    (fun w₂ h₂ => .ena Wg C n K val j bd r _ rfl rfl (unwind_mark hd H.f_enable (x_enable_n L) (x_enable_b L) (x_enable_x L) (x_enable_f L)) ⟨rfl, rfl, hRw.trans h₂.of_to⟩) ?_
  rintro _ _ w₃ ⟨rfl, rfl, hR3⟩
  refine GI.ctl rfl (fun w₄ => stepG_leave (v := .tuple #[]) rfl rfl H.f_add (results_none rfl _ P w₄) (events_results_none rfl _ _)) ?_
  rw [show (b.at a (.inRegion ops (i :: rest) :: k)).finish (.tuple #[]) = b.at (a.put o.dst (.tuple #[])) (.inRegion ops rest :: k) from by rw [Frame.finish_at, ho]; rfl]
  exact hn w₃ hR3 b k cs Stop hb hk hc
end
end Go.Proofs.Ytndfookgkkefnaa
