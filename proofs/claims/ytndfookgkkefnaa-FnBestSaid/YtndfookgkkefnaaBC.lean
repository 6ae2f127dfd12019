/- Calls and drawn regions among other goroutines. -/
import Derived.Test.YtndfookgkkefnaaBG
namespace Go.Proofs.Ytndfookgkkefnaa
set_option linter.unusedSimpArgs false
set_option linter.unusedVariables false
set_option linter.unusedSectionVars false
open Go Go.Conc

def bodyPostI (P : Program) (fn : Func) (Post : Gh → Value → World → Prop) : PoI
  | .normal, γ, a, w | .ret, γ, a, w => a.defers = [] ∧ ∃ v, ResultsC P fn a.tmps v ∧ Post γ v w
  | _, _, _, _ => False

def CallsI (P : Program) (main : Bool) (X : Pha) (f : FuncId) (args : Array Value) (γ : Gh) (w : World) (Post : Gh → Value → World → Prop) : Prop :=
  ∃ fn c, P.funcs[f]? = some fn ∧ (fn.name == "runtime.NumGoroutine") = false ∧ fn.body = some c ∧
    wpI P main X f c (bodyPostI P fn Post) γ { tmps := args ++ Array.replicate (fn.ntmps - args.size) undef, defers := [] } w

section
variable {P : Program} {main : Bool} {X : Pha} {Stop : Stp} {γ : Gh} {w : World}

theorem callsI_of {f : FuncId} {fn : Func} {c : Code} {args : Array Value} {Post : Gh → Value → World → Prop} (hf : P.funcs[f]? = some fn) (hname : (fn.name == "runtime.NumGoroutine") = false) (hb : fn.body = some c)
    (h : wpI P main X f c (bodyPostI P fn Post) γ { tmps := args ++ Array.replicate (fn.ntmps - args.size) undef, defers := [] } w) : CallsI P main X f args γ w Post := ⟨fn, c, hf, hname, hb, h⟩

theorem CallsI.mono {f : FuncId} {args : Array Value} {Post Post' : Gh → Value → World → Prop} (h : CallsI P main X f args γ w Post) (hp : ∀ γ v w, Post γ v w → Post' γ v w) : CallsI P main X f args γ w Post' := by
  obtain ⟨fn, c, hf, hn, hb, hw⟩ := h
  refine ⟨fn, c, hf, hn, hb, wpI_mono hw fun e γ a w q => ?_⟩
  cases e <;> first | exact ⟨q.1, q.2.choose, q.2.choose_spec.1, hp _ _ _ q.2.choose_spec.2⟩ | exact q
theorem CallsI.rely {f : FuncId} {args : Array Value} {Post : Gh → Value → World → Prop} {w₁ : World} (h : CallsI P main X f args γ w Post) (hr : Rl γ w w₁) : CallsI P main X f args γ w₁ Post := by
  obtain ⟨fn, c, hf, hn, hb, hw⟩ := h
  exact ⟨fn, c, hf, hn, hb, wpI_rely hw hr⟩

/-- the body of a callee, and back -/
theorem GI.enter {b : Frame} {a : Act} {k : List Item} {cs : List Frame} {ops : Array Oper} {i : Nat} {rest : List Nat} {o : Oper} {f : FuncId} {args : Array Value}
    {Post : Gh → Value → World → Prop} (ho : ops[i]? = some o) (hcall : CallsI P main X f args γ w Post)
    (hnext : ∀ γ' v w', Post γ' v w' → GI P main X Stop γ' (G (b.at (a.put o.dst v) (.inRegion ops rest :: k)) cs) w') :
    GI P main X Stop γ (G (Frame.enter P f args .normal) (b.at a (.inRegion ops (i :: rest) :: k) :: cs)) w := by
  have hfin : ∀ v, (b.at a (.inRegion ops (i :: rest) :: k)).finish v = b.at (a.put o.dst v) (.inRegion ops rest :: k) := fun v => by rw [Frame.finish_at, ho]; rfl
  obtain ⟨fn, c, hf, hname, hbody, hwp⟩ := hcall
  have hleave : ∀ (γ' : Gh) (a' : Act) (w' : World) (todo : List Item), (a'.defers = [] ∧ ∃ v, ResultsC P fn a'.tmps v ∧ Post γ' v w') →
      GI P main X Stop γ' (G { (base f).at a' todo with mode := .returning } (b.at a (.inRegion ops (i :: rest) :: k) :: cs)) w' := by
    rintro γ' a' w' todo ⟨hd, v, hr, hp⟩
    refine GI.step rfl fun w₁ h₁ => ?_
    rw [stepG_leave (b := base f) rfl hd hf (hr w₁).1 (hr w₁).2, hfin]
    exact ⟨γ', Up.idle0 γ' w₁, (hnext γ' v w' hp).rely h₁⟩
  rw [enter_at _ hf hbody]
  refine hwp (base f) [] _ Stop rfl (by simp [base]) fun e γ' a' w' q => ?_
  cases e with
  | normal => exact GI.ctl rfl (fun _ => stepG_end) (hleave γ' a' w' [] q)
  | ret => exact fun todo => hleave γ' a' w' todo q
  | exit id => exact q.elim
  | goto l => exact q.elim
  | panic ch => exact q.elim
  | outgrown => exact q.elim

theorem listed_call {fn : FuncId} {a : Act} {o : Oper} {f : FuncId} {fu : Func} {args : Array Operand} {ats : Array TypeId} (hop : o.op = .call { callee := .value (.func f), args, argTypes := ats })
    (hf : P.funcs[f]? = some fu) (hname : (fu.name == "runtime.NumGoroutine") = false) (hb : fu.body.isNone = false) : listed P fn a o w = #[] := by
  unfold listed; rw [events_call_body hop hf hname hb]; exact seen_none P _

/-- .. as a rule -/
theorem opI_call {fn : FuncId} {Q : PoI} {a : Act} {ops : Array Oper} {i : Nat} {rest : List Nat} {o : Oper} {f : FuncId} {args : Array Operand} {ats : Array TypeId} {Post : Gh → Value → World → Prop}
    (ho : ops[i]? = some o) (hw : Region.wanted o (yielded ops a.tmps) = true) (hop : o.op = .call { callee := .value (.func f), args, argTypes := ats })
    (hcall : CallsI P main X f (args.map a.eval) γ w Post) (hnext : ∀ γ' v w', Post γ' v w' → opI P main X fn ops rest Q γ' (a.put o.dst v) w') : opI P main X fn ops (i :: rest) Q γ a w := by
  intro b k cs Stop hb hk hc
  obtain ⟨fu, c, hf, hname, hbody, _⟩ := id hcall
  have hb' : fu.body.isNone = false := by rw [hbody]; rfl
  refine GI.step rfl fun w₁ h₁ => ?_
  rw [stepG_enter ho hw hk (run_call_body hop hf hname hb'), listed_call hop hf hname hb']
  exact ⟨γ, Up.idle0 γ w₁, GI.enter ho (hcall.rely h₁) fun γ' v w' hp => hnext γ' v w' hp b k cs Stop hb hk hc⟩

theorem Rl.get {w₁ : World} (h : Rl γ w w₁) {a : Addr} {v : Value} (hF : γ.F a.block) (hc : w.cell? a = some v) : w₁.cell? a = some v := (cell_of (h.blk _ hF)).trans hc
theorem Ev.read {γ : Gh} {w w' : World} {a : Addr} (h : γ.F a.block) : Ev γ w w' ⟨.cell a, false, false⟩ := .inl ⟨a, false, false, rfl, .inl ⟨h, rfl⟩⟩
/-- an operation that yields a value or nothing and turns nothing, what follows behind a variable; the world at hand stays -/
theorem opI_k {fn : FuncId} {Q : PoI} {a : Act} {ops : Array Oper} {i : Nat} {rest : List Nat} {o : Oper} (ho : ops[i]? = some o) (hw : Region.wanted o (yielded ops a.tmps) = true)
    (h : ∀ w₁, Rl γ w w₁ → ∀ K : Act → World → Prop, (∀ a', (∀ e ∈ listed P fn a o w₁, Ev γ w₁ w₁ e) → opI P main X fn ops rest Q γ a' w → K a' w₁) → uponK o a K ((execOp a.eval o).run P w₁)) : opI P main X fn ops (i :: rest) Q γ a w :=
  opI_cons ho hw fun w₁ h₁ => h w₁ h₁ _ fun _ he hn => ⟨γ, Up.idle γ w₁ he, opI_rely hn h₁⟩

/-! regions that draw their order -/

/-- the beginning's blocks and cells stand; what was counted on, is -/
structure Ext (γ₀ : Gh) (w₀ : World) (γ : Gh) (w : World) : Prop where
  F : ∀ b, γ₀.F b → γ.F b
  W : ∀ b, γ₀.W b → γ.W b
  Cs : ∀ a, γ₀.Cs a → γ.Cs a
  Q : ∀ b, γ₀.Q b → γ.Q b
  G : ∀ b, γ₀.G b → γ.G b
  p : γ.p = γ₀.p
  rl : Rl γ₀ w₀ w
theorem Ext.refl (γ : Gh) (w : World) : Ext γ w γ w := ⟨fun _ h => h, fun _ h => h, fun _ h => h, fun _ h => h, fun _ h => h, rfl, Rl.refl γ w⟩
theorem Ext.trans {γ γ₁ γ₂ : Gh} {w w₁ w₂ : World} (h : Ext γ w γ₁ w₁) (k : Ext γ₁ w₁ γ₂ w₂) : Ext γ w γ₂ w₂ :=
  ⟨fun b x => k.F b (h.F b x), fun b x => k.W b (h.W b x), fun b x => k.Cs b (h.Cs b x), fun b x => k.Q b (h.Q b x), fun b x => k.G b (h.G b x), k.p.trans h.p,
   ⟨Nat.le_trans h.rl.size k.rl.size, fun b x => (k.rl.blk b (h.F b x)).trans (h.rl.blk b x), fun a x => (k.rl.cell a (h.Cs a x)).trans (h.rl.cell a x), fun a x => (k.rl.fz a (h.Cs a x)).trans (h.rl.fz a x),
    fun b x => (k.rl.q b (h.Q b x)).trans (h.rl.q b x), fun a v hg hv => let ⟨v', hv'⟩ := h.rl.ex a v hg hv; k.rl.ex a v' (h.G _ hg) hv'⟩⟩
theorem Ext.of_rl {γ : Gh} {w w₁ : World} (h : Rl γ w w₁) : Ext γ w γ w₁ := ⟨fun _ h => h, fun _ h => h, fun _ h => h, fun _ h => h, fun _ h => h, rfl, h⟩
theorem Ext.rely {γ₀ γ : Gh} {w₀ w w₁ : World} (h : Ext γ₀ w₀ γ w) (r : Rl γ w w₁) : Ext γ₀ w₀ γ w₁ := h.trans (.of_rl r)

/-- what is asked once the operation has yielded this -/
def resI (P : Program) (main : Bool) (X : Pha) (fn : FuncId) (o : Oper) (γ : Gh) (a : Act) (w₁ : World) (K : Gh → Act → World → Prop) : Result Next → Prop
  | .ok (.value v) w' => ∃ γ', Up γ w₁ w' (listed P fn a o w₁) γ' ∧ K γ' (a.put o.dst v) w'
  | .ok .skip w' => ∃ γ', Up γ w₁ w' (listed P fn a o w₁) γ' ∧ K γ' (a.put o.dst undef) w'
  | .ok (.enter f args) w' => w' = w₁ ∧ listed P fn a o w₁ = #[] ∧ CallsI P main X f args γ w₁ fun γ' v w'' => K γ' (a.put o.dst v) w''
  | _ => False
theorem resI_mono {fn : FuncId} {o : Oper} {a : Act} {w₁ : World} {K K' : Gh → Act → World → Prop} {r : Result Next} (h : ∀ γ a w, K γ a w → K' γ a w) (hr : resI P main X fn o γ a w₁ K r) : resI P main X fn o γ a w₁ K' r := by
  cases r with
  | ok n w' =>
    cases n <;> first | exact hr | (obtain ⟨γ', hu, hk⟩ := hr; exact ⟨γ', hu, h _ _ _ hk⟩) | (obtain ⟨e, el, hc⟩ := hr; exact ⟨e, el, hc.mono fun _ _ _ x => h _ _ _ x⟩)
  | halt _ _ => exact hr
/-- operation number i comes up -/
def oneI (P : Program) (main : Bool) (X : Pha) (fn : FuncId) (ops : Array Oper) (i : Nat) (K : Gh → Act → World → Prop) (γ : Gh) (a : Act) (w : World) : Prop :=
  match ops[i]? with
  | none => False
  | some o => if Region.wanted o (yielded ops a.tmps) = true then ∀ w₁, Rl γ w w₁ → resI P main X fn o γ a w₁ K ((execOp a.eval o).run P w₁) else K γ (a.put o.dst undef) w
theorem oneI_mono {fn : FuncId} {ops : Array Oper} {i : Nat} {a : Act} {K K' : Gh → Act → World → Prop} (h : ∀ γ a w, K γ a w → K' γ a w) (hh : oneI P main X fn ops i K γ a w) : oneI P main X fn ops i K' γ a w := by
  unfold oneI at *
  cases ho : ops[i]? with
  | none => simp [ho] at hh
  | some o =>
    simp only [ho] at hh ⊢
    by_cases hw : Region.wanted o (yielded ops a.tmps) = true
    · rw [if_pos hw] at hh ⊢; exact fun w₁ h₁ => resI_mono h (hh w₁ h₁)
    · rw [if_neg hw] at hh ⊢; exact h _ _ _ hh
theorem opI_of_one {fn : FuncId} {Q : PoI} {a : Act} {ops : Array Oper} {i : Nat} {rest : List Nat} (h : oneI P main X fn ops i (fun γ' a' w' => opI P main X fn ops rest Q γ' a' w') γ a w) : opI P main X fn ops (i :: rest) Q γ a w := by
  unfold oneI at h
  cases ho : ops[i]? with
  | none => simp [ho] at h
  | some o =>
    simp only [ho] at h
    by_cases hw : Region.wanted o (yielded ops a.tmps) = true
    · rw [if_pos hw] at h
      intro b k cs Stop hb hk hc
      refine GI.step rfl fun w₁ h₁ => ?_
      have h := h w₁ h₁
      generalize hr : (execOp a.eval o).run P w₁ = r at h
      match r, h with
      | .ok (.value v) w', ⟨γ', hu, hg⟩ => rw [stepG_value ho hw hk hr]; exact ⟨γ', hb ▸ hu, hg b k cs Stop hb hk hc⟩
      | .ok .skip w', ⟨γ', hu, hg⟩ => rw [stepG_none ho hw hk hr]; exact ⟨γ', hb ▸ hu, hg b k cs Stop hb hk hc⟩
      | .ok (.enter f args) w', ⟨e, el, hcl⟩ =>
        subst e
        rw [stepG_enter ho hw hk hr, hb, el]
        exact ⟨γ, Up.idle0 γ _, GI.enter ho hcl fun γ' v w' hp => hp b k cs Stop hb hk hc⟩
    · rw [if_neg hw] at h; exact opI_unwanted ho (by simpa using hw) h
end
end Go.Proofs.Ytndfookgkkefnaa
