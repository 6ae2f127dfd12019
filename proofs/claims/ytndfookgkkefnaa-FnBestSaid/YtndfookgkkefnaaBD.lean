/- Drawn regions among other goroutines: what yields a value and turns nothing may be taken first. -/
import Derived.Test.YtndfookgkkefnaaBC
import Derived.OrdersHeld
namespace Go.Proofs.Ytndfookgkkefnaa
set_option linter.unusedSimpArgs false
set_option linter.unusedVariables false
set_option linter.unusedSectionVars false
open Go Go.Conc

section
variable {P : Program} {main : Bool} {X : Pha} {γ γ₀ : Gh} {w w₀ : World} {fn : FuncId} {ops : Array Oper} {Q : PoI} {md : Region.Mode}

/-- in state a, wherever the beginning's blocks stand, operation o yields v and turns nothing -/
def YieldsI (P : Program) (fn : FuncId) (ops : Array Oper) (γ₀ : Gh) (w₀ : World) (o : Oper) (v : Value) (a : Act) : Prop :=
  (Region.wanted o (yielded ops a.tmps) = true ∧ ∀ γ w, Ext γ₀ w₀ γ w → (execOp a.eval o).run P w = .ok (.value v) w ∧ ∀ e ∈ listed P fn a o w, Ev γ w w e) ∨
  (Region.wanted o (yielded ops a.tmps) = false ∧ v = undef)
theorem YieldsI.of_same {o : Oper} {v : Value} {a a' : Act} (hy : YieldsI P fn ops γ₀ w₀ o v a) (he : execOp a'.eval o = execOp a.eval o)
    (hw : Region.wanted o (yielded ops a'.tmps) = Region.wanted o (yielded ops a.tmps)) : YieldsI P fn ops γ₀ w₀ o v a' := by
  unfold YieldsI listed at *
  rw [he, hw]
  exact hy

/-- whatever order is picked from here on -/
def AnyI (P : Program) (main : Bool) (X : Pha) (fn : FuncId) (md : Region.Mode) (ops : Array Oper) (Q : PoI) (γ₀ : Gh) (w₀ : World) : Nat → Array Bool → Gh → Act → World → Prop
  | 0, l, γ, a, w => Region.ready md ops l = [] ∧ Q .normal γ a w
  | n + 1, l, γ, a, w => (Region.ready md ops l = [] → Q .normal γ a w) ∧
    ∀ i ∈ Region.ready md ops l, oneI P main X fn ops i (fun γ' a' w' => Ext γ₀ w₀ γ' w' ∧ AnyI P main X fn md ops Q γ₀ w₀ n (l.setIfInBounds i true) γ' a' w') γ a w

/-- what follows a region bears the others' doing -/
def RelyI (Q : PoI) : Prop := ∀ γ a w w₁, Q .normal γ a w → Rl γ w w₁ → Q .normal γ a w₁

theorem AnyI.rely (hQ : RelyI Q) : ∀ (n : Nat) (l : Array Bool) (γ : Gh) (a : Act) (w w₁ : World), AnyI P main X fn md ops Q γ₀ w₀ n l γ a w → Rl γ w w₁ → AnyI P main X fn md ops Q γ₀ w₀ n l γ a w₁
  | 0, _, _, _, _, _, h, r => ⟨h.1, hQ _ _ _ _ h.2 r⟩
  | n + 1, l, γ, a, w, w₁, h, r => ⟨fun e => hQ _ _ _ _ (h.1 e) r, fun i hi => by
      have h := h.2 i hi
      unfold oneI at *
      cases ho : ops[i]? with
      | none => simp [ho] at h
      | some o =>
        simp only [ho] at h ⊢
        by_cases hw : Region.wanted o (yielded ops a.tmps) = true
        · rw [if_pos hw] at h ⊢; exact fun w₂ h₂ => h w₂ (r.trans h₂)
        · rw [if_neg hw] at h ⊢; exact ⟨h.1.rely r, AnyI.rely hQ n _ _ _ _ _ h.2 r⟩⟩

theorem anyI_sound : ∀ (n t : Nat) (l : Array Bool) (γ : Gh) (a : Act) (w : World), AnyI P main X fn md ops Q γ₀ w₀ n l γ a w → opI P main X fn ops (Region.linearise.go md ops n t l []) Q γ a w := by
  intro n
  induction n with
  | zero => intro t l γ a w h; simpa [Region.linearise.go] using opI_nil h.2
  | succ n ih =>
    intro t l γ a w h
    have hgo : Region.linearise.go md ops (n + 1) t l [] = (match (Region.ready md ops l)[t % (Region.ready md ops l).length]? with
      | some i => Region.linearise.go md ops n (t / (Region.ready md ops l).length) (l.setIfInBounds i true) [i]
      | none => [].reverse) := rfl
    rw [hgo]
    cases hi : (Region.ready md ops l)[t % (Region.ready md ops l).length]? with
    | none =>
      have hnil : Region.ready md ops l = [] := by
        cases hr : Region.ready md ops l with
        | nil => rfl
        | cons x xs =>
          rw [hr] at hi
          have hlt : t % (x :: xs).length < (x :: xs).length := Nat.mod_lt _ (by simp)
          rw [List.getElem?_eq_none_iff] at hi
          omega
      simpa using opI_nil (h.1 hnil)
    | some i =>
      simp only []
      rw [linearise_go_acc, List.reverse_singleton, List.singleton_append]
      exact opI_of_one (oneI_mono (fun γ' a' w' x => ih _ _ γ' a' w' x.2) (h.2 i (List.mem_of_getElem? hi)))

theorem YieldsI.one {i : Nat} {o : Oper} {v : Value} {a : Act} (hi : ops[i]? = some o) (hy : YieldsI P fn ops γ₀ w₀ o v a)
    {K : Gh → Act → World → Prop} (hK : ∀ a x y, K γ a x → Rl γ x y → K γ a y) (hS : Ext γ₀ w₀ γ w) (h : K γ (a.put o.dst v) w) : oneI P main X fn ops i K γ a w := by
  unfold oneI
  simp only [hi]
  rcases hy with ⟨hw, hv⟩ | ⟨hw, rfl⟩
  · rw [if_pos hw]
    intro w₁ h₁
    have := hv γ w₁ (hS.rely h₁)
    rw [this.1]
    exact ⟨γ, Up.idle γ w₁ this.2, hK _ _ _ h h₁⟩
  · rw [if_neg (by simp [hw])]; exact h

/-- an operation that is apart from it may as well come before it -/
theorem oneI_putIf {j : Nat} {oi oj : Oper} {v : Value} (hj : ops[j]? = some oj) (hap : oi.apart ops oj = true)
    (hsi : ∀ cs b, oi.op ≠ .select cs b) (hsj : ∀ cs b, oj.op ≠ .select cs b) {K : Gh → Act → World → Prop} {a : Act}
    (hy : YieldsI P fn ops γ₀ w₀ oi v a) (h : oneI P main X fn ops j K γ (a.put oi.dst v) w) :
    oneI P main X fn ops j (fun γ' a' w' => YieldsI P fn ops γ₀ w₀ oi v a' ∧ K γ' (a'.put oi.dst v) w') γ a w := by
  obtain ⟨h1, h2, h3⟩ := Oper.apart_spec hap
  have keep : ∀ u, YieldsI P fn ops γ₀ w₀ oi v (a.put oj.dst u) := fun u => hy.of_same (execOp_put oi hsi a oj.dst u h3) (wanted_put oi a oj.dst u h3)
  unfold oneI at *
  simp only [hj] at *
  rw [wanted_put oj a oi.dst v h1] at h
  by_cases hw : Region.wanted oj (yielded ops a.tmps) = true
  · rw [if_pos hw] at h ⊢
    intro w₁ h₁
    have h := h w₁ h₁
    rw [execOp_put oj hsj a oi.dst v h1] at h
    have hl : listed P fn (a.put oi.dst v) oj w₁ = listed P fn a oj w₁ := by unfold listed; rw [execOp_put oj hsj a oi.dst v h1]
    generalize (execOp a.eval oj).run P w₁ = r at *
    match r, h with
    | .ok (.value u) w', ⟨γ', hu, hg⟩ => exact ⟨γ', hl ▸ hu, keep u, by rw [← Act.put_comm a v u h2]; exact hg⟩
    | .ok .skip w', ⟨γ', hu, hg⟩ => exact ⟨γ', hl ▸ hu, keep _, by rw [← Act.put_comm a v undef h2]; exact hg⟩
    | .ok (.enter f args) w', ⟨e, el, hc⟩ => exact ⟨e, hl ▸ el, hc.mono fun γ' u w'' x => ⟨keep u, by rw [← Act.put_comm a v u h2]; exact x⟩⟩
  · rw [if_neg hw] at h ⊢
    exact ⟨keep _, by rw [← Act.put_comm a v undef h2]; exact h⟩

theorem anyI_first (hQ : RelyI Q) {i : Nat} {oi : Oper} {v : Value} (hi : ops[i]? = some oi) (hsel : ∀ (j : Nat) (o : Oper) cs b, ops[j]? = some o → o.op ≠ .select cs b) :
    ∀ (n : Nat) (l : Array Bool) (γ : Gh) (a : Act) (w : World),
      (∀ j oj, ops[j]? = some oj → j ≠ i → l.getD j true = false → (∀ e ∈ oj.after, Region.binds md e = true → e.on ≠ i) → oi.apart ops oj = true) →
      i ∈ Region.ready md ops l → YieldsI P fn ops γ₀ w₀ oi v a → Ext γ₀ w₀ γ w →
      AnyI P main X fn md ops Q γ₀ w₀ n (l.setIfInBounds i true) γ (a.put oi.dst v) w → AnyI P main X fn md ops Q γ₀ w₀ (n + 1) l γ a w := by
  have hK : ∀ n l γ, ∀ a x y, (Ext γ₀ w₀ γ x ∧ AnyI P main X fn md ops Q γ₀ w₀ n l γ a x) → Rl γ x y → (Ext γ₀ w₀ γ y ∧ AnyI P main X fn md ops Q γ₀ w₀ n l γ a y) :=
    fun n l γ a x y h r => ⟨h.1.rely r, AnyI.rely hQ n l γ a x y h.2 r⟩
  intro n
  induction n with
  | zero =>
    intro l γ a w _ hr hy hS H
    refine ⟨fun h => (by rw [h] at hr; cases hr), fun j hj => ?_⟩
    by_cases hji : j = i
    · subst hji; exact hy.one hi (hK _ _ _) hS ⟨hS, H⟩
    · have := ready_mono hj hji
      rw [H.1] at this
      cases this
  | succ n ih =>
    intro l γ a w hfree hr hy hS H
    refine ⟨fun h => (by rw [h] at hr; cases hr), fun j hj => ?_⟩
    by_cases hji : j = i
    · subst hji; exact hy.one hi (hK _ _ _) hS ⟨hS, H⟩
    · have h1 := H.2 j (ready_mono hj hji)
      obtain ⟨hjun, oj, hoj, hall⟩ := mem_ready.1 hj
      have hnot : ∀ e ∈ oj.after, Region.binds md e = true → e.on ≠ i := fun e he hb heq => by
        have h1 := hall e he hb
        have h0 := (mem_ready.1 hr).1
        rw [heq] at h1
        rcases Nat.lt_or_ge i l.size with h' | h'
        · simp [h'] at h0 h1; rw [h0] at h1; cases h1
        · simp [Array.getElem?_eq_none h'] at h1
      have h2 := oneI_putIf hoj (hfree j oj hoj hji hjun hnot) (fun cs b => hsel i oi cs b hi) (fun cs b => hsel j oj cs b hoj) hy h1
      have hfree' : ∀ k ok, ops[k]? = some ok → k ≠ i → (l.setIfInBounds j true).getD k true = false →
          (∀ e ∈ ok.after, Region.binds md e = true → e.on ≠ i) → oi.apart ops ok = true := fun k ok hk hki hun hno => by
        refine hfree k ok hk hki ?_ hno
        by_cases hjk : j = k
        · subst hjk; exact hjun
        · rw [getD_set_ne true hjk] at hun; exact hun
      refine oneI_mono (fun γ' a' w' h3 => ⟨h3.2.1, ih (l.setIfInBounds j true) γ' a' w' hfree' (ready_mono hr (Ne.symm hji)) h3.1 h3.2.1 ?_⟩) h2
      rw [Array.setIfInBounds_comm _ _ hji]
      exact h3.2.2

/-- take number i first -/
theorem anyI_take (hQ : RelyI Q) {i : Nat} {oi : Oper} {v : Value} {n : Nat} {l : Array Bool} {a : Act} (hi : ops[i]? = some oi)
    (hs : Region.noSelect ops = true) (hf : Region.free md ops l i = true) (hr : (Region.ready md ops l).contains i = true)
    (hy : YieldsI P fn ops γ₀ w₀ oi v a) (hS : Ext γ₀ w₀ γ w) (h : AnyI P main X fn md ops Q γ₀ w₀ n (l.setIfInBounds i true) γ (a.put oi.dst v) w) : AnyI P main X fn md ops Q γ₀ w₀ (n + 1) l γ a w :=
  anyI_first hQ hi (Region.noSelect_spec hs) n l γ a w (Region.free_spec hi hf) (by simpa using hr) hy hS h
/-- whichever comes up -/
theorem anyI_all {rs : List Nat} {n : Nat} {l : Array Bool} {a : Act} (hr : Region.ready md ops l = rs) (hne : rs ≠ [])
    (h : ∀ i ∈ rs, oneI P main X fn ops i (fun γ' a' w' => Ext γ₀ w₀ γ' w' ∧ AnyI P main X fn md ops Q γ₀ w₀ n (l.setIfInBounds i true) γ' a' w') γ a w) : AnyI P main X fn md ops Q γ₀ w₀ (n + 1) l γ a w :=
  ⟨fun h0 => absurd (hr ▸ h0) hne, hr ▸ h⟩
theorem anyI_done {l : Array Bool} {a : Act} (hr : Region.ready md ops l = []) (h : Q .normal γ a w) : ∀ n, AnyI P main X fn md ops Q γ₀ w₀ n l γ a w
  | 0 => ⟨hr, h⟩
  | _ + 1 => ⟨fun _ => h, fun i hi => by rw [hr] at hi; cases hi⟩
/-- the beginning -/
theorem wpI_draw {id : Nat} {a : Act} (hm : P.follows .mixedOrders = true) (hQ : RelyI Q)
    (h : AnyI P main X fn .any ops Q γ₀ w₀ ops.size (Array.replicate ops.size false) γ a w) : wpI P main X fn (.region id ops true) Q γ a w := fun b k cs Stop hb hk hc => by
  refine GI.step rfl fun w₁ h₁ => ?_
  rw [stepG_region_draw]
  refine ⟨γ, ⟨Nat.le_refl _, .inl fun _ _ _ => rfl, fun _ h => .inl h, fun _ h => .inl h, fun _ h => h, by simp, fun _ h => .inl h, rfl, rfl, ⟨rfl, rfl⟩⟩, ?_⟩
  have h2 : Rl γ w { w₁ with drawn := w₁.drawn + 1 } := ⟨h₁.size, h₁.blk, h₁.cell, h₁.fz, h₁.q, h₁.ex⟩
  simp only [Region.schedule, hm, Bool.true_or, if_true]
  exact anyI_sound ops.size _ _ γ a _ (AnyI.rely hQ _ _ _ _ _ _ h h2) b k cs Stop hb hk hc
theorem relyI_then {c : Code} {Q : PoI} : RelyI (thenI (wpI P main X fn c Q) Q) := fun _ _ _ _ h r => wpI_rely h r
end
end Go.Proofs.Ytndfookgkkefnaa
