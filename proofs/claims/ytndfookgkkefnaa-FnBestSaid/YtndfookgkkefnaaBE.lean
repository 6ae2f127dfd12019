/- append among other goroutines. -/
import Derived.Test.YtndfookgkkefnaaBD
import Derived.Conc.AppendWalk
namespace Go.Proofs.Ytndfookgkkefnaa
set_option linter.unusedSimpArgs false
set_option linter.unusedVariables false
set_option linter.unusedSectionVars false
open Go Go.Conc

theorem ownsRow_at {w w₁ : World} {base size n : Nat} {e : TypeId} {v : Value} {xs : List Value} (h : w.ownsRow base e size v n xs) (hb : ∀ b, v.ownBlock = some b → w₁.heap[b]? = w.heap[b]?) : w₁.ownsRow base e size v n xs := by
  refine ⟨h.1, h.2.imp id ?_⟩
  rintro ⟨g, cap, cur, rfl, h1, h2, h3⟩
  exact ⟨g, cap, cur, rfl, h1, (hb g rfl).trans h2, h3⟩
def Gh.grow (γ : Gh) (s s' : Nat) : Gh := { γ with F := fun b => γ.F b ∨ (s ≤ b ∧ b < s'), W := fun b => γ.W b ∨ (s ≤ b ∧ b < s') }

section
variable {P : Program} {main : Bool} {X : Pha} {γ : Gh} {w : World} {fn : FuncId} {ops : Array Oper} {Q : PoI}
theorem opI_app {i : Nat} {rest : List Nat} {o : Oper} {a : Act} (ho : ops[i]? = some o) (hw : Region.wanted o (yielded ops a.tmps) = true)
    (s x : Operand) (t : TypeId) (hop : o.op = .call { callee := .builtin .append, args := #[s, x], argTypes := #[t, t] })
    (base : Nat) (e : TypeId) (inf : TypeInfo) (z : Value) (size bytes : Nat) (ht : P.underlying t = some (.slice e)) (hi : P.info? e = some inf) (hz : inf.zero = some z)
    (hsize : inf.size = size) (hby : inf.bytes = bytes) (hzs : z.cells.size = size) (hsz : 0 < size)
    (v : Value) (n : Nat) (xs : List Value) (hs : a.eval s = v) (hown : w.ownsRow base e size v n xs) (hv : ∀ b, v.ownBlock = some b → γ.W b ∧ γ.F b)
    (ad : Addr) (m c : Nat) (hx : a.eval x = .slice (some ad) m c) (hF : γ.F ad.block) (news : List Value) (hl : news.length = m * size)
    (hnews : ∀ j u, news[j]? = some u → w.cell? (ad.add j) = some u) (h1 : ∀ u ∈ news, u.oneCell' = true) (h63 : n + m ≤ maxLen) (hbytes : (n + m) * bytes ≤ 140737488355328) (hbase : base ≤ w.heap.size)
    (hC : ∀ y, γ.Cs y → y.block < w.heap.size ∧ ∀ b, v.ownBlock = some b → y.block ≠ b) (hlt : ∀ b, γ.F b → b < w.heap.size)
    (hQ : ∀ b, γ.Q b ∨ γ.G b → b < w.heap.size ∧ ¬ γ.F b)
    (hn : ∀ γ' v' w', ((∀ b, γ.W b → γ.F b) → ∀ b, γ'.W b → γ'.F b) → (∀ b, v'.ownBlock = some b → v.ownBlock = some b ∨ w.heap.size ≤ b) → γ'.Q = γ.Q → γ'.G = γ.G → γ'.p = γ.p → (∀ b, γ.Q b → w'.heap[b]? = w.heap[b]?) → (∀ a v, γ.G a.block → w.cell? a = some v → ∃ v', w'.cell? a = some v') → (∀ b, γ.F b → γ'.F b) → (∀ b, γ.W b → γ'.W b) → γ'.Cs = γ.Cs → (∀ b, v'.ownBlock = some b → γ'.W b ∧ γ'.F b) → w'.ownsRow base e size v' (n + m) (xs ++ news) →
      w.heap.size ≤ w'.heap.size → (∀ b, γ.F b → v.ownBlock ≠ some b → w'.heap[b]? = w.heap[b]?) → (∀ b, γ'.F b → b < w'.heap.size ∧ (γ.F b ∨ w.heap.size ≤ b)) → (∀ y, γ.Cs y → w'.cell? y = w.cell? y ∧ w'.frozen? y = w.frozen? y) → opI P main X fn ops rest Q γ' (a.put o.dst v') w') :
    opI P main X fn ops (i :: rest) Q γ a w := by
  refine opI_cons ho hw fun w₁ h₁ => ?_
  have hown1 := ownsRow_at hown fun b hb => h₁.blk b (hv b hb).2
  have hb1 : ∀ j, (ad.add j).block = ad.block := fun j => addBlock ad j
  have hnews1 : ∀ j u, news[j]? = some u → w₁.cell? (ad.add j) = some u := fun j u hj => h₁.get (by rw [hb1]; exact hF) (hnews j u hj)
  obtain ⟨v', w', hr, ho', hg, hiff⟩ := run_append_own (P := P) w₁ base t o.type e inf z size bytes ht hi hz hsize hby hzs hsz v n xs hown1 ad m c news hl hnews1 h1 h63 hbytes (Nat.le_trans hbase h₁.size)
  have hev := events_append_where (P := P) w₁ base t o.type e inf z size bytes ht hi hz hsize hby v n xs hown1 ad m c news hl hnews1 h1 h63 hbytes
  have hg0 := hg
  refine uponK_append s x t hop hs hx hr ⟨γ.grow w₁.heap.size w'.heap.size, ?_, ?_⟩
  · refine ⟨hg.size, ?_, fun b hb => hb, fun b hb => hb, fun _ h => h, fun ev hm => ?_, fun _ h => .inl h, rfl, rfl, ⟨hg.os, hg.output⟩⟩
    · refine .inl fun b hb hnw => hg.block b hb fun e => hnw (hv b ?_).1
      exact e.symm
    · rcases hev ev (by have := mem_listed hm; rwa [events_append_op s x t hop hs hx] at this) with ⟨y, hy, hyy⟩ | hm
      · obtain ⟨loc, wr, sy⟩ := ev
        obtain rfl : loc = .cell y := hy
        rcases hyy with ⟨hwr, hyb⟩ | hyb
        · obtain rfl : wr = false := hwr
          exact .inl ⟨y, false, sy, rfl, .inl ⟨by rw [hyb]; exact hF, rfl⟩⟩
        · exact .inl ⟨y, wr, sy, rfl, .inr (.inl (hv _ hyb.symm).1)⟩
      · exact .inr hm
  · have hown' : ∀ b, v'.ownBlock = some b → v.ownBlock = some b ∨ w₁.heap.size ≤ b := by
      rcases hown1.2 with ⟨rfl, rfl⟩ | ⟨g, cap, cur, rfl, hbg, hgc, hnc, hcm, hcs, htake⟩
      · have hx0 : xs = [] := List.eq_nil_of_length_eq_zero (by simpa using hown1.1)
        subst hx0
        obtain ⟨v2, w2, hr2, ho2, _, _⟩ := run_append_own (P := P) w₁ w₁.heap.size t o.type e inf z size bytes ht hi hz hsize hby hzs hsz _ 0 [] (World.ownsRow_nil w₁ _ e size) ad m c news hl hnews1 h1 h63 hbytes (Nat.le_refl _)
        have hh := hr.symm.trans hr2
        injection hh with hh1 hh2
        subst hh1
        intro b hb
        rcases ho2.2 with ⟨rfl, _⟩ | ⟨g, _, _, rfl, hgb, _⟩
        · cases hb
        · simp only [Value.ownBlock, Option.some.injEq] at hb; exact .inr (hb ▸ hgb)
      · by_cases hroom : n + m ≤ cap
        · have hfit : n * inf.size + news.length ≤ cur.size := by rw [hl, hcs, hsize, ← Nat.add_mul]; exact Nat.mul_le_mul_right _ hroom
          have hr2 := run_append_room (P := P) w₁ t o.type e inf ht hi g n cap cur hgc ad m c news (by rw [hsize]; exact hl) hnews1 h1 hroom hfit
          have hh := hr.symm.trans hr2
          injection hh with hh1 hh2
          subst hh1
          exact fun b hb => .inl hb
        · have hr2 := run_append_grow (P := P) w₁ t o.type e inf z ht hi hz ⟨g, 0, none⟩ n cap xs (by rw [hsize]; exact hown1.1) (hown1.cells (g := g) rfl) ad m c news (by rw [hsize]; exact hl) hnews1 (by omega) (by simp only [maxLen] at h63; omega) (growslice_fits (by omega) (by rw [hby]; exact hbytes))
          have hh := hr.symm.trans hr2
          injection hh with hh1 hh2
          subst hh1
          intro b hb
          simp only [Value.ownBlock, Option.some.injEq] at hb
          exact .inr (by omega)
    have hin : ∀ b, v'.ownBlock = some b → b < w'.heap.size := by
      intro b hb
      rcases ho'.2 with ⟨rfl, _⟩ | ⟨g, _, cur, rfl, _, hgc, _⟩
      · cases hb
      · simp only [Value.ownBlock, Option.some.injEq] at hb
        subst hb
        exact (Array.getElem?_eq_some_iff.1 hgc).1
    refine hn _ v' w' (fun hWF b hb => hb.imp (hWF b) id) (fun b hb => (hown' b hb).imp id fun h => Nat.le_trans h₁.size h) rfl rfl rfl (fun b hb => ?_) (fun a u hg hu => ?_) (fun b hb => .inl hb) (fun b hb => .inl hb) rfl (fun b hb => ?_) ho' (Nat.le_trans h₁.size hg.size) (fun b hb hne => ?_) (fun b hb => ?_) fun y hy => ?_
    · have h2 := hQ b (.inl hb)
      rw [hg.block b (Nat.lt_of_lt_of_le h2.1 h₁.size) (fun e => h2.2 (hv b e.symm).2)]
      exact h₁.q b hb
    · have h2 := hQ _ (.inr hg)
      obtain ⟨u', hu'⟩ := h₁.ex a u hg hu
      exact ⟨u', (cell_of (hg0.block a.block (Nat.lt_of_lt_of_le h2.1 h₁.size) (fun e => h2.2 (hv _ e.symm).2))).trans hu'⟩
    · rcases hown' b hb with h | h
      · exact ⟨.inl (hv b h).1, .inl (hv b h).2⟩
      · exact ⟨.inr ⟨h, hin b hb⟩, .inr ⟨h, hin b hb⟩⟩
    · rw [hg.block b (Nat.lt_of_lt_of_le (hlt b hb) h₁.size) (fun e => hne e.symm)]
      exact h₁.blk b hb
    · rcases hb with hb | hb
      · exact ⟨Nat.lt_of_lt_of_le (hlt b hb) (Nat.le_trans h₁.size hg.size), .inl hb⟩
      · exact ⟨hb.2, .inr (Nat.le_trans h₁.size hb.1)⟩
    · have := hC y hy
      have hbl := hg.block y.block (Nat.lt_of_lt_of_le this.1 h₁.size) fun e => this.2 _ e.symm rfl
      rw [World.cell?_of_block hbl, World.frozen?_of_block hbl]
      exact ⟨h₁.cell y hy, h₁.fz y hy⟩
/-- a store into a block of one's own, what follows behind a variable -/
theorem opI_st {i : Nat} {rest : List Nat} {o : Oper} {a : Act} (x : Addr) (u v : Value) (ho : ops[i]? = some o) (hw : Region.wanted o (yielded ops a.tmps) = true) (hu : w.cell? x = some u) (hz : w.frozen? x = false) (hx : γ.W x.block ∧ γ.F x.block)
    (h : ∀ w₁, w₁.cell? x = some u → w₁.frozen? x = false → ∀ K : Act → World → Prop, (∀ a', (∀ e ∈ listed P fn a o w₁, e = ⟨.cell x, true, false⟩) → opI P main X fn ops rest Q γ a' (w.setCell x v) → K a' (w₁.setCell x v)) → uponK o a K ((execOp a.eval o).run P w₁)) : opI P main X fn ops (i :: rest) Q γ a w :=
  opI_cons ho hw fun w₁ h₁ => h w₁ (h₁.get hx.2 hu) ((World.frozen?_of_block (h₁.blk _ hx.2)).trans hz) _ fun a' he hn =>
    ⟨γ, ⟨by rw [size_set]; exact Nat.le_refl _, .inl fun b hb hn => set_other (fun e => hn (by rw [e]; exact hx.1)) _, fun _ h => .inl h, fun _ h => .inl h, fun _ h => h, fun e hm => (he e hm) ▸ .inl ⟨x, true, false, rfl, .inr (.inl hx.1)⟩, fun _ h => .inl h, rfl, rfl, ⟨rfl, rfl⟩⟩, opI_rely hn (h₁.set hx.2 v)⟩
/-- .. into a single cell of one's own -/
theorem opI_pt {i : Nat} {rest : List Nat} {o : Oper} {a : Act} (x : Addr) (u v : Value) (ho : ops[i]? = some o) (hw : Region.wanted o (yielded ops a.tmps) = true) (hu : w.cell? x = some u) (hz : w.frozen? x = false) (hx : γ.Cs x) (hF : ¬ γ.F x.block) (hQ : ¬ γ.Q x.block) (hC : ∀ y, γ.Cs y → y = x)
    (h : ∀ w₁, w₁.cell? x = some u → w₁.frozen? x = false → ∀ K : Act → World → Prop, (∀ a', (∀ e ∈ listed P fn a o w₁, e = ⟨.cell x, true, false⟩) → opI P main X fn ops rest Q γ a' (w.setCell x v) → K a' (w₁.setCell x v)) → uponK o a K ((execOp a.eval o).run P w₁)) : opI P main X fn ops (i :: rest) Q γ a w :=
  opI_cons ho hw fun w₁ h₁ => h w₁ ((h₁.cell x hx).trans hu) ((h₁.fz x hx).trans hz) _ fun a' he hn => by
    have h1 : w₁.cell? x = some u := (h₁.cell x hx).trans hu
    refine ⟨γ, ⟨by rw [size_set]; exact Nat.le_refl _, .inr ⟨x, u, v, hx, h1, rfl⟩, fun _ h => .inl h, fun _ h => .inl h, fun _ h => h, fun e hm => (he e hm) ▸ .inl ⟨x, true, false, rfl, .inr (.inr (.inl hx))⟩, fun _ h => .inl h, rfl, rfl, ⟨rfl, rfl⟩⟩, opI_rely hn ?_⟩
    refine ⟨by rw [size_set, size_set]; exact h₁.size, fun b hb => ?_, fun y hy => ?_, fun y hy => by rw [fz_set, fz_set]; exact h₁.fz y hy, fun b hb => ?_, fun a u hg hu => ?_⟩
    · have hne : b ≠ x.block := fun e => hF (e ▸ hb)
      rw [set_other hne, set_other hne]; exact h₁.blk b hb
    · obtain rfl := hC y hy
      rw [set_same hu, set_same h1]
    · have hne : b ≠ x.block := fun e => hQ (e ▸ hb)
      rw [set_other hne, set_other hne]; exact h₁.q b hb
    · obtain ⟨u0, hu0⟩ := cell_unset hu
      obtain ⟨u1, hu1⟩ := h₁.ex a u0 hg hu0
      exact cell_set hu1 x v
end
theorem evS_bool (P : Program) (w : World) (es : Array Event) (a : Addr) (m : Mode) (b : Bool) : (store a (.bool b) m).events P w es = storedEv P w es a (.bool b) m := events_store P w es a _ m rfl
theorem evS_slice (P : Program) (w : World) (es : Array Event) (a : Addr) (m : Mode) (b : Option Addr) (l c : Nat) : (store a (.slice b l c) m).events P w es = storedEv P w es a (.slice b l c) m := events_store P w es a _ m rfl
theorem evS_int (P : Program) (w : World) (es : Array Event) (a : Addr) (m : Mode) (k : IntKind) (n : Int) : (store a (.int k n) m).events P w es = storedEv P w es a (.int k n) m := events_store P w es a _ m rfl
theorem evS_ptr (P : Program) (w : World) (es : Array Event) (a : Addr) (m : Mode) (b : Option Addr) : (store a (.pointer b) m).events P w es = storedEv P w es a (.pointer b) m := events_store P w es a _ m rfl
theorem fz_own {w : World} {base size n g l c : Nat} {e : TypeId} {xs : List Value} (h : w.ownsRow base e size (.slice (some ⟨g, 0, none⟩) l c) n xs) (i : Nat) : w.frozen? ⟨g, i, none⟩ = false := by
  rcases h.2 with ⟨h1, _⟩ | ⟨g', _, cur, h1, _, hb, _⟩
  · cases h1
  · simp only [Value.slice.injEq, Option.some.injEq, Addr.mk.injEq] at h1
    obtain ⟨⟨rfl, _⟩, _⟩ := h1
    simp [World.frozen?, hb]
end Go.Proofs.Ytndfookgkkefnaa
