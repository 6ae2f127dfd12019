/- perReceiver: what the starter knows. -/
import Derived.Test.YtndfookgkkefnaaBK2
import Derived.Test.YtndfookgkkefnaaBK6
namespace Go.Proofs.Ytndfookgkkefnaa
set_option linter.unusedSimpArgs false
set_option linter.unusedVariables false
set_option linter.unusedSectionVars false
open Go Go.Conc Go.RowKit Go.Conc.Lib
open Go.ConcN (WgLive PayAt Has)
open Go.ConcR (KK WgAt stA smA rd wr mk Payload DC0)
abbrev tWG : TypeId := 68
/-- the starter's steps -/
abbrev XB : Pha := XS Try.prog tWG
/-- how many assignments give the sender this receiver -/
def perR (xs : List (List Bool)) (s r : Nat) : Int := asg (onlyT s r xs) xs.length 0
theorem infoInt : (Try.prog.info? 3).map (fun i => (i.zero, i.size, i.bytes)) = some (some (.int .i64 0), 1, 8) := by kernel_rfl

/-- what stands all the while -/
structure Bx (γ : Gh) (w : World) (γ1 : Gh) (w1 : World) (b1 b2 b5 C n : Nat) (v : Value) (s : Nat) : Prop where
  F : ∀ b, γ.F b → γ1.F b
  Q : ∀ b, γ.Q b → γ1.Q b
  G : ∀ b, γ.G b → γ1.G b
  rl : Rl γ w w1
  lies : Lies γ1 w1
  F1 : γ1.F b1
  F2 : γ1.F b2
  F5 : γ1.F b5
  c1 : w1.cell? ⟨b1, 0, none⟩ = some v
  c2 : w1.cell? ⟨b2, 0, none⟩ = some (.int .i64 s)
  c5 : w1.cell? ⟨b5, 0, none⟩ = some (.slice (some ⟨C, 0, none⟩) n n)
  ge : w.heap.size ≤ C
  nC : ¬ γ1.Q C ∧ ¬ γ1.G C
/-- ahead of the first Add -/
structure Pre (γ : Gh) (w : World) (γ1 : Gh) (w1 : World) (C Wg n : Nat) : Prop where
  W : ∀ b, γ.W b → γ1.W b
  qW : γ1.Q Wg
  wg : WgAt tWG Wg w1 0 0
  WC : γ1.W C
  FC : γ1.F C
  pay : PayAt C n w1
  cs : ∀ a, ¬ γ1.Cs a
  p : γ1.p = .no
  ge : w.heap.size ≤ Wg
/-- while they are being started: k are -/
structure OpS (γ : Gh) (γ1 : Gh) (w1 : World) (C Wg n k : Nat) (K : Nat → Prop) : Prop where
  hK : ∀ b, γ.W b → K b
  KF : ∀ b, K b → γ1.F b ∨ b = C
  aw : Aw γ1 Wg
  cs : ∀ a, γ1.Cs a ↔ ∃ i, k ≤ i ∧ i < n ∧ a = ⟨C, i, none⟩
  cl : ∀ i, k ≤ i → i < n → (∃ u, w1.cell? ⟨C, i, none⟩ = some u) ∧ w1.frozen? ⟨C, i, none⟩ = false
  x0 : ∃ u, w1.cell? ⟨Wg, 0, none⟩ = some u
  x1 : ∃ u, w1.cell? ⟨Wg, 1, none⟩ = some u

section
variable {γ γ1 : Gh} {w w1 w2 : World} {b1 b2 b5 C Wg n k s : Nat} {v : Value} {K : Nat → Prop}
theorem Rl.anyG {γ γ1 : Gh} {w1 w2 : World} (hF : ∀ b, γ.F b → γ1.F b) (hC : ∀ a, γ.Cs a → γ1.Cs a) (hQ : ∀ b, γ.Q b → γ1.Q b) (hG : ∀ b, γ.G b → γ1.G b) (h : Rl γ1 w1 w2) : Rl γ w1 w2 :=
  ⟨h.size, fun b hb => h.blk b (hF b hb), fun a ha => h.cell a (hC a ha), fun a ha => h.fz a (hC a ha), fun b hb => h.q b (hQ b hb), fun a u hg hu => h.ex a u (hG _ hg) hu⟩
theorem Bx.rely (h : Bx γ w γ1 w1 b1 b2 b5 C n v s) (hCs : ∀ a, ¬ γ.Cs a) (r : Rl γ1 w1 w2) : Bx γ w γ1 w2 b1 b2 b5 C n v s :=
  ⟨h.F, h.Q, h.G, h.rl.trans (r.anyG h.F (fun a ha => (hCs a ha).elim) h.Q h.G), h.lies.rely r, h.F1, h.F2, h.F5, r.get (a := ⟨b1, 0, none⟩) h.F1 h.c1, r.get (a := ⟨b2, 0, none⟩) h.F2 h.c2, r.get (a := ⟨b5, 0, none⟩) h.F5 h.c5, h.ge, h.nC⟩
theorem Pre.rely (h : Pre γ w γ1 w1 C Wg n) (r : Rl γ1 w1 w2) : Pre γ w γ1 w2 C Wg n :=
  ⟨h.W, h.qW, (r.q _ h.qW).trans h.wg, h.WC, h.FC, (let ⟨cs, h1, h2⟩ := h.pay; ⟨cs, (r.blk _ h.FC).trans h1, h2⟩), h.cs, h.p, h.ge⟩
theorem OpS.rely (h : OpS γ γ1 w1 C Wg n k K) (r : Rl γ1 w1 w2) : OpS γ γ1 w2 C Wg n k K :=
  ⟨h.hK, h.KF, h.aw, h.cs, fun i hi hn => (let ⟨⟨u, hu⟩, hz⟩ := h.cl i hi hn; have hc := (h.cs ⟨C, i, none⟩).2 ⟨i, hi, hn, rfl⟩; ⟨⟨u, (r.cell _ hc).trans hu⟩, (r.fz _ hc).trans hz⟩),
   (let ⟨u, hu⟩ := h.x0; r.ex _ u h.aw.G hu), (let ⟨u, hu⟩ := h.x1; r.ex _ u h.aw.G hu)⟩
/-- a box more -/
theorem Bx.new (h : Bx γ w γ1 w1 b1 b2 b5 C n v s) (hCs : ∀ a, ¬ γ.Cs a) (ob : Obj) : Bx γ w (γ1.new w1.heap.size) (w1.alloc ob) b1 b2 b5 C n v s := by
  have hL := h.lies
  have r := Rl.alloc hL ob
  exact ⟨fun b hb => .inl (h.F b hb), h.Q, h.G, h.rl.trans (r.anyG h.F (fun a ha => (hCs a ha).elim) h.Q h.G), hL.new ob, .inl h.F1, .inl h.F2, .inl h.F5, r.get (a := ⟨b1, 0, none⟩) h.F1 h.c1, r.get (a := ⟨b2, 0, none⟩) h.F2 h.c2, r.get (a := ⟨b5, 0, none⟩) h.F5 h.c5, h.ge, h.nC⟩
theorem Pre.new (h : Pre γ w γ1 w1 C Wg n) (hL : Lies γ1 w1) (ob : Obj) : Pre γ w (γ1.new w1.heap.size) (w1.alloc ob) C Wg n := by
  have r := Rl.alloc hL ob
  have h' := h.rely r
  exact ⟨fun b hb => .inl (h.W b hb), h.qW, h'.wg, .inl h.WC, .inl h.FC, h'.pay, h.cs, h.p, h.ge⟩
theorem OpS.new (h : OpS γ γ1 w1 C Wg n k K) (hL : Lies γ1 w1) (ob : Obj) : OpS γ (γ1.new w1.heap.size) (w1.alloc ob) C Wg n k K := by
  have h' := h.rely (Rl.alloc hL ob)
  have hW := (hL.Q Wg (.inr h.aw.G)).1
  exact ⟨h.hK, fun b hb => (h.KF b hb).imp .inl id, ⟨fun hf => hf.elim h.aw.F fun e => by omega, h.aw.Q, h.aw.C, h.aw.G⟩, h.cs, h'.cl, h'.x0, h'.x1⟩
theorem Rl.allocSet {γ1 : Gh} {w1 : World} (hL : Lies γ1 w1) (ob : Obj) (o : Nat) (u : Value) : Rl γ1 w1 ((w1.alloc ob).setCell ⟨w1.heap.size, o, none⟩ u) := by
  have r := Rl.alloc hL ob
  have ne : ∀ b, b < w1.heap.size → b ≠ (⟨w1.heap.size, o, none⟩ : Addr).block := fun b hb e => by have : b = w1.heap.size := e; omega
  refine r.trans ⟨by rw [size_set]; exact Nat.le_refl _, fun b hb => set_other (ne b (hL.F b hb)) _, fun a ha => cell_of (set_other (ne _ (hL.Cs a ha).1) _), fun a ha => fz_set _ _ _ _, fun b hb => set_other (ne b (hL.Q b (.inl hb)).1) _, fun a u' _ hu => cell_set hu _ _⟩
/-- a new block is taken up -/
theorem Bx.grow (h : Bx γ w γ1 w1 b1 b2 b5 C n v s) {N : Nat} (hN : N < w1.heap.size) (hQ : ¬ γ1.Q N ∧ ¬ γ1.G N) (hC : ∀ y, γ1.Cs y → y.block ≠ N) : Bx γ w (γ1.new N) w1 b1 b2 b5 C n v s := by
  refine ⟨fun b hb => .inl (h.F b hb), h.Q, h.G, h.rl, ⟨fun b hb => ?_, fun y hy => ?_, fun b hb => ?_, fun b hb => hb.imp (h.lies.W b) id⟩, .inl h.F1, .inl h.F2, .inl h.F5, h.c1, h.c2, h.c5, h.ge, h.nC⟩
  · rcases hb with hb | rfl
    · exact h.lies.F b hb
    · exact hN
  · have := h.lies.Cs y hy
    exact ⟨this.1, fun x => x.elim this.2 (hC y hy)⟩
  · have := h.lies.Q b hb
    refine ⟨this.1, fun x => ?_⟩
    rcases x with x | rfl
    · exact this.2 x
    · exact hb.elim hQ.1 hQ.2
theorem Pre.grow (h : Pre γ w γ1 w1 C Wg n) (N : Nat) : Pre γ w (γ1.new N) w1 C Wg n :=
  ⟨fun b hb => .inl (h.W b hb), h.qW, h.wg, .inl h.WC, .inl h.FC, h.pay, h.cs, h.p, h.ge⟩
theorem OpS.grow (h : OpS γ γ1 w1 C Wg n k K) {N : Nat} (hN : Wg ≠ N) : OpS γ (γ1.new N) w1 C Wg n k K :=
  ⟨h.hK, fun b hb => (h.KF b hb).imp .inl id, ⟨fun hf => hf.elim h.aw.F hN, h.aw.Q, h.aw.C, h.aw.G⟩, h.cs, h.cl, h.x0, h.x1⟩
/-- what Add asks -/
structure Rdy (γ1 γa : Gh) (w1 : World) (C Wg n k : Nat) (K : Nat → Prop) (val : Nat → Value) : Prop where
  X : ∀ (g g' : Goroutine) (w₁ : World) (Post : Stp), Rl γ1 w1 w₁ → g.status = .running → stepG Try.prog true g w₁ = .go g' w₁ #[mk .disable] → Post γa g' w₁ → XB γ1 g w₁ Post
  p : γa.p = .at Wg C n K val k (.sp (n - k - 1) 4) 0
  ex : ∀ w₁, Rl γ1 w1 w₁ → ∃ u, w₁.cell? ⟨Wg, 1, none⟩ = some u
  R : ∀ w₁ w₂, Rl γ1 w₁ w₂ → Rl γ1 w1 w₁ → Rl γa w₁ w₂
/-- the first Add has begun -/
theorem Pre.opn (h : Pre γ w γ1 w1 C Wg n) (hB : Bx γ w γ1 w1 b1 b2 b5 C n v s) (h5 : b1 ≠ C ∧ b2 ≠ C ∧ b5 ≠ C) (hlt : ∀ b, γ.F b ∨ γ.Q b → b < w.heap.size) (val : Nat → Value) :
    Bx γ w (γ1.opn Wg C n val) w1 b1 b2 b5 C n v s ∧ OpS γ (γ1.opn Wg C n val) w1 C Wg n 0 γ1.W := by
  have hL := hB.lies
  have hCW : C ≠ Wg := fun e => (hL.Q Wg (.inl h.qW)).2 (e ▸ h.FC)
  have hge := hB.ge
  have hgw := h.ge
  obtain ⟨cs, hp1, hp2⟩ := h.pay
  refine ⟨⟨fun b hb => ⟨hB.F b hb, fun e => ?_⟩, fun b hb => ⟨hB.Q b hb, fun e => ?_⟩, fun b hb => .inl (hB.G b hb), hB.rl, ⟨fun b hb => hL.F b hb.1, ?_, ?_, fun b hb => ⟨hL.W b hb.1, hb.2⟩⟩, ⟨hB.F1, h5.1⟩, ⟨hB.F2, h5.2.1⟩, ⟨hB.F5, h5.2.2⟩, hB.c1, hB.c2, hB.c5, hB.ge, ⟨fun x => hB.nC.1 x.1, fun x => x.elim hB.nC.2 hCW⟩⟩,
    h.W, fun b hb => (by by_cases e : b = C; exact .inr e; exact .inl ⟨hL.W b hb, e⟩), ⟨fun x => (hL.Q Wg (.inl h.qW)).2 x.1, fun x => x.2 rfl, ?_, .inr rfl⟩, fun a => ⟨fun ⟨i, h1, h2⟩ => ⟨i, Nat.zero_le _, h1, h2⟩, fun ⟨i, _, h1, h2⟩ => ⟨i, h1, h2⟩⟩, fun i _ hi => ?_, ⟨_, h.wg.cellSt⟩, ⟨_, h.wg.cellSm⟩⟩
  · have := hlt b (.inl hb); omega
  · have := hlt b (.inr hb); omega
  · rintro y ⟨i, _, rfl⟩
    exact ⟨hL.F C h.FC, fun x => x.2 rfl⟩
  · rintro b (hb | hb | rfl)
    · have := hL.Q b (.inl hb.1); exact ⟨this.1, fun x => this.2 x.1⟩
    · have := hL.Q b (.inr hb); exact ⟨this.1, fun x => this.2 x.1⟩
    · have := hL.Q b (.inl h.qW); exact ⟨this.1, fun x => this.2 x.1⟩
  · rintro a ⟨i, _, rfl⟩
    exact hCW
  · refine ⟨⟨cs[i]'(by omega), ?_⟩, ?_⟩
    · simp [World.cell?, hp1, hp2, hi]
    · simp [World.frozen?, hp1]
theorem Bx.to (h : Bx γ w γ1 w1 b1 b2 b5 C n v s) (p : Pt) : Bx γ w (γ1.to p) w1 b1 b2 b5 C n v s := ⟨h.F, h.Q, h.G, h.rl, ⟨h.lies.F, h.lies.Cs, h.lies.Q, h.lies.W⟩, h.F1, h.F2, h.F5, h.c1, h.c2, h.c5, h.ge, h.nC⟩
theorem OpS.to (h : OpS γ γ1 w1 C Wg n k K) (p : Pt) : OpS γ (γ1.to p) w1 C Wg n k K := ⟨h.hK, h.KF, ⟨h.aw.F, h.aw.Q, h.aw.C, h.aw.G⟩, h.cs, h.cl, h.x0, h.x1⟩
/-- one is started -/
theorem Bx.started (h : Bx γ w γ1 w1 b1 b2 b5 C n v s) (j : Nat) (p : Pt) : Bx γ w (γ1.started C j p) w1 b1 b2 b5 C n v s :=
  ⟨h.F, h.Q, h.G, h.rl, ⟨h.lies.F, fun y hy => h.lies.Cs y hy.1, h.lies.Q, fun _ h => h.elim⟩, h.F1, h.F2, h.F5, h.c1, h.c2, h.c5, h.ge, h.nC⟩
theorem OpS.started (h : OpS γ γ1 w1 C Wg n k K) (p : Pt) : OpS γ (γ1.started C k p) w1 C Wg n (k + 1) K := by
  refine ⟨h.hK, h.KF, ⟨h.aw.F, h.aw.Q, fun a ha => h.aw.C a ha.1, h.aw.G⟩, fun a => ⟨fun ⟨h1, h2⟩ => ?_, fun ⟨i, h1, h2, h3⟩ => ⟨(h.cs a).2 ⟨i, by omega, h2, h3⟩, fun e => ?_⟩⟩, fun i hi hn => h.cl i (by omega) hn, h.x0, h.x1⟩
  · obtain ⟨i, h3, h4, h5⟩ := (h.cs a).1 h1
    refine ⟨i, ?_, h4, h5⟩
    have : i ≠ k := fun e => h2 (by rw [h5, e])
    omega
  · rw [h3] at e
    simp only [Addr.mk.injEq] at e
    omega
theorem Pre.rdy (h : Pre γ w γ1 w1 C Wg n) (hL : Lies γ1 w1) (hn : 1 ≤ n) (hn2 : n < 2147483647) (val : Nat → Value) : Rdy γ1 (γ1.opn Wg C n val) w1 C Wg n 0 γ1.W val := by
  refine ⟨fun g g' w₁ Post hR hr hgo hp => ?_, rfl, fun w₁ hR => ⟨_, ConcR.WgAt.cellSm (h.rely hR).wg⟩, fun w₁ w₂ hR _ => ⟨hR.size, fun b hb => hR.blk b hb.1, ?_, ?_, fun b hb => hR.q b hb.1, fun a u hg hu => ?_⟩⟩
  · have h' := h.rely hR
    exact .opn Wg C n val g' h.p hn hn2 h.qW h'.wg h.WC h'.pay h.cs hr hgo hp
  · rintro a ⟨i, _, rfl⟩
    exact cell_of (a := ⟨C, i, none⟩) (hR.blk C h.FC)
  · rintro a ⟨i, _, rfl⟩
    exact World.frozen?_of_block (hR.blk C h.FC)
  · rcases hg with hg | e
    · exact hR.ex a u hg hu
    · exact ⟨u, (cell_of (hR.q _ (by rw [e]; exact h.qW))).trans hu⟩
theorem OpS.rdy (h : OpS γ γ1 w1 C Wg n k K) (hk : k < n) {val : Nat → Value} (hp : γ1.p = .at Wg C n K val k (nextTag (n - k)) 0) : Rdy γ1 (γ1.to (.at Wg C n K val k (.sp (n - k - 1) 4) 0)) w1 C Wg n k K val := by
  have e : nextTag (n - k) = .sp (n - k - 1) 5 := by
    obtain ⟨m, hm⟩ : ∃ m, n - k = m + 1 := ⟨n - k - 1, by omega⟩
    rw [hm]
    rfl
  rw [e] at hp
  exact ⟨fun g g' w₁ Post hR hr hgo hpo => .dis Wg C n K val k 0 (n - k - 1) g' hp hr hgo hpo, rfl, fun w₁ hR => (let ⟨u, hu⟩ := h.x1; hR.ex _ u h.aw.G hu), fun w₁ w₂ hR _ => hR.to⟩
end
end Go.Proofs.Ytndfookgkkefnaa
