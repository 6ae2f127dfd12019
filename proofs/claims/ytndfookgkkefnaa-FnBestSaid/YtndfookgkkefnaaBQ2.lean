/- Walks in company: a code's reader is made; what else stands while it is used. -/
import Derived.Test.YtndfookgkkefnaaBQ1
import Derived.Test.YtndfookgkkefnaaBT3
import Derived.Laws.Slices
import Derived.Laws.Build
import Derived.Laws.Tables
namespace Go.Proofs.Ytndfookgkkefnaa
set_option linter.unusedSimpArgs false
set_option linter.unusedVariables false
set_option linter.unusedSectionVars false
open Go Go.Conc Go.RowKit
/-- all but one block -/
def Gh.less (γ : Gh) (rd : Nat) : Gh := { γ with F := fun b => γ.F b ∧ b ≠ rd, W := fun b => γ.W b ∧ b ≠ rd }
section
variable {γ₀ γ γ' : Gh} {w₀ w w' w₁ : World} {rd : Nat}
theorem Lies.less (h : Lies γ w) : Lies (γ.less rd) w := ⟨fun b hb => h.F b hb.1, fun y hy => ⟨(h.Cs y hy).1, fun e => (h.Cs y hy).2 e.1⟩, fun b hb => ⟨(h.Q b hb).1, fun e => (h.Q b hb).2 e.1⟩, fun b hb => ⟨h.W b hb.1, hb.2⟩⟩
theorem Rl.less (h : Rl γ w w₁) : Rl (γ.less rd) w w₁ := ⟨h.size, fun b hb => h.blk b hb.1, h.cell, h.fz, h.q, h.ex⟩
theorem Ext.less_less (h : Ext γ w γ' w') : Ext (γ.less rd) w (γ'.less rd) w' := ⟨fun b hb => ⟨h.F b hb.1, hb.2⟩, fun b hb => ⟨h.W b hb.1, hb.2⟩, h.Cs, h.Q, h.G, h.p, h.rl.less⟩
theorem Ext.less (h : Ext γ₀ w₀ γ w) (hL : Lies γ₀ w₀) (hr : w₀.heap.size ≤ rd) : Ext γ₀ w₀ (γ.less rd) w :=
  ⟨fun b hb => ⟨h.F b hb, fun e => by have := hL.F b hb; omega⟩, fun b hb => ⟨h.W b hb, fun e => by have := hL.F b (hL.W b hb); omega⟩, h.Cs, h.Q, h.G, h.p, h.rl⟩
theorem Ext.more (h : Ext γ₀ w₀ (γ.less rd) w) : Ext γ₀ w₀ γ w := ⟨fun b hb => (h.F b hb).1, fun b hb => (h.W b hb).1, h.Cs, h.Q, h.G, h.p, h.rl⟩
/-- the reader's own cell turns -/
theorem Ext.poke (hL : Lies γ w) (hF : γ.F rd) (v : Value) : Ext (γ.less rd) w (γ.less rd) (w.setCell ⟨rd, 1, none⟩ v) := by
  refine Ext.of_rl ⟨by rw [size_set]; exact Nat.le_refl _, fun b hb => set_other hb.2 v, fun y hy => cell_of (set_other (fun e => (hL.Cs y hy).2 (by rw [e]; exact hF)) v), fun y hy => fz_set _ _ _ _, fun b hb => set_other (fun e => (hL.Q b (.inl hb)).2 (by rw [e]; exact hF)) v, fun y u hg hu => cell_set hu _ v⟩
end
/-- while a reader is used -/
structure Rdg (γ₀ : Gh) (w₀ : World) (γ : Gh) (w : World) (rd : Nat) (cv : Value) (L p : Nat) : Prop where
  low : RowY γ₀ w₀ cv L
  le : L ≤ 2000
  ge : w₀.heap.size ≤ rd
  F : γ.F rd
  W : γ.W rd
  c0 : w.cell? ⟨rd, 0, none⟩ = some cv
  c1 : w.cell? ⟨rd, 1, none⟩ = some (.int .i64 p)
  fz : w.frozen? ⟨rd, 1, none⟩ = false
  lies : Lies γ w
  ext : Ext γ₀ w₀ (γ.less rd) w
section
variable {γ₀ γ γ' : Gh} {w₀ w w' w₁ : World} {rd L p : Nat} {cv : Value}
theorem RowY.more (h : RowY (γ.less rd) w cv L) : RowY γ w cv L := by
  obtain ⟨q, c, rfl, hc, hx⟩ := h
  refine ⟨q, c, rfl, hc, fun i hi => ?_⟩
  obtain ⟨a, o, x, rfl, ha, h1, h2, h3⟩ := hx i hi
  exact ⟨a, o, x, rfl, ha.1, h1, h2, h3⟩
theorem Rdg.at_ (h : Rdg γ₀ w₀ γ w rd cv L p) : RdI γ w rd cv L p := ⟨h.F, h.W, h.c0, h.c1, h.fz, (h.low.ext h.ext).more, h.le⟩
theorem Rdg.poke (h : Rdg γ₀ w₀ γ w rd cv L p) : Rdg γ₀ w₀ γ (w.setCell ⟨rd, 1, none⟩ (.int .i64 ((p : Int) + 1))) rd cv L (p + 1) :=
  have k := h.at_.poke
  ⟨h.low, h.le, h.ge, h.F, h.W, k.c0, k.c1, k.fz, h.lies.set _ _, h.ext.trans (Ext.poke h.lies h.F _)⟩
/-- .. when its block stands -/
theorem Rdg.app (h : Rdg γ₀ w₀ γ w rd cv L p) (hF : γ'.F rd) (hW : γ'.W rd) (hb : w'.heap[rd]? = w.heap[rd]?) (hL : Lies γ' w') (e : Ext γ₀ w₀ (γ'.less rd) w') : Rdg γ₀ w₀ γ' w' rd cv L p :=
  ⟨h.low, h.le, h.ge, hF, hW, (cell_of (a := ⟨rd, 0, none⟩) hb).trans h.c0, (cell_of (a := ⟨rd, 1, none⟩) hb).trans h.c1, (World.frozen?_of_block hb).trans h.fz, hL, e⟩
theorem Rdg.go (h : Rdg γ₀ w₀ γ w rd cv L p) (e : Ext γ w γ' w') (hL : Lies γ' w') : Rdg γ₀ w₀ γ' w' rd cv L p := h.app (e.F _ h.F) (e.W _ h.W) (e.rl.blk _ h.F) hL (h.ext.trans e.less_less)
theorem Rdg.set (h : Rdg γ₀ w₀ γ w rd cv L p) (hL₀ : Lies γ₀ w₀) {x : Addr} (hx : w₀.heap.size ≤ x.block) (hne : x.block ≠ rd) (v : Value) : Rdg γ₀ w₀ γ (w.setCell x v) rd cv L p :=
  h.app h.F h.W (set_other (Ne.symm hne) v) (h.lies.set x v) (h.ext.set hL₀ hx v)
end
/-- elements more to a row, while a reader is used; what else stands -/
theorem opI_accV_l {P : Program} {main : Bool} {X : Pha} {fn : FuncId} {ops : Array Oper} {Q : PoI} {γ₀ γ : Gh} {w₀ w : World} {rd : Nat} {e : TypeId} {vo : Value} {vals : List Value} (h : AccV γ₀ w₀ (γ.less rd) w e vo vals) (hL₀ : Lies γ₀ w₀) (hL : Lies γ w) (hrd : γ.F rd) {i : Nat} {rest : List Nat} {o : Oper} {a : Act}
    (ho : ops[i]? = some o) (hw : Region.wanted o (yielded ops a.tmps) = true) (s x : Operand) (t : TypeId) (hop : o.op = .call { callee := .builtin .append, args := #[s, x], argTypes := #[t, t] }) (ht : P.underlying t = some (.slice e)) (inf : TypeInfo) (z : Value) (bytes : Nat) (hi : P.info? e = some inf) (hz0 : inf.zero = some z) (hz1 : inf.size = 1) (hz2 : inf.bytes = bytes) (hzc : z.cells.size = 1)
    (hs : a.eval s = vo) (ad : Addr) (m c : Nat) (hx : a.eval x = .slice (some ad) m c) (hF : γ.F ad.block) (news : List Value) (hm : news.length = m) (hnews : ∀ j u, news[j]? = some u → w.cell? (ad.add j) = some u) (h1 : ∀ u ∈ news, u.oneCell' = true) (hlen : vals.length + m ≤ 4194304) (hby : bytes ≤ 1024)
    (hn : ∀ γ' v' w', AccV γ₀ w₀ (γ'.less rd) w' e v' (vals ++ news) → Lies γ' w' → (∀ b, γ.F b → γ'.F b) → (∀ b, γ.W b → γ'.W b) → (∀ b, γ.F b → vo.ownBlock ≠ some b → w'.heap[b]? = w.heap[b]? ∧ v'.ownBlock ≠ some b) → opI P main X fn ops rest Q γ' (a.put o.dst v') w') : opI P main X fn ops (i :: rest) Q γ a w := by
  have hown := h.own
  refine opI_app ho hw s x t hop w₀.heap.size e inf z 1 bytes ht hi hz0 hz1 hz2 hzc (by decide) vo vals.length vals hs hown (fun b hb => ⟨(h.blk b hb).1.1, (h.blk b hb).2.1⟩) ad m c hx hF news (by omega) hnews h1 (by simp only [maxLen]; omega) (by
      have : (vals.length + m) * bytes ≤ 4194304 * 1024 := Nat.mul_le_mul hlen hby
      omega) h.ext.rl.size
    (fun y hy => ⟨(hL.Cs y hy).1, fun b hb e => (hL.Cs y hy).2 (e ▸ (h.blk b hb).2.1)⟩) hL.F hL.Q ?_
  intro γ' v' w' hWF hfr hQ' hG' hp' hqb hex hF' hW' hC' hv' ho' hs' hblk hlt' hcell'
  have ge := h.ge
  have nlt : ∀ b, b < w₀.heap.size → vo.ownBlock ≠ some b := fun b hb e => by have := ge b e; omega
  have hL' : Lies γ' w' := by
    refine ⟨fun b hb => (hlt' b hb).1, fun y hy => ?_, fun b hb => ?_, hWF hL.W⟩
    · rw [hC'] at hy
      have h1 := hL.Cs y hy
      refine ⟨by omega, fun hf => ?_⟩
      rcases (hlt' _ hf).2 with h2 | h2
      · exact h1.2 h2
      · omega
    · rw [hQ', hG'] at hb
      have h1 := hL.Q b hb
      refine ⟨by omega, fun hf => ?_⟩
      rcases (hlt' _ hf).2 with h2 | h2
      · exact h1.2 h2
      · omega
  have hrs := hL.F rd hrd
  have e0 := h.ext
  refine hn γ' v' w' ⟨⟨fun b hb => ⟨hF' b (e0.F b hb).1, (e0.F b hb).2⟩, fun b hb => ⟨hW' b (e0.W b hb).1, (e0.W b hb).2⟩, fun y hy => by show γ'.Cs y; rw [hC']; exact e0.Cs y hy, fun b hb => by show γ'.Q b; rw [hQ']; exact e0.Q b hb, fun b hb => by show γ'.G b; rw [hG']; exact e0.G b hb, hp'.trans e0.p,
    ⟨Nat.le_trans e0.rl.size hs', fun b hb => (hblk b (e0.F b hb).1 (nlt b (hL₀.F b hb))).trans (e0.rl.blk b hb), fun y hy => (hcell' y (e0.Cs y hy)).1.trans (e0.rl.cell y hy), fun y hy => (hcell' y (e0.Cs y hy)).2.trans (e0.rl.fz y hy),
      fun b hb => (hqb b (e0.Q b hb)).trans (e0.rl.q b hb), fun y u hg hu => let ⟨u', hu'⟩ := e0.rl.ex y u hg hu; hex y u' (e0.G _ hg) hu'⟩⟩,
    hL'.less, fun b hb => ?_, ?_⟩ hL' hF' hW' fun b hb hne => ⟨hblk b hb hne, fun e => ?_⟩
  · have hne : b ≠ rd := by
      rcases hfr b hb with h2 | h2
      · exact (h.blk b h2).2.2
      · omega
    exact ⟨⟨(hv' b hb).1, hne⟩, ⟨(hv' b hb).2, hne⟩⟩
  · rw [List.length_append, hm]; exact ho'
  · rcases hfr b e with h2 | h2
    · exact hne h2
    · have := hL.F b hb; omega
/-- a row more to a table, while a reader is used -/
theorem opI_accT_l {main : Bool} {X : Pha} {fn : FuncId} {ops : Array Oper} {Q : PoI} {γ₀ γ : Gh} {w₀ w : World} {rd : Nat} {vo : Value} {rows : List (List Bool)} (h : AccT γ₀ w₀ (γ.less rd) w vo rows) (hL₀ : Lies γ₀ w₀) (hL : Lies γ w) (hrd : γ.F rd) {i : Nat} {rest : List Nat} {o : Oper} {a : Act}
    (ho : ops[i]? = some o) (hw : Region.wanted o (yielded ops a.tmps) = true) (s x : Operand) (hop : o.op = .call { callee := .builtin .append, args := #[s, x], argTypes := #[23, 23] }) (ht : Try.prog.underlying 23 = some (.slice 28))
    (hs : a.eval s = vo) (nb : Nat) (c : Nat) (hx : a.eval x = .slice (some ⟨nb, 0, none⟩) 1 c) (hF : γ.F nb) (r : Value) (hr : w.cell? ⟨nb, 0, none⟩ = some r) (bs : List Bool) (rb : Nat) (hrb : RowB (γ.less rd) w rb r bs) (hne : vo.ownBlock ≠ some rb) (h5 : rows.length < 1000)
    (hn : ∀ γ' v' w', AccT γ₀ w₀ (γ'.less rd) w' v' (rows ++ [bs]) → Lies γ' w' → (∀ b, γ.F b → γ'.F b) → (∀ b, γ.W b → γ'.W b) → (∀ b, γ.F b → vo.ownBlock ≠ some b → w'.heap[b]? = w.heap[b]? ∧ v'.ownBlock ≠ some b) → opI Try.prog main X fn ops rest Q γ' (a.put o.dst v') w') : opI Try.prog main X fn ops (i :: rest) Q γ a w := by
  obtain ⟨i0, hi, hz0, hz1, hz2⟩ := info_parts infoRow
  obtain ⟨vals, hown, hrows⟩ := h.own
  have hlen0 : vals.length = rows.length := by simpa using hown.1
  have hV : AccV γ₀ w₀ (γ.less rd) w 28 vo vals := ⟨h.ext, h.lies, h.blk, by rw [hlen0]; exact hown⟩
  obtain ⟨cr, hreq, hrF, hrW, hrx⟩ := id hrb
  refine opI_accV_l hV hL₀ hL hrd ho hw s x 23 hop ht i0 (.slice none 0 0) 24 hi hz0 hz1 hz2 rfl hs ⟨nb, 0, none⟩ 1 c hx hF [r] rfl (fun j u hj => ?_) ?_ (by omega) (by decide) ?_
  · cases j with
    | zero => obtain rfl : r = u := by simpa using hj
              rw [Addr.add_lit]; exact hr
    | succ j => simp at hj
  · intro u hu
    obtain rfl : u = r := by simpa using hu
    subst hreq
    rfl
  intro γ' v' w' hV' hL' hF' hW' hx'
  refine hn γ' v' w' ⟨hV'.ext, hV'.lies, hV'.blk, vals ++ [r], by
    have := hV'.own
    rw [List.length_append, hlen0] at this
    rw [List.length_append]
    exact this, fun j bs' hj => ?_⟩ hL' hF' hW' hx'
  rcases Nat.lt_or_ge j rows.length with hlt | hge
  · rw [List.getElem?_append_left hlt] at hj
    obtain ⟨u, b, hu, hb, hnb⟩ := hrows j bs' hj
    obtain ⟨_, _, hbF, hbW, _⟩ := id hb
    obtain ⟨q1, q2⟩ := hx' b hbF.1 hnb
    exact ⟨u, b, by rw [List.getElem?_append_left (by omega)]; exact hu, hb.ext ⟨hF' b hbF.1, hbF.2⟩ ⟨hW' b hbW.1, hbW.2⟩ q1, q2⟩
  · rw [List.getElem?_append_right hge] at hj
    have e0 : j - rows.length = 0 := by
      rcases Nat.eq_zero_or_pos (j - rows.length) with h1 | h1
      · exact h1
      · rw [List.getElem?_eq_none (by simp; omega)] at hj; cases hj
    rw [e0] at hj
    obtain rfl : bs = bs' := by simpa using hj
    obtain ⟨q1, q2⟩ := hx' rb hrF.1 hne
    exact ⟨r, rb, by rw [List.getElem?_append_right (by omega), hlen0, e0]; rfl, hrb.ext ⟨hF' rb hrF.1, hrF.2⟩ ⟨hW' rb hrW.1, hrW.2⟩ q1, q2⟩
/-- an empty row, while a reader is used -/
theorem AccV.start_l {γ : Gh} {w w₁ : World} {rd : Nat} (hL : Lies γ w) (hrd : rd < w.heap.size) (hR : Rl γ w w₁) (e : TypeId) : AccV (γ.less rd) w ((γ.new w₁.heap.size).less rd) (w₁.alloc (.cells #[] e)) e (.slice (some ⟨w₁.heap.size, 0, none⟩) 0 0) [] := by
  have h := AccV.start hL hR e
  refine ⟨h.ext.less_less, h.lies.less, fun b hb => ?_, h.own⟩
  have hne : b ≠ rd := by
    obtain rfl : w₁.heap.size = b := by simpa [Value.ownBlock] using hb
    have := hR.size
    omega
  exact ⟨⟨(h.blk b hb).1, hne⟩, ⟨(h.blk b hb).2, hne⟩⟩
theorem ev_slice {P : Program} (w : World) (t : TypeId) {e : TypeId} (ht : P.underlying t = some (.slice e)) (inf : TypeInfo) (hi : P.info? e = some inf) (a : Option Addr) (n c : Nat) (h : Int) (h0 : 0 ≤ h) (h2 : h ≤ c) : (Instr.sliceAt t (.slice a n c) none (some (.int .i64 h)) none).events P w #[] = #[] := by
  simp [go_sem, Instr.sliceAt, Instr.slice, Instr.sliceBounds, Instr.sliceBound, asIntOf, run_underlying ht, sizeOf, typeInfo, hi, h0, h2]
theorem infoByte : (Try.prog.info? 5).map (fun i => (i.zero, i.size, i.bytes)) = some (some (.int .u8 0), 1, 1) := by kernel_rfl
/-- a reader that is made -/
def Opened (γ : Gh) (w : World) (γ' : Gh) (u : Value) (w' : World) : Prop := ∃ b cv L, u = .pointer (some ⟨b, 0, none⟩) ∧ Rdg γ w γ' w' b cv L 0
theorem opened {γ : Gh} {w w₁ : World} (hL : Lies γ w) (hR : Rl γ w w₁) {cv : Value} {L : Nat} (hrow : RowY γ w cv L) (hle : L ≤ 2000) (t : TypeId) :
    Opened γ w (γ.new w₁.heap.size) (.pointer (some ⟨w₁.heap.size, 0, none⟩)) (w₁.alloc (.cells #[cv, .int .i64 0] t)) := by
  have hE := Ext.new' hL hR (.cells #[cv, .int .i64 0] t)
  refine ⟨w₁.heap.size, cv, L, rfl, hrow, hle, hR.size, .inr rfl, .inr rfl, ?_, ?_, fz_alloc _ _ _ _, Lies.new (hL.rely hR) _, hE.less hL hR.size⟩
  · unfold World.cell?; rw [alloc_new]; rfl
  · unfold World.cell?; rw [alloc_new]; rfl
set_option maxHeartbeats 4000000 in
set_option maxRecDepth 100000 in
theorem open_c (main : Bool) (X : Pha) (γ : Gh) (w : World) (v : Value) (n : Nat) (hY : RowY γ w v n) (hL : Lies γ w) :
    CallsI Try.prog main X 31 #[v] γ w (Opened γ w) := by
  obtain ⟨q, c, rfl, hc, hx⟩ := id hY
  by_cases hn : 2000 < n
  · obtain ⟨a, o, _, rfl, _⟩ := hx 0 (by omega)
    have hrow : RowY γ w (.slice (some ⟨a, o, none⟩) 2000 c) 2000 := ⟨_, c, rfl, by omega, fun i hi => hx i (by omega)⟩
    have hrow' := Hd.mk hrow
    have hni : (2000 : Int) < (n : Int) := by omega
    have hc1 : 2000 ≤ c := by omega
    have hc2 : (2000 : Int) ≤ (c : Int) := by omega
    have hc3 : ¬ c = 2000 := by omega
    obtain ⟨i0, hi, _⟩ := info_parts infoByte
    have hev := fun w => ev_slice (P := Try.prog) w 22 Try.underlying22 i0 hi (some ⟨a, o, none⟩) n c 2000 (by omega) hc2
    clear hrow hx hc hY hi
    (refine callsI_of Try.func31 (by rfl) rfl ?_; simp only [Try.ntmps31, List.size_toArray, List.length_cons, List.length_nil, Nat.reduceAdd, Nat.reduceSub, Array.replicate_succ, Array.replicate_zero, List.push_toArray, List.append_toArray, List.nil_append, List.cons_append])
    repeat (first | ((first | refine wpI_seq ?_ | refine wpI_block ?_ | refine wpI_skip ?_ | refine wpI_label ?_ | refine wpI_ret ?_ | refine wpI_exit ?_ | refine opI_nil ?_); try simp only [thenI, blkI, if_true, if_false, reduceIte, Nat.reduceEqDiff]) | (refine wpI_region ?_; simp only [List.size_toArray, List.length_cons, List.length_nil, Nat.reduceAdd, Nat.zero_add, List.range, List.range.loop]) | (refine opI_unwanted rfl (by rfl) ?_; try walk_nrm) | (refine opI_k rfl (by rfl) (fun w₁ hR K hK => ?_); skip; go_simp; refine hK _ (fun e he => ?_) ?_; (first | done | ((rw [listed_nil (by simp [go_sem, *])] at he; simp at he))); (try clear hc₁); (clear hK K hR; clear w₁); (try walk_nrm)))
    (refine wpI_cond (t := true) rfl ?_; simp only [if_true, if_false, Bool.false_eq_true, reduceIte])
    repeat (first | ((first | refine wpI_seq ?_ | refine wpI_block ?_ | refine wpI_skip ?_ | refine wpI_label ?_ | refine wpI_ret ?_ | refine wpI_exit ?_ | refine opI_nil ?_); try simp only [thenI, blkI, if_true, if_false, reduceIte, Nat.reduceEqDiff]) | (refine wpI_region ?_; simp only [List.size_toArray, List.length_cons, List.length_nil, Nat.reduceAdd, Nat.zero_add, List.range, List.range.loop]) | (refine opI_unwanted rfl (by rfl) ?_; try walk_nrm) | (refine opI_k rfl (by rfl) (fun w₁ hR K hK => ?_); skip; go_simp; refine hK _ (fun e he => ?_) ?_; (first | done | ((rw [listed_nil (by simp [go_sem, *])] at he; simp at he))); (try clear hc₁); (clear hK K hR; clear w₁); (try walk_nrm)))
    (refine opI_new (v := fun n => .pointer (some ⟨n, 0, none⟩)) (ob := .cells #[.slice (some ⟨a, o, none⟩) 2000 c, .int .i64 0] 58) rfl (by rfl) (fun w₁ hR => ⟨run_eq_of (fun K hK => (by go_simp; exact hK)), fun e he => (by exfalso; have hm := mem_listed he; simp [go_sem, *] at hm)⟩) fun w₁ hR => ?_)
    have hfin := opened hL hR hrow'.out (Nat.le_refl _) 58
    try walk_nrm
    repeat (first | ((first | refine wpI_seq ?_ | refine wpI_block ?_ | refine wpI_skip ?_ | refine wpI_label ?_ | refine wpI_ret ?_ | refine wpI_exit ?_ | refine opI_nil ?_); try simp only [thenI, blkI, if_true, if_false, reduceIte, Nat.reduceEqDiff]) | (refine wpI_region ?_; simp only [List.size_toArray, List.length_cons, List.length_nil, Nat.reduceAdd, Nat.zero_add, List.range, List.range.loop]) | (refine opI_unwanted rfl (by rfl) ?_; try walk_nrm) | (refine opI_k rfl (by rfl) (fun w₁ hR K hK => ?_); skip; go_simp; refine hK _ (fun e he => ?_) ?_; (first | done | ((rw [listed_nil (by simp [go_sem, *])] at he; simp at he))); (try clear hc₁); (clear hK K hR; clear w₁); (try walk_nrm)))
    refine ⟨rfl, _, resultsC_tmp rfl _, ?_⟩
    exact hfin
  · have hni : ¬ (2000 : Int) < (n : Int) := by omega
    have hn' := Hd.mk (show n ≤ 2000 by omega)
    have hY' := Hd.mk hY
    clear hn hx hY
    (refine callsI_of Try.func31 (by rfl) rfl ?_; simp only [Try.ntmps31, List.size_toArray, List.length_cons, List.length_nil, Nat.reduceAdd, Nat.reduceSub, Array.replicate_succ, Array.replicate_zero, List.push_toArray, List.append_toArray, List.nil_append, List.cons_append])
    repeat (first | ((first | refine wpI_seq ?_ | refine wpI_block ?_ | refine wpI_skip ?_ | refine wpI_label ?_ | refine wpI_ret ?_ | refine wpI_exit ?_ | refine opI_nil ?_); try simp only [thenI, blkI, if_true, if_false, reduceIte, Nat.reduceEqDiff]) | (refine wpI_region ?_; simp only [List.size_toArray, List.length_cons, List.length_nil, Nat.reduceAdd, Nat.zero_add, List.range, List.range.loop]) | (refine opI_unwanted rfl (by rfl) ?_; try walk_nrm) | (refine opI_k rfl (by rfl) (fun w₁ hR K hK => ?_); skip; go_simp; refine hK _ (fun e he => ?_) ?_; (first | done | ((rw [listed_nil (by simp [go_sem, *])] at he; simp at he))); (try clear hc₁); (clear hK K hR; clear w₁); (try walk_nrm)))
    (refine wpI_cond (t := false) rfl ?_; simp only [if_true, if_false, Bool.false_eq_true, reduceIte])
    repeat (first | ((first | refine wpI_seq ?_ | refine wpI_block ?_ | refine wpI_skip ?_ | refine wpI_label ?_ | refine wpI_ret ?_ | refine wpI_exit ?_ | refine opI_nil ?_); try simp only [thenI, blkI, if_true, if_false, reduceIte, Nat.reduceEqDiff]) | (refine wpI_region ?_; simp only [List.size_toArray, List.length_cons, List.length_nil, Nat.reduceAdd, Nat.zero_add, List.range, List.range.loop]) | (refine opI_unwanted rfl (by rfl) ?_; try walk_nrm) | (refine opI_k rfl (by rfl) (fun w₁ hR K hK => ?_); skip; go_simp; refine hK _ (fun e he => ?_) ?_; (first | done | ((rw [listed_nil (by simp [go_sem, *])] at he; simp at he))); (try clear hc₁); (clear hK K hR; clear w₁); (try walk_nrm)))
    (refine opI_new (v := fun n => .pointer (some ⟨n, 0, none⟩)) (ob := .cells #[.slice q n c, .int .i64 0] 58) rfl (by rfl) (fun w₁ hR => ⟨run_eq_of (fun K hK => (by go_simp; exact hK)), fun e he => (by exfalso; have hm := mem_listed he; simp [go_sem, *] at hm)⟩) fun w₁ hR => ?_)
    have hfin := opened hL hR hY'.out hn'.out 58
    try walk_nrm
    repeat (first | ((first | refine wpI_seq ?_ | refine wpI_block ?_ | refine wpI_skip ?_ | refine wpI_label ?_ | refine wpI_ret ?_ | refine wpI_exit ?_ | refine opI_nil ?_); try simp only [thenI, blkI, if_true, if_false, reduceIte, Nat.reduceEqDiff]) | (refine wpI_region ?_; simp only [List.size_toArray, List.length_cons, List.length_nil, Nat.reduceAdd, Nat.zero_add, List.range, List.range.loop]) | (refine opI_unwanted rfl (by rfl) ?_; try walk_nrm) | (refine opI_k rfl (by rfl) (fun w₁ hR K hK => ?_); skip; go_simp; refine hK _ (fun e he => ?_) ?_; (first | done | ((rw [listed_nil (by simp [go_sem, *])] at he; simp at he))); (try clear hc₁); (clear hK K hR; clear w₁); (try walk_nrm)))
    refine ⟨rfl, _, resultsC_tmp rfl _, ?_⟩
    exact hfin
end Go.Proofs.Ytndfookgkkefnaa
