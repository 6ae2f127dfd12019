/- Texts that the last file leans on (part 34). -/
import Derived.Deep.DeepCutAuto
import Derived.Defers
import Derived.Laws.Pointers
import Derived.Maps.OwnOps
import Derived.Recover
import Derived.Test.YtfaeojmndaplcaaGreatDoorM0
import Derived.Test.YtfaeojmndaplcaaGreatDoorM30
import Derived.Test.YtfaeojmndaplcaaGreatDoorM32
import Derived.Test.YtfaeojmndaplcaaGreatDoorM33
set_option linter.unusedVariables false
set_option linter.unusedSimpArgs false
set_option maxHeartbeats 4000000
set_option maxRecDepth 100000
namespace Go.Proofs.YtfaeojmndaplcaaGreatDoor
open Go Go.RowKit
section
open Go.Maps Go.WideMaps
section
variable {P : Program} {w : World} {t k e : TypeId} {b : Nat}
def fi (w : World) (b : Nat) (l : List (ByteArray × Value)) : Prop :=
 ∃ es clock, w.heap[b]? = some (.map es clock) ∧ es.toList.map (fun x => (x.key, x.val)) = l.map (fun p => (Value.string p.1, p.2))
theorem fi.made (w : World) : fi (w.alloc (.map #[] 0)) w.heap.size [] := ⟨_, _, heap_alloc_new w _, rfl⟩
theorem p9 {es : Array MapEntry} {l : List (ByteArray × Value)} (h : es.toList.map (fun x => (x.key, x.val)) = l.map (fun p => (Value.string p.1, p.2))) {x : MapEntry} (hx : x ∈ es.toList) : ∃ p ∈ l, x.key = .string p.1 ∧ x.val = p.2 := by
 have h1 : (x.key, x.val) ∈ l.map (fun p => (Value.string p.1, p.2)) := by rw [← h]; exact List.mem_map_of_mem hx
 obtain ⟨p, hp, e⟩ := List.mem_map.1 h1
 injection e with e1 e2
 exact ⟨p, hp, e1.symm, e2.symm⟩
theorem fi.find (hk : P.underlying k = some .string) {es : Array MapEntry} {l : List (ByteArray × Value)} (h : es.toList.map (fun x => (x.key, x.val)) = l.map (fun p => (Value.string p.1, p.2))) (hl : ∀ p ∈ l, p.1.size ≤ maxLen) {s : ByteArray} (hs : s.size ≤ maxLen) (w : World) :
  ((Instr.findKey k (.string s) es.toList).run P w = .ok none w ∧ ∀ p ∈ l, p.1 ≠ s) ∨ ∃ j v, (Instr.findKey k (.string s) es.toList).run P w = .ok (some (j, v)) w ∧ (s, v) ∈ l := by
 rcases (string_keyed hk).find w (keyOf_string_mk hk hs) es.toList (fun x hx => by
  obtain ⟨p, hp, e1, _⟩ := p9 h hx
  exact ⟨_, by rw [e1]; exact keyOf_string_mk hk (hl p hp)⟩) with ⟨h1, h2⟩ | ⟨j, e0, h1, h2, h3⟩
 ·refine .inl ⟨h1, fun p hp e => ?_⟩
  have h4 : (Value.string p.1, p.2) ∈ es.toList.map (fun x => (x.key, x.val)) := by rw [h]; exact List.mem_map_of_mem hp
  obtain ⟨x, hx, e1⟩ := List.mem_map.1 h4
  injection e1 with e1 _
  exact h2 x hx (by rw [e1, e])
 ·obtain ⟨p, hp, e1, e2⟩ := p9 h (List.mem_of_getElem? h2)
  rw [h3] at e1
  injection e1 with e1
  exact .inr ⟨j, e0.val, h1, by rw [e1, e2]; exact hp⟩
theorem fi.upd (ht : P.underlying t = some (.map k e)) (hk : P.underlying k = some .string) {l : List (ByteArray × Value)} (h : fi w b l) (hl : ∀ p ∈ l, p.1.size ≤ maxLen) (s : ByteArray) (hs : s.size ≤ maxLen) (v : Value) (hn : ∀ p ∈ l, p.1 ≠ s) :
  ∃ w', (Instr.mapUpdate t (.map (some b)) (.string s) v).run P w = .ok () w' ∧ fi w' b (l ++ [(s, v)]) ∧ w.grownBy w' (some b) := by
 obtain ⟨es, clock, hb, he⟩ := h
 rcases fi.find hk he hl hs w with ⟨h1, _⟩ | ⟨_, v', _, h2⟩
 ·refine ⟨ChangeMaps.setBlock w b (.map (es.push ⟨.string s, v, clock⟩) (clock + 1)), ?_, ⟨_, _, ChangeMaps.heap_setBlock_same hb _, by simp [he]⟩, ⟨rfl, rfl, rfl, by simp [ChangeMaps.setBlock], fun i _ hi => ChangeMaps.heap_setBlock_other hb _ (fun e => hi (by rw [e]))⟩⟩
  simp [Instr.mapUpdate, run_underlying ht, MapKept.run_getObj_map hb, (string_keyed hk).check w false (keyOf_string_mk hk hs), h1, MapKept.run_setObj_map _ hb, Result.andThen, ChangeMaps.setBlock]
 ·exact absurd rfl (hn _ h2)
theorem fi.look (ht : P.underlying t = some (.map k e)) (hk : P.underlying k = some .string) {l : List (ByteArray × Value)} (h : fi w b l) (hl : ∀ p ∈ l, p.1.size ≤ maxLen) (s : ByteArray) (hs : s.size ≤ maxLen) {z : Value} (hz : (zeroValue e).run P w = .ok z w) :
  ((Instr.lookup t (.map (some b)) (.string s) true).run P w = .ok (.tuple #[z, .bool false]) w ∧ ∀ p ∈ l, p.1 ≠ s) ∨ ∃ v, (Instr.lookup t (.map (some b)) (.string s) true).run P w = .ok (.tuple #[v, .bool true]) w ∧ (s, v) ∈ l := by
 obtain ⟨es, clock, hb, he⟩ := h
 rcases fi.find hk he hl hs w with ⟨h1, h2⟩ | ⟨j, v, h1, h2⟩
 ·exact .inl ⟨by simp [Instr.lookup, run_underlying ht, MapKept.run_getObj_map hb, (string_keyed hk).check w _ (keyOf_string_mk hk hs), h1, hz, Result.andThen], h2⟩
 ·exact .inr ⟨v, by simp [Instr.lookup, run_underlying ht, MapKept.run_getObj_map hb, (string_keyed hk).check w _ (keyOf_string_mk hk hs), h1, Result.andThen], h2⟩
theorem cW {ops : Array Oper} {rest : List Oper} {o : Oper} {a : Act} {Q : Exit → Act → World → Prop} (hg : o.guard = none) (m x v : Operand) (t : TypeId) (hop : o.op = Op.insert t m x v) {k e : TypeId}
  (ht : P.underlying t = some (.map k e)) (hk : P.underlying k = some .string) {l : List (ByteArray × Value)} (hm : a.eval m = .map (some b)) (h : fi w b l) (hl : ∀ p ∈ l, p.1.size ≤ maxLen) (s : ByteArray) (val : Value) (hx : a.eval x = .string s) (hv : a.eval v = val) (hs : s.size ≤ maxLen) (hn : ∀ p ∈ l, p.1 ≠ s)
  (hK : ∀ w', fi w' b (l ++ [(s, val)]) → w.grownBy w' (some b) → wpList P ops Q rest (a.put o.dst undef) w') : wpList P ops Q (o :: rest) a w := by
 refine wpList_plain hg fun K' hK' => ?_
 obtain ⟨w', hrun, r1, r2⟩ := h.upd ht hk hl s hs val hn
 unfold Oper.wp
 simp [execOp, hop, hm, hx, hv, hrun, Result.andThen]
 exact hK' _ _ (hK w' r1 r2)
theorem pM {ops : Array Oper} {rest : List Oper} {o : Oper} {a : Act} {Q : Exit → Act → World → Prop} (hg : o.guard = none) (m x : Operand) (t : TypeId) (hop : o.op = Op.lookup t m x true) {k e : TypeId}
  (ht : P.underlying t = some (.map k e)) (hk : P.underlying k = some .string) {z : Value} (hz : (zeroValue e).run P w = .ok z w) {l : List (ByteArray × Value)} (hm : a.eval m = .map (some b)) (h : fi w b l) (hl : ∀ p ∈ l, p.1.size ≤ maxLen) (s : ByteArray) (hx : a.eval x = .string s) (hs : s.size ≤ maxLen)
  (hK : ∀ v ok, ((ok = false ∧ v = z ∧ ∀ p ∈ l, p.1 ≠ s) ∨ (ok = true ∧ (s, v) ∈ l)) → wpList P ops Q rest (a.put o.dst (.tuple #[v, .bool ok])) w) : wpList P ops Q (o :: rest) a w := by
 refine wpList_plain hg fun K' hK' => ?_
 rcases h.look ht hk hl s hs hz with ⟨hrun, h2⟩ | ⟨v, hrun, h2⟩
 ·unfold Oper.wp
  simp [execOp, hop, hm, hx, hrun, Result.andThen]
  exact hK' _ _ (hK _ _ (.inl ⟨rfl, rfl, h2⟩))
 ·unfold Oper.wp
  simp [execOp, hop, hm, hx, hrun, Result.andThen]
  exact hK' _ _ (hK _ _ (.inr ⟨rfl, h2⟩))
end
end
section
open Go.Maps
theorem yN (w : World) : (zeroValue 97).run Tryz.prog w = .ok .nilFunc w := by kernel_rfl
def lm : List (ByteArray × Value) := [(⟨#[115, 101, 110, 100]⟩, (.func (.func 94) #[] #[])), (⟨#[100, 101, 108, 105, 118, 101, 114]⟩, (.func (.func 95) #[] #[])), (⟨#[108, 111, 115, 101]⟩, (.func (.func 96) #[] #[])), (⟨#[116, 119, 105, 99, 101]⟩, (.func (.func 97) #[] #[])), (⟨#[99, 104, 97, 110, 103, 101]⟩, (.func (.func 98) #[] #[])), (⟨#[102, 108, 117, 115, 104]⟩, (.func (.func 99) #[] #[])), (⟨#[99, 97, 108, 109]⟩, (.func (.func 100) #[] #[])), (⟨#[110, 101, 116]⟩, (.func (.func 101) #[] #[]))]
def kH (l : List UInt8) : Option Value :=
 if l = [115, 101, 110, 100] then some (.func (.func 94) #[] #[]) else if l = [100, 101, 108, 105, 118, 101, 114] then some (.func (.func 95) #[] #[]) else if l = [108, 111, 115, 101] then some (.func (.func 96) #[] #[]) else if l = [116, 119, 105, 99, 101] then some (.func (.func 97) #[] #[]) else if l = [99, 104, 97, 110, 103, 101] then some (.func (.func 98) #[] #[]) else if l = [102, 108, 117, 115, 104] then some (.func (.func 99) #[] #[]) else if l = [99, 97, 108, 109] then some (.func (.func 100) #[] #[]) else if l = [110, 101, 116] then some (.func (.func 101) #[] #[]) else none
theorem xo {s : ByteArray} {v : Value} (h : (s, v) ∈ lm) : kH (bL s) = some v := by
 simp only [lm, List.mem_cons, List.not_mem_nil, or_false, Prod.mk.injEq] at h
 rcases h with ⟨rfl, rfl⟩ | ⟨rfl, rfl⟩ | ⟨rfl, rfl⟩ | ⟨rfl, rfl⟩ | ⟨rfl, rfl⟩ | ⟨rfl, rfl⟩ | ⟨rfl, rfl⟩ | ⟨rfl, rfl⟩
 all_goals rfl
theorem xp {s : ByteArray} (h : ∀ p ∈ lm, p.1 ≠ s) : kH (bL s) = none := by
 unfold kH
 have hn : ∀ (l : List UInt8) (p : ByteArray × Value), p ∈ lm → bL p.1 = l → bL s ≠ l := fun l p hp he e => h p hp (bX (he.trans e.symm))
 rw [if_neg (hn [115, 101, 110, 100] (⟨#[115, 101, 110, 100]⟩, (.func (.func 94) #[] #[])) (by simp [lm]) rfl)]
 rw [if_neg (hn [100, 101, 108, 105, 118, 101, 114] (⟨#[100, 101, 108, 105, 118, 101, 114]⟩, (.func (.func 95) #[] #[])) (by simp [lm]) rfl)]
 rw [if_neg (hn [108, 111, 115, 101] (⟨#[108, 111, 115, 101]⟩, (.func (.func 96) #[] #[])) (by simp [lm]) rfl)]
 rw [if_neg (hn [116, 119, 105, 99, 101] (⟨#[116, 119, 105, 99, 101]⟩, (.func (.func 97) #[] #[])) (by simp [lm]) rfl)]
 rw [if_neg (hn [99, 104, 97, 110, 103, 101] (⟨#[99, 104, 97, 110, 103, 101]⟩, (.func (.func 98) #[] #[])) (by simp [lm]) rfl)]
 rw [if_neg (hn [102, 108, 117, 115, 104] (⟨#[102, 108, 117, 115, 104]⟩, (.func (.func 99) #[] #[])) (by simp [lm]) rfl)]
 rw [if_neg (hn [99, 97, 108, 109] (⟨#[99, 97, 108, 109]⟩, (.func (.func 100) #[] #[])) (by simp [lm]) rfl)]
 rw [if_neg (hn [110, 101, 116] (⟨#[110, 101, 116]⟩, (.func (.func 101) #[] #[])) (by simp [lm]) rfl)]
def jo : Value := .iface 95 (.agg #[])
theorem lJ (s : ByteArray) (w : World) (hs : s.size ≤ maxLen) : Calls Tryz.prog 55 #[.string s] w fun e w' => ((∃ f, kH (bL s) = some f ∧ e = .returned f) ∨ (kH (bL s) = none ∧ e = .panicked [{ v := jo, recovered := false }])) ∧ Below w.heap.size w w' := by
 have hmm := @run_makeMap Tryz.prog
 have hm := fi.made w
 have hb : Below w.heap.size w (w.alloc (.map #[] 0)) := ab _ _
 have hs0 : w.heap.size < (w.alloc (.map #[] 0)).heap.size := by simp
 go_enter Tryz.func55, Tryz.ntmps55
 go_upto_region 2 with (first | (refine cW (s := ⟨#[115, 101, 110, 100]⟩) (val := (.func (.func 94) #[] #[])) rfl _ _ _ 123 rfl Tryz.underlying123 Tryz.underlying9 (b := w.heap.size) rfl hm (by decide +kernel) rfl rfl (by decide +kernel) (by decide +kernel) ?_; intro w' hm' hg'; replace hm := hm'; clear hm'; replace hb := hb.grown hg' (Nat.le_of_lt hs0) (fun j hj => by cases hj; exact Nat.le_refl _); have hs0 := Nat.lt_of_lt_of_le hs0 hg'.size; clear hg') | (refine cW (s := ⟨#[100, 101, 108, 105, 118, 101, 114]⟩) (val := (.func (.func 95) #[] #[])) rfl _ _ _ 123 rfl Tryz.underlying123 Tryz.underlying9 (b := w.heap.size) rfl hm (by decide +kernel) rfl rfl (by decide +kernel) (by decide +kernel) ?_; intro w' hm' hg'; replace hm := hm'; clear hm'; replace hb := hb.grown hg' (Nat.le_of_lt hs0) (fun j hj => by cases hj; exact Nat.le_refl _); have hs0 := Nat.lt_of_lt_of_le hs0 hg'.size; clear hg') | (refine cW (s := ⟨#[108, 111, 115, 101]⟩) (val := (.func (.func 96) #[] #[])) rfl _ _ _ 123 rfl Tryz.underlying123 Tryz.underlying9 (b := w.heap.size) rfl hm (by decide +kernel) rfl rfl (by decide +kernel) (by decide +kernel) ?_; intro w' hm' hg'; replace hm := hm'; clear hm'; replace hb := hb.grown hg' (Nat.le_of_lt hs0) (fun j hj => by cases hj; exact Nat.le_refl _); have hs0 := Nat.lt_of_lt_of_le hs0 hg'.size; clear hg') | (refine cW (s := ⟨#[116, 119, 105, 99, 101]⟩) (val := (.func (.func 97) #[] #[])) rfl _ _ _ 123 rfl Tryz.underlying123 Tryz.underlying9 (b := w.heap.size) rfl hm (by decide +kernel) rfl rfl (by decide +kernel) (by decide +kernel) ?_; intro w' hm' hg'; replace hm := hm'; clear hm'; replace hb := hb.grown hg' (Nat.le_of_lt hs0) (fun j hj => by cases hj; exact Nat.le_refl _); have hs0 := Nat.lt_of_lt_of_le hs0 hg'.size; clear hg') | (refine cW (s := ⟨#[99, 104, 97, 110, 103, 101]⟩) (val := (.func (.func 98) #[] #[])) rfl _ _ _ 123 rfl Tryz.underlying123 Tryz.underlying9 (b := w.heap.size) rfl hm (by decide +kernel) rfl rfl (by decide +kernel) (by decide +kernel) ?_; intro w' hm' hg'; replace hm := hm'; clear hm'; replace hb := hb.grown hg' (Nat.le_of_lt hs0) (fun j hj => by cases hj; exact Nat.le_refl _); have hs0 := Nat.lt_of_lt_of_le hs0 hg'.size; clear hg') | (refine cW (s := ⟨#[102, 108, 117, 115, 104]⟩) (val := (.func (.func 99) #[] #[])) rfl _ _ _ 123 rfl Tryz.underlying123 Tryz.underlying9 (b := w.heap.size) rfl hm (by decide +kernel) rfl rfl (by decide +kernel) (by decide +kernel) ?_; intro w' hm' hg'; replace hm := hm'; clear hm'; replace hb := hb.grown hg' (Nat.le_of_lt hs0) (fun j hj => by cases hj; exact Nat.le_refl _); have hs0 := Nat.lt_of_lt_of_le hs0 hg'.size; clear hg') | (refine cW (s := ⟨#[99, 97, 108, 109]⟩) (val := (.func (.func 100) #[] #[])) rfl _ _ _ 123 rfl Tryz.underlying123 Tryz.underlying9 (b := w.heap.size) rfl hm (by decide +kernel) rfl rfl (by decide +kernel) (by decide +kernel) ?_; intro w' hm' hg'; replace hm := hm'; clear hm'; replace hb := hb.grown hg' (Nat.le_of_lt hs0) (fun j hj => by cases hj; exact Nat.le_refl _); have hs0 := Nat.lt_of_lt_of_le hs0 hg'.size; clear hg') | (refine cW (s := ⟨#[110, 101, 116]⟩) (val := (.func (.func 101) #[] #[])) rfl _ _ _ 123 rfl Tryz.underlying123 Tryz.underlying9 (b := w.heap.size) rfl hm (by decide +kernel) rfl rfl (by decide +kernel) (by decide +kernel) ?_; intro w' hm' hg'; replace hm := hm'; clear hm'; replace hb := hb.grown hg' (Nat.le_of_lt hs0) (fun j hj => by cases hj; exact Nat.le_refl _); have hs0 := Nat.lt_of_lt_of_le hs0 hg'.size; clear hg'))
 have hm2 : fi _ w.heap.size lm := hm
 have Hb := hid hb
 clear hm hb hmm
 go_upto_region 3 with (at_lookup; refine pM rfl _ _ 123 rfl Tryz.underlying123 Tryz.underlying9 (yN _) (b := w.heap.size) rfl hm2 (by decide +kernel) s rfl hs ?_; intro v ok hok)
 rcases hok with ⟨rfl, rfl, hno⟩ | ⟨rfl, hin⟩
 ·have hc := hid (xp hno)
  clear hno hm2
  go_wp2
  exact ⟨rfl, .inr ⟨hc.out, rfl⟩, Hb.out⟩
 ·have hc := hid (xo hin)
  clear hin hm2
  go_wp2
  go_ret
  exact ⟨.inl ⟨_, hc.out, rfl⟩, Hb.out⟩
end
theorem uC (p : Nat) (w : World) (c₀ : Frame) (cs : List Frame) (Q : Exit → Act → List Frame → World → Prop) (hu : c₀.mode = .panicking [{ v := jo, recovered := false }]) (ops : Array Oper) (c1 : Code) (hb : Tryz.f54.body = some ((Code.region 0 ops false).seq c1))
  (h : Q .normal { tmps := #[.pointer (some ⟨p, 0, none⟩), .pointer (some ⟨w.heap.size, 0, none⟩), .bool true, .tuple #[.agg #[], .bool true], jo, .tuple #[.agg #[], .bool true], .agg #[], .bool true, undef, undef, undef, undef], defers := [] } ({ c₀ with mode := .panicking [{ v := jo, recovered := true }] } :: cs) (w.alloc (.cells #[] 95))) :
  wpOpsS Tryz.prog ops Q (List.range ops.size) { tmps := #[.pointer (some ⟨p, 0, none⟩)] ++ Array.replicate (Tryz.f54.ntmps - 1) undef, defers := [] } (c₀ :: cs) w := by
 cases hb
 cases c₀
 cases hu
 revert h
 rw [show (wpOpsS Tryz.prog _ Q _ _ _ w) = _ from by kernel_rfl]
 exact id
theorem uD (p : Nat) (w : World) (c₀ : Frame) (cs : List Frame) (Q : Exit → Act → List Frame → World → Prop) (hu : c₀.mode = .returning) (ops : Array Oper) (c1 : Code) (hb : Tryz.f54.body = some ((Code.region 0 ops false).seq c1))
  (h : Q .normal { tmps := #[.pointer (some ⟨p, 0, none⟩), .pointer (some ⟨w.heap.size, 0, none⟩), .bool false, .tuple #[.agg #[], .bool false], .nilIface, .tuple #[.agg #[], .bool false], .agg #[], .bool false, undef, undef, undef, undef], defers := [] } ({ c₀ with mode := .returning } :: cs) (w.alloc (.cells #[] 95))) :
  wpOpsS Tryz.prog ops Q (List.range ops.size) { tmps := #[.pointer (some ⟨p, 0, none⟩)] ++ Array.replicate (Tryz.f54.ntmps - 1) undef, defers := [] } (c₀ :: cs) w := by
 cases hb
 cases c₀
 cases hu
 revert h
 rw [show (wpOpsS Tryz.prog _ Q _ _ _ w) = _ from by kernel_rfl]
 exact id
theorem sc (g m p : Nat) (vm vs vn vg : Value) (x : Wd) (o : List UInt8) (w1 : World) (a1 a3 a4 a5 a6 a7 : Value) (hc : dF g m w1 vm vs vn vg x o) (hp : w1.cell? ⟨p, 0, none⟩ = some (.pointer (some ⟨g, 0, none⟩))) (hol : o.length ≤ 100000000)
  (Q : Exit → Act → World → Prop) (hQ : ∀ a w9, a.defers = [] → PrO g m w1 vm vs vn vg x (o ++ cC [kG]) (.returned (.tuple #[])) w9 → Q .normal a w9)
  (ops : Array Oper) (c1 : Code) (hb : Tryz.f54.body = some ((Code.region 0 ops false).seq c1)) :
  Code.wp Tryz.prog c1 Q { tmps := #[.pointer (some ⟨p, 0, none⟩), a1, .bool true, a3, a4, a5, a6, a7, undef, undef, undef, undef], defers := [] } w1 := by
 cases hb
 have HC := hid hc
 have hms := hc.le
 clear hc
 go_wp2_with (go_at_call 33; refine (lX g m vm vs vn vg x o _ [⟨#[119, 104, 97, 116]⟩] _ (HC.out.go (ab _ _)) (lG w1 [⟨#[119, 104, 97, 116]⟩] 9 (by simp) (by simp [maxLen])) (by simp) (by decide) (by simp) hol).mono ?_; rintro e w9 ⟨rfl, hcv9, hfr9⟩)
 exact hQ _ _ rfl ⟨rfl, hcv9, (FrO.of (ab _ _) hms).trans hfr9⟩
theorem sd (p : Nat) (w1 : World) (a1 a3 a4 a5 a6 a7 : Value)
  (Q : Exit → Act → World → Prop) (hQ : ∀ a, a.defers = [] → Q .normal a w1)
  (ops : Array Oper) (c1 : Code) (hb : Tryz.f54.body = some ((Code.region 0 ops false).seq c1)) :
  Code.wp Tryz.prog c1 Q { tmps := #[.pointer (some ⟨p, 0, none⟩), a1, .bool false, a3, a4, a5, a6, a7, undef, undef, undef, undef], defers := [] } w1 := by
 cases hb
 have HQ := hid hQ
 clear hQ
 go_wp2_with fail
 exact HQ.out _ rfl
theorem vx : ∃ ops c1, Tryz.f54.body = some ((Code.region 0 ops false).seq c1) := ⟨_, _, rfl⟩
theorem qz (g m p : Nat) (vm vs vn vg : Value) (x : Wd) (o : List UInt8) (w : World) (hc : dF g m w vm vs vn vg x o) (hp : w.cell? ⟨p, 0, none⟩ = some (.pointer (some ⟨g, 0, none⟩))) (hol : o.length ≤ 100000000) :
  CallsD Tryz.prog 54 #[.pointer (some ⟨p, 0, none⟩)] (.panicking [{ v := jo, recovered := false }]) w fun e u' w' => u' = .panicking [{ v := jo, recovered := true }] ∧ PrO g m w vm vs vn vg x (o ++ cC [kG]) e w' := by
 have hpw := World.block_lt_of_cell? _ _ hp
 have hb1 := ab w (.cells #[] 95)
 have hF : FrO g m w (w.alloc (.cells #[] 95)) := FrO.of hb1 hc.le
 obtain ⟨ops, c1, hb⟩ := vx
 exact callsD_of_wpS Tryz.func54 hb fun c₀ cs hu => wpS_seq (wpS_region (uC p w c₀ cs _ hu ops c1 hb
  (wpS_of_wp (sc g m p vm vs vn vg x o _ _ _ _ _ _ _ (hc.go hb1) ((hb1.cell hpw).trans hp) hol _
   (fun a w9 hd h9 => ⟨hd, _, rfl, _, results_none rfl _ _ _, rfl, h9.1, h9.2.1, hF.trans h9.2.2⟩) ops c1 hb))))
theorem r9 (g m p : Nat) (w : World) (hm : m ≤ w.heap.size) :
  CallsD Tryz.prog 54 #[.pointer (some ⟨p, 0, none⟩)] .returning w fun e u' w' => u' = .returning ∧ e = .returned (.tuple #[]) ∧ Below w.heap.size w w' := by
 have hb1 := ab w (.cells #[] 95)
 obtain ⟨ops, c1, hb⟩ := vx
 exact callsD_of_wpS Tryz.func54 hb fun c₀ cs hu => wpS_seq (wpS_region (uD p w c₀ cs _ hu ops c1 hb
  (wpS_of_wp (sd p _ _ _ _ _ _ _ _
   (fun a hd => ⟨hd, _, rfl, _, results_none rfl _ _ _, rfl, rfl, hb1⟩) ops c1 hb))))
theorem rJ {ps : List ByteArray} {l : List UInt8} (hcut : ps.map bL = aP 32 l) : ∃ q0 q1 q2 q3, ((ps ++ [⟨#[]⟩, ⟨#[]⟩, ⟨#[]⟩])[0]? = some q0 ∧ (ps ++ [⟨#[]⟩, ⟨#[]⟩, ⟨#[]⟩])[1]? = some q1 ∧ (ps ++ [⟨#[]⟩, ⟨#[]⟩, ⟨#[]⟩])[2]? = some q2 ∧ (ps ++ [⟨#[]⟩, ⟨#[]⟩, ⟨#[]⟩])[3]? = some q3) ∧
  bL q0 = (aP 32 l).getD 0 [] ∧ bL q1 = (aP 32 l).getD 1 [] ∧ bL q2 = (aP 32 l).getD 2 [] ∧ bL q3 = (aP 32 l).getD 3 [] := by
 have hne := kI 32 l
 rw [← hcut] at hne ⊢
 match ps, hne with
 | [], h => exact absurd rfl h
 | [a], _ => exact ⟨_, _, _, _, ⟨rfl, rfl, rfl, rfl⟩, rfl, rfl, rfl, rfl⟩
 | [a, b], _ => exact ⟨_, _, _, _, ⟨rfl, rfl, rfl, rfl⟩, rfl, rfl, rfl, rfl⟩
 | [a, b, c], _ => exact ⟨_, _, _, _, ⟨rfl, rfl, rfl, rfl⟩, rfl, rfl, rfl, rfl⟩
 | a :: b :: c :: d :: r, _ => exact ⟨_, _, _, _, ⟨rfl, rfl, rfl, rfl⟩, rfl, rfl, rfl, rfl⟩
theorem qA {R : Ending → World → Prop} {c : List PanicEntry} {a : Act} {d : Option Tmp} {v : Value} {w : World} (h : bodyPostD Tryz.prog Tryz.f32 R (.panic c) (a.put d v) w) : bodyPostD Tryz.prog Tryz.f32 R (.panic c) a w := by
 have hd : (a.put d v).defers = a.defers := by cases d <;> rfl
 have h' : Leaves Tryz.prog Tryz.f32 (a.put d v).tmps R (a.put d v).defers (.panicking c) w := h
 rw [hd] at h'
 exact fD (fun w v h => by rw [results_none rfl] at h ⊢; exact h) _ _ _ h'
theorem mf {a b : World} (h : b = a) : Below a.heap.size a b := by subst h; exact zm
def lP (x : Wd) (l : List UInt8) (n1 n2 n3 : Int) : Wd × List UInt8 :=
 if 0 < g7 l then (doW x ⟨g7 l, n1, n2, n3⟩, []) else if l = mb then (cK x, []) else if l = j8 then (x, iW x) else (x, cC [kG])
theorem uE (x : Wd) (l : List UInt8) : bj x l = lP x ((aP 32 l).getD 0 []) (ed ((aP 32 l).getD 1 [])) (ed ((aP 32 l).getD 2 [])) (ed ((aP 32 l).getD 3 [])) := rfl
theorem vE {l : List UInt8} {f : Value} (h : kH l = some f) : ∃ n, f = .func (.func n) #[] #[] := by
 unfold kH at h
 repeat (split at h; · injection h with h; exact ⟨_, h.symm⟩)
 cases h
theorem vF {l : List UInt8} (h : kH l = none) {x : Wd} {n1 n2 n3 : Int} : lP x l n1 n2 n3 = (x, cC [kG]) := by
 unfold kH at h
 repeat (split at h; · cases h)
 simp [lP, g7, vw, me, vv, rx, oX, ru, mb, j8, *]
theorem tR {l : List UInt8} {n : Nat} (h : kH l = some (.func (.func n) #[] #[])) (args : Array Value) (w : World) : (callFunc n args).run Tryz.prog w = .ok (.enter n args) w := by
 unfold kH at h
 repeat (split at h; · cases h; kernel_rfl)
 cases h
theorem fb {x : Wd} {l : List UInt8} {n1 n2 n3 : Int} (k : Int) (hk : g7 l = k) (h0 : 0 < k) : lP x l n1 n2 n3 = (doW x ⟨k, n1, n2, n3⟩, []) := by unfold lP; rw [hk, if_pos h0]
theorem yW (g m B : Nat) (vm vs vn vg : Value) (x : Wd) (o : List UInt8) (n1 n2 n3 : Int) (w : World) (hc : dF g m w vm vs vn vg x o) (hx : VD 0 x) (hG : bx w) (hL : LbW B w) (hB : B ≤ g) (hol : o.length ≤ 90000000) {l : List UInt8} {n : Nat} (h : kH l = some (.func (.func n) #[] #[])) :
  Calls Tryz.prog n #[.pointer (some ⟨g, 0, none⟩), .agg #[.int .i64 n1, .int .i64 n2, .int .i64 n3]] w (CmO g m w ((lP x l n1 n2 n3).1, o ++ (lP x l n1 n2 n3).2)) := by
 unfold kH at h
 split at h
 ·rename_i e; subst e; cases h; rw [fb 1 (by decide) (by decide)]; simpa using xn g m vm vs vn vg x o n1 n2 n3 w hc hG hx
 split at h
 ·rename_i e; subst e; cases h; rw [fb 2 (by decide) (by decide)]; simpa using rA g m vm vs vn vg x o n1 n2 n3 w hc hG hx
 split at h
 ·rename_i e; subst e; cases h; rw [fb 3 (by decide) (by decide)]; simpa using xm g m vm vs vn vg x o n1 n2 n3 w hc hG hx
 split at h
 ·rename_i e; subst e; cases h; rw [fb 4 (by decide) (by decide)]; simpa using vD g m vm vs vn vg x o n1 n2 n3 w hc hG hx
 split at h
 ·rename_i e; subst e; cases h; rw [fb 5 (by decide) (by decide)]; simpa using tQ g m vm vs vn vg x o n1 n2 n3 w hc hG hx
 split at h
 ·rename_i e; subst e; cases h; rw [fb 6 (by decide) (by decide)]; simpa using vC g m vm vs vn vg x o n1 n2 n3 w hc hG hx
 split at h
 ·rename_i e; subst e; cases h
  rw [show lP x [99, 97, 108, 109] n1 n2 n3 = (cK x, []) from by unfold lP; rw [if_neg (by decide), if_pos (show ([99, 97, 108, 109] : List UInt8) = mb from rfl)]]
  simpa using yk g m vm vs vn vg x o n1 n2 n3 w hc hG hx
 split at h
 ·rename_i e; subst e; cases h
  rw [show lP x [110, 101, 116] n1 n2 n3 = (x, iW x) from by unfold lP; rw [if_neg (by decide), if_neg (by decide), if_pos (show ([110, 101, 116] : List UInt8) = j8 from rfl)]]
  exact (yZ g m vm vs vn vg x o n1 n2 n3 w hc hx hol B hL hB).mono fun e w' h => ⟨h.1, ⟨_, _, _, _, h.2.1⟩, h.2.2⟩
 cases h
theorem yw (g m B : Nat) (vm vs vn vg : Value) (x : Wd) (o : List UInt8) (s : ByteArray) (w : World) (hc : dF g m w vm vs vn vg x o) (hx : VD 0 x) (hG : bx w) (hL : LbW B w) (hB : B ≤ g) (hGg : 0 < g) (hs : s.size ≤ 1000000) (hol : o.length ≤ 80000000) :
  Calls Tryz.prog 32 #[.pointer (some ⟨g, 0, none⟩), .string s] w (CmO g m w ((bj x (bL s)).1, o ++ (bj x (bL s)).2)) := by
 have hmf : ∀ (fn : Fn) (first cap : Array Value) (w : World), (Instr.makeFunc fn first cap).run Tryz.prog w = .ok (.func fn first cap) w := fun _ _ _ _ => rfl
 have Hms := hid hc.le
 have HL := hid (hL.on ((ab w (.cells #[.pointer (some ⟨g, 0, none⟩)] 48)).mono (by have := hc.le; obtain ⟨_, _, _, _, h4, _⟩ := hc; omega)))
 have HC := hid (hc.go (ab w (.cells #[.pointer (some ⟨g, 0, none⟩)] 48)))
 have HG := hid (hG.go (ab w (.cells #[.pointer (some ⟨g, 0, none⟩)] 48)))
 have Es := hid (show (w.alloc (.cells #[.pointer (some ⟨g, 0, none⟩)] 48)).heap.size = w.heap.size + 1 by simp)
 have Hx := hid hx; have Hmf := hid hmf
 clear hc hx hG hL
 go_enter_defers Tryz.func32, Tryz.ntmps32
 obtain ⟨i0, hi, hz0, hz1, hz3⟩ := info_parts sX
 go_wp2_with (first
  | (go_at_call 31; refine (tt B s 32 _ HL.out (by omega)).mono ?_; rintro e w2 ⟨v, ps, rfl, hcut, hown, hb2⟩; rw [Es.out] at hown hb2; have Hown := hid hown; have Hb2 := hid hb2; have Hcut := hid hcut; have hz2 := hb2.size; rw [Es.out] at hz2; have hpl : ps.length ≤ 1000001 := (by have h1 := iK 32 (bL s); rw [← hcut, List.length_map, aB] at h1; omega); clear hown hb2 hcut)
  | (at_builtin; go_loud (refine ay rfl (.tmp 7) (.tmp 8) 52 rfl fQ fc (B := w.heap.size + 1) (v := v) (xs := ps) (ys := [⟨#[]⟩, ⟨#[]⟩, ⟨#[]⟩]) Tryz.underlying52 hi hz0 hz1 hz3 rfl (by decide) (by decide) rfl (Own.below Hown.out (ab _ _) (Nat.le_refl _)) _ 3 3 rfl ((lG w2 [⟨#[]⟩, ⟨#[]⟩, ⟨#[]⟩] 9 (by simp) (by simp [maxLen])).imp fun F h => h.1) ?_ ?_ ?_; (simp only [List.length_cons, List.length_nil]; omega); (simp; omega); intro v5 w5 ho5 hg5 hv5; have Ho5 := hid ho5; clear ho5)))
 have HCn := HC.out
 obtain ⟨q0, q1, q2, q3, ⟨g0, g1, g2, g3⟩, hc0, hc1, hc2, hc3⟩ := rJ Hcut.out
 obtain ⟨F5, hsl5⟩ := Ho5.out.slB'
 have hS5 := SlB.of hsl5
 obtain ⟨A5, cap5, rfl, hl5, _, _⟩ := hS5.form
 obtain ⟨b5, o5, rfl, _, hb5, c0⟩ := hS5.str g0
 obtain ⟨_, _, e, _, _, c1⟩ := hS5.str g1
 cases e
 obtain ⟨_, _, e, _, _, c2⟩ := hS5.str g2
 cases e
 obtain ⟨_, _, e, _, _, c3⟩ := hS5.str g3
 cases e
 have hb5w : Below (w.heap.size + 1) (w.alloc (.cells #[.pointer (some ⟨g, 0, none⟩)] 48)) w5 :=
  Below.grown (Hb2.out.trans ((ab w2 _).mono (by omega))) hg5 (by have := (ab w2 (.cells #[.string ⟨#[]⟩, .string ⟨#[]⟩, .string ⟨#[]⟩] 9)).size; omega) (fun k hk => (Hown.out.top k hk).1)
 have cb : w5.cell? ⟨w.heap.size, 0, none⟩ = some (.pointer (some ⟨g, 0, none⟩)) := (hb5w.cell (p := ⟨w.heap.size, 0, none⟩) (by simp)).trans (by rw [cell_of_row _ _ 0 _ _ _ (heap_alloc_new w _)]; rfl)
 have HC5 := hid (HC.out.go (by rw [Es.out]; exact hb5w))
 have HG5 := hid (HG.out.go (by rw [Es.out]; exact hb5w))
 have HL5 := hid (HL.out.on (hb5w.mono (by have := HC.out.le; obtain ⟨_, _, _, _, h4, _⟩ := HC.out; have := Es.out; omega)))
 have hBw : B ≤ w.heap.size := by have := HC.out.le; obtain ⟨_, _, _, _, h4, _⟩ := HC.out; have := Es.out; omega
 have hsz5 := hb5w.size
 have Hcb := hid cb
 rw [Es.out] at hsz5
 have hq0 : q0.size ≤ maxLen := by
  rcases List.mem_append.1 (List.mem_of_getElem? g0) with h | h
  ·have := fU (c := 32) (l := bL s) (by rw [← Hcut.out]; exact List.mem_map_of_mem h)
   rw [aB, aB] at this
   unfold maxLen; omega
  ·simp at h; subst h; exact Nat.zero_le _
 have HF5 := hid ((show FrO g m w (w.alloc (.cells #[.pointer (some ⟨g, 0, none⟩)] 48)) from FrO.of (ab w _) Hms.out).trans (FrO.of hb5w (by have := Hms.out; omega)))
 have hlx : bj x (bL s) = lP x (bL q0) (ed ((aP 32 (bL s))[1]?.getD [])) (ed ((aP 32 (bL s))[2]?.getD [])) (ed ((aP 32 (bL s))[3]?.getD [])) := by rw [uE, hc0]; rfl
 have Hlx := hid hlx
 clear hlx
 obtain ⟨n5, hn5⟩ : ∃ n, (ps ++ [(⟨#[]⟩ : ByteArray), ⟨#[]⟩, ⟨#[]⟩]).length = n := ⟨_, rfl⟩
 rw [hn5]
 have hn4 : 4 ≤ n5 := by
  rw [← hn5]
  have := List.getElem?_eq_some_iff.1 g3
  obtain ⟨h, _⟩ := this
  omega
 have k0 : 0 < n5 := by omega
 have k1 : (1 : Int) < n5 := by omega
 have k2 : (2 : Int) < n5 := by omega
 have k3 : (3 : Int) < n5 := by omega
 have hn9 : n5 ≤ 1000004 := by rw [← hn5]; simp; omega
 have HS := hid (fun (wx : World) (hT : Tch [] w5 wx) => And.intro ((hT.nil.cell (p := ⟨b5, o5, none⟩) hb5).trans c0) (And.intro ((hT.nil.cell (p := ⟨b5, o5 + 1, none⟩) hb5).trans c1) (And.intro ((hT.nil.cell (p := ⟨b5, o5 + 2, none⟩) hb5).trans c2) (And.intro ((hT.nil.cell (p := ⟨b5, o5 + 3, none⟩) hb5).trans c3) ((hT.nil.cell (p := ⟨w.heap.size, 0, none⟩) (show w.heap.size < w5.heap.size by omega)).trans cb)))))
 clear c0 c1 c2 c3 cb hb5w hsl5 hS5 HCn hv5 Hown Hb2 Ho5 hg5
 cases hcm : kH (bL q0) with
 | none =>
  have Hcm := hid hcm
  clear hcm
  refine rgN [] 19 (by kernel_rfl) rfl (fun _ _ _ _ _ h => qA h) fun wd hH hbwd swd => ?_
  simp only [pw]
  refine ag [0, 1, 2, 4, 5, 6, 7, 9, 10, 11, 13, 14, 15] ?_
  iterate 13 (refine ra HS.out rfl (by kernel_rfl) rfl (fun _ f => by go_simp; try with_reducible rfl) ?_; try simp only [pw])
  refine rq 3 (by kernel_rfl) rfl fun K hK => ?_
  go_simp
  (go_at_call 55; refine (lJ q0 _ hq0).mono ?_; rintro e w6 ⟨(⟨f, hf, rfl⟩ | ⟨hf, rfl⟩), hbC⟩; (rw [Hcm.out] at hf; cases hf))
  have hF := hH.nil.trans ((Below.mono hbC (by have := hH.size; omega)))
  have hm5 : m ≤ w5.heap.size := by have := Hms.out; omega
  refine leaves_cons (f := 54) (args := #[.pointer (some ⟨w.heap.size, 0, none⟩)]) (by simp) (by simp [go_sem]) ?_
  refine (qz g m w.heap.size vm vs vn vg x o w6 (HC5.out.go hF) ((hF.cell (p := ⟨w.heap.size, 0, none⟩) (by show w.heap.size < w5.heap.size; omega)).trans Hcb.out) (by omega)).mono ?_
  rintro e u' wy ⟨rfl, rfl, hcv, hfr⟩
  refine ⟨_, results_none rfl _ _ _, rfl, ?_⟩
  rw [Hlx.out, vF Hcm.out]
  exact ⟨⟨_, _, _, _, hcv⟩, (HF5.out.trans (FrO.of hF hm5)).trans hfr⟩
 | some f =>
  obtain ⟨n, rfl⟩ := vE hcm
  have Hcm := hid hcm
  clear hcm
  refine rgN [] 19 (by kernel_rfl) rfl (fun _ _ _ _ _ h => qA h) fun wd hH hbwd swd => ?_
  simp only [pw]
  refine ag [0, 1, 2, 4, 5, 6, 7, 9, 10, 11, 13, 14, 15] ?_
  iterate 13 (refine ra HS.out rfl (by kernel_rfl) rfl (fun _ f => by go_simp; try with_reducible rfl) ?_; try simp only [pw])
  refine rq 3 (by kernel_rfl) rfl fun K hK => ?_
  go_simp
  (go_at_call 55; refine (lJ q0 _ hq0).mono ?_; rintro e w6 ⟨(⟨f, hf, rfl⟩ | ⟨hf, rfl⟩), hbC⟩; rotate_left; (rw [Hcm.out] at hf; cases hf); rw [Hcm.out] at hf; injection hf with hf; subst hf)
  refine hK.out _ _ (hH.trans (Tch.of hbC)) (fun hH => ?_)
  clear hK K
  refine rq 8 (by kernel_rfl) rfl fun K hK => ?_
  go_simp
  (go_at_call 56; refine (mT q1 _).mono ?_; rintro e w7 ⟨rfl, hw7⟩; have hbC := mf hw7; clear hw7)
  refine hK.out _ _ (hH.trans (Tch.of hbC)) (fun hH => ?_)
  clear hK K
  refine rq 12 (by kernel_rfl) rfl fun K hK => ?_
  go_simp
  (go_at_call 56; refine (mT q2 _).mono ?_; rintro e w8 ⟨rfl, hw8⟩; have hbC := mf hw8; clear hw8)
  refine hK.out _ _ (hH.trans (Tch.of hbC)) (fun hH => ?_)
  clear hK K
  refine rq 16 (by kernel_rfl) rfl fun K hK => ?_
  go_simp
  (go_at_call 56; refine (mT q3 _).mono ?_; rintro e w9 ⟨rfl, hw9⟩; have hbC := mf hw9; clear hw9)
  refine hK.out _ _ (hH.trans (Tch.of hbC)) (fun hH => ?_)
  clear hK K
  refine tr 17 HS.out rfl (by kernel_rfl) rfl (fun _ f => by go_simp; try with_reducible rfl) ?_
  try simp only [pw]
  refine rz 18 (by kernel_rfl) rfl fun K hK => ?_
  go_simp
  (go_simp; rw [tR Hcm.out]; go_simp; have hF := hH.nil; refine (yW g m B vm vs vn vg x o _ _ _ _ (HC5.out.go hF) Hx.out (HG5.out.go hF) (HL5.out.on (hF.mono (by omega))) hB (by omega) Hcm.out).mono ?_; rintro e wz ⟨rfl, hcv, hfr⟩)
  refine hK.out _ _ ?_
  clear hK K
  have hm5 : m ≤ w5.heap.size := by have := Hms.out; omega
  have hfz := (HF5.out.trans (FrO.of hF hm5)).trans hfr
  rw [← Hlx.out] at hcv
  obtain ⟨um, us, un, ug, hcv⟩ := hcv
  refine leaves_cons (f := 54) (args := #[.pointer (some ⟨w.heap.size, 0, none⟩)]) (by simp) (by simp [go_sem]) ?_
  refine (r9 g m w.heap.size wz hcv.le).mono ?_
  rintro e u' wy ⟨rfl, rfl, hby⟩
  exact ⟨_, results_none rfl _ _ _, rfl, ⟨_, _, _, _, hcv.go hby⟩, hfz.trans (FrO.of hby hcv.le)⟩
end Go.Proofs.YtfaeojmndaplcaaGreatDoor
