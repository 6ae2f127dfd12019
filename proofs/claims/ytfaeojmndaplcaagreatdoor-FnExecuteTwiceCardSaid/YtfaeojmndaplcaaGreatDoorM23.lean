/- Texts that the last file leans on (part 23). -/
import Derived.KernelRfl
import Derived.LaidEql
import Derived.RowKitTokens
import Derived.Stop.Asserts
import Derived.Test.YtfaeojmndaplcaaGreatDoorM19
import Derived.Test.YtfaeojmndaplcaaGreatDoorM22
import Derived.Test.YtfaeojmndaplcaaGreatDoorM7
import Derived.Test.YtfaeojmndaplcaaGreatDoorProg
import Derived.WalkKit
set_option linter.unusedVariables false
set_option linter.unusedSimpArgs false
set_option maxHeartbeats 4000000
set_option maxRecDepth 100000
namespace Go.Proofs.YtfaeojmndaplcaaGreatDoor
open Go Go.RowKit
section
open Go.Extern.Stop Go.Stop Go.Extern
theorem yh (t : Value) (w : World) : Calls Tryz.prog 137 #[.nilIface, t] w fun e w' => e = .returned (.bool false) ∧ w = w' := by
 go_enter Tryz.func137, Tryz.ntmps137
 go_wp2
 go_ret
 exact ⟨rfl, rfl⟩
theorem tN (t : Addr) (w : World) : (ReflectliteValue.unpack (.iface 162 (.pointer (some t)))).run Tryz.prog w
  = .ok (.agg #[.pointer (some ⟨7, 162, none⟩), .pointer (some ⟨w.heap.size, 0, none⟩), .int .u64 150]) (w.alloc (.cells #[.pointer (some t)] 162)) := by kernel_rfl
theorem vu (a : Addr) (w : World) : (ReflectliteValue.methodAny (ReflectliteValue.valueError "reflectlite.Value.Type" 0) (fun t _ _ _ => ReflectliteType.toType t) #[.agg #[.pointer (some ⟨7, 162, none⟩), .pointer (some a), .int .u64 150]]).run Tryz.prog w
  = .ok (.iface 225 (.agg #[.pointer (some ⟨7, 162, none⟩)])) w := by kernel_rfl
theorem vr (h : Value) (w : World) : (Go.method 379 225 (.agg #[h]) "Kind").run Tryz.prog w = .ok (263, h) w := by kernel_rfl
theorem vi (w : World) : ((ReflectliteType.abiMethod fun t => (fun a : Nat => Value.int IntKind.u8 (a : Int)) <$> Rtype.kind t) #[.pointer (some ⟨7, 162, none⟩)]).run Tryz.prog w = .ok (.int .u8 22) w := by kernel_rfl
theorem ve (w : World) : ((ReflectliteType.abiMethod fun t => (fun a : Nat => Value.int IntKind.u8 (a : Int)) <$> Rtype.kind t) #[.pointer (some ⟨7, 159, none⟩)]).run Tryz.prog w = .ok (.int .u8 22) w := by kernel_rfl
theorem vt (z : Sem Value) (f : TypeId → Addr → Nat → Nat → Sem Value) (v : Value) :
  ReflectliteValue.method z f #[v] = (do match ← ReflectliteValue.parts v with | none => z | some (t, a, fl) => f t a fl (fl % 32)) := rfl
theorem ot (a : Addr) (w : World) : (ReflectliteValue.parts (.agg #[.pointer (some ⟨7, 162, none⟩), .pointer (some a), .int .u64 150])).run Tryz.prog w = .ok (some (162, a, 150)) w := by kernel_rfl
theorem vd (a p : Addr) (W : World) (ha : W.cell? a = some (.pointer (some p))) :
  (ReflectliteValue.method (ReflectliteValue.valueError "reflectlite.Value.IsNil" 0) ReflectliteValue.isNil #[.agg #[.pointer (some ⟨7, 162, none⟩), .pointer (some a), .int .u64 150]]).run Tryz.prog W = .ok (.bool false) W := by
 rw [vt]
 simp only [Sem.run_bind, ot, Result.andThen]
 simp [ReflectliteValue.isNil, loadVar, isAgg, underlying, Tryz.underlying162, ha, Result.andThen]
theorem vj (h : Value) (w : World) : (Go.method 379 225 (.agg #[h]) "Elem").run Tryz.prog w = .ok (274, .agg #[h]) w := by kernel_rfl
theorem vq (h : Value) (w : World) : (Go.method 379 225 (.agg #[h]) "Implements").run Tryz.prog w = .ok (275, .agg #[h]) w := by kernel_rfl
theorem xf (h : Value) (w : World) : (Go.method 379 225 (.agg #[h]) "AssignableTo").run Tryz.prog w = .ok (272, .agg #[h]) w := by kernel_rfl
theorem va (w : World) : (ReflectliteType.method ReflectliteType.elem #[.agg #[.pointer (some ⟨7, 162, none⟩)]]).run Tryz.prog w = .ok (.iface 225 (.agg #[.pointer (some ⟨7, 159, none⟩)])) w := by kernel_rfl
theorem xe (w : World) : (ReflectliteType.relation "Implements" ReflectliteType.implements_ #[.agg #[.pointer (some ⟨7, 159, none⟩)], .iface 225 (.agg #[.pointer (some ⟨7, 130, none⟩)])]).run Tryz.prog w = .ok (.bool true) w := by kernel_rfl
theorem tL (v : Value) (w : World) : (ReflectliteType.typeOf #[.iface 159 v]).run Tryz.prog w = .ok (.iface 225 (.agg #[.pointer (some ⟨7, 159, none⟩)])) w := by kernel_rfl
theorem tH (w : World) : (ReflectliteType.relation "AssignableTo" ReflectliteType.assignableTo #[.agg #[.pointer (some ⟨7, 159, none⟩)], .iface 225 (.agg #[.pointer (some ⟨7, 159, none⟩)])]).run Tryz.prog w = .ok (.bool true) w := by kernel_rfl
theorem tM (e : Addr) (w : World) : (ReflectliteValue.unpack (.iface 159 (.pointer (some e)))).run Tryz.prog w
  = .ok (.agg #[.pointer (some ⟨7, 159, none⟩), .pointer (some ⟨w.heap.size, 0, none⟩), .int .u64 150]) (w.alloc (.cells #[.pointer (some e)] 159)) := by kernel_rfl
theorem tJ (w : World) : (Rtype.elem? 162).run Tryz.prog w = .ok (some 159) w := by kernel_rfl
theorem yU (p : Addr) (w : World) : (ReflectliteValue.mk 159 p ReflectliteValue.flagAddr).run Tryz.prog w = .ok (.agg #[.pointer (some ⟨7, 159, none⟩), .pointer (some p), .int .u64 406]) w := by kernel_rfl
theorem vc (a p : Addr) (W : World) (ha : W.cell? a = some (.pointer (some p))) :
  (ReflectliteValue.method (ReflectliteValue.valueError "reflectlite.Value.Elem" 0) ReflectliteValue.elem #[.agg #[.pointer (some ⟨7, 162, none⟩), .pointer (some a), .int .u64 150]]).run Tryz.prog W
   = .ok (.agg #[.pointer (some ⟨7, 159, none⟩), .pointer (some p), .int .u64 406]) W := by
 rw [vt]
 simp only [Sem.run_bind, ot, Result.andThen]
 simp [ReflectliteValue.elem, loadVar, isAgg, underlying, Tryz.underlying162, ha, Result.andThen, tJ, yU]
theorem yi (v x : Value) : ReflectliteValue.set #[v, x] = (do
  let (some (dst, a, fl), some (src, b, _)) := (← ReflectliteValue.parts v, ← ReflectliteValue.parts x)
   | unsupported (.noEntry "extern/(internal/reflectlite.Value).Set.zeroValue")
  if fl / ReflectliteValue.flagAddr % 2 == 0 then unsupported (.noEntry "extern/(internal/reflectlite.Value).Set.unaddressable")
  let val ← loadVar src b
  if ← Rtype.directlyAssignable dst src then storeVar dst a val
  else if ← Rtype.implements dst src then
   if (← Rtype.kind src) == 20 then
    match val with
    | .nilIface => unsupported (.noEntry "extern/reflectlite: a nil value of one interface type handed on as a value of another")
    | _ => storeVar dst a val
   else storeVar dst a (.iface src val)
  else panicString ("reflectlite.Set: value of type " ++ (← Rtype.spelt src) ++ " is not assignable to type " ++ (← Rtype.spelt dst))
  pure (.tuple #[])) := rfl
theorem rt (a : Addr) (w : World) : (ReflectliteValue.parts (.agg #[.pointer (some ⟨7, 159, none⟩), .pointer (some a), .int .u64 406])).run Tryz.prog w = .ok (some (159, a, 406)) w := by kernel_rfl
theorem tK (a : Addr) (w : World) : (ReflectliteValue.parts (.agg #[.pointer (some ⟨7, 159, none⟩), .pointer (some a), .int .u64 150])).run Tryz.prog w = .ok (some (159, a, 150)) w := by kernel_rfl
theorem tI (w : World) : (Rtype.directlyAssignable 159 159).run Tryz.prog w = .ok true w := by kernel_rfl
theorem yj (ta b e : Addr) (old : Value) (W : World) (hb : W.cell? b = some (.pointer (some e))) (ht : W.cell? ta = some old) (hf : W.frozen? ta = false) :
  (ReflectliteValue.set #[.agg #[.pointer (some ⟨7, 159, none⟩), .pointer (some ta), .int .u64 406], .agg #[.pointer (some ⟨7, 159, none⟩), .pointer (some b), .int .u64 150]]).run Tryz.prog W
   = .ok (.tuple #[]) (W.setCell ta (.pointer (some e))) := by
 rw [yi]
 simp only [Sem.run_bind, rt, tK, Result.andThen]
 simp [ReflectliteValue.flagAddr, loadVar, isAgg, underlying, Tryz.underlying159, hb, Result.andThen, tI, storeVar, Value.cells, storeCells, Addr.add]
 rw [run_store Tryz.prog W ta _ _ (by rfl)]
 simp [ht, hf]
theorem yg (e t : Addr) (old : Value) (w : World) (hg : w.cell? ⟨0, 0, none⟩ = some (.iface 225 (.agg #[.pointer (some ⟨7, 130, none⟩)]))) (ht0 : w.cell? t = some old) (hf0 : w.frozen? t = false) :
  Calls Tryz.prog 137 #[.iface 159 (.pointer (some e)), .iface 162 (.pointer (some t))] w fun ev w' => ev = .returned (.bool true) ∧ w' = ((((w.alloc (.cells #[.pointer (some t)] 162)).alloc (.cells #[.pointer (some ⟨7, 162, none⟩), .pointer (some ⟨w.heap.size, 0, none⟩), .int .u64 150] 197)).alloc (.cells #[.pointer (some ⟨7, 162, none⟩), .pointer (some ⟨w.heap.size, 0, none⟩), .int .u64 150] 197)).alloc (.cells #[.pointer (some e)] 159)).setCell t (.pointer (some e)) := by
 have h6 := @run_callFunc_extern Tryz.prog 184 _ (fun args => ReflectliteValue.unpack (args.getD 0 (.tuple #[]))) Tryz.func184 (by kernel_rfl) (by kernel_rfl) (by kernel_rfl) (by kernel_rfl)
 have h7 := @run_callFunc_extern Tryz.prog 185 _ (ReflectliteValue.methodAny (ReflectliteValue.valueError "reflectlite.Value.Type" 0) (fun t _ _ _ => ReflectliteType.toType t)) Tryz.func185 (by kernel_rfl) (by kernel_rfl) (by kernel_rfl) (by kernel_rfl)
 have h8 := @run_callFunc_extern Tryz.prog 186 _ (ReflectliteValue.method (ReflectliteValue.valueError "reflectlite.Value.IsNil" 0) ReflectliteValue.isNil) Tryz.func186 (by kernel_rfl) (by kernel_rfl) (by kernel_rfl) (by kernel_rfl)
 have h27 := @run_callFunc_extern Tryz.prog 263 _ (ReflectliteType.abiMethod fun t => do pure (.int .u8 (← Rtype.kind t))) Tryz.func263 (by kernel_rfl) (by kernel_rfl) (by kernel_rfl) (by kernel_rfl)
 have h37 := @run_callFunc_extern Tryz.prog 274 _ (ReflectliteType.method ReflectliteType.elem) Tryz.func274 (by kernel_rfl) (by kernel_rfl) (by kernel_rfl) (by kernel_rfl)
 have h38 := @run_callFunc_extern Tryz.prog 275 _ (ReflectliteType.relation "Implements" ReflectliteType.implements_) Tryz.func275 (by kernel_rfl) (by kernel_rfl) (by kernel_rfl) (by kernel_rfl)
 have h10 := @run_callFunc_extern Tryz.prog 230 _ ReflectliteType.typeOf Tryz.func230 (by kernel_rfl) (by kernel_rfl) (by kernel_rfl) (by kernel_rfl)
 have h35 := @run_callFunc_extern Tryz.prog 272 _ (ReflectliteType.relation "AssignableTo" ReflectliteType.assignableTo) Tryz.func272 (by kernel_rfl) (by kernel_rfl) (by kernel_rfl) (by kernel_rfl)
 have h11 := @run_callFunc_extern Tryz.prog 231 _ (ReflectliteValue.method (ReflectliteValue.valueError "reflectlite.Value.Elem" 0) ReflectliteValue.elem) Tryz.func231 (by kernel_rfl) (by kernel_rfl) (by kernel_rfl) (by kernel_rfl)
 have h12 := @run_callFunc_extern Tryz.prog 232 _ ReflectliteValue.set Tryz.func232 (by kernel_rfl) (by kernel_rfl) (by kernel_rfl) (by kernel_rfl)
 have tO := tL
 have mA := xf
 have a25 := tH
 have v25 := tM
 have f6 := tN
 have f7 := vu
 have mK := vr
 have mE := vj
 have mI := vq
 have k27 := vi
 have k25 := ve
 have e27 := va
 have i25 := xe
 have n8 := vd ⟨w.heap.size, 0, none⟩ t ((w.alloc (.cells #[.pointer (some t)] 162)).alloc (.cells #[.pointer (some ⟨7, 162, none⟩), .pointer (some ⟨w.heap.size, 0, none⟩), .int .u64 150] 197)) (by simp)
 have hlt : 0 < w.heap.size := World.block_lt_of_cell? _ _ hg
 have hg2 : ((w.alloc (.cells #[.pointer (some t)] 162)).alloc (.cells #[.pointer (some ⟨7, 162, none⟩), .pointer (some ⟨w.heap.size, 0, none⟩), .int .u64 150] 197)).cell? ⟨0, 0, none⟩ = some (.iface 225 (.agg #[.pointer (some ⟨7, 130, none⟩)])) := by
  rw [World.cell?_alloc_lt _ _ ⟨0, 0, none⟩ (by simp only [World.size_alloc]; omega), World.cell?_alloc_lt _ _ ⟨0, 0, none⟩ hlt]; exact hg
 have htl : t.block < w.heap.size := by
  rcases Nat.lt_or_ge t.block w.heap.size with h | h
  ·exact h
  ·simp [World.cell?, Array.getElem?_eq_none h] at ht0
 have el := vc ⟨w.heap.size, 0, none⟩ t (((w.alloc (.cells #[.pointer (some t)] 162)).alloc (.cells #[.pointer (some ⟨7, 162, none⟩), .pointer (some ⟨w.heap.size, 0, none⟩), .int .u64 150] 197)).alloc (.cells #[.pointer (some ⟨7, 162, none⟩), .pointer (some ⟨w.heap.size, 0, none⟩), .int .u64 150] 197)) (by rw [World.cell?_alloc_lt _ _ ⟨w.heap.size, 0, none⟩ (by simp; omega)]; simp)
 have st := yj t ⟨w.heap.size + 1 + 1 + 1, 0, none⟩ e old ((((w.alloc (.cells #[.pointer (some t)] 162)).alloc (.cells #[.pointer (some ⟨7, 162, none⟩), .pointer (some ⟨w.heap.size, 0, none⟩), .int .u64 150] 197)).alloc (.cells #[.pointer (some ⟨7, 162, none⟩), .pointer (some ⟨w.heap.size, 0, none⟩), .int .u64 150] 197)).alloc (.cells #[.pointer (some e)] 159))
  (by rw [World.cell?_alloc_at _ _ _ _ (by simp)]; rfl)
  (by rw [World.cell?_alloc_lt _ _ t (by simp; omega), World.cell?_alloc_lt _ _ t (by simp; omega), World.cell?_alloc_lt _ _ t (by simp; omega), World.cell?_alloc_lt _ _ t htl]; exact ht0)
  (by rw [World.frozen?_alloc_old _ _ t (by simp; omega), World.frozen?_alloc_old _ _ t (by simp; omega), World.frozen?_alloc_old _ _ t (by simp; omega), World.frozen?_alloc_old _ _ t (Nat.ne_of_lt htl)]; exact hf0)
 go_enter Tryz.func137, Tryz.ntmps137
 go_wp2
 refine wp_loop_rounds 1 ?_
 rw [rounds_succ]
 go_wp2
 go_ret
 exact ⟨rfl, rfl⟩
end
theorem Run.pushSent {B b o s8 : Nat} {w w9 : World} {x : Wd} {vm vs vn vg v' : Value} {Fm Fn G Fg : List Nat} {l : Lt} (h : Run B w b o x vm vs vn vg Fm (vs.ownBlock.toList ++ G) Fn Fg) (ht : Tch (vs.ownBlock.toList ++ G) w w9) (ho : Own tLt 56 0 w9 v' (x.sent ++ [l]) (G ++ [])) (hv : v'.ownBlock = vs.ownBlock ∨ v'.ownBlock = some s8) (hs : w.heap.size ≤ s8) (hB : B ≤ w.heap.size) :
  Run B (w9.setCell ⟨b, o + 1, none⟩ v') b o ⟨x.mixes, x.sent ++ [l], x.net, x.got, x.made, x.lost⟩ vm v' vn vg Fm (v'.ownBlock.toList ++ (G ++ [])) Fn Fg ∧ ∀ c ∈ v'.ownBlock.toList ++ (G ++ []), c ∈ vs.ownBlock.toList ++ G ∨ c = s8 := by
 have hlt := h.lt
 obtain ⟨a1, a2, a3⟩ := ja (s8 := s8) ho hv (List.nodup_append.1 (List.nodup_append.1 (List.nodup_cons.1 h.nd).2).2.1).1 List.nodup_nil (fun c hc => Nat.lt_of_lt_of_le (hlt c (by simp only [List.mem_cons, List.mem_append] at hc ⊢; exact .inr (.inr (.inl hc)))) hs)
  (fun c hc => by cases hc)
 have a4 : ∀ c ∈ v'.ownBlock.toList ++ (G ++ []), c ∈ vs.ownBlock.toList ++ G ∨ c = s8 := fun c hc => by
  rcases a3 c hc with h1 | h1 | h1
  ·exact .inl h1
  ·cases h1
  ·exact .inr h1
 refine ⟨h.sent' ht a1 a2 (fun c hc => ?_) (fun c hc => ?_), a4⟩
 ·rcases a4 c hc with h1 | h1
  ·exact .inl h1
  ·exact .inr (fun hm => by have := hlt c hm; omega)
 ·rcases a4 c hc with h1 | h1
  ·exact h.lo c (by simp only [List.mem_cons, List.mem_append] at h1 ⊢; exact .inr (.inr (.inl h1)))
  ·omega
theorem xK (B rb ro : Nat) (x : Wd) (F : List Nat) (fr dst path : Int) (w : World) (h : Rn B w rb ro x F) (hx : VD 0 x) (hq : ¬ (win fr 0 7 = true ∧ win dst 0 7 = true ∧ aL path ≠ [] ∧ x.sent.length < 12 ∧ x.made < 999)) :
  Calls Tryz.prog 87 #[.pointer (some ⟨rb, ro, none⟩), .int .i64 fr, .int .i64 dst, .int .i64 path] w (eN B w rb ro F [] x) := by
 obtain ⟨vm, vs, vn, vg, Fm, Fs, Fn, Fg, hr, rfl⟩ := h
 obtain ⟨Gs, hFs, os⟩ := aG hr.es
 clear hFs
 obtain ⟨As, cs, rfl, _, _, _⟩ := os.form
 clear os
 obtain ⟨g0, g1, g2, g3, g4, g5, _⟩ := hr.cells (Tch.refl [] _) (by simp)
 have hsn := hx.sn
 have hmd := hx.md
 have Hr := hid hr
 clear hr hx
 go_enter Tryz.func87, Tryz.ntmps87
 go_wp2_with fail
 refine (oP path _).mono ?_
 rintro e w1 ⟨vp, rfl, np, hb1⟩
 obtain ⟨Ap, cp, rfl⟩ := np.form
 obtain ⟨k0, k1, k2, k3, k4, k5, _⟩ := (Hr.out.go hb1).cells (Tch.refl [] _) (by simp)
 have Hb := hid hb1
 clear np hb1 g0 g1 g2 g3 g4 g5
 generalize aL path = names at *
 cases hf : win fr 0 7 with
 | false =>
  clear hq
  go_wp2_with (go_at_call 126; refine (bP _ _).mono ?_; (first | rw [hf] | rw [hd]); rintro e w' ⟨rfl, rfl⟩)
  exact bodyPost_ret (results_none rfl _ _ _) rfl ⟨rfl, _, ⟨_, _, _, _, _, _, _, _, Hr.out.go Hb.out, rfl⟩, fun c hc => .inl hc, Tch.of Hb.out, an.below Hb.out Hr.out.blk⟩
 | true =>
 cases hd : win dst 0 7 with
 | false =>
  clear hq
  go_wp2_with (go_at_call 126; refine (bP _ _).mono ?_; (first | rw [hf] | rw [hd]); rintro e w' ⟨rfl, rfl⟩)
  exact bodyPost_ret (results_none rfl _ _ _) rfl ⟨rfl, _, ⟨_, _, _, _, _, _, _, _, Hr.out.go Hb.out, rfl⟩, fun c hc => .inl hc, Tch.of Hb.out, an.below Hb.out Hr.out.blk⟩
 | true =>
 by_cases h0 : names.length = 0
 ·have i1 : ((names.length : Int) == 0) = true := beq_iff_eq.2 (by omega)
  clear hq h0
  go_wp2_with (go_at_call 126; refine (bP _ _).mono ?_; (first | rw [hf] | rw [hd]); rintro e w' ⟨rfl, rfl⟩)
  exact bodyPost_ret (results_none rfl _ _ _) rfl ⟨rfl, _, ⟨_, _, _, _, _, _, _, _, Hr.out.go Hb.out, rfl⟩, fun c hc => .inl hc, Tch.of Hb.out, an.below Hb.out Hr.out.blk⟩
 have i1 : ((names.length : Int) == 0) = false := beq_eq_false_iff_ne.2 (by omega)
 by_cases h2 : x.sent.length = 12
 ·have i2 : ((x.sent.length : Int) == 12) = true := by simp; omega
  clear hq h0 h2
  go_wp2_with (go_at_call 126; refine (bP _ _).mono ?_; (first | rw [hf] | rw [hd]); rintro e w' ⟨rfl, rfl⟩)
  exact bodyPost_ret (results_none rfl _ _ _) rfl ⟨rfl, _, ⟨_, _, _, _, _, _, _, _, Hr.out.go Hb.out, rfl⟩, fun c hc => .inl hc, Tch.of Hb.out, an.below Hb.out Hr.out.blk⟩
 have i2 : ((x.sent.length : Int) == 12) = false := by simp; omega
 by_cases h3 : x.made = 999
 ·have i3 : (x.made == 999) = true := by simp; omega
  clear hq h0 h2 h3
  go_wp2_with (go_at_call 126; refine (bP _ _).mono ?_; (first | rw [hf] | rw [hd]); rintro e w' ⟨rfl, rfl⟩)
  exact bodyPost_ret (results_none rfl _ _ _) rfl ⟨rfl, _, ⟨_, _, _, _, _, _, _, _, Hr.out.go Hb.out, rfl⟩, fun c hc => .inl hc, Tch.of Hb.out, an.below Hb.out Hr.out.blk⟩
 exact absurd ⟨hf, hd, fun e => h0 (by rw [e]; rfl), by omega, by omega⟩ hq
theorem xJ (B rb ro : Nat) (x : Wd) (F : List Nat) (fr dst path : Int) (w : World) (h : Rn B w rb ro x F) (hx : VD 0 x) (hB : B ≤ w.heap.size) (hf : win fr 0 7 = true) (hd : win dst 0 7 = true) (hp : aL path ≠ []) (hn : x.sent.length < 12) (hm : x.made < 999) :
  Calls Tryz.prog 87 #[.pointer (some ⟨rb, ro, none⟩), .int .i64 fr, .int .i64 dst, .int .i64 path] w (eN B w rb ro F [] (ew ⟨x.mixes, x.sent ++ [⟨fr, dst, x.sent.length⟩], x.net, x.got, x.made + 1, x.lost⟩ ((aL path).getD 0 0) (qy x.sent.length fr dst path) false)) := by
 obtain ⟨j0, ji, jz0, jz1, jz2⟩ := info_parts bi
 obtain ⟨k00, li, lz0, lz1, lz2⟩ := info_parts lq
 have hpk : pkB (qy x.sent.length fr dst path) = true := px (by omega) hf hp
 have HLim := hid (show Lim ⟨x.mixes, x.sent ++ [⟨fr, dst, x.sent.length⟩], x.net, x.got, x.made + 1, x.lost⟩ from by have := hx.lim; have h1 := hx.l0; have h2 := hx.l1; have h3 := hx.md; unfold Lim at *; dsimp only at *; omega)
 obtain ⟨m0, m1, _, _⟩ := hx.lim
 have hmd := hx.l0
 have hmd1 := hx.l1
 have hnn := hx.nn
 have iwm : IntKind.i64.wrap (x.made + 1) = x.made + 1 := a9 (by omega)
 have hmem := qR (k := path)
 have hlen := mZ path
 rw [show qy x.sent.length fr dst path = g8 (7 + 41 * (x.sent.length : Int)) (dM (aL path)) (aL path) dst [fr, (x.sent.length : Int)] from rfl] at hpk ⊢
 have hsb : ∀ y ∈ aL path, win (ao (100 + 37 * y) 5) 1 996 = true := fun y hy => by
  obtain ⟨h1, h2⟩ := hmem y hy
  exact bQ (aH.2 (by omega)) (by decide)
 obtain ⟨n0, hn0, hg0, hl1, i1⟩ : ∃ n0, (aL path).getD 0 0 = n0 ∧ (aL path)[0]? = some n0 ∧ 1 ≤ (aL path).length ∧ (((aL path).length : Int) == 0) = false := by
  cases h : aL path with
  | nil => exact absurd h hp
  | cons a l => exact ⟨a, rfl, rfl, by simp, beq_eq_false_iff_ne.2 (by simp only [List.length_cons]; omega)⟩
 rw [hn0]
 have Hg0 := hid hg0
 clear hn0 hg0
 obtain ⟨vm, vs, vn, vg, Fm, Fs, Fn, Fg, hr, rfl⟩ := h
 obtain ⟨Gs, rfl, os⟩ := aG hr.es
 obtain rfl := au dw os
 obtain ⟨As, cs, rfl, _, _, _⟩ := os.form
 clear os
 obtain ⟨g0, g1, g2, g3, g4, g5, _⟩ := hr.cells (Tch.refl [] _) (by simp)
 have i2 : ((x.sent.length : Int) == 12) = false := beq_eq_false_iff_ne.2 (by omega)
 have i3 : (x.made == 999) = false := beq_eq_false_iff_ne.2 (by omega)
 have Hr := hid hr
 clear hr hx
 go_enter Tryz.func87, Tryz.ntmps87
 go_wp2_with fail
 refine (oP path _).mono ?_
 rintro e w1 ⟨vp, rfl, np, hb1⟩
 obtain ⟨Ap, cp, rfl⟩ := np.form
 obtain ⟨k0, k1, k2, k3, k4, k5, _⟩ := (Hr.out.go hb1).cells (Tch.refl [] _) (by simp)
 have Hb1 := hid hb1; have Np := hid np
 clear np hb1 g0 g1 g2 g3 g4 g5 hp
 generalize aL path = names at *
 go_wp2_with (go_at_call 126; refine (bP _ _).mono ?_; (first | rw [hf] | rw [hd]); rintro e w' ⟨rfl, rfl⟩)
 go_loopw [10, 12, 49] (fun pv _ iv wr => ∃ j : Nat, j ≤ names.length ∧ iv = .int .i64 j ∧ Own af 3 w1.heap.size wr pv (dM (names.take j)) [] ∧ Below w1.heap.size w1 wr) (fun _ _ iv _ => names.length - (intOf iv).toNat)
 case atStart => exact ⟨0, by omega, rfl, cH (w := w1) (Nat.le_refl _), zm.alloc (Nat.le_refl _) _⟩
 case round =>
  obtain ⟨j, hj, rfl, ho, hb⟩ := hrel
  by_cases hlt : j < names.length
  ·obtain ⟨y, hy⟩ := ai hlt
   obtain ⟨y0, y1⟩ := hmem y (List.mem_of_getElem? hy)
   obtain ⟨ky, rfl⟩ := Int.eq_ofNat_of_zero_le y0
   have hky : ky < 3 := by omega
   obtain ⟨bb, ob, rfl, hbz, _, hcx⟩ := (Np.out.go hb).slB.int hy
   have Ht := hid (show dM (names.take (j + 1)) = dM (names.take j) ++ [ao (cS ky) 5] from by rw [aK hy]; simp [dM, cS])
   have hpl : (dM (names.take j)).length = j := by rw [dp, List.length_take]; omega
   have Hpl := hid hpl
   have Hb := hid hb; have Ho := hid ho
   have hsz := hb.size
   clear hy hb ho hpl
   go_wp2_with (first
    | (go_at_call 52; refine (fX ky (by omega) _).mono ?_; rintro e w' ⟨rfl, rfl⟩)
    | (go_at_call 134; refine (oA _ _ (lY hky)).mono ?_; rintro e w' ⟨rfl, rfl⟩)
    | (at_builtin; go_loud (refine ay rfl (.tmp 53) (.tmp 57) 67 rfl af aj (B := w1.heap.size) Tryz.underlying67 ji jz0 jz1 jz2 rfl (by decide) (by decide) (v := u10) rfl (Ho.out.below (ab _ _) (Nat.le_refl _)) _ 1 1 rfl (Sl.box' (T := af) (x := ao (cS ky) 5) wr.heap.size rfl ⟨rfl, rfl⟩) ?_ ?_ ?_; (rw [Hpl.out]; simp; omega); (simp; omega); intro v2 w2 ho2 hg2 hv2; have hb2 : Below w1.heap.size w1 w2 := ((Hb.out.alloc hsz _)).grown hg2 (by simp; omega) (fun q hq => (Ho.out.top q hq).1))))
   go_roundw
   case rel => exact ⟨j + 1, by omega, by go_num, by rw [Ht.out]; exact ho2, hb2⟩
   case measure => simp [intOf]; omega
  ·have Ha := hid (aV hj hlt)
   rw [aV hj hlt] at ho
   obtain ⟨Aq, cq, rfl, _, _, _⟩ := ho.form
   have Ho := hid ho; have Hb := hid hb
   clear ho hb
   go_wp2_with fail
   refine (rN (7 + 41 * (x.sent.length : Int)) dst _ _ _ (dM names) names [fr, (x.sent.length : Int)] _ (Ho.out.slB.go (ab _ _)) ((Np.out.go Hb.out).slB.go (ab _ _)) (lV [fr, (x.sent.length : Int)] (Nat.zero_le _) (by simp [maxLen])).slB (by rw [dp]; exact hl1) (by rw [dp]; exact hlen) (by rw [dp]) (aH.2 (by omega)) (fun q hq => by
    unfold dM at hq
    obtain ⟨y, hy, rfl⟩ := List.mem_map.1 hq
    exact hsb y hy) (fun q hq => aH.2 (by have := hmem q hq; omega)) hd (by simp) (bK.2 (fun q hq => by
    simp at hq
    rcases hq with rfl | rfl
    ·have := aH.1 hf; omega
    ·omega))).mono ?_
   generalize g8 (7 + 41 * (x.sent.length : Int)) (dM names) names dst [fr, (x.sent.length : Int)] = p at *
   rintro e w5 ⟨vh, vb, rfl, np5, hb5⟩
   obtain ⟨Ah, ch, Ab, cb, rfl, rfl⟩ := eQ np5
   have hW5 : Below w.heap.size w w5 := bt (bt (bt Hb1.out Hb.out) (ab _ _)) hb5
   obtain ⟨Fp, hE5, hn5, hF5⟩ := kU (x := ⟨n0, p, false⟩) np5
   replace hF5 : ∀ c ∈ Fp, w.heap.size ≤ c := fun c hc => by
    have h1 := hF5 c hc
    have h2 := Hb1.out.size; have h3 := Hb.out.size
    simp only [World.size_alloc] at h1; omega
   have hl5 := oTr.lt hE5
   have hr5 := Hr.out.go hW5
   obtain ⟨_, o1, _, _⟩ := Np.out
   obtain ⟨gp, rfl, hgp, hgp5, hcp, _⟩ := ((((o1.go Hb.out)).go (ab _ (.cells #[.int .i64 fr, .int .i64 x.sent.length] 3))).go hb5).int Hg0.out
   have hrlt := Hr.out.lt
   have s5 := hW5.size
   have hl0 : 0 < names.length := by omega
   have HF5 := hid hF5; have HE5 := hid hE5; have HN5 := hid hn5; have HW5 := hid hW5; have HL5 := hid hl5; have HR5 := hid hr5; have Hrlt := hid hrlt; have HCP := hid hcp
   obtain ⟨g0, g1, g2, g3, g4, g5, _⟩ := hr5.cells (Tch.refl [] _) (by simp)
   have hrb5 := hr5.blk
   have gz1 := hr5.fz (ro + 1); have gz4 := hr5.fz (ro + 4)
   clear np5 hb5 hF5 hE5 hn5 hW5 hl5 hr5 hrlt k0 k1 k2 k3 k4 k5 Ho Hb Np Hb1 Ha o1 hcp
   have OS := hid (uO HR5.out.es)
   go_wp2_with (at_builtin; go_loud (refine ay rfl (.tmp 77) (.tmp 82) 30 rfl tLt dw (B := 0) Tryz.underlying30 li lz0 lz1 lz2 rfl (by decide) (by decide) (v := .slice As x.sent.length cs) rfl ((OS.out.go (ab w5 (.cells #[.int .i64 p.el, .slice Ah p.hd.length ch, .int .i64 p.tag, .slice Ab p.bd.length cb] 72))).go (ab _ (.cells #[.int .i64 fr, .int .i64 dst, .int .i64 x.sent.length] 56))) (some ⟨w5.heap.size + 1, 0, none⟩) 1 1 rfl (Sl.box' (T := tLt) (w := w5.alloc (.cells #[.int .i64 p.el, .slice Ah p.hd.length ch, .int .i64 p.tag, .slice Ab p.bd.length cb] 72)) (x := (⟨fr, dst, x.sent.length⟩ : Lt)) (cs := [.int .i64 fr, .int .i64 dst, .int .i64 x.sent.length]) (w5.heap.size + 1) (by simp) ⟨rfl, rfl⟩) ?_ ?_ ?_; (simp; omega); (exact Nat.zero_le _); intro v9 w9 ho9 hg9 hv9; obtain ⟨A9, c9, e9, _, _, _⟩ := ho9.form; rw [show (x.sent ++ [(⟨fr, dst, x.sent.length⟩ : Lt)]).length = x.sent.length + 1 from by simp] at e9; subst e9; have HT9 := hid (Tch.grown (S := (Value.slice As x.sent.length cs).ownBlock.toList ++ []) hg9 (fun k hk _ => List.mem_append_left _ (aW.2 hk))); obtain ⟨k0, k1, k2, k3, k4, k5, k6, kz⟩ := ((HR5.out.go (ab w5 (.cells #[.int .i64 p.el, .slice Ah p.hd.length ch, .int .i64 p.tag, .slice Ab p.bd.length cb] 72))).go (ab _ (.cells #[.int .i64 fr, .int .i64 dst, .int .i64 x.sent.length] 56))).cells HT9.out HR5.out.nb.2.1; have kz1 := kz (ro + 1); have kz4 := kz (ro + 4); have HO9 := hid ho9; have HV9 := hid hv9; have s9 := hg9.size; simp only [World.size_alloc] at s9; clear ho9 hg9 hv9 kz g0 g1 g2 g3 g4 g5 gz1 gz4))
   have hr8 := (HR5.out.go (ab w5 (.cells #[.int .i64 p.el, .slice Ah p.hd.length ch, .int .i64 p.tag, .slice Ab p.bd.length cb] 72))).go (ab _ (.cells #[.int .i64 fr, .int .i64 dst, .int .i64 x.sent.length] 56))
   have s8 : ((w5.alloc (.cells #[.int .i64 p.el, .slice Ah p.hd.length ch, .int .i64 p.tag, .slice Ab p.bd.length cb] 72)).alloc (.cells #[.int .i64 fr, .int .i64 dst, .int .i64 x.sent.length] 56)).heap.size = w5.heap.size + 1 + 1 := by simp
   obtain ⟨hr9, hf9⟩ := hr8.pushSent (s8 := w5.heap.size + 1 + 1) HT9.out HO9.out (by rw [← s8]; exact HV9.out) (by omega) (by omega)
   have hr10 := hr9.made (x.made + 1)
   have nb := HR5.out.nb.2.1
   have hne : ∀ c, w.heap.size ≤ c → c < w5.heap.size + 1 + 1 → c ≠ rb ∧ c ∉ (Value.slice As x.sent.length cs).ownBlock.toList ++ [] := fun c h1 _ => ⟨fun e => by have := Hrlt.out rb List.mem_cons_self; omega, fun hm => by have := Hrlt.out c (by simp only [List.mem_cons, List.mem_append] at hm ⊢; exact .inr (.inr (.inl hm))); omega⟩
   have blk : ∀ c, w.heap.size ≤ c → c < w5.heap.size + 1 + 1 → ((w9.setCell ⟨rb, ro + 1, none⟩ (.slice A9 (x.sent.length + 1) c9)).setCell ⟨rb, ro + 4, none⟩ (.int .i64 (x.made + 1))).heap[c]? = ((w5.alloc (.cells #[.int .i64 p.el, .slice Ah p.hd.length ch, .int .i64 p.tag, .slice Ab p.bd.length cb] 72)).alloc (.cells #[.int .i64 fr, .int .i64 dst, .int .i64 x.sent.length] 56)).heap[c]? := fun c h1 h2 => (Below.heap_setCell _ _ _ _ (hne c h1 h2).1).trans ((Below.heap_setCell _ _ _ _ (hne c h1 h2).1).trans (HT9.out.block c (by rw [s8]; exact h2) (hne c h1 h2).2))
   have ePK := (blk w5.heap.size s5 (by omega)).trans (ac (ab (w5.alloc (.cells #[.int .i64 p.el, .slice Ah p.hd.length ch, .int .i64 p.tag, .slice Ab p.bd.length cb] 72)) (.cells #[.int .i64 fr, .int .i64 dst, .int .i64 x.sent.length] 56)) (heap_alloc_new w5 (.cells #[.int .i64 p.el, .slice Ah p.hd.length ch, .int .i64 p.tag, .slice Ab p.bd.length cb] 72)))
   have hcp := (World.cell?_of_block (w := (w5.alloc (.cells #[.int .i64 p.el, .slice Ah p.hd.length ch, .int .i64 p.tag, .slice Ab p.bd.length cb] 72)).alloc (.cells #[.int .i64 fr, .int .i64 dst, .int .i64 x.sent.length] 56)) (a := ⟨gp, 0, none⟩) (blk gp hgp (by omega))).trans (((ab (w5.alloc (.cells #[.int .i64 p.el, .slice Ah p.hd.length ch, .int .i64 p.tag, .slice Ab p.bd.length cb] 72)) (.cells #[.int .i64 fr, .int .i64 dst, .int .i64 x.sent.length] 56)).cell (p := ⟨gp, 0, none⟩) (by simp only [World.size_alloc]; omega)).trans (((ab w5 (.cells #[.int .i64 p.el, .slice Ah p.hd.length ch, .int .i64 p.tag, .slice Ab p.bd.length cb] 72)).cell (p := ⟨gp, 0, none⟩) hgp5).trans HCP.out))
   have hE6 := oTr.keep HE5.out (fun b hb => (blk b (HF5.out b hb) (by have := HL5.out b hb; omega)).trans (((ab (w5.alloc (.cells #[.int .i64 p.el, .slice Ah p.hd.length ch, .int .i64 p.tag, .slice Ab p.bd.length cb] 72)) (.cells #[.int .i64 fr, .int .i64 dst, .int .i64 x.sent.length] 56)).block b (by have := HL5.out b hb; simp only [World.size_alloc]; omega)).trans ((ab w5 (.cells #[.int .i64 p.el, .slice Ah p.hd.length ch, .int .i64 p.tag, .slice Ab p.bd.length cb] 72)).block b (HL5.out b hb))))
   have hT6 : Tch (rb :: (Fm ++ ((Value.slice As x.sent.length cs).ownBlock.toList ++ [] ++ (Fn ++ Fg)))) w ((w9.setCell ⟨rb, ro + 1, none⟩ (.slice A9 (x.sent.length + 1) c9)).setCell ⟨rb, ro + 4, none⟩ (.int .i64 (x.made + 1))) :=
    ((((((Tch.of HW5.out).trans (Tch.of (ab w5 (.cells #[.int .i64 p.el, .slice Ah p.hd.length ch, .int .i64 p.tag, .slice Ab p.bd.length cb] 72)))).trans (Tch.of (ab _ (.cells #[.int .i64 fr, .int .i64 dst, .int .i64 x.sent.length] 56)))).trans (HT9.out.mono (fun b hb => by simp only [List.mem_cons, List.mem_append] at hb ⊢; exact .inr (.inr (.inl hb)))))).setCell (p := ⟨rb, ro + 1, none⟩) (.inl List.mem_cons_self) _).setCell (p := ⟨rb, ro + 4, none⟩) (.inl List.mem_cons_self) _
   have hK6 : an rb ro w ((w9.setCell ⟨rb, ro + 1, none⟩ (.slice A9 (x.sent.length + 1) c9)).setCell ⟨rb, ro + 4, none⟩ (.int .i64 (x.made + 1))) :=
    (((((an.below HW5.out Hr.out.blk).trans (an.below (ab w5 (.cells #[.int .i64 p.el, .slice Ah p.hd.length ch, .int .i64 p.tag, .slice Ab p.bd.length cb] 72)) hrb5)).trans (an.below (ab _ (.cells #[.int .i64 fr, .int .i64 dst, .int .i64 x.sent.length] 56)) (by simp only [World.size_alloc]; omega))).trans (an.tch HT9.out nb (by simp only [World.size_alloc]; omega))).set (by omega) _).set (by omega) _
   have s10 : ((w9.setCell ⟨rb, ro + 1, none⟩ (.slice A9 (x.sent.length + 1) c9)).setCell ⟨rb, ro + 4, none⟩ (.int .i64 (x.made + 1))).heap.size = w9.heap.size := by simp only [al]
   have HD := hid (show ∀ c ∈ Fp, B ≤ c ∧ c ∉ rb :: (Fm ++ ((Value.slice A9 (x.sent.length + 1) c9).ownBlock.toList ++ ([] ++ []) ++ (Fn ++ Fg))) from fun c hc => ⟨by have := HF5.out c hc; omega, fun hm => by
    have h1 := HF5.out c hc; have h2 := HL5.out c hc
    simp only [List.mem_cons, List.mem_append] at hm
    have hlt := Hrlt.out
    simp only [List.mem_cons, List.mem_append] at hlt
    rcases hm with h | h | h | h | h
    ·have := hlt c (.inl h); omega
    ·have := hlt c (.inr (.inl h)); omega
    ·rcases hf9 c (by simp only [List.mem_append]; exact h) with h3 | h3
     ·have := hlt c (.inr (.inr (.inl (by simpa only [List.mem_append] using h3)))); omega
     ·omega
    ·have := hlt c (.inr (.inr (.inr (.inl h)))); omega
    ·have := hlt c (.inr (.inr (.inr (.inr h)))); omega⟩)
   have HF6 := hid (show ∀ c ∈ rb :: (Fm ++ ((Value.slice A9 (x.sent.length + 1) c9).ownBlock.toList ++ ([] ++ []) ++ (Fn ++ Fg))), c ∈ rb :: (Fm ++ ((Value.slice As x.sent.length cs).ownBlock.toList ++ [] ++ (Fn ++ Fg))) ∨ w.heap.size ≤ c from fun c hc => by
    simp only [List.mem_cons, List.mem_append] at hc ⊢
    rcases hc with h | h | h | h | h
    ·exact .inl (.inl h)
    ·exact .inl (.inr (.inl h))
    ·rcases hf9 c (by simp only [List.mem_append]; exact h) with h3 | h3
     ·exact .inl (.inr (.inr (.inl (by simpa only [List.mem_append] using h3))))
     ·exact .inr (by omega)
    ·exact .inl (.inr (.inr (.inr (.inl h))))
    ·exact .inl (.inr (.inr (.inr (.inr h)))))
   have Hrn := hid (show Rn B _ rb ro _ _ from ⟨_, _, _, _, _, _, _, _, hr10, rfl⟩)
   have HE6 := hid hE6; have HT6 := hid hT6; have HK6 := hid hK6
   clear hr8 hr9 hr10 hf9 hne blk hE6 hT6 hK6 k0 k1 k2 k3 k4 k5 kz1 kz4 s8 OS HO9 HV9 HT9
   generalize (w9.setCell ⟨rb, ro + 1, none⟩ (.slice A9 (x.sent.length + 1) c9)).setCell ⟨rb, ro + 4, none⟩ (.int .i64 (x.made + 1)) = W6 at *
   have hgp6 : gp < W6.heap.size := by omega
   have HS6 := hid (fun (wx : World) (hT : Tch [] W6 wx) => And.intro (bh (hT.row ePK (by simp))) (And.intro (hT.cell hcp (by simp)) (show gp < wx.heap.size by have := hT.size; omega)))
   clear ePK hcp
   refine rgN [] 7 (by kernel_rfl) rfl (fun | none, _, _, _, _ => id | some _, _, _, _, _ => id) fun wd hH hbwd swd => ?_
   simp only [pw]
   refine ag [0, 1, 2, 3, 4, 5] ?_
   iterate 6 (refine ra HS6.out rfl (by kernel_rfl) rfl (fun _ f => by go_simp; try with_reducible rfl) ?_; try simp only [pw])
   refine rz 6 (by kernel_rfl) rfl fun K hK => ?_
   go_simp
   (have swd2 := hH.size; go_at_call 136; refine (kx B rb ro ⟨x.mixes, x.sent ++ [⟨fr, dst, x.sent.length⟩], x.net, x.got, x.made + 1, x.lost⟩ _ Fp ⟨n0, p, false⟩ Ah Ab ch cb _ (Hrn.out.go hH.nil) HLim.out hnn (by omega) (oTr.keep HE6.out (fun b hb => hH.nil.block b (oTr.lt HE6.out b hb))) HN5.out HD.out).mono ?_; rintro e w7 ⟨rfl, F7, hr7, hF7, ht7, hk7⟩)
   refine hK.out _ _ ?_
   clear hK K
   have hF6 := HF6.out
   exact bodyPost_end (results_none rfl _ _ _) rfl ⟨rfl, F7, hr7, fun c hc => by
    rcases hF7 c hc with h | h | h
    ·exact (hF6 c h).imp id .inr
    ·exact .inr (.inr (HF5.out c h))
    ·exact .inr (.inr (by omega)), (HT6.out.trans (Tch.of hH.nil)).seq ht7 hF6, (HK6.out.trans (an.below hH.nil Hrn.out.blk)).trans hk7⟩
theorem yE (B rb ro : Nat) (x : Wd) (F : List Nat) (fr dst path : Int) (w : World) (h : Rn B w rb ro x F) (hx : VD 0 x) (hB : B ≤ w.heap.size) :
  Calls Tryz.prog 87 #[.pointer (some ⟨rb, ro, none⟩), .int .i64 fr, .int .i64 dst, .int .i64 path] w (eN B w rb ro F [] (dT x fr dst path)) := by
 unfold dT
 by_cases hq : win fr 0 7 = true ∧ win dst 0 7 = true ∧ aL path ≠ [] ∧ x.sent.length < 12 ∧ x.made < 999
 ·rw [if_pos hq]
  obtain ⟨h1, h2, h3, h4, h5⟩ := hq
  exact xJ B rb ro x F fr dst path w h hx hB h1 h2 h3 h4 h5
 ·rw [if_neg hq]
  exact xK B rb ro x F fr dst path w h hx hq
end Go.Proofs.YtfaeojmndaplcaaGreatDoor
