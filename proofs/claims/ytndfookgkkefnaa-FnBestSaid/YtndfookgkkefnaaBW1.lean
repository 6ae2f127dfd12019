/- Walks in company: assignments. -/
import Derived.Test.YtndfookgkkefnaaBD
import Derived.Test.YtndfookgkkefnaaProg
import Derived.Laws.MakeOwn
import Derived.Conc.AppendWalk
import Derived.RowKit
import Derived.KernelRfl
import Derived.IntWalk
namespace Go.Proofs.Ytndfookgkkefnaa
set_option linter.unusedSimpArgs false
set_option linter.unusedVariables false
set_option linter.unusedSectionVars false
open Go Go.Conc Go.RowKit
/-- a row of truth values that one may count on -/
def RowI (γ : Gh) (w : World) (v : Value) (bs : List Bool) : Prop :=
  ((∃ p c, v = .slice p 0 c) ∧ bs = []) ∨ ∃ b o c, v = .slice (some ⟨b, o, none⟩) bs.length c ∧ γ.F b ∧ ∀ (i : Nat) (x : Bool), bs[i]? = some x → w.cell? ⟨b, o + i, none⟩ = some (.bool x)
/-- .. a table -/
def TabI (γ : Gh) (w : World) (v : Value) (xs : List (List Bool)) : Prop :=
  ∃ b o c, v = .slice (some ⟨b, o, none⟩) xs.length c ∧ γ.F b ∧ ∀ (i : Nat) (bs : List Bool), xs[i]? = some bs → ∃ u, w.cell? ⟨b, o + i, none⟩ = some u ∧ RowI γ w u bs
theorem RowI.form {γ : Gh} {w : World} {v : Value} {bs : List Bool} (h : RowI γ w v bs) :
    ∃ p c, v = .slice p bs.length c ∧ ∀ (i : Nat) (x : Bool), bs[i]? = some x → ∃ b o, p = some ⟨b, o, none⟩ ∧ γ.F b ∧ w.cell? ⟨b, o + i, none⟩ = some (.bool x) := by
  rcases h with ⟨⟨p, c, rfl⟩, rfl⟩ | ⟨b, o, c, rfl, hb, hx⟩
  · exact ⟨p, c, rfl, fun i x h => by simp at h⟩
  · exact ⟨_, c, rfl, fun i x h => ⟨b, o, rfl, hb, hx i x h⟩⟩
def sumI (f : Nat → Int) : Nat → Int
  | 0 => 0
  | k + 1 => IntKind.i64.wrap (sumI f k + f k)
def free (t : Int) (r : Nat) : Bool := bits .and .u64 (t / 2 ^ r) 1 == 0
def tk (t : Int) (r : Nat) : Int := bits .or .u64 t (IntKind.u64.wrap (2 ^ r))
def asg (xs : List (List Bool)) : Nat → Int → Int
  | 0, _ => 1
  | d + 1, t => sumI (fun r => if ((xs.getD (xs.length - (d + 1)) []).getD r false && free t r) = true then asg xs d (tk t r) else 0) (xs.getD (xs.length - (d + 1)) []).length
theorem sumI_succ (f : Nat → Int) (k : Nat) : sumI f (k + 1) = IntKind.i64.wrap (sumI f k + f k) := rfl
theorem sumI_wrap (f : Nat → Int) (k : Nat) : IntKind.i64.wrap (sumI f k) = sumI f k := by
  cases k with
  | zero => rfl
  | succ k => rw [sumI_succ, IntKind.wrap_i64, IntKind.wrap_i64]; omega
set_option maxHeartbeats 8000000 in
set_option maxRecDepth 100000 in
theorem assignments_c (main : Bool) (X : Pha) (γ : Gh) (w : World) (v : Value) (xs : List (List Bool)) (hT : TabI γ w v xs) (hn : xs.length ≤ 5) (hr : ∀ bs ∈ xs, bs.length ≤ 5) :
    ∀ (d s : Nat) (t : Int), s + d = xs.length → CallsI Try.prog main X 33 #[v, .int .i64 s, .int .u64 t] γ w fun γ' r w' => γ' = γ ∧ w' = w ∧ r = .int .i64 (asg xs d t) := by
  obtain ⟨b, o, c, rfl, hb, hx⟩ := hT
  intro d
  induction d with
  | zero =>
    intro s t hs
    obtain rfl : s = xs.length := by omega
    (refine callsI_of Try.func33 (by rfl) rfl ?_; simp only [Try.ntmps33, List.size_toArray, List.length_cons, List.length_nil, Nat.reduceAdd, Nat.reduceSub, Array.replicate_succ, Array.replicate_zero, List.push_toArray, List.append_toArray, List.nil_append, List.cons_append])
    repeat (first | ((first | refine wpI_seq ?_ | refine wpI_block ?_ | refine wpI_skip ?_ | refine wpI_label ?_ | refine wpI_ret ?_ | refine wpI_exit ?_ | refine opI_nil ?_); try simp only [thenI, blkI, if_true, if_false, reduceIte, Nat.reduceEqDiff]) | (refine wpI_region ?_; simp only [List.size_toArray, List.length_cons, List.length_nil, Nat.reduceAdd, Nat.zero_add, List.range, List.range.loop]) | (refine opI_unwanted rfl (by rfl) ?_; try walk_nrm) | (refine opI_k rfl (by rfl) (fun w₁ hR K hK => ?_); skip; go_simp; refine hK _ (fun e he => ?_) ?_; (first | done | ((rw [listed_nil (by simp [go_sem, *])] at he; simp at he))); (try clear hc₁); (clear hK K hR; clear w₁); (try walk_nrm)))
    refine wpI_cond rfl ?_
    simp only [decide_true, if_true, beq_self_eq_true]
    repeat (first | ((first | refine wpI_seq ?_ | refine wpI_block ?_ | refine wpI_skip ?_ | refine wpI_label ?_ | refine wpI_ret ?_ | refine wpI_exit ?_ | refine opI_nil ?_); try simp only [thenI, blkI, if_true, if_false, reduceIte, Nat.reduceEqDiff]) | (refine wpI_region ?_; simp only [List.size_toArray, List.length_cons, List.length_nil, Nat.reduceAdd, Nat.zero_add, List.range, List.range.loop]) | (refine opI_unwanted rfl (by rfl) ?_; try walk_nrm) | (refine opI_k rfl (by rfl) (fun w₁ hR K hK => ?_); skip; go_simp; refine hK _ (fun e he => ?_) ?_; (first | done | ((rw [listed_nil (by simp [go_sem, *])] at he; simp at he))); (try clear hc₁); (clear hK K hR; clear w₁); (try walk_nrm)))
    exact ⟨rfl, _, resultsC_tmp rfl _, rfl, rfl, rfl⟩
  | succ d ih =>
    intro s t hs
    have hs1 : s < xs.length := by omega
    have hne : ((s : Int) == (xs.length : Int)) = false := by simp; omega
    have hsi : (s : Int) < (xs.length : Int) := by omega
    obtain ⟨bs, hbs⟩ : ∃ bs, xs[s]? = some bs := ⟨_, List.getElem?_eq_getElem hs1⟩
    obtain ⟨u, hu, hR0⟩ := hx s bs hbs
    (refine callsI_of Try.func33 (by rfl) rfl ?_; simp only [Try.ntmps33, List.size_toArray, List.length_cons, List.length_nil, Nat.reduceAdd, Nat.reduceSub, Array.replicate_succ, Array.replicate_zero, List.push_toArray, List.append_toArray, List.nil_append, List.cons_append])
    repeat (first | ((first | refine wpI_seq ?_ | refine wpI_block ?_ | refine wpI_skip ?_ | refine wpI_label ?_ | refine wpI_ret ?_ | refine wpI_exit ?_ | refine opI_nil ?_); try simp only [thenI, blkI, if_true, if_false, reduceIte, Nat.reduceEqDiff]) | (refine wpI_region ?_; simp only [List.size_toArray, List.length_cons, List.length_nil, Nat.reduceAdd, Nat.zero_add, List.range, List.range.loop]) | (refine opI_unwanted rfl (by rfl) ?_; try walk_nrm) | (refine opI_k rfl (by rfl) (fun w₁ hR K hK => ?_); skip; go_simp; refine hK _ (fun e he => ?_) ?_; (first | done | ((rw [listed_nil (by simp [go_sem, *])] at he; simp at he))); (try clear hc₁); (clear hK K hR; clear w₁); (try walk_nrm)))
    refine wpI_cond rfl ?_
    simp only [hne, if_false, Bool.false_eq_true]
    repeat (first | ((first | refine wpI_seq ?_ | refine wpI_block ?_ | refine wpI_skip ?_ | refine wpI_label ?_ | refine wpI_ret ?_ | refine wpI_exit ?_ | refine opI_nil ?_); try simp only [thenI, blkI, if_true, if_false, reduceIte, Nat.reduceEqDiff]) | (refine wpI_region ?_; simp only [List.size_toArray, List.length_cons, List.length_nil, Nat.reduceAdd, Nat.zero_add, List.range, List.range.loop]) | (refine opI_unwanted rfl (by rfl) ?_; try walk_nrm) | (refine opI_k rfl (by rfl) (fun w₁ hR K hK => ?_); skip; go_simp; refine hK _ (fun e he => ?_) ?_; (first | done | ((rw [listed_nil (by simp [go_sem, *])] at he; simp at he))); (try clear hc₁); (clear hK K hR; clear w₁); (try walk_nrm)))
    obtain ⟨p, c', rfl, hrow⟩ := hR0.form
    (refine opI_k rfl (by rfl) (fun w₁ hR K hK => ?_); have hc₁ := hR.get hb hu; go_simp; refine hK _ (fun e he => ?_) ?_; (first | done | ((have hm := mem_listed he; simp [go_sem, *] at hm; subst hm; exact Ev.read hb))); (try clear hc₁); (clear hK K hR; clear w₁); (try walk_nrm))
    repeat (first | ((first | refine wpI_seq ?_ | refine wpI_block ?_ | refine wpI_skip ?_ | refine wpI_label ?_ | refine wpI_ret ?_ | refine wpI_exit ?_ | refine opI_nil ?_); try simp only [thenI, blkI, if_true, if_false, reduceIte, Nat.reduceEqDiff]) | (refine wpI_region ?_; simp only [List.size_toArray, List.length_cons, List.length_nil, Nat.reduceAdd, Nat.zero_add, List.range, List.range.loop]) | (refine opI_unwanted rfl (by rfl) ?_; try walk_nrm) | (refine opI_k rfl (by rfl) (fun w₁ hR K hK => ?_); skip; go_simp; refine hK _ (fun e he => ?_) ?_; (first | done | ((rw [listed_nil (by simp [go_sem, *])] at he; simp at he))); (try clear hc₁); (clear hK K hR; clear w₁); (try walk_nrm)))
    have hrow5 := hr bs (List.mem_of_getElem? hbs)
    obtain ⟨fb, hfb⟩ : ∃ f : Nat → Int, Hd (f = fun r => if (bs.getD r false && free t r) = true then asg xs d (tk t r) else 0) := ⟨_, ⟨rfl⟩⟩
    have hend : asg xs (d + 1) t = sumI fb bs.length := by
      have e1 : xs.length - (d + 1) = s := by omega
      have e2 : xs.getD s [] = bs := by simp [List.getD, hbs]
      simp only [asg, e1, e2, hfb.out]
    refine wpI_loop (fun m γ' a' w' => γ' = γ ∧ w' = w ∧ ∃ (k : Nat) (acc kz : Int) (u8 u9 u20 u21 u22 u23 u24 u25 u26 u27 u28 u29 u30 u31 u32 u33 u34 u35 u36 u37 u38 u39 u40 u41 u42 : Value), a' = ⟨#[.slice (some ⟨b, o, none⟩) xs.length c, .int .i64 s, .int .u64 t, undef, undef, undef, .int .i64 0, .int .i64 acc, u8, u9, .int .i64 s, .slice (some ⟨b, o, none⟩) xs.length c, .int .i64 xs.length, .bool false, .slice (some ⟨b, o, none⟩) xs.length c, .int .i64 s, .pointer (some ⟨b, o + s, none⟩), .slice p bs.length c', .int .i64 bs.length, .int .i64 kz, u20, u21, u22, u23, u24, u25, u26, u27, u28, u29, u30, u31, u32, u33, u34, u35, u36, u37, u38, u39, u40, u41, u42, undef], []⟩ ∧ k ≤ bs.length ∧ m = bs.length - k ∧ acc = sumI fb k ∧ kz = k) bs.length
      ⟨rfl, rfl, 0, _, _, _, _, _, _, _, _, _, _, _, _, _, _, _, _, _, _, _, _, _, _, _, _, _, _, _, rfl, Nat.zero_le _, rfl, rfl, rfl⟩ ?_
    rintro m γ' a' w' ⟨rfl, rfl, k, acc, kz, u8, u9, u20, u21, u22, u23, u24, u25, u26, u27, u28, u29, u30, u31, u32, u33, u34, u35, u36, u37, u38, u39, u40, u41, u42, rfl, hk, rfl, rfl, rfl⟩
    repeat (first | ((first | refine wpI_seq ?_ | refine wpI_block ?_ | refine wpI_skip ?_ | refine wpI_label ?_ | refine wpI_ret ?_ | refine wpI_exit ?_ | refine opI_nil ?_); try simp only [thenI, blkI, if_true, if_false, reduceIte, Nat.reduceEqDiff]) | (refine wpI_region ?_; simp only [List.size_toArray, List.length_cons, List.length_nil, Nat.reduceAdd, Nat.zero_add, List.range, List.range.loop]) | (refine opI_unwanted rfl (by rfl) ?_; try walk_nrm) | (refine opI_k rfl (by rfl) (fun w₁ hR K hK => ?_); skip; go_simp; refine hK _ (fun e he => ?_) ?_; (first | done | ((rw [listed_nil (by simp [go_sem, *])] at he; simp at he))); (try clear hc₁); (clear hK K hR; clear w₁); (try walk_nrm)))
    by_cases hlt : k < bs.length
    · refine wpI_cond rfl ?_
      simp only [hlt, decide_true, if_true]
      obtain ⟨x, hxk⟩ : ∃ x, Hd (bs[k]? = some x) := ⟨_, ⟨List.getElem?_eq_getElem hlt⟩⟩
      obtain ⟨b', o', rfl, hb', hc'⟩ := hrow k x hxk.out
      have hk0 : (0 : Int) ≤ (k : Int) := by omega
      have hk64 : (k : Int) ≤ 64 := by omega
      have hlti : (k : Int) < (bs.length : Int) := by omega
      repeat (first | ((first | refine wpI_seq ?_ | refine wpI_block ?_ | refine wpI_skip ?_ | refine wpI_label ?_ | refine wpI_ret ?_ | refine wpI_exit ?_ | refine opI_nil ?_); try simp only [thenI, blkI, if_true, if_false, reduceIte, Nat.reduceEqDiff]) | (refine wpI_region ?_; simp only [List.size_toArray, List.length_cons, List.length_nil, Nat.reduceAdd, Nat.zero_add, List.range, List.range.loop]) | (refine opI_unwanted rfl (by rfl) ?_; try walk_nrm) | (refine opI_k rfl (by rfl) (fun w₁ hR K hK => ?_); skip; go_simp; refine hK _ (fun e he => ?_) ?_; (first | done | ((rw [listed_nil (by simp [go_sem, *])] at he; simp at he))); (try clear hc₁); (clear hK K hR; clear w₁); (try walk_nrm)))
      (refine opI_k rfl (by rfl) (fun w₁ hR K hK => ?_); have hc₁ := hR.get hb' hc'; go_simp; refine hK _ (fun e he => ?_) ?_; (first | done | ((have hm := mem_listed he; simp [go_sem, *] at hm; subst hm; exact Ev.read hb'))); (try clear hc₁); (clear hK K hR; clear w₁); (try walk_nrm))
      repeat (first | ((first | refine wpI_seq ?_ | refine wpI_block ?_ | refine wpI_skip ?_ | refine wpI_label ?_ | refine wpI_ret ?_ | refine wpI_exit ?_ | refine opI_nil ?_); try simp only [thenI, blkI, if_true, if_false, reduceIte, Nat.reduceEqDiff]) | (refine wpI_region ?_; simp only [List.size_toArray, List.length_cons, List.length_nil, Nat.reduceAdd, Nat.zero_add, List.range, List.range.loop]) | (refine opI_unwanted rfl (by rfl) ?_; try walk_nrm) | (refine opI_k rfl (by rfl) (fun w₁ hR K hK => ?_); skip; go_simp; refine hK _ (fun e he => ?_) ?_; (first | done | ((rw [listed_nil (by simp [go_sem, *])] at he; simp at he))); (try clear hc₁); (clear hK K hR; clear w₁); (try walk_nrm)))
      have e19 : Hd (IntKind.i64.wrap ((k : Int) + 1) = ((k + 1 : Nat) : Int)) := ⟨by rw [IntKind.wrap_i64]; omega⟩
      cases x with
      | false =>
        have hg : Hd (bs.getD k false = false) := ⟨by simp [List.getD, hxk.out]⟩
        have e7 : Hd (sumI fb (k + 1) = sumI fb k) := ⟨by rw [sumI_succ, show fb k = 0 from by rw [hfb.out]; show (if (bs.getD k false && free t k) = true then _ else _) = _; rw [hg.out]; rfl, Int.add_zero, sumI_wrap]⟩
        repeat (first | ((first | refine wpI_seq ?_ | refine wpI_block ?_ | refine wpI_skip ?_ | refine wpI_label ?_ | refine wpI_ret ?_ | refine wpI_exit ?_ | refine opI_nil ?_); try simp only [thenI, blkI, if_true, if_false, reduceIte, Nat.reduceEqDiff]) | (refine wpI_region ?_; simp only [List.size_toArray, List.length_cons, List.length_nil, Nat.reduceAdd, Nat.zero_add, List.range, List.range.loop]) | (refine opI_unwanted rfl (by rfl) ?_; try walk_nrm) | (refine opI_k rfl (by rfl) (fun w₁ hR K hK => ?_); skip; go_simp; refine hK _ (fun e he => ?_) ?_; (first | done | ((rw [listed_nil (by simp [go_sem, *])] at he; simp at he))); (try clear hc₁); (clear hK K hR; clear w₁); (try walk_nrm)))
        refine wpI_cond rfl ?_
        simp only [if_false, Bool.false_eq_true]
        repeat (first | ((first | refine wpI_seq ?_ | refine wpI_block ?_ | refine wpI_skip ?_ | refine wpI_label ?_ | refine wpI_ret ?_ | refine wpI_exit ?_ | refine opI_nil ?_); try simp only [thenI, blkI, if_true, if_false, reduceIte, Nat.reduceEqDiff]) | (refine wpI_region ?_; simp only [List.size_toArray, List.length_cons, List.length_nil, Nat.reduceAdd, Nat.zero_add, List.range, List.range.loop]) | (refine opI_unwanted rfl (by rfl) ?_; try walk_nrm) | (refine opI_k rfl (by rfl) (fun w₁ hR K hK => ?_); skip; go_simp; refine hK _ (fun e he => ?_) ?_; (first | done | ((rw [listed_nil (by simp [go_sem, *])] at he; simp at he))); (try clear hc₁); (clear hK K hR; clear w₁); (try walk_nrm)))
        exact ⟨bs.length - (k + 1), by omega, trivial, trivial, k + 1, _, _, _, _, _, _, _, _, _, _, _, _, _, _, _, _, _, _, _, _, _, _, _, _, _, _, _, rfl, by omega, rfl, e7.out.symm, e19.out⟩
      | true =>
        have hg : Hd (bs.getD k false = true) := ⟨by simp [List.getD, hxk.out]⟩
        repeat (first | ((first | refine wpI_seq ?_ | refine wpI_block ?_ | refine wpI_skip ?_ | refine wpI_label ?_ | refine wpI_ret ?_ | refine wpI_exit ?_ | refine opI_nil ?_); try simp only [thenI, blkI, if_true, if_false, reduceIte, Nat.reduceEqDiff]) | (refine wpI_region ?_; simp only [List.size_toArray, List.length_cons, List.length_nil, Nat.reduceAdd, Nat.zero_add, List.range, List.range.loop]) | (refine opI_unwanted rfl (by rfl) ?_; try walk_nrm) | (refine opI_k rfl (by rfl) (fun w₁ hR K hK => ?_); skip; go_simp; refine hK _ (fun e he => ?_) ?_; (first | done | ((rw [listed_nil (by simp [go_sem, *])] at he; simp at he))); (try clear hc₁); (clear hK K hR; clear w₁); (try walk_nrm)))
        refine wpI_split (t := free t k) rfl (fun hfr => ?_) fun hfr => ?_
        · have hws : IntKind.i64.wrap ((s : Int) + 1) = (s : Int) + 1 := by rw [IntKind.wrap_i64]; omega
          have e7 : Hd (sumI fb (k + 1) = IntKind.i64.wrap (sumI fb k + asg xs d (tk t k))) := ⟨by rw [sumI_succ, show fb k = asg xs d (tk t k) from by rw [hfb.out]; show (if (bs.getD k false && free t k) = true then _ else _) = _; rw [hg.out, hfr]; rfl]⟩
          clear hfr
          repeat (first | ((first | refine wpI_seq ?_ | refine wpI_block ?_ | refine wpI_skip ?_ | refine wpI_label ?_ | refine wpI_ret ?_ | refine wpI_exit ?_ | refine opI_nil ?_); try simp only [thenI, blkI, if_true, if_false, reduceIte, Nat.reduceEqDiff]) | (refine wpI_region ?_; simp only [List.size_toArray, List.length_cons, List.length_nil, Nat.reduceAdd, Nat.zero_add, List.range, List.range.loop]) | (refine opI_unwanted rfl (by rfl) ?_; try walk_nrm) | (refine opI_k rfl (by rfl) (fun w₁ hR K hK => ?_); skip; go_simp; refine hK _ (fun e he => ?_) ?_; (first | done | ((rw [listed_nil (by simp [go_sem, *])] at he; simp at he))); (try clear hc₁); (clear hK K hR; clear w₁); (try walk_nrm)))
          refine opI_call (Post := fun γ'' r w'' => γ'' = γ' ∧ w'' = w' ∧ r = .int .i64 (asg xs d (tk t k))) rfl (by rfl) rfl ?_ ?_
          · have h := ih (s + 1) (tk t k) (by omega)
            rw [show ((s + 1 : Nat) : Int) = (s : Int) + 1 from by omega] at h
            walk_nrm
            exact h
          rintro _ _ _ ⟨rfl, rfl, rfl⟩
          walk_nrm
          repeat (first | ((first | refine wpI_seq ?_ | refine wpI_block ?_ | refine wpI_skip ?_ | refine wpI_label ?_ | refine wpI_ret ?_ | refine wpI_exit ?_ | refine opI_nil ?_); try simp only [thenI, blkI, if_true, if_false, reduceIte, Nat.reduceEqDiff]) | (refine wpI_region ?_; simp only [List.size_toArray, List.length_cons, List.length_nil, Nat.reduceAdd, Nat.zero_add, List.range, List.range.loop]) | (refine opI_unwanted rfl (by rfl) ?_; try walk_nrm) | (refine opI_k rfl (by rfl) (fun w₁ hR K hK => ?_); skip; go_simp; refine hK _ (fun e he => ?_) ?_; (first | done | ((rw [listed_nil (by simp [go_sem, *])] at he; simp at he))); (try clear hc₁); (clear hK K hR; clear w₁); (try walk_nrm)))
          exact ⟨bs.length - (k + 1), by omega, trivial, trivial, k + 1, _, _, _, _, _, _, _, _, _, _, _, _, _, _, _, _, _, _, _, _, _, _, _, _, _, _, _, rfl, by omega, rfl, e7.out.symm, e19.out⟩
        · have e7 : Hd (sumI fb (k + 1) = sumI fb k) := ⟨by rw [sumI_succ, show fb k = 0 from by rw [hfb.out]; show (if (bs.getD k false && free t k) = true then _ else _) = _; rw [hg.out, hfr]; rfl, Int.add_zero, sumI_wrap]⟩
          clear hfr
          repeat (first | ((first | refine wpI_seq ?_ | refine wpI_block ?_ | refine wpI_skip ?_ | refine wpI_label ?_ | refine wpI_ret ?_ | refine wpI_exit ?_ | refine opI_nil ?_); try simp only [thenI, blkI, if_true, if_false, reduceIte, Nat.reduceEqDiff]) | (refine wpI_region ?_; simp only [List.size_toArray, List.length_cons, List.length_nil, Nat.reduceAdd, Nat.zero_add, List.range, List.range.loop]) | (refine opI_unwanted rfl (by rfl) ?_; try walk_nrm) | (refine opI_k rfl (by rfl) (fun w₁ hR K hK => ?_); skip; go_simp; refine hK _ (fun e he => ?_) ?_; (first | done | ((rw [listed_nil (by simp [go_sem, *])] at he; simp at he))); (try clear hc₁); (clear hK K hR; clear w₁); (try walk_nrm)))
          exact ⟨bs.length - (k + 1), by omega, trivial, trivial, k + 1, _, _, _, _, _, _, _, _, _, _, _, _, _, _, _, _, _, _, _, _, _, _, _, _, _, _, _, rfl, by omega, rfl, e7.out.symm, e19.out⟩
    · refine wpI_cond rfl ?_
      simp only [hlt, decide_false, if_false, Bool.false_eq_true]
      obtain rfl : k = bs.length := by omega
      repeat (first | ((first | refine wpI_seq ?_ | refine wpI_block ?_ | refine wpI_skip ?_ | refine wpI_label ?_ | refine wpI_ret ?_ | refine wpI_exit ?_ | refine opI_nil ?_); try simp only [thenI, blkI, if_true, if_false, reduceIte, Nat.reduceEqDiff]) | (refine wpI_region ?_; simp only [List.size_toArray, List.length_cons, List.length_nil, Nat.reduceAdd, Nat.zero_add, List.range, List.range.loop]) | (refine opI_unwanted rfl (by rfl) ?_; try walk_nrm) | (refine opI_k rfl (by rfl) (fun w₁ hR K hK => ?_); skip; go_simp; refine hK _ (fun e he => ?_) ?_; (first | done | ((rw [listed_nil (by simp [go_sem, *])] at he; simp at he))); (try clear hc₁); (clear hK K hR; clear w₁); (try walk_nrm)))
      refine ⟨rfl, _, resultsC_tmp rfl _, rfl, rfl, ?_⟩
      rw [hend]
      simp
end Go.Proofs.Ytndfookgkkefnaa
