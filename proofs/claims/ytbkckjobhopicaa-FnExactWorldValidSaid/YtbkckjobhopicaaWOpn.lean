/- From a law's argument that is a run, as the row reads it, to the words of this seat's walks. -/
import Derived.Test.YtbkckjobhopicaaClose
import Derived.Test.YtbkckjobhopicaaWTy
namespace Go.Proofs.Ytbkckjobhopicaa
open Go Go.RowKit Go.ChangeShapes Go.WideShapes Go.ChangeAt Go.Deep
section
variable {α β : Type} {P : Program} {H : Type} {enc : TypeId × Value → H} {w : World} {spare : Nat → Bool} {held : Bool} {n : Nat} {cs : List Value}
theorem seg_last {T : Ty α} {f : Field} {o : Nat} {y : DataW H × List MemPlace} (ho : Opens P T f.type (fun _ => True)) (hf : f.offset = o) (hk : P.cellsOf f.type = T.k) (hl : cs.length = o + T.k)
    (h : DataW.trod enc P w 0 spare held n f.type ((cs.drop f.offset).take (P.cellsOf f.type)) = some y) : ∃ d F, T.E w (cs.drop o) d F := by
  obtain ⟨d, F, hE, _⟩ := ho enc w spare held n _ _ h
  rw [hf, hk, List.take_of_length_le (by simp; omega)] at hE
  exact ⟨d, F, hE⟩
theorem seg_cons {T : Ty α} {T2 : Ty β} {f : Field} {o : Nat} {y : DataW H × List MemPlace} (ho : Opens P T f.type (fun _ => True)) (hf : f.offset = o) (hk : P.cellsOf f.type = T.k)
    (h : DataW.trod enc P w 0 spare held n f.type ((cs.drop f.offset).take (P.cellsOf f.type)) = some y) (h2 : ∃ d F, T2.E w (cs.drop (o + T.k)) d F) : ∃ d F, (T.prod T2).E w (cs.drop o) d F := by
  obtain ⟨d, F, hE, _⟩ := ho enc w spare held n _ _ h
  obtain ⟨d2, F2, hE2⟩ := h2
  rw [hf, hk] at hE
  refine ⟨(d, d2), F ++ F2, _, _, _, _, ?_, rfl, hE, hE2⟩
  have := (List.take_append_drop T.k (cs.drop o)).symm
  rwa [List.drop_drop] at this
theorem opens_any {T : Ty α} {t : TypeId} {fit : α → Prop} (h : Opens P T t fit) : Opens P T t (fun _ => True) := by
  intro H enc w spare held fuel cs x hx
  obtain ⟨d, F, hE, _⟩ := h enc w spare held fuel cs x hx
  exact ⟨d, F, hE, trivial⟩
theorem opens_sl {T : Ty α} {t e : TypeId} (ho : Opens P T e (fun _ => True)) (ht : P.underlying t = some (.slice e)) (hc : P.cellsOf e = T.k) (hk : 0 < T.k) : Opens P T.sl t (fun _ => True) := opens_any (opens_slice ho ht hc hk)
end
theorem o_int : Opens Try.prog tInt 3 (fun _ => True) := opens_any (opens_int tInt (fun _ _ => ⟨rfl, rfl⟩) Try.underlying3)
theorem o_bool : Opens Try.prog tBool 4 (fun _ => True) := opens_bool Try.underlying4
theorem o_ints : Opens Try.prog tInt.sl 43 (fun _ => True) := opens_any opens_ints
theorem opens_pk : Opens Try.prog tPk 88 (fun _ => True) := by
  intro H enc w spare held fuel cs x h
  obtain ⟨xs, n, _, _, hl, hxl, hf⟩ := DataW.trod_struct Try.underlying88 h
  rw [show Try.prog.cellsOf 88 = 4 from by kernel_rfl] at hl
  match xs, hxl with
  | [x0, x1, x2, x3], _ =>
    obtain ⟨⟨a, b, c, d⟩, F, hE⟩ := seg_cons (o := 0) o_int rfl (by kernel_rfl) (hf 0 _ rfl) (seg_cons o_ints rfl (by kernel_rfl) (hf 1 _ rfl) (seg_cons o_int rfl (by kernel_rfl) (hf 2 _ rfl) (seg_last o_ints rfl (by kernel_rfl) (by exact hl) (hf 3 _ rfl))))
    exact ⟨⟨a, b, c, d⟩, F, hE, trivial⟩
theorem opens_pl : Opens Try.prog tPl 107 (fun _ => True) := by
  intro H enc w spare held fuel cs x h
  obtain ⟨xs, n, _, _, hl, hxl, hf⟩ := DataW.trod_struct Try.underlying107 h
  rw [show Try.prog.cellsOf 107 = 6 from by kernel_rfl] at hl
  match xs, hxl with
  | [x0, x1, x2], _ =>
    obtain ⟨⟨a, b, c⟩, F, hE⟩ := seg_cons (o := 0) o_int rfl (by kernel_rfl) (hf 0 _ rfl) (seg_cons o_int rfl (by kernel_rfl) (hf 1 _ rfl) (seg_last opens_pk rfl (by kernel_rfl) (by exact hl) (hf 2 _ rfl)))
    exact ⟨⟨a, b, c⟩, F, hE, trivial⟩
theorem opens_tr : Opens Try.prog tTr 90 (fun _ => True) := by
  intro H enc w spare held fuel cs x h
  obtain ⟨xs, n, _, _, hl, hxl, hf⟩ := DataW.trod_struct Try.underlying90 h
  rw [show Try.prog.cellsOf 90 = 6 from by kernel_rfl] at hl
  match xs, hxl with
  | [x0, x1, x2], _ =>
    obtain ⟨⟨a, b, c⟩, F, hE⟩ := seg_cons (o := 0) o_int rfl (by kernel_rfl) (hf 0 _ rfl) (seg_cons opens_pk rfl (by kernel_rfl) (hf 1 _ rfl) (seg_last o_bool rfl (by kernel_rfl) (by exact hl) (hf 2 _ rfl)))
    exact ⟨⟨a, b, c⟩, F, hE, trivial⟩
theorem opens_mx : Opens Try.prog tMx 86 (fun _ => True) := by
  intro H enc w spare held fuel cs x h
  obtain ⟨xs, n, _, _, hl, hxl, hf⟩ := DataW.trod_struct Try.underlying86 h
  rw [show Try.prog.cellsOf 86 = 3 from by kernel_rfl] at hl
  match xs, hxl with
  | [x0, x1, x2], _ =>
    obtain ⟨⟨a, b, c⟩, F, hE⟩ := seg_cons (o := 0) o_int rfl (by kernel_rfl) (hf 0 _ rfl) (seg_cons o_ints rfl (by kernel_rfl) (hf 1 _ rfl) (seg_last (opens_sl opens_pl Try.underlying84 (by kernel_rfl) (by decide)) rfl (by kernel_rfl) (by exact hl) (hf 2 _ rfl)))
    exact ⟨⟨a, b, c⟩, F, hE, trivial⟩
theorem opens_lt : Opens Try.prog tLt 97 (fun _ => True) := by
  intro H enc w spare held fuel cs x h
  obtain ⟨xs, n, _, _, hl, hxl, hf⟩ := DataW.trod_struct Try.underlying97 h
  rw [show Try.prog.cellsOf 97 = 3 from by kernel_rfl] at hl
  match xs, hxl with
  | [x0, x1, x2], _ =>
    obtain ⟨⟨a, b, c⟩, F, c1, c2, F1, F2, e1, e2, ⟨rfl, rfl⟩, c3, c4, F3, F4, rfl, rfl, ⟨rfl, rfl⟩, rfl, rfl⟩ := seg_cons (o := 0) o_int rfl (by kernel_rfl) (hf 0 _ rfl) (seg_cons o_int rfl (by kernel_rfl) (hf 1 _ rfl) (seg_last o_int rfl (by kernel_rfl) (by exact hl) (hf 2 _ rfl)))
    exact ⟨⟨a, b, c⟩, [], ⟨e1, rfl⟩, trivial⟩
theorem o_lts : Opens Try.prog tLt.sl 36 (fun _ => True) := opens_sl opens_lt Try.underlying36 (by kernel_rfl) (by decide)
theorem opens_wd : Opens Try.prog tWd 39 (fun _ => True) := by
  intro H enc w spare held fuel cs x h
  obtain ⟨xs, n, _, _, hl, hxl, hf⟩ := DataW.trod_struct Try.underlying39 h
  rw [show Try.prog.cellsOf 39 = 6 from by kernel_rfl] at hl
  match xs, hxl with
  | [x0, x1, x2, x3, x4, x5], _ =>
    obtain ⟨⟨a, b, c, d, e, f⟩, F, hE⟩ := seg_cons (o := 0) (opens_sl opens_mx Try.underlying35 (by kernel_rfl) (by decide)) rfl (by kernel_rfl) (hf 0 _ rfl) (seg_cons o_lts rfl (by kernel_rfl) (hf 1 _ rfl) (seg_cons (opens_sl opens_tr Try.underlying37 (by kernel_rfl) (by decide)) rfl (by kernel_rfl) (hf 2 _ rfl) (seg_cons o_lts rfl (by kernel_rfl) (hf 3 _ rfl) (seg_cons o_int rfl (by kernel_rfl) (hf 4 _ rfl) (seg_last o_int rfl (by kernel_rfl) (by exact hl) (hf 5 _ rfl))))))
    exact ⟨⟨a, b, c, d, e, f⟩, F, hE, trivial⟩
set_option maxRecDepth 100000 in
theorem opn_W {H : Type} {enc : TypeId × Value → H} {W : World} {base : Nat} {spare : Nat → Bool} {held : Bool} {v : Value} {d : DataW H} {p : List MemPlace}
    (hv : Value.okWide Try.prog W .any base 39 v) (h : DataW.Trod enc Try.prog W 0 spare held 39 v d p) : ∃ x, WdB W.heap.size W v x ∧ True := by
  obtain ⟨fuel, hf⟩ := h
  obtain ⟨x, F, hE, _⟩ := opens_wd enc W spare held fuel _ _ hf
  obtain ⟨vm, vs, vn, vg, Fm, Fs, Fn, Fg, e1, _, hm, hs, hn, hg⟩ := tWd_E.1 hE
  obtain ⟨cs, rfl, _⟩ := okWide_struct Try.underlying39 hv
  have hvv : Value.agg cs = .agg #[vm, vs, vn, vg, .int .i64 x.made, .int .i64 x.lost] := by
    rw [← e1]; rfl
  exact ⟨x, ⟨vm, vs, vn, vg, hvv, ⟨_, hm, hm.lt⟩, ⟨_, hs, hs.lt⟩, ⟨_, hn, hn.lt⟩, ⟨_, hg, hg.lt⟩⟩, trivial⟩
end Go.Proofs.Ytbkckjobhopicaa
