/- Sizes of a run: a run whose size is found not too great has short lists throughout. -/
import Derived.Test.YtbkckjobhopicaaWVal
namespace Go.Proofs.Ytbkckjobhopicaa
open Go Go.RowKit
set_option maxHeartbeats 400000
def lenB (n : Nat) : Prop := n ≤ 1048576
def smPk (p : Pk) : Prop := lenB p.hd.length ∧ lenB p.bd.length
def smPl (x : Pl) : Prop := smPk x.pk
def smTr (x : Tr) : Prop := smPk x.pk
def smMx (m : Mx) : Prop := lenB m.seen.length ∧ lenB m.pool.length ∧ ∀ x ∈ m.pool, smPl x
def smWd (x : Wd) : Prop := (lenB x.mixes.length ∧ ∀ m ∈ x.mixes, smMx m) ∧ lenB x.sent.length ∧ (lenB x.net.length ∧ ∀ t ∈ x.net, smTr t) ∧ lenB x.got.length
/-- a size: -1, or what is left, and P holds -/
abbrev Szd (P : Prop) (l : Int) (w : World) (e : Ending) (w' : World) : Prop := ∃ r : Int, e = .returned (.int .i64 r) ∧ (r = -1 ∨ (0 ≤ r ∧ r ≤ l ∧ P)) ∧ Below w.heap.size w w'
theorem szIntS_c (v : Value) (xs : List Int) (l : Int) (w : World) (h : SlB tInt w.heap.size w v xs) (hl0 : 0 ≤ l) (hl1 : l ≤ 1048576) : Calls Try.prog 78 #[v, .int .i64 l] w (Szd (lenB xs.length) l w) := by
  obtain ⟨A, c, rfl, a1, a2, a3⟩ := h.form
  clear a2
  by_cases hlt : l - (xs.length : Int) < 0
  · go_enter Try.func78, Try.ntmps78
    go_wp2
    go_ret
    exact ⟨-1, rfl, .inl rfl, Below.refl _ _⟩
  · go_enter Try.func78, Try.ntmps78
    go_wp2
    go_ret
    exact ⟨l - xs.length, rfl, .inr ⟨by omega, by omega, by unfold lenB; omega⟩, Below.refl _ _⟩
theorem szLetterS_c (v : Value) (xs : List Lt) (l : Int) (w : World) (h : SlB tLt w.heap.size w v xs) (hl0 : 0 ≤ l) (hl1 : l ≤ 1048576) : Calls Try.prog 39 #[v, .int .i64 l] w (Szd (lenB xs.length) l w) := by
  obtain ⟨A, c, rfl, a1, a2, a3⟩ := h.form
  clear a2
  by_cases hlt : l - (xs.length : Int) < 0
  · go_enter Try.func39, Try.ntmps39
    go_wp2
    go_ret
    exact ⟨-1, rfl, .inl rfl, Below.refl _ _⟩
  · go_enter Try.func39, Try.ntmps39
    go_wp2
    go_ret
    exact ⟨l - xs.length, rfl, .inr ⟨by omega, by omega, by unfold lenB; omega⟩, Below.refl _ _⟩
theorem szPacket_c (p : Pk) (vh vb : Value) (l : Int) (w : World) (h1 : SlB tInt w.heap.size w vh p.hd) (h2 : SlB tInt w.heap.size w vb p.bd) (hl0 : 0 ≤ l) (hl1 : l ≤ 1048576) : Calls Try.prog 80 #[.agg #[.int .i64 p.el, vh, .int .i64 p.tag, vb], .int .i64 l] w (Szd (smPk p) l w) := by
  have H2 := hid (fun (wx : World) (hb : Below w.heap.size w wx) => h2.go hb)
  go_enter Try.func80, Try.ntmps80
  go_wp2_with fail
  refine (szIntS_c vh p.hd l _ (h1.go (lit_below _ _)) hl0 hl1).mono ?_
  rintro e w1 ⟨r, rfl, hr, hb1⟩
  have k3 := (hb1.cell (p := ⟨w.heap.size, 3, none⟩) (by simp)).trans (rowcell w _ _ 3 _ rfl)
  have hc := bt (lit_below w _) hb1
  have Hc := hid hc
  clear h1 h2 hb1 hc
  rcases hr with rfl | ⟨r0, r1, hp⟩
  · go_wp2
    go_ret
    exact ⟨-1, rfl, .inl rfl, Hc.out⟩
  · have Hp := hid hp
    clear hp
    go_wp2_with fail
    refine (szIntS_c vb p.bd r _ (H2.out _ Hc.out) r0 (by omega)).mono ?_
    rintro e w2 ⟨q, rfl, hq, hb2⟩
    have Hc := hid (bt Hc.out hb2)
    clear k3 hb2
    rcases hq with rfl | ⟨q0, q1, hp2⟩
    · go_wp2
      go_ret
      exact ⟨-1, rfl, .inl rfl, Hc.out⟩
    · have Hp2 := hid hp2
      clear hp2
      go_wp2
      go_ret
      exact ⟨q, rfl, .inr ⟨q0, by omega, Hp.out, Hp2.out⟩, Hc.out⟩
theorem szPeeled_c (x : Pl) (vh vb : Value) (l : Int) (w : World) (h1 : SlB tInt w.heap.size w vh x.pk.hd) (h2 : SlB tInt w.heap.size w vb x.pk.bd) (hl0 : 0 ≤ l) (hl1 : l ≤ 1048576) : Calls Try.prog 86 #[.agg #[.int .i64 x.kind, .int .i64 x.next, .int .i64 x.pk.el, vh, .int .i64 x.pk.tag, vb], .int .i64 l] w (Szd (smPk x.pk) l w) := by
  go_enter Try.func86, Try.ntmps86
  go_wp2_with fail
  refine (szPacket_c x.pk vh vb l _ (h1.go (lit_below _ _)) (h2.go (lit_below _ _)) hl0 hl1).mono ?_
  rintro e w1 ⟨r, rfl, hr, hb1⟩
  have Hc := hid (bt (lit_below w _) hb1)
  clear h1 h2 hb1
  rcases hr with rfl | ⟨r0, r1, hp⟩
  · go_wp2
    go_ret
    exact ⟨-1, rfl, .inl rfl, Hc.out⟩
  · have Hp := hid hp
    clear hp
    go_wp2
    go_ret
    exact ⟨r, rfl, .inr ⟨r0, r1, Hp.out⟩, Hc.out⟩
theorem szTransit_c (x : Tr) (vh vb : Value) (l : Int) (w : World) (h1 : SlB tInt w.heap.size w vh x.pk.hd) (h2 : SlB tInt w.heap.size w vb x.pk.bd) (hl0 : 0 ≤ l) (hl1 : l ≤ 1048576) : Calls Try.prog 64 #[.agg #[.int .i64 x.mix, .int .i64 x.pk.el, vh, .int .i64 x.pk.tag, vb, .bool x.ch], .int .i64 l] w (Szd (smPk x.pk) l w) := by
  go_enter Try.func64, Try.ntmps64
  go_wp2_with fail
  refine (szPacket_c x.pk vh vb l _ (h1.go (lit_below _ _)) (h2.go (lit_below _ _)) hl0 hl1).mono ?_
  rintro e w1 ⟨r, rfl, hr, hb1⟩
  have Hc := hid (bt (lit_below w _) hb1)
  clear h1 h2 hb1
  rcases hr with rfl | ⟨r0, r1, hp⟩
  · go_wp2
    go_ret
    exact ⟨-1, rfl, .inl rfl, Hc.out⟩
  · have Hp := hid hp
    clear hp
    go_wp2
    go_ret
    exact ⟨r, rfl, .inr ⟨r0, r1, Hp.out⟩, Hc.out⟩
theorem szPeeledS_c (v : Value) (xs : List Pl) (l : Int) (w : World) (h : SlB tPl w.heap.size w v xs) (hl0 : 0 ≤ l) (hl1 : l ≤ 1048576) : Calls Try.prog 79 #[v, .int .i64 l] w (Szd (lenB xs.length ∧ ∀ x ∈ xs, smPl x) l w) := by
  obtain ⟨A, c, rfl, a1, a2, a3⟩ := h.form
  clear a2
  by_cases hlt : l - (xs.length : Int) < 0
  · go_enter Try.func79, Try.ntmps79
    go_wp2
    go_ret
    exact ⟨-1, rfl, .inl rfl, Below.refl _ _⟩
  · have hn : xs.length ≤ 1048576 := by omega
    go_enter Try.func79, Try.ntmps79
    go_wp2_with fail
    go_loopw [1, 5] (fun lv i wr => ∃ (k : Nat) (r : Int), k ≤ xs.length ∧ i = .int .i64 k ∧ lv = .int .i64 r ∧ 0 ≤ r ∧ r ≤ l ∧ (∀ x ∈ xs.take k, smPl x) ∧ Below w.heap.size w wr) (fun _ i _ => xs.length - (intOf i).toNat)
    case atStart => exact ⟨0, l - xs.length, by omega, rfl, rfl, by omega, by omega, (fun x hx => by simp at hx), Below.refl _ _⟩
    case round =>
      obtain ⟨k, r, hk, rfl, rfl, r0, r1, hall, hb⟩ := hrel
      have Hall := hid hall; have Hb := hid hb
      have r2 := h.go hb
      clear hall hb
      by_cases hlk : k < xs.length
      · obtain ⟨x, hx⟩ := get_ex hlk
        have Hx := hid hx
        obtain ⟨b, o, vh, vb, rfl, _, _, s1, s2, p1, p2, p3, p4, p5, p6⟩ := r2.pl hx
        obtain ⟨Ah, ch, rfl, _, _, _⟩ := s1.form
        obtain ⟨Ab, cb, rfl, _, _, _⟩ := s2.form
        go_wp2_with fail
        refine (szPeeled_c x _ _ r _ s1 s2 r0 (by omega)).mono ?_
        clear hx r2
        rintro e w5 ⟨q, rfl, hq, hb5⟩
        rcases hq with rfl | ⟨q0, q1, hp⟩
        · go_wp2
          go_ret
          exact ⟨-1, rfl, .inl rfl, bt Hb.out hb5⟩
        · have Hp := hid hp
          clear hp
          go_wp2
          go_roundw
          case rel => exact ⟨k + 1, q, by omega, by go_num, rfl, q0, by omega, (fun y hy => by rw [take_ex Hx.out] at hy; rcases List.mem_append.1 hy with h | h; exact Hall.out y h; rw [List.mem_singleton.1 h]; exact Hp.out), bt Hb.out hb5⟩
          case measure => simp [intOf]; omega
      · have Ha := hid (show ∀ x ∈ xs, smPl x from by rw [← take_all hk hlk]; exact Hall.out)
        go_wp2
        go_ret
        exact ⟨r, rfl, .inr ⟨r0, r1, hn, Ha.out⟩, Hb.out⟩
theorem szTransitS_c (v : Value) (xs : List Tr) (l : Int) (w : World) (h : SlB tTr w.heap.size w v xs) (hl0 : 0 ≤ l) (hl1 : l ≤ 1048576) : Calls Try.prog 40 #[v, .int .i64 l] w (Szd (lenB xs.length ∧ ∀ x ∈ xs, smTr x) l w) := by
  obtain ⟨A, c, rfl, a1, a2, a3⟩ := h.form
  clear a2
  by_cases hlt : l - (xs.length : Int) < 0
  · go_enter Try.func40, Try.ntmps40
    go_wp2
    go_ret
    exact ⟨-1, rfl, .inl rfl, Below.refl _ _⟩
  · have hn : xs.length ≤ 1048576 := by omega
    go_enter Try.func40, Try.ntmps40
    go_wp2_with fail
    go_loopw [1, 5] (fun lv i wr => ∃ (k : Nat) (r : Int), k ≤ xs.length ∧ i = .int .i64 k ∧ lv = .int .i64 r ∧ 0 ≤ r ∧ r ≤ l ∧ (∀ x ∈ xs.take k, smTr x) ∧ Below w.heap.size w wr) (fun _ i _ => xs.length - (intOf i).toNat)
    case atStart => exact ⟨0, l - xs.length, by omega, rfl, rfl, by omega, by omega, (fun x hx => by simp at hx), Below.refl _ _⟩
    case round =>
      obtain ⟨k, r, hk, rfl, rfl, r0, r1, hall, hb⟩ := hrel
      have Hall := hid hall; have Hb := hid hb
      have r2 := h.go hb
      clear hall hb
      by_cases hlk : k < xs.length
      · obtain ⟨x, hx⟩ := get_ex hlk
        have Hx := hid hx
        obtain ⟨b, o, vh, vb, rfl, _, _, s1, s2, p1, p2, p3, p4, p5, p6⟩ := r2.tr hx
        obtain ⟨Ah, ch, rfl, _, _, _⟩ := s1.form
        obtain ⟨Ab, cb, rfl, _, _, _⟩ := s2.form
        go_wp2_with fail
        refine (szTransit_c x _ _ r _ s1 s2 r0 (by omega)).mono ?_
        clear hx r2
        rintro e w5 ⟨q, rfl, hq, hb5⟩
        rcases hq with rfl | ⟨q0, q1, hp⟩
        · go_wp2
          go_ret
          exact ⟨-1, rfl, .inl rfl, bt Hb.out hb5⟩
        · have Hp := hid hp
          clear hp
          go_wp2
          go_roundw
          case rel => exact ⟨k + 1, q, by omega, by go_num, rfl, q0, by omega, (fun y hy => by rw [take_ex Hx.out] at hy; rcases List.mem_append.1 hy with h | h; exact Hall.out y h; rw [List.mem_singleton.1 h]; exact Hp.out), bt Hb.out hb5⟩
          case measure => simp [intOf]; omega
      · have Ha := hid (show ∀ x ∈ xs, smTr x from by rw [← take_all hk hlk]; exact Hall.out)
        go_wp2
        go_ret
        exact ⟨r, rfl, .inr ⟨r0, r1, hn, Ha.out⟩, Hb.out⟩
theorem szMix_c (m : Mx) (vs vp : Value) (l : Int) (w : World) (h1 : SlB tInt w.heap.size w vs m.seen) (h2 : SlB tPl w.heap.size w vp m.pool) (hl0 : 0 ≤ l) (hl1 : l ≤ 1048576) : Calls Try.prog 63 #[.agg #[.int .i64 m.sec, vs, vp], .int .i64 l] w (Szd (smMx m) l w) := by
  have H2 := hid (fun (wx : World) (hb : Below w.heap.size w wx) => h2.go hb)
  go_enter Try.func63, Try.ntmps63
  go_wp2_with fail
  refine (szIntS_c vs m.seen l _ (h1.go (lit_below _ _)) hl0 hl1).mono ?_
  rintro e w1 ⟨r, rfl, hr, hb1⟩
  have k3 := (hb1.cell (p := ⟨w.heap.size, 2, none⟩) (by simp)).trans (rowcell w _ _ 2 _ rfl)
  have hc := bt (lit_below w _) hb1
  have Hc := hid hc
  clear h1 h2 hb1 hc
  rcases hr with rfl | ⟨r0, r1, hp⟩
  · go_wp2
    go_ret
    exact ⟨-1, rfl, .inl rfl, Hc.out⟩
  · have Hp := hid hp
    clear hp
    go_wp2_with fail
    refine (szPeeledS_c vp m.pool r _ (H2.out _ Hc.out) r0 (by omega)).mono ?_
    rintro e w2 ⟨q, rfl, hq, hb2⟩
    have Hc := hid (bt Hc.out hb2)
    clear k3 hb2
    rcases hq with rfl | ⟨q0, q1, hp2⟩
    · go_wp2
      go_ret
      exact ⟨-1, rfl, .inl rfl, Hc.out⟩
    · have Hp2 := hid hp2
      clear hp2
      go_wp2
      go_ret
      exact ⟨q, rfl, .inr ⟨q0, by omega, Hp.out, Hp2.out⟩, Hc.out⟩
theorem szMixS_c (v : Value) (xs : List Mx) (l : Int) (w : World) (h : SlB tMx w.heap.size w v xs) (hl0 : 0 ≤ l) (hl1 : l ≤ 1048576) : Calls Try.prog 38 #[v, .int .i64 l] w (Szd (lenB xs.length ∧ ∀ x ∈ xs, smMx x) l w) := by
  obtain ⟨A, c, rfl, a1, a2, a3⟩ := h.form
  clear a2
  by_cases hlt : l - (xs.length : Int) < 0
  · go_enter Try.func38, Try.ntmps38
    go_wp2
    go_ret
    exact ⟨-1, rfl, .inl rfl, Below.refl _ _⟩
  · have hn : xs.length ≤ 1048576 := by omega
    go_enter Try.func38, Try.ntmps38
    go_wp2_with fail
    go_loopw [1, 5] (fun lv i wr => ∃ (k : Nat) (r : Int), k ≤ xs.length ∧ i = .int .i64 k ∧ lv = .int .i64 r ∧ 0 ≤ r ∧ r ≤ l ∧ (∀ x ∈ xs.take k, smMx x) ∧ Below w.heap.size w wr) (fun _ i _ => xs.length - (intOf i).toNat)
    case atStart => exact ⟨0, l - xs.length, by omega, rfl, rfl, by omega, by omega, (fun x hx => by simp at hx), Below.refl _ _⟩
    case round =>
      obtain ⟨k, r, hk, rfl, rfl, r0, r1, hall, hb⟩ := hrel
      have Hall := hid hall; have Hb := hid hb
      have r2 := h.go hb
      clear hall hb
      by_cases hlk : k < xs.length
      · obtain ⟨x, hx⟩ := get_ex hlk
        have Hx := hid hx
        obtain ⟨b, o, vs, vp, rfl, _, _, s1, s2, p1, p2, p3⟩ := r2.mx hx
        obtain ⟨Ah, ch, rfl, _, _, _⟩ := s1.form
        obtain ⟨Ab, cb, rfl, _, _, _⟩ := s2.form
        go_wp2_with fail
        refine (szMix_c x _ _ r _ s1 s2 r0 (by omega)).mono ?_
        clear hx r2
        rintro e w5 ⟨q, rfl, hq, hb5⟩
        rcases hq with rfl | ⟨q0, q1, hp⟩
        · go_wp2
          go_ret
          exact ⟨-1, rfl, .inl rfl, bt Hb.out hb5⟩
        · have Hp := hid hp
          clear hp
          go_wp2
          go_roundw
          case rel => exact ⟨k + 1, q, by omega, by go_num, rfl, q0, by omega, (fun y hy => by rw [take_ex Hx.out] at hy; rcases List.mem_append.1 hy with h | h; exact Hall.out y h; rw [List.mem_singleton.1 h]; exact Hp.out), bt Hb.out hb5⟩
          case measure => simp [intOf]; omega
      · have Ha := hid (show ∀ x ∈ xs, smMx x from by rw [← take_all hk hlk]; exact Hall.out)
        go_wp2
        go_ret
        exact ⟨r, rfl, .inr ⟨r0, r1, hn, Ha.out⟩, Hb.out⟩
theorem szWorld_c (x : Wd) (v : Value) (l : Int) (w : World) (h : WdB w.heap.size w v x) (hl0 : 0 ≤ l) (hl1 : l ≤ 1048576) : Calls Try.prog 14 #[v, .int .i64 l] w (Szd (smWd x) l w) := by
  obtain ⟨vm, vs, vn, vg, rfl, hm, hs, hn, hg⟩ := h
  have Hs := hid (fun (wx : World) (hb : Below w.heap.size w wx) => hs.go hb)
  have Hn := hid (fun (wx : World) (hb : Below w.heap.size w wx) => hn.go hb)
  have Hg := hid (fun (wx : World) (hb : Below w.heap.size w wx) => hg.go hb)
  clear hs hn hg
  go_enter Try.func14, Try.ntmps14
  go_wp2_with fail
  refine (szMixS_c vm x.mixes l _ (hm.go (lit_below _ _)) hl0 hl1).mono ?_
  rintro e w1 ⟨r, rfl, hr, hb1⟩
  have k1 := (hb1.cell (p := ⟨w.heap.size, 1, none⟩) (by simp)).trans (rowcell w _ _ 1 _ rfl)
  have k2 := (hb1.cell (p := ⟨w.heap.size, 2, none⟩) (by simp)).trans (rowcell w _ _ 2 _ rfl)
  have k3 := (hb1.cell (p := ⟨w.heap.size, 3, none⟩) (by simp)).trans (rowcell w _ _ 3 _ rfl)
  have hc := bt (lit_below w _) hb1
  have z0 : w.heap.size < w1.heap.size := by have := hb1.size; simp at this; omega
  have HK := hid (fun (wx : World) (hb : Below w1.heap.size w1 wx) => And.intro ((hb.cell (p := ⟨w.heap.size, 2, none⟩) z0).trans k2) ((hb.cell (p := ⟨w.heap.size, 3, none⟩) z0).trans k3))
  have Hc := hid hc
  clear hm hb1 hc k2 k3
  rcases hr with rfl | ⟨r0, r1, hp⟩
  · go_wp2
    go_ret
    exact ⟨-1, rfl, .inl rfl, Hc.out⟩
  have Hp1 := hid hp
  clear hp
  go_wp2_with fail
  refine (szLetterS_c vs x.sent r _ (Hs.out _ Hc.out) r0 (by omega)).mono ?_
  rintro e w2 ⟨q, rfl, hq, hb2⟩
  have Hc := hid (bt Hc.out hb2)
  obtain ⟨k2, k3⟩ := HK.out _ hb2
  have Hb2 := hid hb2
  clear k1 hb2 k3
  rcases hq with rfl | ⟨q0, q1, hp⟩
  · go_wp2
    go_ret
    exact ⟨-1, rfl, .inl rfl, Hc.out⟩
  have Hp2 := hid hp
  clear hp
  go_wp2_with fail
  refine (szTransitS_c vn x.net q _ (Hn.out _ Hc.out) q0 (by omega)).mono ?_
  rintro e w3 ⟨s, rfl, hs, hb3⟩
  have Hc := hid (bt Hc.out hb3)
  obtain ⟨_, k3⟩ := HK.out _ (bt Hb2.out hb3)
  clear k2 hb3
  rcases hs with rfl | ⟨s0, s1, hp⟩
  · go_wp2
    go_ret
    exact ⟨-1, rfl, .inl rfl, Hc.out⟩
  have Hp3 := hid hp
  clear hp
  go_wp2_with fail
  refine (szLetterS_c vg x.got s _ (Hg.out _ Hc.out) s0 (by omega)).mono ?_
  rintro e w4 ⟨u, rfl, hu, hb4⟩
  have Hc := hid (bt Hc.out hb4)
  clear k3 hb4
  rcases hu with rfl | ⟨u0, u1, hp⟩
  · go_wp2
    go_ret
    exact ⟨-1, rfl, .inl rfl, Hc.out⟩
  have Hp4 := hid hp
  clear hp
  go_wp2
  go_ret
  exact ⟨u, rfl, .inr ⟨u0, by omega, Hp1.out, Hp2.out, Hp3.out, Hp4.out⟩, Hc.out⟩
end Go.Proofs.Ytbkckjobhopicaa
