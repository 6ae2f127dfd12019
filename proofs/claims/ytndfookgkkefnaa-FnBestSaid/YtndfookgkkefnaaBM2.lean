/- The starter's steps that the library makes; the workers' stop; what is held of the machine. -/
import Derived.Test.YtndfookgkkefnaaBC
import Derived.Test.YtndfookgkkefnaaBM1
namespace Go.Proofs.Ytndfookgkkefnaa
set_option linter.unusedSimpArgs false
set_option linter.unusedVariables false
set_option linter.unusedSectionVars false
open Go Go.Conc
open Go.ConcN (upd upd_same upd_ne PermW fork_knows RelBy CTag WD Vc cnt AllQuit OpenSt isOpen isW3 isFin pend WgLive PayAt Has RW WSit AtK1)
open Go.ConcR (KK WgAt stA smA rd wr mk Payload DC0)

/-- nothing of one's own -/
def Gh.nil : Gh := ⟨fun _ => False, fun _ => False, fun _ => False, fun _ => False, fun _ => False, .no⟩
/-- a worker's ghost as it begins -/
def Gh.child (γ : Gh) (Wg C i : Nat) : Gh := ⟨γ.F, fun _ => False, fun a => a = ⟨C, i, none⟩, fun _ => False, fun b => b = Wg, .no⟩
/-- the starter's, once the first Add has begun -/
def Gh.opn (γ : Gh) (Wg C n : Nat) (val : Nat → Value) : Gh :=
  ⟨fun b => γ.F b ∧ b ≠ C, fun b => γ.W b ∧ b ≠ C, fun a => ∃ i, i < n ∧ a = ⟨C, i, none⟩, fun b => γ.Q b ∧ b ≠ Wg, fun b => γ.G b ∨ b = Wg, .at Wg C n γ.W val 0 (.sp (n - 1) 4) 0⟩
def nextTag : Nat → CTag
  | 0 => .kd
  | r + 1 => .sp r 5
/-- .. once a worker is started -/
def Gh.started (γ : Gh) (C j : Nat) (p : Pt) : Gh := { γ with W := fun _ => False, Cs := fun a => γ.Cs a ∧ a ≠ ⟨C, j, none⟩, p := p }
/-- .. once it has acquired -/
def Gh.joined (γ : Gh) (C : Nat) (K : Nat → Prop) : Gh := { γ with F := fun b => γ.F b ∨ b = C, W := K, Cs := fun _ => False, p := .no }
def Gh.to (γ : Gh) (p : Pt) : Gh := { γ with p := p }

section
variable [Payload] (P : Program) (ty : TypeId)

/-- where a worker says its release -/
def StopW (Wg C n k : Nat) (v : Value) : Stp := fun _ g w =>
  g.status = .running ∧ Has C (k - 1) v w ∧ (WgLive ty Wg w → ∃ g', stepG P false g w = .go g' w #[mk (.releaseMerge (stA Wg))] ∧ ∃ m, Goes P false (RW ty Wg C n 0 (k - 1)) DC0 (AtK1 P ty Wg C n 0 k) m g' w)

inductive XS (γ : Gh) (g : Goroutine) (w : World) (Post : Stp) : Prop
  | opn (Wg C n : Nat) (val : Nat → Value) (g' : Goroutine) : γ.p = .no → 1 ≤ n → n < 2147483647 → γ.Q Wg → WgAt ty Wg w 0 0 → γ.W C → PayAt C n w → (∀ a, ¬ γ.Cs a) →
      g.status = .running → stepG P true g w = .go g' w #[mk .disable] → Post (γ.opn Wg C n val) g' w → XS γ g w Post
  | dis (Wg C n : Nat) (K : Nat → Prop) (val : Nat → Value) (j bd r : Nat) (g' : Goroutine) : γ.p = .at Wg C n K val j (.sp r 5) bd →
      g.status = .running → stepG P true g w = .go g' w #[mk .disable] → Post (γ.to (.at Wg C n K val j (.sp r 4) bd)) g' w → XS γ g w Post
  | add (Wg C n : Nat) (K : Nat → Prop) (val : Nat → Value) (j bd r : Nat) : γ.p = .at Wg C n K val j (.sp r 4) bd → g.status = .running →
      (∀ v : Nat, v < 2147483647 → WgAt ty Wg w (v * KK) 0 → ∃ g', stepG P true g w = .go g' (w.setCell (stA Wg) (.int .u64 ((v + 1) * KK))) #[rd (stA Wg), wr (stA Wg)] ∧
        Post (γ.to (.at Wg C n K val j (.sp r 3) bd)) g' (w.setCell (stA Wg) (.int .u64 ((v + 1) * KK)))) → XS γ g w Post
  | ena (Wg C n : Nat) (K : Nat → Prop) (val : Nat → Value) (j bd r : Nat) (g' : Goroutine) : γ.p = .at Wg C n K val j (.sp r 3) bd →
      g.status = .running → stepG P true g w = .go g' w #[mk .enable] → Post (γ.to (.at Wg C n K val j (.sp r 2) bd)) g' w → XS γ g w Post
  | spawn (Wg C n : Nat) (K : Nat → Prop) (val : Nat → Value) (j bd r : Nat) (g' child : Goroutine) : γ.p = .at Wg C n K val j (.sp r 2) bd →
      γ.Cs ⟨C, j, none⟩ → g.status = .running → stepG P true g w = .spawn g' child w #[] → GI P false noPh (StopW P ty Wg C n (j + 1) (val j)) (γ.child Wg C j) child w →
      Post (γ.started C j (.at Wg C n K val (j + 1) (nextTag r) bd)) g' w → XS γ g w Post
  | kd (Wg C n : Nat) (K : Nat → Prop) (val : Nat → Value) (j bd : Nat) (g' : Goroutine) : γ.p = .at Wg C n K val j .kd bd →
      g.status = .running → stepG P true g w = .go g' w #[mk .disable] → Post (γ.to (.at Wg C n K val j .w1 n)) g' w → XS γ g w Post
  | load (Wg C n : Nat) (K : Nat → Prop) (val : Nat → Value) (j bd : Nat) : γ.p = .at Wg C n K val j .w1 bd → g.status = .running →
      (∀ v : Nat, v ≤ bd → v < 2147483648 → WgAt ty Wg w (v * KK) 0 → ∃ g', stepG P true g w = .go g' w #[rd (stA Wg)] ∧
        (v = 0 → Post (γ.to (.at Wg C n K val j .ke bd)) g' w) ∧ (v ≠ 0 → Post (γ.to (.at Wg C n K val j (.w2 v) bd)) g' w)) → XS γ g w Post
  | cas (Wg C n : Nat) (K : Nat → Prop) (val : Nat → Value) (j bd vs : Nat) : γ.p = .at Wg C n K val j (.w2 vs) bd → g.status = .running →
      (∀ v : Nat, v ≤ vs → v < 2147483648 → WgAt ty Wg w (v * KK) 0 →
        (v = vs → ∃ g', stepG P true g w = .go g' (w.setCell (stA Wg) (.int .u64 (v * KK + 1))) #[rd (stA Wg), wr (stA Wg)] ∧ Post (γ.to (.at Wg C n K val j .w3 1)) g' (w.setCell (stA Wg) (.int .u64 (v * KK + 1)))) ∧
        (v ≠ vs → ∃ g', stepG P true g w = .go g' w #[rd (stA Wg)] ∧ Post (γ.to (.at Wg C n K val j .w1 v)) g' w)) → XS γ g w Post
  | said (Wg C n : Nat) (K : Nat → Prop) (val : Nat → Value) (j bd r : Nat) (g' : Goroutine) (m : Addr → Mark) : γ.p = .at Wg C n K val j (.sp r 3) bd → (m = .read ∨ m = .write) →
      g.status = .running → stepG P true g w = .go g' w #[mk (m (smA Wg))] → Post γ g' w → XS γ g w Post
  | said3 (Wg C n : Nat) (K : Nat → Prop) (val : Nat → Value) (j : Nat) (g' : Goroutine) (m : Addr → Mark) : γ.p = .at Wg C n K val j .w3 1 → (m = .read ∨ m = .write) →
      g.status = .running → stepG P true g w = .go g' w #[mk (m (smA Wg))] → Post (γ.to (.at Wg C n K val j .w3 0)) g' w → XS γ g w Post
  | sem (Wg C n : Nat) (K : Nat → Prop) (val : Nat → Value) (j : Nat) : γ.p = .at Wg C n K val j .w3 0 → g.status = .running → g.offers = none →
      ((∃ st, WgAt ty Wg w st 0) → stepG P true g w = .go { g with status := .blocked } w #[]) →
      (WgAt ty Wg w 0 1 → ∃ g', stepG P true g w = .go g' (w.setCell (smA Wg) (.int .u32 0)) (semEvents (smA Wg)) ∧ Post (γ.to (.at Wg C n K val j .w4 0)) g' (w.setCell (smA Wg) (.int .u32 0))) → XS γ g w Post
  | look (Wg C n : Nat) (K : Nat → Prop) (val : Nat → Value) (j bd : Nat) : γ.p = .at Wg C n K val j .w4 bd → g.status = .running →
      (WgAt ty Wg w 0 0 → ∃ g', stepG P true g w = .go g' w #[rd (stA Wg)] ∧ Post (γ.to (.at Wg C n K val j .ke bd)) g' w) → XS γ g w Post
  | ena2 (Wg C n : Nat) (K : Nat → Prop) (val : Nat → Value) (j bd : Nat) (g' : Goroutine) : γ.p = .at Wg C n K val j .ke bd →
      g.status = .running → stepG P true g w = .go g' w #[mk .enable] → Post (γ.to (.at Wg C n K val j .acq bd)) g' w → XS γ g w Post
  | acq (Wg C n : Nat) (K : Nat → Prop) (val : Nat → Value) (j bd : Nat) (g' : Goroutine) : γ.p = .at Wg C n K val j .acq bd →
      g.status = .running → stepG P true g w = .go g' w #[mk (.acquire (stA Wg))] → (PayAt C n w → (∀ i, i < n → Has C i (val i) w) → Post (γ.joined C K) g' w) → XS γ g w Post

theorem XS.running {γ : Gh} {g : Goroutine} {w : World} {Post : Stp} (h : XS P ty γ g w Post) : g.status = .running := by cases h <;> assumption

/-- how deaf the starter is -/
def dfOf : Pt → Nat
  | .no => 0
  | .at _ _ _ _ _ _ tag _ => match tag with
    | .sp _ s => if s = 4 ∨ s = 3 then 1 else 0
    | .w1 | .w2 _ | .w3 | .w4 | .ke => 1
    | _ => 0

/-- a worker has said its release; behind it it touches the group's cells alone, atomically -/
structure RelB (Wg : Nat) (t : Trace) (k r : Nat) : Prop where
  rel : RelBy (stA Wg) t k r
  sh : ∀ i, r < i → t.g? i = some k → ∀ a, touchAt t i = some a → (∃ x : Addr, a.loc = .cell x ∧ x.block = Wg) ∧ a.kind = .atomic

/-- a worker that is not leaving yet -/
inductive WS (Wg C n i : Nat) (v : Value) : WR → WD → Gh → Goroutine → World → Prop
  | gi {ρ : Rk} {f : Nat} {γ : Gh} {g : Goroutine} {w : World} : Gi P false noPh (StopW P ty Wg C n (i + 1) v) ρ γ g w → γ.p = .no → WS Wg C n i v (7, ρ) ⟨7, f, 0⟩ γ g w
  | lib {s m d : Nat} {g : Goroutine} {w : World} : s ≠ 7 → s ≠ 1 → WSit P ty Wg C n (fun _ _ => False) (fun _ _ => False) 0 (i + 1) v s m d g w → WS Wg C n i v (s, Rk.ofNat m) ⟨s, m, d⟩ Gh.nil g w

/-- while a group is at work -/
structure Prt (S : Nat → Prop) (b j : Nat) (D : Nat → WD) (R : Nat → WR) (Γ : Nat → Gh) (gs : Array Goroutine) (w : World) (t : Trace) (tg : CTag)
    (Wg C n : Nat) (K : Nat → Prop) (val : Nat → Value) (jn : Nat) (tag : CTag) (bd : Nat) : Prop where
  sW : S Wg
  hj : j = b + jn
  hn : n < 2147483647
  place : (∃ r s, tag = .sp r s ∧ jn + r + 1 = n) ∨ ((∀ r s, tag ≠ .sp r s) ∧ jn = n)
  htg : (tg = tag ∧ tag ≠ .blk) ∨ (tag = .w3 ∧ tg = .blk)
  wg : ∃ st sm, WgAt ty Wg w st sm ∧ ConcN.Mode j D tg st sm
  bd : tag = .w1 → Vc j D ≤ bd
  old : ∀ i, i < b → (D i).stage = 1
  pay : PayAt C n w
  cC : C < w.heap.size ∧ ¬ S C
  cF : ∀ k, ¬ (Γ k).F C ∧ ¬ (Γ k).W C ∧ ¬ (Γ k).Q C
  own : ∀ k a, (Γ k).Cs a → (k = 0 ∧ ∃ i, jn ≤ i ∧ i < n ∧ a = ⟨C, i, none⟩) ∨ ∃ i, i < jn ∧ k = b + i + 1 ∧ (D (b + i)).stage = 7 ∧ a = ⟨C, i, none⟩
  has : ∀ i, i < jn → (D (b + i)).stage ≠ 7 → Has C i (val i) w
  rel : ∀ i, i < jn → (D (b + i)).stage ≠ 7 → ∃ r, RelB Wg t (b + i + 1) r
  kK : ∀ x, K x → x < w.heap.size ∧ ¬ S x ∧ ¬ (Γ 0).Q x
  wk : ∀ i, i < jn → (D (b + i)).stage ≠ 1 → ∃ g, gs[b + i + 1]? = some g ∧ WS P ty Wg C n i (val i) (R (b + i)) (D (b + i)) (Γ (b + i + 1)) g w

/-- the world at the run's beginning -/
class Start where
  z : World
variable [Start]
structure MI (Stop : Stp) (S : Nat → Prop) (b j : Nat) (D : Nat → WD) (R : Nat → WR) (Γ : Nat → Gh) (ρ : Rk) (bit : Nat) (tg : CTag) (gs : Array Goroutine) (w : World) (t : Trace) : Prop where
  size : gs.size = j + 1
  tr : Tr S b j w.heap.size t
  gh : GhI S Γ w t
  gnil : ∀ k, j < k → Γ k = Gh.nil
  s0 : ∃ a, gs[0]? = some a ∧ ((bit = 1 ∧ tg ≠ .blk ∧ Gi P true (XS P ty) Stop ρ (Γ 0) a w) ∨
    (bit = 0 ∧ tg = .blk ∧ (∃ Wg C n K val jn, (Γ 0).p = .at Wg C n K val jn .w3 0) ∧ ∃ f g Post, ρ = .mk f ∧ a = { g with status := .blocked } ∧ (∀ w₁, Rl (Γ 0) w w₁ → XS P ty (Γ 0) g w₁ Post) ∧ ∀ γ' g' w', Post γ' g' w' → Gi P true (XS P ty) Stop (f γ' g' w') γ' g' w'))
  deaf0 : Deaf t 0 = dfOf (Γ 0).p
  deafW : ∀ i, i < j → Deaf t (i + 1) = (D i).deaf
  norl : ∀ (i : Nat) (a : Addr), t.act? i ≠ some (.mark (.release a))
  lv : ∀ i, i < j → (D i).stage = 1 → Γ (i + 1) = Gh.nil ∧ ∃ g q, gs[i + 1]? = some g ∧ QuitsD P q (D i).deaf g ∧ R i = (1, Rk.ofNat q)
  pno : (Γ 0).p = .no → b = j ∧ AllQuit j D ∧ tg ≠ .blk
  pat : ∀ Wg C n K val jn tag bd, (Γ 0).p = .at Wg C n K val jn tag bd → Prt P ty S b j D R Γ gs w t tg Wg C n K val jn tag bd
  kp : Kp Start.z w
end
end Go.Proofs.Ytndfookgkkefnaa
