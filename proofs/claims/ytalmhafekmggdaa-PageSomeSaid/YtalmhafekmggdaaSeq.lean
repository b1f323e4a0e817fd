/- The law of a range over a function whose iterator is itself a range over a function: what the iterator owes its caller, and what the caller's body owes the iterator; no condition. -/
import Derived.RangeFuncNested
import Derived.RangeFuncBound
import Derived.RangeFuncCalls
import Derived.RangeFuncLeaves
import Derived.Deep.Draws
import Derived.Test.YtalmhafekmggdaaProg
namespace Go.Proofs.Ytalmhafekmggdaa
open Go.RowKit

/-- The blocks of S lie as they lay; no stream has turned, no block has gone. -/
structure KeepS (S : Nat → Prop) (W W' : World) : Prop where
  os : W'.os = W.os
  tape : W'.tape = W.tape
  output : W'.output = W.output
  size : W.heap.size ≤ W'.heap.size
  block : ∀ k, S k → W'.heap[k]? = W.heap[k]?
theorem KeepS.refl (S : Nat → Prop) (W : World) : KeepS S W W := ⟨rfl, rfl, rfl, Nat.le_refl _, fun _ _ => rfl⟩
theorem KeepS.trans {S : Nat → Prop} {X Y Z : World} (h : KeepS S X Y) (k : KeepS S Y Z) : KeepS S X Z :=
  ⟨k.os.trans h.os, k.tape.trans h.tape, k.output.trans h.output, Nat.le_trans h.size k.size, fun i hi => (k.block i hi).trans (h.block i hi)⟩
theorem KeepS.cell {S : Nat → Prop} {W W' : World} (h : KeepS S W W') {p : Addr} (hp : S p.block) : W'.cell? p = W.cell? p := World.cell?_of_block (w := W) (h.block p.block hp)
theorem KeepS.of_below {S : Nat → Prop} {n : Nat} {W W' : World} (h : Below n W W') (hS : ∀ k, S k → k < n) : KeepS S W W' := ⟨h.os, h.tape, h.output, h.size, fun k hk => h.block k (hS k hk)⟩
theorem KeepS.alloc {S : Nat → Prop} {X Y : World} (h : KeepS S X Y) (hS : ∀ k, S k → k < Y.heap.size) (o : Obj) : KeepS S X (Y.alloc o) :=
  h.trans ⟨rfl, rfl, rfl, by simp, fun k hk => Below.heap_alloc _ _ _ (hS k hk)⟩
theorem KeepS.setCell {S : Nat → Prop} {X Y : World} (h : KeepS S X Y) {p : Addr} (hp : ¬ S p.block) (u : Value) : KeepS S X (Y.setCell p u) :=
  h.trans ⟨rfl, rfl, rfl, by simp [World.setCell], fun k hk => Below.heap_setCell _ _ _ _ (fun e => hp (e ▸ hk))⟩
theorem KeepS.grown {S : Nat → Prop} {X Y Z : World} (h : KeepS S X Y) {row : Option Nat} (hg : Y.grownBy Z row) (hS : ∀ k, S k → k < Y.heap.size) (hr : ∀ k, row = some k → ¬ S k) : KeepS S X Z :=
  h.trans ⟨hg.os, hg.tape, hg.output, hg.size, fun k hk => hg.block k (hS k hk) (fun e => hr k e.symm hk)⟩
theorem ownFrom_keepS {β : Type} {S : Nat → Prop} {B : Nat} {w₀ : World} (hS : ∀ k, S k → k < w₀.heap.size) (hB : w₀.heap.size ≤ B) : OwnFrom B (fun (_ : β) W => KeepS S w₀ W) :=
  fun _ _ _ _ hs hg hr => hs.grown hg (fun k hk => Nat.lt_of_lt_of_le (hS k hk) hs.size) (fun k e hk => by have h1 := (hr k e).1; have h2 := hS k hk; omega)

/-- WHAT A ROUND KEEPS: the blocks of S; whatever is no cells from B on; every row of function values. -/
structure Kept (S : Nat → Prop) (B : Nat) (W W' : World) : Prop where
  below : KeepS S W W'
  keeps : KeepsFrom B W W'
  typ : ∀ (k : Nat) (cs : Array Value) (fr : Nat × Nat), W.heap[k]? = some (.cells cs 37 fr) → W'.heap[k]? = some (.cells cs 37 fr)

theorem Kept.refl (S : Nat → Prop) (B : Nat) (W : World) : Kept S B W W := ⟨KeepS.refl _ _, KeepsFrom.refl _ _, fun _ _ _ h => h⟩
theorem Kept.trans {S : Nat → Prop} {B : Nat} {X Y Z : World} (h : Kept S B X Y) (k : Kept S B Y Z) : Kept S B X Z :=
  ⟨h.below.trans k.below, h.keeps.trans k.keeps, fun i cs fr hi => k.typ i cs fr (h.typ i cs fr hi)⟩
theorem Kept.up {S : Nat → Prop} {B B' : Nat} {X Y : World} (h : Kept S B X Y) (hB : B ≤ B') : Kept S B' X Y :=
  ⟨h.below, ⟨h.keeps.size, fun k o hk => h.keeps.same k o (Nat.le_trans hB hk)⟩, h.typ⟩
theorem Kept.alloc {S : Nat → Prop} {B : Nat} {X Y : World} (h : Kept S B X Y) (hS : ∀ k, S k → k < Y.heap.size) (o : Obj) : Kept S B X (Y.alloc o) :=
  h.trans ⟨(KeepS.refl _ _).alloc hS _, (KeepsOthers.alloc _ _).from _, fun _ _ _ hi => (Below.heap_alloc _ _ _ (Array.getElem?_eq_some_iff.1 hi).1).trans hi⟩
theorem Kept.drew {S : Nat → Prop} {B : Nat} {X Y : World} (h : Kept S B X Y) : Kept S B X Y.drew :=
  ⟨⟨h.below.os, h.below.tape, h.below.output, h.below.size, h.below.block⟩, ⟨h.keeps.size, h.keeps.same⟩, h.typ⟩
/-- A store into a variable's box that is no row of function values. -/
theorem Kept.set {S : Nat → Prop} {B : Nat} {X Y : World} (h : Kept S B X Y) {b : Nat} {t : TypeId} {v : Value} (hb : ¬ S b) (hv : Boxed Y b t v) (ht : t ≠ 37) (u : Value) : Kept S B X (Y.setCell ⟨b, 0, none⟩ u) :=
  h.trans ⟨(KeepS.refl _ _).setCell (p := ⟨b, 0, none⟩) hb _, (KeepsOthers.setCell _ _ _).from _, fun k cs fr hi => by
    refine (Below.heap_setCell _ _ _ _ (fun e => ?_)).trans hi
    have e' : k = b := e
    subst e'
    have := (show Y.heap[k]? = _ from hv).symm.trans hi
    simp at this
    exact ht this.2.1⟩
/-- A block of another make is turned. -/
theorem Kept.turn {S : Nat → Prop} {B : Nat} {X Y : World} (h : Kept S B X Y) {l : Nat} {o : Obj} (o' : Obj) (hl : ¬ S l) (hB : l < B) (ho : Y.heap[l]? = some o) (hc : o.isCells = false) : Kept S B X (Y.putObj l o') :=
  h.trans ⟨⟨rfl, rfl, rfl, by simp, fun k hk => World.putObj_heap_other (fun e => hl (e ▸ hk))⟩,
    ⟨by simp, fun k o2 hk hi _ => (World.putObj_heap_other (by omega)).trans hi⟩,
    fun k cs fr hi => by
      refine (World.putObj_heap_other (fun e => ?_)).trans hi
      subst e; rw [ho] at hi; cases hi; cases hc⟩

/-- THE ITERATOR's WORD: called with yield, it gives zs one by one, in order, till a round says no; it lives with whatever a round does that keeps 'Kept'. -/
def Gives (g : Nat) (lb : Array Value) (S : Nat → Prop) (zs : List Int) (w : World) : Prop :=
  ∀ (n l : Nat) (J Jx : List Int → World → Prop) (W : World), Below w.heap.size w W → OwnFrom W.heap.size J → OwnFrom W.heap.size Jx →
    (∀ (n' : Nat) (pre : List Int) (x : Int) (W1 : World), pre ++ [x] <+: zs → W.heap.size ≤ W1.heap.size → J pre W1 → YieldAt Fence.wide n' Try.prog l #[.int .i64 x] W1 fun e W' =>
      (e = .returned (.bool true) ∧ J (pre ++ [x]) W' ∧ Kept S W.heap.size W1 W') ∨ (e = .returned (.bool false) ∧ Jx (pre ++ [x]) W' ∧ Kept S W.heap.size W1 W')) →
    J [] W →
    CallsIn Fence.wide n Try.prog g (#[.func (.yield l) #[] #[]] ++ lb) W fun e W' => (∃ v, e = .returned v) ∧ (J zs W' ∨ ∃ pre, pre <+: zs ∧ Jx pre W')

theorem Gives.later {g : Nat} {lb : Array Value} {S : Nat → Prop} {zs : List Int} {w w' : World} (h : Gives g lb S zs w) (hb : Below w.heap.size w w') : Gives g lb S zs w' :=
  fun n l J Jx W hW hJ hJx hY h0 => h n l J Jx W (hb.trans (hW.mono hb.size)) hJ hJx hY h0

theorem ownUp {β : Type} {B B' : Nat} {I : β → World → Prop} (h : OwnFrom B I) (hB : B ≤ B') : OwnFrom B' I :=
  fun s W W' row hs hg hr => h s W W' row hs hg (fun r e => ⟨Nat.le_trans hB (hr r e).1, (hr r e).2⟩)

/-- HOW THE BODY OF A ROUND MAY BE LEFT. -/
def roundLeft (S : Nat → Prop) (B : Nat) (I : List Int → World → Prop) (Ix : Code → List Int → World → Prop) (xs : List Int) (W : World) : Exit → Act → World → Prop
  | .normal, _, W' => Kept S B W W' ∧ I xs W'
  | .ret, _, W' => Kept S B W W' ∧ Ix .ret xs W'
  | .exit id, _, W' => Kept S B W W' ∧ Ix (.exit id) xs W'
  | .goto t, _, W' => Kept S B W W' ∧ Ix (.goto t) xs W'
  | .panic _, _, _ => False
  | .outgrown, _, _ => False

/-- **A RANGE OVER SUCH AN ITERATOR**, at an outermost loop. -/
theorem wpIn_range_gives {n : Nat} {g : Operand} {ps : Array Tmp} {assign body : Code} {Q : Exit → Act → World → Prop} {a : Act} {w : World} {gf : Nat} {lb : Array Value} (hg : a.eval g = .func (.func gf) #[] lb)
    (eg : ∀ args w, (callFunc gf args).run Try.prog w = .ok (.enter gf args) w) (S : Nat → Prop) (zs : List Int) {w0 : World} (hseq : Gives gf lb S zs w0) (hb0 : Below w0.heap.size w0 w) (hS : ∀ k, S k → k < w.heap.size) (hps : ps.size = 1)
    (I : List Int → World → Prop) (Ix : Code → List Int → World → Prop) (hI : OwnFrom w.heap.size I) (hIx : ∀ c, OwnFrom w.heap.size (Ix c)) (h0 : I [] w) (a₁ : Int → Act)
    (hassign : ∀ (l m : Nat) (x : Int) (W : World) (K : Act → World → Prop), K (a₁ x) W →
      assign.wpIn (Fence.wide.inRound l) m Try.prog (Exit.then K (fun _ _ _ => False)) { tmps := (ps.zip #[Value.int .i64 x]).foldl (fun t (p, v) => t.setIfInBounds p v) a.tmps, defers := [] } W)
    (hbody : ∀ (l m : Nat) (pre : List Int) (x : Int) (W : World), pre ++ [x] <+: zs → w.heap.size ≤ W.heap.size → I pre W → body.wpIn (Fence.wide.inRound l) m Try.prog (roundLeft S w.heap.size I Ix (pre ++ [x]) W) (a₁ x) W)
    (hdone : ∀ (D : Nat) (W : World), w.heap.size ≤ D → I zs W → W.heap[D]? = some (.deferred (some [])) → Q .normal { a with defers := { target := .collected D, args := #[] } :: a.defers } W)
    (hstop : ∀ (D : Nat) (c : Code) (pre : List Int) (W : World), w.heap.size ≤ D → pre <+: zs → Ix c pre W → W.heap[D]? = some (.deferred (some [])) → c.wpIn Fence.wide n Try.prog Q { a with defers := { target := .collected D, args := #[] } :: a.defers } W) :
    (Code.rangeFunc g ps assign body).wpIn Fence.wide n Try.prog Q a w := by
  refine wpIn_rangeFunc ?_
  intro fn hfn
  show ∃ (l : Nat) (mark : List Deferred) (w₁ : World) (d : Deferred) (w₁' : World) (f : FuncId) (args : Array Value) (w₂ : World), (Instr.enterLoop fn a.tmps ps assign body none).run Try.prog w = .ok (l, mark) w₁ ∧ _
  obtain ⟨rec, hrec⟩ : ∃ rec : LoopState → Option Code → Loop, rec = fun st pe => { state := st, pending := pe, fn, tmps := a.tmps, params := ps, assign, body, defers := w.heap.size } := ⟨_, rfl⟩
  obtain ⟨W1, hW1⟩ : ∃ W1, (w.alloc (.deferred (some []))).alloc (.loop (rec .ready none)) = W1 := ⟨_, rfl⟩
  have hz1 : W1.heap.size = w.heap.size + 2 := by rw [← hW1]; simp
  have hL1 : W1.heap[w.heap.size + 1]? = some (.loop (rec .ready none)) := by
    rw [← hW1]; have := World.alloc_heap_new (w.alloc (.deferred (some []))) (.loop (rec .ready none)); rwa [World.size_alloc] at this
  have hK1 : W1.heap[w.heap.size]? = some (.deferred (some [])) := by
    rw [← hW1]; exact (Below.heap_alloc _ _ _ (by simp)).trans (World.alloc_heap_new w _)
  have hI1 : I [] W1 := by rw [← hW1]; exact hI.alloc _ (hI.alloc _ h0)
  have hb1 : Below w0.heap.size w0 W1 := by
    rw [← hW1]; exact hb0.trans ((((Below.refl _ w).alloc (Nat.le_refl _) _).alloc (by simp) _).mono hb0.size)
  refine ⟨w.heap.size + 1, [{ target := .collected w.heap.size, args := #[] }], W1, { target := .fn (.func gf) lb, args := #[.func (.yield (w.heap.size + 1)) #[] #[]] }, W1, gf,
    #[.func (.yield (w.heap.size + 1)) #[] #[]] ++ lb, W1, ?_, ?_, ?_, ?_, fun h => (by cases h), ?_⟩
  · rw [← hW1, hrec]; exact run_enterLoop_outer _ _ _ _ _
  · simp only [resolve, hg]
    simp [go_sem]
  · intro f' _; trivial
  · simp [invoke, go_sem, eg]
  · have keep : ∀ {X Y : World} {row : Option Nat} (k : Nat) (o : Obj), k < W1.heap.size → X.heap[k]? = some o → X.grownBy Y row → (∀ r, row = some r → W1.heap.size ≤ r ∧ ∃ o : Obj, X.heap[r]? = some o ∧ o.isCells = false) → Y.heap[k]? = some o :=
      fun k o hk ho hg' hr => (hg'.block k (Array.getElem?_eq_some_iff.1 ho).1 (fun e => by have := (hr k e.symm).1; omega)).trans ho
    refine (hseq (n - 1) (w.heap.size + 1)
      (fun pre W => I pre W ∧ W.heap[w.heap.size + 1]? = some (.loop (rec .ready none)) ∧ W.heap[w.heap.size]? = some (.deferred (some [])))
      (fun pre W => ∃ c, Ix c pre W ∧ W.heap[w.heap.size + 1]? = some (.loop (rec .done (some c))) ∧ W.heap[w.heap.size]? = some (.deferred (some [])))
      W1 hb1
      (fun s X Y row hs hg' hr => ⟨(ownUp hI (by omega : w.heap.size ≤ W1.heap.size)) s X Y row hs.1 hg' hr, keep _ _ (by omega) hs.2.1 hg' hr, keep _ _ (by omega) hs.2.2 hg' hr⟩)
      (fun s X Y row hs hg' hr => by
        obtain ⟨c, hc, hl, hk⟩ := hs
        exact ⟨c, (ownUp (hIx c) (by omega : w.heap.size ≤ W1.heap.size)) s X Y row hc hg' hr, keep _ _ (by omega) hl hg' hr, keep _ _ (by omega) hk hg' hr⟩)
      ?_ ⟨hI1, hL1, hK1⟩).mono ?_
    · rintro n' pre x W hpre hsz ⟨hi, hl, hk⟩
      have hlt : w.heap.size + 1 < W.heap.size := (Array.getElem?_eq_some_iff.1 hl).1
      have hy := run_yield (P := Try.prog) (args := #[Value.int .i64 x]) hl (by rw [hrec]; exact hps.symm)
      rw [hrec] at hy
      refine ⟨fn, _, assign, body, hy, roundIn_of_wpIn hfn (hassign _ _ x W _ ⟨_, run_beginRound hl (by rw [hrec]), ?_⟩)⟩
      have hl2 : (W.putObj (w.heap.size + 1) (.loop { rec .ready none with state := .busy })).heap[w.heap.size + 1]? = some (.loop { rec .ready none with state := .busy }) := World.putObj_heap_same hlt
      have hk2 : (W.putObj (w.heap.size + 1) (.loop { rec .ready none with state := .busy })).heap[w.heap.size]? = some (.deferred (some [])) := (World.putObj_heap_other (by omega)).trans hk
      have hw2 : Kept S W1.heap.size W (W.putObj (w.heap.size + 1) (.loop { rec .ready none with state := .busy })) := (Kept.refl _ _ _).turn _ (fun hk => by have := hS _ hk; omega) (by omega) hl rfl
      refine wpIn_mono (hbody _ _ pre x _ hpre (by simp; omega) (hI.putObj _ hi (by omega) hl rfl)) ?_
      have fin : ∀ (jump : Option Code) (W3 : World), Kept S w.heap.size (W.putObj (w.heap.size + 1) (.loop { rec .ready none with state := .busy })) W3 →
          (Instr.endRound (w.heap.size + 1) jump).run Try.prog W3 = .ok (.bool jump.isNone) (W3.putObj (w.heap.size + 1) (.loop (rec (if jump.isNone then .ready else .done) jump))) ∧
          W3.heap[w.heap.size + 1]? = some (.loop { rec .ready none with state := .busy }) ∧
          (W3.putObj (w.heap.size + 1) (.loop (rec (if jump.isNone then .ready else .done) jump))).heap[w.heap.size + 1]? = some (.loop (rec (if jump.isNone then .ready else .done) jump)) ∧
          (W3.putObj (w.heap.size + 1) (.loop (rec (if jump.isNone then .ready else .done) jump))).heap[w.heap.size]? = some (.deferred (some [])) ∧
          Kept S W1.heap.size W (W3.putObj (w.heap.size + 1) (.loop (rec (if jump.isNone then .ready else .done) jump))) := fun jump W3 hk3 => by
        have hl3 := hk3.keeps.same _ _ (by omega) hl2 rfl
        have := run_endRound (P := Try.prog) jump hl3
        rw [hrec] at this ⊢
        refine ⟨this, by rw [hrec] at hl3; exact hl3, World.putObj_heap_same (Array.getElem?_eq_some_iff.1 hl3).1, (World.putObj_heap_other (by omega)).trans (hk3.keeps.same _ _ (Nat.le_refl _) hk2 rfl), ?_⟩
        rw [hrec] at hw2 hk3
        exact (hw2.trans (hk3.up (by omega))).turn _ (fun hk => by have := hS _ hk; omega) (by omega) hl3 rfl
      rintro e a3 W3 hp
      cases e with
      | normal =>
        obtain ⟨hk3, hi3⟩ := hp
        obtain ⟨hr, hl3, hl4, hk4, hK⟩ := fin none W3 hk3
        exact ⟨_, _, hr, .inl ⟨rfl, ⟨hI.putObj _ hi3 (by omega) hl3 rfl, hl4, hk4⟩, hK⟩⟩
      | ret =>
        obtain ⟨hk3, hi3⟩ := hp
        obtain ⟨hr, hl3, hl4, hk4, hK⟩ := fin (some .ret) W3 hk3
        exact ⟨_, _, hr, .inr ⟨rfl, ⟨.ret, (hIx _).putObj _ hi3 (by omega) hl3 rfl, hl4, hk4⟩, hK⟩⟩
      | exit id =>
        obtain ⟨hk3, hi3⟩ := hp
        obtain ⟨hr, hl3, hl4, hk4, hK⟩ := fin (some (.exit id)) W3 hk3
        exact ⟨_, _, hr, .inr ⟨rfl, ⟨.exit id, (hIx _).putObj _ hi3 (by omega) hl3 rfl, hl4, hk4⟩, hK⟩⟩
      | goto t =>
        obtain ⟨hk3, hi3⟩ := hp
        obtain ⟨hr, hl3, hl4, hk4, hK⟩ := fin (some (.goto t)) W3 hk3
        exact ⟨_, _, hr, .inr ⟨rfl, ⟨.goto t, (hIx _).putObj _ hi3 (by omega) hl3 rfl, hl4, hk4⟩, hK⟩⟩
      | panic ch => exact hp.elim
      | outgrown => exact hp.elim
    · rintro e W2 ⟨⟨v, rfl⟩, (⟨hi, hl, hk⟩ | ⟨pre, hSp, c, hi, hl, hk⟩)⟩
      · exact ⟨none, _, by have := run_endLoop (P := Try.prog) hl (by rw [hrec]; simp); rw [hrec] at this; exact this, hdone _ _ (Nat.le_refl _) (hI.putObj _ hi (by omega) hl rfl) ((World.putObj_heap_other (by omega)).trans hk)⟩
      · exact ⟨some c, _, by have := run_endLoop (P := Try.prog) hl (by rw [hrec]; simp); rw [hrec] at this; exact this, hstop _ c pre _ (Nat.le_refl _) hSp ((hIx c).putObj _ hi (by omega) hl rfl) ((World.putObj_heap_other (by omega)).trans hk)⟩

end Go.Proofs.Ytalmhafekmggdaa
