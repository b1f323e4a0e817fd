/- PageSome's range: what it takes of the numbers above a bound; its test reads only. -/
import Derived.Test.YtalmhafekmggdaaAwake
namespace Go.Proofs.Ytalmhafekmggdaa
open Go.RowKit Go.Shelf Go.Proofs.YtalmhafekmggdaaW.PrintWords
attribute [local go_sem] Oper.semAt_some
/-- The test of PageSome: a number above another one. -/
theorem above2_calls (x A : Int) (B : Nat) (w : World) (hc : w.cell? ⟨B, 0, none⟩ = some (.int .i64 A)) :
    Calls Try.prog 14 #[.int .i64 x, .pointer (some ⟨B, 0, none⟩)] w fun e w' => e = .returned (.bool (decide (A < x))) ∧ w = w' := by
  go_enter Try.func14, Try.ntmps14
  go_wp2
  go_ret
  exact ⟨rfl, rfl⟩
/-- What the body of a function whose loop ranges over a function must achieve, where it does not panic. -/
def post0 (fn : Func) (R : Ending → World → Prop) : Exit → Act → World → Prop
  | .normal, a, w | .ret, a, w => LeavesInM Fence.wide 0 Try.prog fn a.tmps R a.defers .returning w
  | _, _, _ => False
theorem calls_of_post0 {f : FuncId} {fn : Func} {c : Code} {args : Array Value} {w : World} {R : Ending → World → Prop} (hf : Try.prog.funcs[f]? = some fn) (hb : fn.body = some c)
    (h : c.wp Try.prog (post0 fn R) { tmps := args ++ Array.replicate (fn.ntmps - args.size) undef, defers := [] } w) : Calls Try.prog f args w R := by
  refine (callsIn_wide (n := 0) (P := Try.prog)).1 (callsIn_of_wp_marks hf hb trivial (wpIn_mono (wpIn_wide.2 h) fun e a w hp => ?_) rfl)
  cases e with
  | normal => exact hp
  | ret => exact hp
  | panic ch => exact hp.elim
  | outgrown => exact hp.elim
  | exit id => exact hp.elim
  | goto t => exact hp.elim
namespace PPg
/-- What is taken of the numbers above A, where at least one and at most 'want' are taken. -/
def tookOf (A want : Int) (l : List Int) : List Int := (l.filter fun x => decide (A < x)).take (max 1 want).toNat
def took.f (_ : Nat) (A want : Int) (l : List Int) : Option (List Int × Bool × Int) := some (tookOf A want l, true, 0)
theorem took.mono : ∀ A L l k, LeO (took.f k A L l) (took.f (k + 1) A L l) := fun _ _ _ _ => LeO.refl _
end PPg
end Go.Proofs.Ytalmhafekmggdaa
