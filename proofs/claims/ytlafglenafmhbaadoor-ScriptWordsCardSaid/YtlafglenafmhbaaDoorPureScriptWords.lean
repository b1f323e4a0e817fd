/- The law ScriptWords: what its words compute is true at every pair of strings. -/
import Derived.Test.YtlafglenafmhbaaDoorWords3
import Derived.Test.YtlafglenafmhbaaDoorPureFrom
import Derived.Test.YtlafglenafmhbaaDoorPureNum2
namespace Go.Proofs.YtlafglenafmhbaaDoor.Pure
open Go.RowKit Go.Proofs.YtlafglenafmhbaaDoor.PSc Go.Proofs.YtlafglenafmhbaaDoorW.PrintWords Go.Proofs.YtlafglenafmhbaaDoorW.PrintLast Go.Proofs.YtlafglenafmhbaaDoorW.PrintMore
set_option linter.unusedVariables false
theorem ScriptWords_ev (s word : ByteArray) : Ev (fun k => gossamerlaw43_ScriptWords.f k s word) true := by
  by_cases h : s.size > 200 ∨ word.size > 200
  · refine Ev.congr (f := fun k => gossamerlaw43_ScriptWords.j0 k s word true) (fun k => ?_) ?_
    · unfold gossamerlaw43_ScriptWords.f
      by_cases h1 : (s.size : Int) > 200
      · rw [if_pos h1]
      · rw [if_neg h1, show decide ((word.size : Int) > 200) = true from decide_eq_true (by omega)]
    · refine Ev.step (f := fun _ => some true) (fun k => ?_) (Ev.now _)
      simp only [gossamerlaw43_ScriptWords.j0, gossamerlaw43_awake.f, if_true, Option.bind_some]
  · have hs : s.size ≤ 200 := by omega
    have hw : word.size ≤ 200 := by omega
    refine Ev.congr (f := fun k => gossamerlaw43_ScriptWords.j0 k s word false) (fun k => ?_) ?_
    · unfold gossamerlaw43_ScriptWords.f
      rw [if_neg (by omega), show decide ((word.size : Int) > 200) = false from decide_eq_false (by omega)]
    · refine Ev.step (fun k => (gossamerlaw43_ScriptWords.j0.eq_2 s word false k).trans (if_neg (by simp))) ?_
      have hn : Ev (fun k => script_Number.f k word) (numberOf word) := by
        refine Ev.congr (f := fun _ => some (numberOf word)) (fun k => ?_) (Ev.now _)
        unfold script_Number.f
        rw [if_pos (by omega)]
      refine Ev.bind hn ?_
      refine Ev.bind (rnum_is word) ?_
      refine Ev.bind (from_f word (by omega)) ?_
      refine Ev.bind (rf_f word (by omega)) ?_
      refine Ev.bind (hex_f s (by omega)) ?_
      have hh := from_f (hx s) (hx_size s (by omega))
      rw [fh_hx] at hh
      refine Ev.bind hh ?_
      refine Ev.bind (hex_f s (by omega)) ?_
      refine Ev.bind (refhex_f s (by omega)) ?_
      simp only [beq_self_eq_true, if_true, gossamerlaw43_awake.f, Option.bind_some]
      exact Ev.now _
theorem ScriptWords (s word : ByteArray) : ∃ k, gossamerlaw43_ScriptWords.f k s word = some true := by
  obtain ⟨K, h⟩ := ScriptWords_ev s word
  exact ⟨K, h K (Nat.le_refl _)⟩
end Go.Proofs.YtlafglenafmhbaaDoor.Pure
