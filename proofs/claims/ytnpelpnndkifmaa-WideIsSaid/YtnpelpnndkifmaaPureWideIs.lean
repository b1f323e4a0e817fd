/- The pure statement of WideIs: the program's sums, differences, means, order and bounds are the document's; the numbers are of their kind. -/
import Derived.Test.YtnpelpnndkifmaaPureRef
import Derived.Test.YtnpelpnndkifmaaPIsx1
namespace Go.Proofs.Ytnpelpnndkifmaa.Pure
open Go.RowKit Go.Proofs.Ytnpelpnndkifmaa.PAll Go.Proofs.Ytnpelpnndkifmaa.PRef Go.Proofs.Ytnpelpnndkifmaa.PIs Go.Proofs.YtnpelpnndkifmaaW.PrintWords Go.Proofs.YtnpelpnndkifmaaW.PrintLast Go.Proofs.YtnpelpnndkifmaaW.PrintMore
set_option linter.unusedVariables false

theorem is_l0 (l : List Int) (hl : l.length ≤ 60) (hw : ∀ x ∈ l, x ≤ 9223372036854775807) (H L H' L' : Int) : ∀ (j i : Nat), l.length - i = j → i ≤ l.length →
    Ev (fun k => gossamerlaw04_WideIs.l0 k l (i : Int) H L H' L') true
  | 0, i, hj, hi => by
    have ol := Of_f l (by omega)
    have or := refOf_f l (by omega)
    refine Ev.step (f := fun k => (wide_Of.f k l).bind fun bt198 => (gossamerref04_Of.f k l).bind fun bt200 => if (bt198.1 == bt200.1 && (bt198.2 == bt200.2)) = true then ((gossamerlaw04_awake.f k).bind fun t208 => (some t208)) else some false) (fun k => ?_) (Ev.bind ol (Ev.bind or ?_))
    · simp only [gossamerlaw04_WideIs.l0, Less_f, refLess_f, May_f, refMay_f, Option.bind_some, beq_self_eq_true, if_true]
      rw [if_neg (by omega)]
    · exact Ev.congr (fun k => if_pos (by simp)) (Ev.bind awake_f (Ev.now _))
  | j + 1, i, hj, hi => by
    have hlt : i < l.length := by omega
    have hx : l[i] ≤ 9223372036854775807 := hw _ (List.getElem_mem hlt)
    refine Ev.step (f := fun k => (gossamerref04_Add.f k H L l[i]).bind fun bt186 => if (!((enc (min (val H L + cl l[i]) top)).1 == bt186.1) || (!((enc (min (val H L + cl l[i]) top)).2 == bt186.2))) = true then some false else
        ((gossamerref04_Sub.f k H L l[i]).bind fun bt192 => if (!((enc (max (val H L - cl l[i]) 0)).1 == bt192.1) || (!((enc (max (val H L - cl l[i]) 0)).2 == bt192.2))) = true then some false else
        ((wide_Mean.f k H L l[i]).bind fun t195 => (gossamerref04_Mean.f k H L l[i]).bind fun t197 => if t195 = t197 then gossamerlaw04_WideIs.l0 k l ((i + 1 : Nat) : Int) H L H' L' else some false))) (fun k => ?_) ?_
    · simp only [gossamerlaw04_WideIs.l0]
      rw [if_pos (by omega), if_pos (by omega), rd_at l i hlt, Add_f, Option.bind_some, Sub_f, w64_id (n := (i : Int) + 1) (by omega) (by omega)]
      simp only [Option.bind_some]
      rfl
    · refine Ev.bind (refAdd_f H L l[i]) (Ev.congr (fun k => if_neg (by simp)) ?_)
      refine Ev.bind (refSub_f H L l[i]) (Ev.congr (fun k => if_neg (by simp)) ?_)
      refine Ev.bind (Mean_f H L l[i] hx) (Ev.bind (refMean_f H L l[i] hx) (Ev.congr (fun k => if_pos rfl) ?_))
      exact is_l0 l hl hw H L H' L' j (i + 1) (by omega) (by omega)

theorem WideIs (H L H' L' : Int) (l : List Int) (hw : ∀ x ∈ l, x ≤ 9223372036854775807) : ∃ k, gossamerlaw04_WideIs.f k H L H' L' l = some true := by
  refine Ev.rounds (g := fun k => gossamerlaw04_WideIs.f k H L H' L' l) ?_
  by_cases h : (l.length : Int) > 60
  · exact Ev.congr (fun k => if_pos h) (Ev.bind awake_f (Ev.now _))
  · exact Ev.congr (fun k => if_neg h) (is_l0 l (by omega) hw H L H' L' l.length 0 rfl (by omega))
end Go.Proofs.Ytnpelpnndkifmaa.Pure
