/- PageIs: what it computes is true; no condition. -/
import Derived.Test.YtalmhafekmggdaaPurePage
import Derived.Test.YtalmhafekmggdaaPagesIs
namespace Go.Proofs.Ytalmhafekmggdaa.Pure
open Go.RowKit Go.Proofs.Ytalmhafekmggdaa.PPg Go.Proofs.YtalmhafekmggdaaW.PrintWords Go.Proofs.YtalmhafekmggdaaW.PrintLast Go.Proofs.YtalmhafekmggdaaW.PrintMore
set_option linter.unusedVariables false
theorem awake_bind : Ev (fun k => (gossamerlaw38_awake.f k).bind fun t => some t) true := Ev.bind awake_f (Ev.now _)
theorem cutR_short (A L : Int) (l : List Int) : (cutR A L l).1.length ≤ 1000 := by
  unfold cutR
  split
  · unfold pageOf; rw [List.length_take]; omega
  · simp
theorem cutR_nil (A L : Int) : (cutR A L []).1 = [] ∧ (cutR A L []).2.1 = false ∧ ∀ l, (cutR A L []).2.2 = (cutR A L l).2.2 := by
  unfold cutR
  split
  · refine ⟨by simp [pageOf], by simp [pageMore], fun _ => rfl⟩
  · exact ⟨rfl, rfl, fun _ => rfl⟩
theorem PageIs (A L : Int) (l : List Int) : ∃ k, gossamerlaw38_PageIs.f k A L l = some true := by
  refine Ev.rounds (g := fun k => gossamerlaw38_PageIs.f k A L l) ?_
  unfold gossamerlaw38_PageIs.f
  by_cases hl : (l.length : Int) > 150
  · simp only [if_pos hl]; exact awake_bind
  · simp only [if_neg hl, page_f, Option.bind_some]
    refine Ev.bind (refCut_f A L l (by omega)) ?_
    refine Ev.bind (same_f _ (cutR_short A L l)) ?_
    obtain ⟨n1, n2, n3⟩ := cutR_nil A L
    simp only [if_pos, pageMay_f, refMay_f, Option.bind_some, n1, n2, n3 l, BEq.rfl, List.length_nil]
    exact awake_bind
end Go.Proofs.Ytalmhafekmggdaa.Pure
