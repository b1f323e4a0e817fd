/- The pure statement of WideOrder: the order of durations does not matter; no condition. -/
import Derived.Test.YtnpelpnndkifmaaPureBase
namespace Go.Proofs.Ytnpelpnndkifmaa.Pure
open Go.RowKit Go.Proofs.Ytnpelpnndkifmaa.PAll Go.Proofs.YtnpelpnndkifmaaW.PrintWords Go.Proofs.YtnpelpnndkifmaaW.PrintLast Go.Proofs.YtnpelpnndkifmaaW.PrintMore
set_option linter.unusedVariables false
theorem order_l1 (l back : List Int) (hl : l.length ≤ 60) (hb : back.length ≤ 60) (ht : total back = total l) : ∀ (j i : Nat), l.length - i = j → i ≤ l.length →
    Ev (fun k => gossamerlaw04_WideOrder.l1 k l back (i : Int) (enc (total (l.drop i))).1 (enc (total (l.drop i))).2) true
  | 0, i, hj, hi => by
    have t0 := total_nonneg l
    have t1 := total_le l
    have t2 := total_nonneg back
    have t3 := total_le back
    have ob := Of_f back (by omega)
    have ol := Of_f l (by omega)
    rw [satAdd_plain back 0 (by unfold top; omega)] at ob
    rw [satAdd_plain l 0 (by unfold top; omega)] at ol
    refine Ev.step (f := fun k => (wide_Of.f k back).bind fun bt230 => (wide_Of.f k l).bind fun bt232 => if (bt230.1 == bt232.1 && (bt230.2 == bt232.2)) = true then ((gossamerlaw04_awake.f k).bind fun t234 => some t234) else some false) (fun k => ?_) ?_
    · simp only [gossamerlaw04_WideOrder.l1]
      rw [if_neg (by omega), List.drop_eq_nil_of_le (by omega)]
      rfl
    · refine Ev.bind ob (Ev.bind ol ?_)
      rw [ht]
      refine Ev.congr (f := fun k => (gossamerlaw04_awake.f k).bind fun t234 => some t234) (fun k => by simp) (Ev.bind awake_f (Ev.now _))
  | j + 1, i, hj, hi => by
    have hlt : i < l.length := by omega
    have t0 := total_nonneg (l.drop i)
    have t1 := total_le (l.drop i)
    have t2 := total_nonneg (l.drop (i + 1))
    rw [List.length_drop] at t1
    have ht' := drop_total l i hlt
    refine Ev.step (f := fun k => gossamerlaw04_WideOrder.l1 k l back ((i + 1 : Nat) : Int) (enc (total (l.drop (i + 1)))).1 (enc (total (l.drop (i + 1)))).2) (fun k => ?_) (order_l1 l back hl hb ht j (i + 1) (by omega) (by omega))
    simp only [gossamerlaw04_WideOrder.l1]
    rw [if_pos (by omega), if_pos (by omega), rd_at l i hlt, Sub_f, Option.bind_some, val_enc _ t0 (by unfold top; omega), w64_id (by omega) (by omega)]
    rw [show max (total (l.drop i) - cl l[i]) 0 = total (l.drop (i + 1)) from by omega]
    rfl
theorem order_l0 (l : List Int) (hl : l.length ≤ 60) : ∀ (i : Nat), i ≤ l.length →
    Ev (fun k => gossamerlaw04_WideOrder.l0 k l (l.drop i).reverse ((i : Int) - 1)) true
  | 0, _ => by
    have t1 := total_le l
    have ol := Of_f l (by omega)
    rw [satAdd_plain l 0 (by unfold top; omega)] at ol
    refine Ev.step (f := fun k => (wide_Of.f k l).bind fun bt224 => gossamerlaw04_WideOrder.l1 k l l.reverse 0 bt224.1 bt224.2) (fun k => ?_) (Ev.bind ol ?_)
    · simp only [gossamerlaw04_WideOrder.l0]; rw [if_neg (by omega)]; rfl
    · have := order_l1 l l.reverse hl (by simpa using hl) (total_reverse l) l.length 0 rfl (by omega)
      simpa using this
  | i + 1, hi => by
    have hlt : i < l.length := by omega
    refine Ev.step (f := fun k => gossamerlaw04_WideOrder.l0 k l (l.drop i).reverse ((i : Int) - 1)) (fun k => ?_) (order_l0 l hl i (by omega))
    simp only [gossamerlaw04_WideOrder.l0]
    have e : ((i + 1 : Nat) : Int) - 1 = (i : Int) := by omega
    rw [e, if_pos (by omega), if_pos (by omega), if_pos (by omega), if_pos (by rw [List.length_reverse, List.length_drop]; omega), rd_at l i hlt, w64_id (by omega) (by omega), List.drop_eq_getElem_cons hlt, List.reverse_cons]
theorem WideOrder : gossamerlaw04_WideOrder.Pure := by
  intro l _ _ _
  refine Ev.rounds (g := fun k => gossamerlaw04_WideOrder.f k l) ?_
  by_cases h : (l.length : Int) > 60
  · refine Ev.congr (f := fun k => (gossamerlaw04_awake.f k).bind fun t => some t) (fun k => by unfold gossamerlaw04_WideOrder.f; rw [if_pos h]) (Ev.bind awake_f (Ev.now _))
  · refine Ev.congr (f := fun k => gossamerlaw04_WideOrder.l0 k l (l.drop l.length).reverse ((l.length : Int) - 1)) (fun k => ?_) (order_l0 l (by omega) l.length (by omega))
    show gossamerlaw04_WideOrder.f k l = _
    unfold gossamerlaw04_WideOrder.f
    rw [if_neg h, w64_id (by omega) (by omega), List.drop_eq_nil_of_le (by omega)]; rfl

end Go.Proofs.Ytnpelpnndkifmaa.Pure
