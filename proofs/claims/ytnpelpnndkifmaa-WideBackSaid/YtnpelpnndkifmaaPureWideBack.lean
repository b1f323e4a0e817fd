/- The pure statement of WideBack: what is added and taken away leaves the sum; no condition but that the three numbers are of their kinds. -/
import Derived.Test.YtnpelpnndkifmaaPureBase
import Derived.Test.YtnpelpnndkifmaaPAllx6
namespace Go.Proofs.Ytnpelpnndkifmaa.Pure
open Go.RowKit Go.Proofs.Ytnpelpnndkifmaa.PAll Go.Proofs.YtnpelpnndkifmaaW.PrintWords Go.Proofs.YtnpelpnndkifmaaW.PrintLast Go.Proofs.YtnpelpnndkifmaaW.PrintMore
set_option linter.unusedVariables false

theorem back_j0 (H L d : Int) (b : Bool) (hb : b = false → ok H L ∧ H < 4294967296) : Ev (fun k => gossamerlaw04_WideBack.j0 k d b H L) true := by
  have aw : Ev (fun k => (gossamerlaw04_awake.f k).bind fun t => some t) true := Ev.bind awake_f (Ev.now _)
  cases b with
  | true => exact Ev.step (f := fun k => (gossamerlaw04_awake.f k).bind fun t => some t) (fun k => by simp only [gossamerlaw04_WideBack.j0]; rw [if_pos trivial]) aw
  | false =>
    obtain ⟨hok, hH⟩ := hb rfl
    have hv : val H L = num H L := by unfold val; rw [if_pos hok]
    have hev : enc (num H L) = (H, L) := enc_num H L ⟨hok.2.2.1, hok.2.2.2⟩
    obtain ⟨c0, c1⟩ := cl_range d
    have hd : cl d = 0 ↔ d ≤ 0 := by unfold cl; omega
    have hn : 0 ≤ num H L ∧ num H L ≤ top - 4611686018427387904 := by unfold ok at hok; unfold num top; omega
    have htop : top = 19807040633177770416813375487 := rfl
    refine Ev.step (f := fun k => (gossamerlaw04_awake.f k).bind fun t => some t) (fun k => ?_) aw
    simp only [gossamerlaw04_WideBack.j0]
    rw [if_neg (by simp), Add_f, Option.bind_some, hv, show min (num H L + cl d) top = num H L + cl d from by omega]
    have hy0 : 0 ≤ num H L + cl d := by omega
    have hy1 : num H L + cl d ≤ top := by omega
    rw [Sub_f, Option.bind_some, val_enc _ hy0 hy1, show max (num H L + cl d - cl d) 0 = num H L from by omega, hev, if_pos (by simp), Less_f, Option.bind_some, val_enc _ hy0 hy1, hv,
      decide_eq_false (by omega), if_neg (by simp), May_f, Option.bind_some, decide_eq_true (ok_enc _ hy0 hy1), if_pos rfl, if_pos ?_]
    by_cases h : d ≤ 0
    · rw [decide_eq_true h, hd.2 h, Int.add_zero, hev]; simp
    · have hne : ((enc (num H L + cl d)).1 == H && (enc (num H L + cl d)).2 == L) = false := by
        apply Bool.eq_false_iff.2
        intro hc
        simp only [Bool.and_eq_true, beq_iff_eq] at hc
        have h2 := num_enc (num H L + cl d)
        rw [hc.1, hc.2] at h2
        have : cl d = 0 := by omega
        exact h (hd.1 this)
      rw [decide_eq_false h, hne]; rfl

theorem WideBack (H L d : Int) : ∃ k, gossamerlaw04_WideBack.f k H L d = some true := by
  refine Ev.rounds (g := fun k => gossamerlaw04_WideBack.f k H L d) ?_
  by_cases h1 : H < 0
  · exact Ev.congr (fun k => by unfold gossamerlaw04_WideBack.f; rw [if_pos h1]) (back_j0 H L d true (by simp))
  · by_cases h2 : H ≥ 4294967296
    · exact Ev.congr (fun k => by unfold gossamerlaw04_WideBack.f; rw [if_neg h1, if_pos h2]) (back_j0 H L d true (by simp))
    · by_cases h3 : L < 0
      · exact Ev.congr (fun k => by unfold gossamerlaw04_WideBack.f; rw [if_neg h1, if_neg h2, if_pos h3]) (back_j0 H L d true (by simp))
      · refine Ev.congr (fun k => by unfold gossamerlaw04_WideBack.f; rw [if_neg h1, if_neg h2, if_neg h3]) (back_j0 H L d _ (fun h => ?_))
        have h4 := of_decide_eq_false h
        unfold ok; omega

end Go.Proofs.Ytnpelpnndkifmaa.Pure
