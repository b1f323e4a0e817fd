/- PageSome: what it computes is true; no condition. -/
import Derived.Test.YtalmhafekmggdaaPurePage
import Derived.Test.YtalmhafekmggdaaPagesSome
namespace Go.Proofs.Ytalmhafekmggdaa.Pure
open Go.RowKit Go.Proofs.Ytalmhafekmggdaa.PPg Go.Proofs.YtalmhafekmggdaaW.PrintWords Go.Proofs.YtalmhafekmggdaaW.PrintLast Go.Proofs.YtalmhafekmggdaaW.PrintMore
set_option linter.unusedVariables false
theorem awake_bind3 : Ev (fun k => (gossamerlaw38_awake.f k).bind fun t => some t) true := Ev.bind awake_f (Ev.now _)
theorem mx_eq (a b : Int) : mx a b = max a b := by unfold mx; split <;> omega
theorem mn_eq (a b : Int) : mn a b = min a b := by unfold mn; split <;> omega
section
variable (l : List Int) (A W : Int) (hl : l.length ≤ 150) (h0 : 0 ≤ W) (h1 : W ≤ 255)
include hl h0 h1
theorem some_l0 : ∀ (j i : Nat), l.length - i = j → i ≤ l.length → Ev (fun k => gossamerlaw38_PageSome.l0 k l (fl A (l.take i)) (i : Int) A W) true
  | 0, i, hj, hi => by
    have hi' : i = l.length := by omega
    subst hi'
    rw [List.take_length]
    have hle : (fl A l).length ≤ l.length := List.length_filter_le _ _
    refine Ev.step (f := fun k => (gossamerref01_SameInts.f k (tookOf A W l) (tookOf A W l)).bind fun t => if t = true then (gossamerlaw38_awake.f k).bind fun t => some t else some false) (fun k => ?_)
      (Ev.bind (same_f _ (by unfold tookOf; rw [List.length_take]; have : (l.filter fun x => decide (A < x)).length ≤ l.length := List.length_filter_le _ _; omega)) awake_bind3)
    have ht : (fl A l).take (min ((fl A l).length : Int) (max 1 W)).toNat = tookOf A W l := by
      show _ = (fl A l).take (max 1 W).toNat
      by_cases hc : ((fl A l).length : Int) ≤ max 1 W
      · rw [List.take_of_length_le (l := fl A l) (by omega), List.take_of_length_le (l := fl A l) (by omega)]
      · rw [show min ((fl A l).length : Int) (max 1 W) = max 1 W by omega]
    simp only [gossamerlaw38_PageSome.l0]
    rw [if_neg (by omega), w64_id (by omega) (by omega), mx_eq, mn_eq, ht]
    simp only [took.f, Option.bind_some]
    rw [if_pos (by omega), if_pos (by omega)]
  | j + 1, i, hj, hi => by
    have hlt : i < l.length := by omega
    have hsn : l.take (i + 1) = l.take i ++ [l[i]] := List.take_succ_eq_append_getElem hlt
    have hle : (fl A (l.take i)).length ≤ (l.take i).length := List.length_filter_le _ _
    rw [List.length_take] at hle
    refine Ev.step (f := fun k => gossamerlaw38_PageSome.l0 k l (fl A (l.take (i + 1))) ((i + 1 : Nat) : Int) A W) (fun k => ?_) (some_l0 j (i + 1) (by omega) (by omega))
    simp only [gossamerlaw38_PageSome.l0]
    rw [if_pos (by omega), if_pos (by omega), rd_at l i hlt, w64_succ i (by omega), hsn]
    by_cases hx : l[i] > A
    · rw [if_pos hx, if_pos (by omega)]
      have : fl A (l.take i ++ [l[i]]) = fl A (l.take i) ++ [l[i]] := by
        unfold fl; rw [List.filter_append, List.filter_cons_of_pos (by simpa using hx), List.filter_nil]
      rw [this]
    · rw [if_neg hx]
      have : fl A (l.take i ++ [l[i]]) = fl A (l.take i) := by
        unfold fl; rw [List.filter_append, List.filter_cons_of_neg (by simpa using hx), List.filter_nil, List.append_nil]
      rw [this]
end
theorem PageSome (l : List Int) (A W : Int) (h0 : 0 ≤ W) (h1 : W ≤ 255) : ∃ k, gossamerlaw38_PageSome.f k l A W = some true := by
  refine Ev.rounds (g := fun k => gossamerlaw38_PageSome.f k l A W) ?_
  unfold gossamerlaw38_PageSome.f
  by_cases hl : (l.length : Int) > 150
  · simp only [if_pos hl]; exact awake_bind3
  · simp only [if_neg hl]
    exact some_l0 l A W (by omega) h0 h1 l.length 0 rfl (by omega)
end Go.Proofs.Ytalmhafekmggdaa.Pure
