/- What the document's pages come to: lists that are alike, the document's Cut, what must come whatever the arguments are; no condition. -/
import Derived.Test.YtalmhafekmggdaaAwake
namespace Go.Proofs.Ytalmhafekmggdaa.Pure
open Go.RowKit Go.Proofs.Ytalmhafekmggdaa.PPg Go.Proofs.YtalmhafekmggdaaW.PrintWords Go.Proofs.YtalmhafekmggdaaW.PrintLast Go.Proofs.YtalmhafekmggdaaW.PrintMore
set_option linter.unusedVariables false
theorem w64_id {n : Int} (h0 : -9223372036854775808 ≤ n) (h1 : n ≤ 9223372036854775807) : wrap64 n = n := IntWalk.wrap64_in n ⟨h0, h1⟩
theorem w64_succ (i : Nat) (h : i ≤ 1000) : wrap64 ((i : Int) + 1) = ((i + 1 : Nat) : Int) := by rw [w64_id (by omega) (by omega)]; rfl
theorem rd_at (l : List Int) (i : Nat) (h : i < l.length) : rd l (i : Int) = l[i] := by unfold rd; simp [h]
/-- Lists that are one are alike. -/
theorem same_l0 (l : List Int) (hl : l.length ≤ 1000) : ∀ (j i : Nat), l.length - i = j → i ≤ l.length → Ev (fun k => gossamerref01_SameInts.l0 k l l (i : Int)) true
  | 0, i, hj, hi => by
    refine Ev.step (f := fun k => gossamerref01_SameInts.j1 k l l (i : Int) false) (fun k => ?_) ?_
    · simp only [gossamerref01_SameInts.l0]; rw [if_neg (by omega)]
    · refine Ev.step (f := fun _ => some true) (fun k => ?_) (Ev.now _)
      simp only [gossamerref01_SameInts.j1]; rfl
  | j + 1, i, hj, hi => by
    have hlt : i < l.length := by omega
    refine Ev.step (f := fun k => gossamerref01_SameInts.j1 k l l (i : Int) true) (fun k => ?_) ?_
    · simp only [gossamerref01_SameInts.l0]; rw [if_pos (by omega), decide_eq_true (by omega)]
    · refine Ev.step (f := fun k => gossamerref01_SameInts.l0 k l l ((i + 1 : Nat) : Int)) (fun k => ?_) (same_l0 l hl j (i + 1) (by omega) (by omega))
      simp only [gossamerref01_SameInts.j1]
      rw [if_pos trivial, if_pos (by omega), if_pos (by omega), if_pos (by omega), if_pos trivial, w64_succ i (by omega)]
theorem same_f (l : List Int) (hl : l.length ≤ 1000) : Ev (fun k => gossamerref01_SameInts.f k l l) true := by
  refine Ev.congr (fun k => ?_) (same_l0 l hl l.length 0 rfl (by omega))
  unfold gossamerref01_SameInts.f; rw [if_pos rfl]; rfl
/-- What page.Cut answers. -/
def cutR (A L : Int) (l : List Int) : List Int × Bool × Int := if 1 ≤ L ∧ L ≤ 100 then (pageOf A L l, pageMore A L l, 0) else ([], false, 11)
theorem page_f (k : Nat) (A L : Int) (l : List Int) : page_Cut.f k A L l = some (cutR A L l) := by
  unfold page_Cut.f cutR; split <;> rfl
theorem pageMay_f (A L : Int) : page_May.f A L = some (if 1 ≤ L ∧ L ≤ 100 then 0 else 11) := by
  unfold page_May.f
  by_cases h1 : L < 1
  · rw [if_pos h1, if_neg (by omega)]
  · rw [if_neg h1]
    by_cases h2 : L > 100
    · rw [if_pos h2, if_neg (by omega)]
    · rw [if_neg h2, if_pos (by omega)]
theorem refMay_f (A L : Int) : gossamerref38_May.f A L = some (if 1 ≤ L ∧ L ≤ 100 then 0 else 11) := pageMay_f A L
/-- The numbers above A. -/
def fl (A : Int) (l : List Int) : List Int := l.filter fun x => decide (A < x)
theorem refCut_l0 (A L : Int) (l : List Int) (hl : l.length ≤ 1000) (h1 : 1 ≤ L) (h2 : L ≤ 100) : ∀ (j i : Nat) (out : List Int), l.length - i = j → i ≤ l.length → out.length ≤ L.toNat →
    Ev (fun k => gossamerref38_Cut.l0 k l out (i : Int) A L) (if out.length + (fl A (l.drop i)).length ≤ L.toNat then (out ++ fl A (l.drop i), false, 0) else (out ++ (fl A (l.drop i)).take (L.toNat - out.length), true, 0))
  | 0, i, out, hj, hi, ho => by
    rw [List.drop_eq_nil_of_le (by omega)]
    simp only [fl, List.filter_nil, List.length_nil, Nat.add_zero, List.append_nil, if_pos ho]
    refine Ev.step (f := fun _ => some (out, false, 0)) (fun k => ?_) (Ev.now _)
    simp only [gossamerref38_Cut.l0]; rw [if_neg (by omega)]
  | j + 1, i, out, hj, hi, ho => by
    have hlt : i < l.length := by omega
    rw [List.drop_eq_getElem_cons hlt]
    by_cases hx : l[i] ≤ A
    · have hf : fl A (l[i] :: l.drop (i + 1)) = fl A (l.drop (i + 1)) := by unfold fl; rw [List.filter_cons_of_neg (by simpa using hx)]
      rw [hf]
      refine Ev.step (f := fun k => gossamerref38_Cut.l0 k l out ((i + 1 : Nat) : Int) A L) (fun k => ?_) (refCut_l0 A L l hl h1 h2 j (i + 1) out (by omega) (by omega) ho)
      simp only [gossamerref38_Cut.l0]
      rw [if_pos (by omega), if_pos (by omega), rd_at l i hlt, if_pos hx, w64_succ i (by omega)]
    · have hf : fl A (l[i] :: l.drop (i + 1)) = l[i] :: fl A (l.drop (i + 1)) := by unfold fl; rw [List.filter_cons_of_pos (by simp; omega)]
      rw [hf]
      by_cases hfull : out.length = L.toNat
      · rw [if_neg (by simp; omega), hfull, Nat.sub_self, List.take_zero, List.append_nil]
        refine Ev.step (f := fun _ => some (out, true, 0)) (fun k => ?_) (Ev.now _)
        simp only [gossamerref38_Cut.l0]
        rw [if_pos (by omega), if_pos (by omega), rd_at l i hlt, if_neg hx, if_pos (by omega)]
      · have ih := refCut_l0 A L l hl h1 h2 j (i + 1) (out ++ [l[i]]) (by omega) (by omega) (by simp; omega)
        have hr : (if (out ++ [l[i]]).length + (fl A (l.drop (i + 1))).length ≤ L.toNat then (out ++ [l[i]] ++ fl A (l.drop (i + 1)), false, (0 : Int)) else (out ++ [l[i]] ++ (fl A (l.drop (i + 1))).take (L.toNat - (out ++ [l[i]]).length), true, 0)) =
            (if out.length + (l[i] :: fl A (l.drop (i + 1))).length ≤ L.toNat then (out ++ l[i] :: fl A (l.drop (i + 1)), false, 0) else (out ++ (l[i] :: fl A (l.drop (i + 1))).take (L.toNat - out.length), true, 0)) := by
          obtain ⟨m, hm⟩ : ∃ m, L.toNat - out.length = m + 1 := ⟨L.toNat - out.length - 1, by omega⟩
          have hm2 : L.toNat - (out ++ [l[i]]).length = m := by simp; omega
          rw [hm, hm2, List.take_succ_cons]
          by_cases hc : out.length + (l[i] :: fl A (l.drop (i + 1))).length ≤ L.toNat
          · rw [if_pos hc, if_pos (by simp at hc ⊢; omega)]; simp
          · rw [if_neg hc, if_neg (by simp at hc ⊢; omega)]; simp
        rw [hr] at ih
        refine Ev.step (f := fun k => gossamerref38_Cut.l0 k l (out ++ [l[i]]) ((i + 1 : Nat) : Int) A L) (fun k => ?_) ih
        simp only [gossamerref38_Cut.l0]
        rw [if_pos (by omega), if_pos (by omega), rd_at l i hlt, if_neg hx, if_neg (by omega), if_pos (by omega), w64_succ i (by omega)]
theorem refCut_f (A L : Int) (l : List Int) (hl : l.length ≤ 1000) : Ev (fun k => gossamerref38_Cut.f k A L l) (cutR A L l) := by
  unfold gossamerref38_Cut.f
  simp only [refMay_f, Option.bind_some]
  unfold cutR
  by_cases h : 1 ≤ L ∧ L ≤ 100
  · simp only [if_pos h, if_pos]
    have := refCut_l0 A L l hl h.1 h.2 l.length 0 [] rfl (by omega) (by simp)
    simp only [List.length_nil, Nat.zero_add, List.drop_zero, List.nil_append, Nat.sub_zero] at this
    have hr : (if (fl A l).length ≤ L.toNat then (fl A l, false, (0 : Int)) else ((fl A l).take L.toNat, true, 0)) = (pageOf A L l, pageMore A L l, 0) := by
      unfold pageOf pageMore
      by_cases hc : (fl A l).length ≤ L.toNat
      · rw [if_pos hc]
        congr 1
        · exact (List.take_of_length_le hc).symm
        · congr 1
          exact (decide_eq_false (Nat.not_lt.2 hc)).symm
      · rw [if_neg hc]
        congr 1
        congr 1
        exact (decide_eq_true (Nat.not_le.1 hc)).symm
    rw [hr] at this
    exact this
  · simp only [if_neg h]
    exact Ev.now _
theorem awake_f : Ev (fun k => gossamerlaw38_awake.f k) true := by
  refine Ev.congr (f := fun k => (gossamerref01_SameInts.f k [3, 4] [3, 4]).bind fun t => if t = true then some true else some false) (fun k => ?_) (Ev.bind (same_f [3, 4] (by decide)) (Ev.now _))
  unfold gossamerlaw38_awake.f
  simp only [page_f, Option.bind_some, pageMay_f]
  rfl
end Go.Proofs.Ytalmhafekmggdaa.Pure
