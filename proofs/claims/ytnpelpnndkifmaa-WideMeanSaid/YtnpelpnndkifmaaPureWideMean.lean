/- The pure statement of WideMean: a mean is between the least and the greatest duration; no condition. -/
import Derived.Test.YtnpelpnndkifmaaPureBase
namespace Go.Proofs.Ytnpelpnndkifmaa.Pure
open Go.RowKit Go.Proofs.Ytnpelpnndkifmaa.PAll Go.Proofs.YtnpelpnndkifmaaW.PrintWords Go.Proofs.YtnpelpnndkifmaaW.PrintLast Go.Proofs.YtnpelpnndkifmaaW.PrintMore
set_option linter.unusedVariables false
def low (b : Int) (l : List Int) : Int := l.foldl (fun a d => min a (cl d)) b
def high (b : Int) (l : List Int) : Int := l.foldl (fun a d => max a (cl d)) b
theorem low_le : ∀ (l : List Int) (b : Int), low b l ≤ b ∧ low b l * l.length ≤ total l ∧ (0 ≤ b → 0 ≤ low b l)
  | [], b => by simp [low, total]
  | d :: l, b => by
    obtain ⟨h1, h2, h3⟩ := low_le l (min b (cl d))
    have hc := (cl_range d).1
    have e : low b (d :: l) = low (min b (cl d)) l := rfl
    have et : total (d :: l) = cl d + total l := by simp [total]
    rw [e, et, List.length_cons]
    refine ⟨by omega, ?_, fun hb => h3 (by omega)⟩
    rw [Int.natCast_add, Int.mul_add]
    simp only [Int.natCast_one, Int.mul_one]
    omega
theorem high_ge : ∀ (l : List Int) (b : Int), b ≤ high b l ∧ total l ≤ high b l * l.length
  | [], b => by simp [high, total]
  | d :: l, b => by
    obtain ⟨h1, h2⟩ := high_ge l (max b (cl d))
    have e : high b (d :: l) = high (max b (cl d)) l := rfl
    have et : total (d :: l) = cl d + total l := by simp [total]
    rw [e, et, List.length_cons]
    refine ⟨by omega, ?_⟩
    rw [Int.natCast_add, Int.mul_add]
    simp only [Int.natCast_one, Int.mul_one]
    omega
theorem high_le : ∀ (l : List Int) (b : Int), b ≤ 4611686018427387904 → high b l ≤ 4611686018427387904
  | [], b, h => h
  | d :: l, b, h => high_le l (max b (cl d)) (by have := (cl_range d).2; omega)
theorem mean_l0 (l : List Int) (hl : l.length ≤ 60) (hp : 0 < l.length) : ∀ (j i : Nat) (a b : Int), l.length - i = j → i ≤ l.length → low 4611686018427387904 l = low a (l.drop i) → high 0 l = high b (l.drop i) →
    Ev (fun k => gossamerlaw04_WideMean.l0 k l a b (i : Int)) true
  | 0, i, a, b, hj, hi, ha, hb => by
    have t0 := total_nonneg l
    have t1 := total_le l
    have ol := Of_f l (by omega)
    rw [satAdd_plain l 0 (by unfold top; omega)] at ol
    have hm := Mean_f (enc (0 + total l)).1 (enc (0 + total l)).2 (l.length : Int) (by omega)
    rw [val_enc _ (by omega) (by unfold top; omega)] at hm
    rw [List.drop_eq_nil_of_le (by omega)] at ha hb
    have la : low 4611686018427387904 l = a := ha
    have lb : high 0 l = b := hb
    obtain ⟨l1, l2, l3⟩ := low_le l 4611686018427387904
    obtain ⟨k1, k2⟩ := high_ge l 0
    have k3 := high_le l 0 (by omega)
    rw [la] at l1 l2 l3
    rw [lb] at k1 k2 k3
    have hmean : a ≤ mean (0 + total l) (l.length : Int) ∧ mean (0 + total l) (l.length : Int) ≤ b := by
      unfold mean
      rw [if_neg (by omega), Int.zero_add]
      have q1 : a ≤ total l / (l.length : Int) := (Int.le_ediv_iff_mul_le (by omega)).2 l2
      have q2 : total l / (l.length : Int) ≤ b := by
        have : total l / (l.length : Int) < b + 1 := by
          rw [Int.ediv_lt_iff_lt_mul (by omega), Int.add_mul]; omega
        omega
      omega
    refine Ev.step (f := fun k => (wide_Of.f k l).bind fun bt237 => (wide_Mean.f k bt237.1 bt237.2 (l.length : Int)).bind fun t239 => if t239 ≥ a then (if t239 ≤ b then ((gossamerlaw04_awake.f k).bind fun t240 => some t240) else some false) else some false) (fun k => ?_) (Ev.bind ol (Ev.bind hm ?_))
    · simp only [gossamerlaw04_WideMean.l0]; rw [if_neg (by omega)]
    · refine Ev.congr (f := fun k => (gossamerlaw04_awake.f k).bind fun t234 => some t234) (fun k => (if_pos hmean.1).trans (if_pos hmean.2)) (Ev.bind awake_f (Ev.now _))
  | j + 1, i, a, b, hj, hi, ha, hb => by
    have hlt : i < l.length := by omega
    rw [List.drop_eq_getElem_cons hlt] at ha hb
    refine Ev.step (f := fun k => gossamerlaw04_WideMean.l0 k l (min a (cl l[i])) (max b (cl l[i])) ((i + 1 : Nat) : Int)) (fun k => ?_) (mean_l0 l hl hp j (i + 1) _ _ (by omega) (by omega) ha hb)
    simp only [gossamerlaw04_WideMean.l0]
    rw [if_pos (by omega), if_pos (by omega), rd_at l i hlt, w64_id (by omega) (by omega)]
    simp only [mx_eq, mn_eq]
    rfl
theorem WideMean : gossamerlaw04_WideMean.Pure := by
  intro l _ _ _
  refine Ev.rounds (g := fun k => gossamerlaw04_WideMean.f k l) ?_
  have hj : Ev (fun k => gossamerlaw04_WideMean.j0 k l true) true :=
    Ev.step (f := fun k => (gossamerlaw04_awake.f k).bind fun t => some t) (fun k => by simp only [gossamerlaw04_WideMean.j0]; rw [if_pos trivial]) (Ev.bind awake_f (Ev.now _))
  by_cases h : (l.length : Int) > 60
  · exact Ev.congr (fun k => by unfold gossamerlaw04_WideMean.f; rw [if_pos h]) hj
  · by_cases h0 : l.length = 0
    · refine Ev.congr (fun k => ?_) hj
      show gossamerlaw04_WideMean.f k l = _
      unfold gossamerlaw04_WideMean.f
      rw [if_neg h, h0]; rfl
    · refine Ev.congr (f := fun k => gossamerlaw04_WideMean.j0 k l false) (fun k => ?_) (Ev.step (f := fun k => gossamerlaw04_WideMean.l0 k l 4611686018427387904 0 0) (fun k => ?_) (mean_l0 l (by omega) (by omega) l.length 0 _ _ rfl (by omega) rfl rfl))
      · show gossamerlaw04_WideMean.f k l = _
        unfold gossamerlaw04_WideMean.f
        rw [if_neg h, show ((l.length : Int) == 0) = false from by rw [beq_eq_false_iff_ne]; omega]
      · simp only [gossamerlaw04_WideMean.j0]; rw [if_neg (by simp)]

end Go.Proofs.Ytnpelpnndkifmaa.Pure
