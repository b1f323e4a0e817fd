/- What the printed functions of layer 4 come to: sums as numbers, two words divided by one, means; no condition. -/
import Derived.Test.YtnpelpnndkifmaaPAllx5
namespace Go.Proofs.Ytnpelpnndkifmaa.Pure
open Go.RowKit Go.Proofs.Ytnpelpnndkifmaa.PAll Go.Proofs.YtnpelpnndkifmaaW.PrintWords Go.Proofs.YtnpelpnndkifmaaW.PrintLast Go.Proofs.YtnpelpnndkifmaaW.PrintMore
set_option linter.unusedVariables false
/-! ### Sums as numbers -/
/-- A sum that may be. -/
def ok (H L : Int) : Prop := 0 ≤ H ∧ H ≤ 4294967296 ∧ 0 ≤ L ∧ L < 4611686018427387904
instance (H L : Int) : Decidable (ok H L) := by unfold ok; infer_instance
/-- The number of a sum. -/
def num (H L : Int) : Int := H * 4611686018427387904 + L
/-- .. a zero one, if it may not be. -/
def val (H L : Int) : Int := if ok H L then num H L else 0
/-- The greatest. -/
def top : Int := 19807040633177770416813375487
/-- A sum of a number. -/
def enc (n : Int) : Int × Int := (n / 4611686018427387904, n % 4611686018427387904)
def cl (d : Int) : Int := max 0 (min d 4611686018427387904)
theorem cl_range (d : Int) : 0 ≤ cl d ∧ cl d ≤ 4611686018427387904 := by unfold cl; omega
theorem val_range (H L : Int) : 0 ≤ val H L ∧ val H L ≤ top := by
  unfold val; split
  · rename_i h; unfold ok at h; unfold num top; omega
  · unfold top; omega
theorem ok_enc (n : Int) (h0 : 0 ≤ n) (h1 : n ≤ top) : ok (enc n).1 (enc n).2 := by
  unfold ok enc; unfold top at h1; simp only; omega
theorem num_enc (n : Int) : num (enc n).1 (enc n).2 = n := by
  unfold num enc; simp only; omega
theorem val_enc (n : Int) (h0 : 0 ≤ n) (h1 : n ≤ top) : val (enc n).1 (enc n).2 = n := by
  unfold val; rw [if_pos (ok_enc n h0 h1), num_enc]
theorem enc_num (H L : Int) (h : 0 ≤ L ∧ L < 4611686018427387904) : enc (num H L) = (H, L) := by
  unfold enc num; congr 1 <;> omega
theorem enc_val (H L : Int) : enc (val H L) = if ok H L then (H, L) else (0, 0) := by
  unfold val; split
  · rename_i h; exact enc_num H L ⟨h.2.2.1, h.2.2.2⟩
  · rfl
theorem May_f (H L : Int) : wide_May.f H L = some (decide (ok H L)) := by
  unfold wide_May.f
  by_cases h1 : H ≥ 0
  · rw [if_pos h1]
    by_cases h2 : H ≤ 4294967296
    · rw [if_pos h2]
      by_cases h3 : L ≥ 0
      · rw [if_pos h3, Option.some.injEq, decide_eq_decide]; unfold ok; omega
      · rw [if_neg h3, Option.some.injEq, eq_comm, decide_eq_false_iff_not]; unfold ok; omega
    · rw [if_neg h2, Option.some.injEq, eq_comm, decide_eq_false_iff_not]; unfold ok; omega
  · rw [if_neg h1, Option.some.injEq, eq_comm, decide_eq_false_iff_not]; unfold ok; omega
theorem right_f (H L : Int) : wide_right.f H L = some (enc (val H L)) := by
  unfold wide_right.f
  rw [May_f, enc_val]
  by_cases h : ok H L <;> simp [h]
theorem mx_eq (a b : Int) : mx a b = max a b := by unfold mx; split <;> omega
theorem mn_eq (a b : Int) : mn a b = min a b := by unfold mn; split <;> omega
theorem dur_f (d : Int) : wide_duration.f d = some (cl d) := by
  unfold wide_duration.f sat_Clamp.f
  rw [mx_eq, mn_eq]; rfl
theorem u64_id {n : Int} (h0 : 0 ≤ n) (h1 : n ≤ 18446744073709551615) : IntKind.u64.wrap n = n := IntWalk.u64_in n ⟨h0, h1⟩
theorem w64_id {n : Int} (h0 : -9223372036854775808 ≤ n) (h1 : n ≤ 9223372036854775807) : wrap64 n = n := IntWalk.wrap64_in n ⟨h0, h1⟩
theorem some_pair {a b c d : Int} (h1 : a = c) (h2 : b = d) : some (a, b) = some (c, d) := by rw [h1, h2]
theorem Add_f (H L d : Int) : wide_Add.f H L d = some (enc (min (val H L + cl d) top)) := by
  unfold wide_Add.f wide_greatest.f
  rw [right_f, Option.bind_some, dur_f, Option.bind_some]
  obtain ⟨h0, h1⟩ := val_range H L
  obtain ⟨c0, c1⟩ := cl_range d
  generalize val H L = n at *
  generalize cl d = c at *
  have e := ok_enc n h0 h1
  have en := num_enc n
  generalize hp : enc n = p at *
  obtain ⟨a, b⟩ := p
  simp only at e en ⊢
  unfold ok at e
  unfold num at en
  rw [u64_id (n := b) (by omega) (by omega), u64_id (n := c) (by omega) (by omega), u64_id (n := b + c) (by omega) (by omega)]
  rw [Int.tmod_eq_emod_of_nonneg (by omega), w64_id (n := (b + c) / 4611686018427387904) (by omega) (by omega), w64_id (n := (b + c) % 4611686018427387904) (by omega) (by omega), w64_id (n := a + (b + c) / 4611686018427387904) (by omega) (by omega)]
  unfold enc top
  unfold top at h1
  split
  · rw [Option.bind_some]
    exact some_pair (by omega) (by omega)
  · exact some_pair (by omega) (by omega)
theorem Sub_f (H L d : Int) : wide_Sub.f H L d = some (enc (max (val H L - cl d) 0)) := by
  unfold wide_Sub.f
  rw [right_f, Option.bind_some, dur_f, Option.bind_some]
  obtain ⟨h0, h1⟩ := val_range H L
  obtain ⟨c0, c1⟩ := cl_range d
  generalize val H L = n at *
  generalize cl d = c at *
  have e := ok_enc n h0 h1
  have en := num_enc n
  generalize hp : enc n = p at *
  obtain ⟨a, b⟩ := p
  simp only at e en ⊢
  unfold ok at e
  unfold num at en
  rw [w64_id (n := b - c) (by omega) (by omega), w64_id (n := a - 1) (by omega) (by omega)]
  unfold enc
  unfold top at h1
  by_cases g : b - c < 0
  · rw [if_pos g]
    by_cases g2 : a - 1 < 0
    · rw [if_pos g2]; exact some_pair (by omega) (by omega)
    · rw [if_neg g2, w64_id (n := b - c + 4611686018427387904) (by omega) (by omega)]; exact some_pair (by omega) (by omega)
  · rw [if_neg g, if_neg (by omega)]; exact some_pair (by omega) (by omega)
theorem Less_f (H L H' L' : Int) : wide_Less.f H L H' L' = some (decide (val H L < val H' L')) := by
  unfold wide_Less.f
  rw [right_f, Option.bind_some, right_f, Option.bind_some]
  obtain ⟨h0, h1⟩ := val_range H L
  obtain ⟨k0, k1⟩ := val_range H' L'
  generalize val H L = n at *
  generalize val H' L' = m at *
  unfold enc
  simp only
  split
  · rw [Option.some.injEq, eq_comm, decide_eq_true_iff]; omega
  · split
    · rw [Option.some.injEq, decide_eq_decide]; omega
    · rw [Option.some.injEq, eq_comm, decide_eq_false_iff_not]; omega
/-! ### The sum of durations -/
def total (l : List Int) : Int := (l.map cl).sum
theorem total_nonneg : ∀ l : List Int, 0 ≤ total l
  | [] => by simp [total]
  | d :: l => by have := total_nonneg l; have := (cl_range d).1; simp only [total, List.map_cons, List.sum_cons] at *; omega
theorem total_le : ∀ l : List Int, total l ≤ l.length * 4611686018427387904
  | [] => by simp [total]
  | d :: l => by have := total_le l; have := (cl_range d).2; simp only [total, List.map_cons, List.sum_cons, List.length_cons] at *; omega
theorem total_append (l m : List Int) : total (l ++ m) = total l + total m := by simp [total]
theorem total_reverse (l : List Int) : total l.reverse = total l := by
  induction l with
  | nil => rfl
  | cons d l ih => rw [List.reverse_cons, total_append, ih]; simp [total]; omega
/-- Of from state on. -/
def satAdd (n : Int) (l : List Int) : Int := l.foldl (fun n d => min (n + cl d) top) n
theorem satAdd_range : ∀ (l : List Int) (n : Int), 0 ≤ n → n ≤ top → 0 ≤ satAdd n l ∧ satAdd n l ≤ top
  | [], n, h0, h1 => ⟨h0, h1⟩
  | d :: l, n, h0, h1 => by
    have := (cl_range d).1
    exact satAdd_range l (min (n + cl d) top) (by unfold top; omega) (by omega)
theorem satAdd_plain : ∀ (l : List Int) (n : Int), n + total l ≤ top → satAdd n l = n + total l
  | [], n, _ => by simp [satAdd, total]
  | d :: l, n, h => by
    have h' : n + (cl d + total l) ≤ top := by simpa [total] using h
    have := total_nonneg l
    have e : min (n + cl d) top = n + cl d := by omega
    show satAdd (min (n + cl d) top) l = _
    rw [e, satAdd_plain l _ (by omega)]
    simp [total]; omega
theorem rd_at (l : List Int) (i : Nat) (h : i < l.length) : rd l (i : Int) = l[i] := by
  simp [rd, h]
theorem Of_l0 (l : List Int) (hl : l.length ≤ 140737488351232) : ∀ (j i : Nat) (n : Int), l.length - i = j → i ≤ l.length → 0 ≤ n → n ≤ top →
    Ev (fun k => wide_Of.l0 k l (l.length : Int) (i : Int) (enc n).1 (enc n).2) (enc (satAdd n (l.drop i)))
  | 0, i, n, hj, hi, h0, h1 => by
    refine Ev.step (f := fun _ => some (enc n)) (fun k => ?_) ?_
    · simp only [wide_Of.l0]; rw [if_neg (by omega)]
    · rw [List.drop_eq_nil_of_le (by omega)]; exact Ev.now _
  | j + 1, i, n, hj, hi, h0, h1 => by
    have hlt : i < l.length := by omega
    refine Ev.step (f := fun k => wide_Of.l0 k l (l.length : Int) ((i + 1 : Nat) : Int) (enc (min (n + cl l[i]) top)).1 (enc (min (n + cl l[i]) top)).2) (fun k => ?_) ?_
    · simp only [wide_Of.l0]; rw [if_pos (by omega), if_pos (by omega), if_pos (by omega), rd_at l i hlt, Add_f, Option.bind_some, val_enc n h0 h1, w64_id (by omega) (by omega)]; rfl
    · rw [List.drop_eq_getElem_cons hlt]
      have := (cl_range l[i]).1
      exact Of_l0 l hl j (i + 1) (min (n + cl l[i]) top) (by omega) (by omega) (by unfold top; omega) (by omega)
theorem Of_f (l : List Int) (hl : l.length ≤ 140737488351232) : Ev (fun k => wide_Of.f k l) (enc (satAdd 0 l)) := by
  have := Of_l0 l hl l.length 0 0 rfl (by omega) (by omega) (by unfold top; omega)
  exact this
theorem awake_f : Ev (fun k => gossamerlaw04_awake.f k) true := Ev.of gossamerlaw04_awake.mono (k := 10) (by decide +kernel)
/-! ### Two words by one: one half of it, by numbers alone -/
theorem half_split (q y1 y0 : Int) : q * (y1 * 4294967296 + y0) = q * y1 * 4294967296 + q * y0 := by
  rw [Int.mul_add, ← Int.mul_assoc]
theorem half_exit {u u1 y1 y0 q r Q : Int} (hy : 0 < y1 * 4294967296 + y0) (hq : q * y1 + r = u)
    (hQ : (u * 4294967296 + u1) / (y1 * 4294967296 + y0) = Q) (hge : Q ≤ q) (hstop : q * y0 ≤ 4294967296 * r + u1) : q = Q := by
  refine Int.le_antisymm ?_ hge
  rw [← hQ, Int.le_ediv_iff_mul_le hy, half_split, ← hq]
  generalize q * y1 = a
  generalize q * y0 = b at *
  omega
theorem half_more {u u1 y1 y0 q r Q : Int} (hy : 0 < y1 * 4294967296 + y0) (hq : q * y1 + r = u)
    (hQ : (u * 4294967296 + u1) / (y1 * 4294967296 + y0) = Q) (hgo : 4294967296 * r + u1 < q * y0) : Q < q := by
  rw [← hQ, Int.ediv_lt_iff_lt_mul hy, half_split, ← hq]
  generalize q * y1 = a
  generalize q * y0 = b at *
  omega
theorem half_lt {u u1 y Q : Int} (hy : 0 < y) (hu : u < y) (hu1 : u1 < 4294967296) (hQ : (u * 4294967296 + u1) / y = Q) : Q < 4294967296 := by
  rw [← hQ, Int.ediv_lt_iff_lt_mul hy]
  omega
theorem half_break {u u1 y1 y0 q r Q : Int} (hy1 : 2147483648 ≤ y1) (hy0 : y0 < 4294967296) (h0 : 0 ≤ y0) (hq : q * y1 + r = u) (hu1 : 0 ≤ u1)
    (hu : u < y1 * 4294967296 + y0) (hQ : (u * 4294967296 + u1) / (y1 * 4294967296 + y0) = Q) (hge : Q ≤ q) (hq0 : 0 ≤ q) (hr : 4294967296 ≤ r) : q = Q := by
  refine half_exit (by omega) hq hQ hge ?_
  have hlt : q < 4294967296 := by
    apply Int.lt_of_not_ge
    intro h
    have h2 : 4294967296 * y1 ≤ q * y1 := Int.mul_le_mul_of_nonneg_right h (by omega)
    generalize q * y1 = a at *
    omega
  have h1 : q * y0 ≤ 4294967296 * y0 := Int.mul_le_mul_of_nonneg_right (by omega) h0
  generalize q * y0 = b at *
  omega
theorem mul_bd {a b A B : Int} (a0 : 0 ≤ a) (a1 : a ≤ A) (b0 : 0 ≤ b) (b1 : b ≤ B) : 0 ≤ a * b ∧ a * b ≤ A * B :=
  ⟨Int.mul_nonneg a0 b0, Int.mul_le_mul a1 b1 b0 (by omega)⟩
/-- What is known of the two halves of a divisor. -/
structure Dv (Y y1 y0 : Int) : Prop where
  eq : Y = y1 * 4294967296 + y0
  lo : 2147483648 ≤ y1
  hi : y1 < 4294967296
  lo0 : 0 ≤ y0
  hi0 : y0 < 4294967296
theorem test_w {q y0 r u1 : Int} (hq0 : 0 ≤ q) (hq1 : q < 4294967296) (h0 : 0 ≤ y0) (h1 : y0 < 4294967296) (r0 : 0 ≤ r) (r1 : r < 4294967296) (g0 : 0 ≤ u1) (g1 : u1 < 4294967296) :
    IntKind.u64.wrap (q * y0) = q * y0 ∧ IntKind.u64.wrap (IntKind.u64.wrap (4294967296 * r) + u1) = 4294967296 * r + u1 := by
  obtain ⟨a, b⟩ := mul_bd (A := 4294967295) (B := 4294967295) hq0 (by omega) h0 (by omega)
  refine ⟨u64_id a (by generalize q * y0 = z at *; omega), ?_⟩
  rw [u64_id (n := 4294967296 * r) (by omega) (by omega), u64_id (by omega) (by omega)]
/-- The first loop: it comes to the half's answer, and goes on. -/
theorem l0_to {Y y1 y0 : Int} (D : Dv Y y1 y0) (s u u1 u0 : Int) (hu : u < Y) (g0 : 0 ≤ u1) (g1 : u1 < 4294967296) (Q : Int) (hQ : (u * 4294967296 + u1) / Y = Q) (hQ0 : 0 ≤ Q) (R : Int × Int)
    (hR : Ev (fun k => bits_Div64.j2 k Y s y1 y0 u u1 u0 Q) R) :
    ∀ (d : Nat) (q r : Int), q - Q = d → q * y1 + r = u → 0 ≤ r → r < 4294967296 → q ≤ 18446744073709551615 → Ev (fun k => bits_Div64.l0 k Y s y1 y0 u u1 u0 q r) R := by
  obtain ⟨e, d1, d2, d3, d4⟩ := D
  have hQl : Q < 4294967296 := half_lt (y := Y) (by omega) hu g1 hQ
  subst e
  intro d
  induction d with
  | zero =>
    intro q r hd hq r0 r1 hb
    obtain rfl : q = Q := by omega
    obtain ⟨t1, t2⟩ := test_w hQ0 hQl d3 d4 r0 r1 g0 g1
    have hno : ¬ (q * y0 > 4294967296 * r + u1) := fun h => by
      have := half_more (by omega) hq hQ h
      omega
    refine Ev.step (f := fun k => bits_Div64.j1 k (y1 * 4294967296 + y0) s y1 y0 u u1 u0 q r false) (fun k => ?_) (Ev.step (f := fun k => bits_Div64.j2 k (y1 * 4294967296 + y0) s y1 y0 u u1 u0 q) (fun k => ?_) hR)
    · simp only [bits_Div64.l0]; rw [if_neg (by omega), t1, t2, decide_eq_false hno]
    · simp only [bits_Div64.j1]; rw [if_neg (by simp)]
  | succ d ih =>
    intro q r hd hq r0 r1 hb
    have hdown : Ev (fun k => bits_Div64.j1 k (y1 * 4294967296 + y0) s y1 y0 u u1 u0 q r true) R := by
      have hq' : (q - 1) * y1 + (r + y1) = u := by rw [Int.sub_mul]; omega
      by_cases hbr : r + y1 ≥ 4294967296
      · have hend := half_break d1 d4 d3 hq' g0 hu hQ (by omega) (by omega) (by omega)
        refine Ev.step (f := fun k => bits_Div64.j2 k (y1 * 4294967296 + y0) s y1 y0 u u1 u0 Q) (fun k => ?_) hR
        simp only [bits_Div64.j1]; rw [if_pos trivial, u64_id (n := r + y1) (by omega) (by omega), if_pos hbr, u64_id (n := q - 1) (by omega) (by omega), hend]
      · refine Ev.step (f := fun k => bits_Div64.l0 k (y1 * 4294967296 + y0) s y1 y0 u u1 u0 (q - 1) (r + y1)) (fun k => ?_) (ih (q - 1) (r + y1) (by omega) hq' (by omega) (by omega) (by omega))
        simp only [bits_Div64.j1]; rw [if_pos trivial, u64_id (n := r + y1) (by omega) (by omega), if_neg hbr, u64_id (n := q - 1) (by omega) (by omega)]
    by_cases hbig : q ≥ 4294967296
    · refine Ev.step (f := fun k => bits_Div64.j1 k (y1 * 4294967296 + y0) s y1 y0 u u1 u0 q r true) (fun k => ?_) hdown
      simp only [bits_Div64.l0]; rw [if_pos hbig]
    · obtain ⟨t1, t2⟩ := test_w (q := q) (by omega) (by omega) d3 d4 r0 r1 g0 g1
      by_cases hgo : q * y0 > 4294967296 * r + u1
      · refine Ev.step (f := fun k => bits_Div64.j1 k (y1 * 4294967296 + y0) s y1 y0 u u1 u0 q r true) (fun k => ?_) hdown
        simp only [bits_Div64.l0]; rw [if_neg hbig, t1, t2, decide_eq_true hgo]
      · have := half_exit (by omega) hq hQ (by omega) (by omega)
        omega
/-- The second loop. -/
theorem l1_to {Y y1 y0 : Int} (D : Dv Y y1 y0) (s v u0 Q1 : Int) (hs : 0 ≤ s) (hv : v < Y) (g0 : 0 ≤ u0) (g1 : u0 < 4294967296) (Q : Int) (hQ : (v * 4294967296 + u0) / Y = Q) (hQ0 : 0 ≤ Q) (hQ1 : 0 ≤ Q1) (hQ2 : Q1 < 4294967296) :
    ∃ z, ∀ (d : Nat) (q r : Int), q - Q = d → q * y1 + r = v → 0 ≤ r → r < 4294967296 → q ≤ 18446744073709551615 → Ev (fun k => bits_Div64.l1 k Y s y1 y0 u0 Q1 r v q) (Q1 * 4294967296 + Q, z) := by
  obtain ⟨e, d1, d2, d3, d4⟩ := D
  have hQl : Q < 4294967296 := half_lt (y := Y) (by omega) hv g1 hQ
  subst e
  refine ⟨shr .u64 (IntKind.u64.wrap ((IntKind.u64.wrap ((IntKind.u64.wrap (v * 4294967296)) + u0)) - (IntKind.u64.wrap (Q * (y1 * 4294967296 + y0))))) s, ?_⟩
  have hw : IntKind.u64.wrap (IntKind.u64.wrap (Q1 * 4294967296) + Q) = Q1 * 4294967296 + Q := by
    rw [u64_id (n := Q1 * 4294967296) (by omega) (by omega), u64_id (by omega) (by omega)]
  intro d
  induction d with
  | zero =>
    intro q r hd hq r0 r1 hb
    obtain rfl : q = Q := by omega
    obtain ⟨t1, t2⟩ := test_w hQ0 hQl d3 d4 r0 r1 g0 g1
    have hno : ¬ (q * y0 > 4294967296 * r + u0) := fun h => by
      have := half_more (by omega) hq hQ h
      omega
    refine Ev.step (f := fun k => bits_Div64.j4 k (y1 * 4294967296 + y0) s y1 y0 u0 Q1 r v q false) (fun k => ?_) (Ev.step (f := fun k => _) (fun k => ?_) (Ev.now _))
    · simp only [bits_Div64.l1]; rw [if_neg (by omega), t1, t2, decide_eq_false hno]
    · simp only [bits_Div64.j4]; rw [if_neg (by simp), if_pos hs, hw]
  | succ d ih =>
    intro q r hd hq r0 r1 hb
    have hdown : Ev (fun k => bits_Div64.j4 k (y1 * 4294967296 + y0) s y1 y0 u0 Q1 r v q true) (Q1 * 4294967296 + Q, shr .u64 (IntKind.u64.wrap ((IntKind.u64.wrap ((IntKind.u64.wrap (v * 4294967296)) + u0)) - (IntKind.u64.wrap (Q * (y1 * 4294967296 + y0))))) s) := by
      have hq' : (q - 1) * y1 + (r + y1) = v := by rw [Int.sub_mul]; omega
      by_cases hbr : r + y1 ≥ 4294967296
      · have hend := half_break d1 d4 d3 hq' g0 hv hQ (by omega) (by omega) (by omega)
        refine Ev.step (f := fun k => _) (fun k => ?_) (Ev.now _)
        simp only [bits_Div64.j4]; rw [if_pos trivial, u64_id (n := r + y1) (by omega) (by omega), if_pos hbr, u64_id (n := q - 1) (by omega) (by omega), hend, if_pos hs, hw]
      · refine Ev.step (f := fun k => bits_Div64.l1 k (y1 * 4294967296 + y0) s y1 y0 u0 Q1 (r + y1) v (q - 1)) (fun k => ?_) (ih (q - 1) (r + y1) (by omega) hq' (by omega) (by omega) (by omega))
        simp only [bits_Div64.j4]; rw [if_pos trivial, u64_id (n := r + y1) (by omega) (by omega), if_neg hbr, u64_id (n := q - 1) (by omega) (by omega)]
    by_cases hbig : q ≥ 4294967296
    · refine Ev.step (f := fun k => bits_Div64.j4 k (y1 * 4294967296 + y0) s y1 y0 u0 Q1 r v q true) (fun k => ?_) hdown
      simp only [bits_Div64.l1]; rw [if_pos hbig]
    · obtain ⟨t1, t2⟩ := test_w (q := q) (by omega) (by omega) d3 d4 r0 r1 g0 g1
      by_cases hgo : q * y0 > 4294967296 * r + u0
      · refine Ev.step (f := fun k => bits_Div64.j4 k (y1 * 4294967296 + y0) s y1 y0 u0 Q1 r v q true) (fun k => ?_) hdown
        simp only [bits_Div64.l1]; rw [if_neg hbig, t1, t2, decide_eq_true hgo]
      · have := half_exit (by omega) hq hQ (by omega) (by omega)
        omega
theorem wraps64 (n : Int) (h0 : 0 ≤ n) (h1 : n < 2 ^ 64) : IntKind.u64.wrap n = n := u64_id h0 (by omega)
theorem and32 {x : Int} (h0 : 0 ≤ x) (h1 : x ≤ 18446744073709551615) : Go.bits .and .u64 x 4294967295 = x % 4294967296 := by
  have := bits_mask .u64 64 (by decide) wraps64 32 (by decide) x h0 (by omega)
  simpa using this
theorem or_join (s : Nat) {x y : Int} (h0 : 0 ≤ x) (hx : x % 2 ^ s = 0) (h1 : x ≤ 18446744073709551615) (y0 : 0 ≤ y) (y1 : y < 2 ^ s) (y2 : y ≤ 18446744073709551615) : Go.bits .or .u64 x y = x + y :=
  bits_join .u64 64 (by decide) wraps64 s x y h0 hx (by omega) y0 y1 (by omega)
theorem bitLen_aux : ∀ (f x : Nat), 0 < x → x < 2 ^ f → ∃ b, Lib.bitLenAux f x = b + 1 ∧ b + 1 ≤ f ∧ 2 ^ b ≤ x ∧ x < 2 ^ (b + 1)
  | 0, x, h0, h => by simp at h; omega
  | f + 1, x, h0, h => by
    simp only [Lib.bitLenAux]
    rw [if_neg (by omega)]
    by_cases hx : x / 2 = 0
    · refine ⟨0, ?_, by omega, by simp; omega, by simp; omega⟩
      rw [hx]
      cases f <;> simp [Lib.bitLenAux]
    · obtain ⟨b, hb, hf, h1, h2⟩ := bitLen_aux f (x / 2) (by omega) (by rw [Nat.pow_succ] at h; omega)
      refine ⟨b + 1, by omega, by omega, ?_, ?_⟩
      · rw [Nat.pow_succ]; omega
      · rw [Nat.pow_succ]; omega
theorem norm (y : Int) (h0 : 0 < y) (h1 : y ≤ 18446744073709551615) : ∃ s : Nat, s ≤ 63 ∧ 64 - (Lib.bitLen y.toNat : Int) = s ∧ 9223372036854775808 ≤ y * 2 ^ s ∧ y * 2 ^ s ≤ 18446744073709551615 := by
  obtain ⟨x, rfl⟩ := Int.eq_ofNat_of_zero_le (Int.le_of_lt h0)
  obtain ⟨b, hb, hf, l1, l2⟩ := bitLen_aux 64 x (by omega) (by omega)
  rw [Int.toNat_natCast]
  refine ⟨63 - b, by omega, by unfold Lib.bitLen; omega, ?_, ?_⟩
  · have h : 2 ^ b * 2 ^ (63 - b) ≤ x * 2 ^ (63 - b) := Nat.mul_le_mul_right _ l1
    rw [← Nat.pow_add, show b + (63 - b) = 63 from by omega] at h
    have h2 := Int.ofNat_le.2 h
    rw [Int.natCast_mul, Int.natCast_pow, Int.natCast_pow] at h2
    exact h2
  · have h : (x + 1) * 2 ^ (63 - b) ≤ 2 ^ (b + 1) * 2 ^ (63 - b) := Nat.mul_le_mul_right _ l2
    rw [← Nat.pow_add, show b + 1 + (63 - b) = 64 from by omega, Nat.add_mul, Nat.one_mul] at h
    have hp : 0 < 2 ^ (63 - b) := Nat.two_pow_pos _
    have h' : x * 2 ^ (63 - b) + 1 ≤ 2 ^ 64 := by omega
    have h2 := Int.ofNat_le.2 h'
    rw [Int.natCast_add, Int.natCast_mul, Int.natCast_pow, Int.natCast_pow] at h2
    have h3 : (x : Int) * 2 ^ (63 - b) + 1 ≤ 18446744073709551616 := h2
    clear h2 h' h hp
    generalize (x : Int) * 2 ^ (63 - b) = z at *
    omega
theorem mul_cancel {a b c : Int} (hc : 0 < c) (h : a * c < b * c) : a < b := Int.lt_of_mul_lt_mul_right h (Int.le_of_lt hc)
/-- The whole out of its halves. -/
theorem whole_eq {u u1 u0 y Q1 R : Int} (hy : 0 < y) (h1 : u * 4294967296 + u1 = Q1 * y + R) :
    (u * 18446744073709551616 + (u1 * 4294967296 + u0)) / y = Q1 * 4294967296 + (R * 4294967296 + u0) / y := by
  have e : u * 18446744073709551616 + (u1 * 4294967296 + u0) = (R * 4294967296 + u0) + (Q1 * 4294967296) * y := by
    rw [Int.mul_right_comm Q1 4294967296 y]
    generalize Q1 * y = c at *
    omega
  rw [e, Int.add_mul_ediv_right _ _ (by omega), Int.add_comm]
theorem Div64_f (hi lo y : Int) (h0 : 0 ≤ hi) (hlt : hi < y) (hy : y ≤ 18446744073709551615) (l0 : 0 ≤ lo) (l1 : lo ≤ 18446744073709551615) :
    ∃ z, Ev (fun k => bits_Div64.f k hi lo y) ((hi * 18446744073709551616 + lo) / y, z) := by
  by_cases hz : hi = 0
  · subst hz
    have q0 : 0 ≤ lo / y := Int.ediv_nonneg l0 (by omega)
    have q1 : lo / y ≤ lo := Int.ediv_le_self y l0
    refine ⟨Int.tmod lo y, 0, fun k _ => ?_⟩
    show bits_Div64.f k 0 lo y = _
    unfold bits_Div64.f
    rw [if_neg (by omega), if_neg (by omega), if_pos rfl, Int.tdiv_eq_ediv_of_nonneg l0, u64_id q0 (by omega)]
    simp
  · obtain ⟨s, hs, hb, y1, y2⟩ := norm y (by omega) hy
    have hP : (0 : Int) < 2 ^ s := Int.pow_pos (by decide)
    have hP64 : (2 : Int) ^ s * 2 ^ (64 - s) = 18446744073709551616 := by
      rw [← Int.pow_add, show s + (64 - s) = 64 from by omega]; rfl
    have hPc : (0 : Int) < 2 ^ (64 - s) := Int.pow_pos (by decide)
    have hP1 : (2 : Int) ^ s ≤ 9223372036854775808 := by
      have : (2 : Int) ^ s ≤ 2 ^ 63 := by exact_mod_cast Nat.pow_le_pow_right (by decide) hs
      exact this
    -- the parts
    have hhi : hi * 2 ^ s < y * 2 ^ s := Int.mul_lt_mul_of_pos_right hlt hP
    have hhi0 : 0 ≤ hi * 2 ^ s := Int.mul_nonneg h0 (by omega)
    have hlo0 : 0 ≤ lo / 2 ^ (64 - s) := Int.ediv_nonneg l0 (by omega)
    have hlo1 : lo / 2 ^ (64 - s) < 2 ^ s := by
      rw [Int.ediv_lt_iff_lt_mul hPc, hP64]; omega
    have hlo2 : lo / 2 ^ (64 - s) ≤ lo := Int.ediv_le_self _ l0
    have hmod : (hi * 2 ^ s) % 2 ^ s = 0 := Int.mul_emod_left _ _
    -- lo's two parts
    have hun : lo * 2 ^ s = (lo / 2 ^ (64 - s)) * 18446744073709551616 + (lo * 2 ^ s) % 18446744073709551616 := by
      have e1 : (lo * 2 ^ s) / 18446744073709551616 = lo / 2 ^ (64 - s) := by
        rw [← hP64, Int.mul_comm lo, Int.mul_ediv_mul_of_pos _ _ hP]
      rw [← e1]
      have := Int.emod_add_mul_ediv (lo * 2 ^ s) 18446744073709551616
      omega
    have hm0 := Int.emod_nonneg (lo * 2 ^ s) (show (18446744073709551616 : Int) ≠ 0 by decide)
    have hm1 := Int.emod_lt_of_pos (lo * 2 ^ s) (show (0 : Int) < 18446744073709551616 by decide)
    have hN : (hi * 18446744073709551616 + lo) * 2 ^ s = (hi * 2 ^ s + lo / 2 ^ (64 - s)) * 18446744073709551616 + (lo * 2 ^ s) % 18446744073709551616 := by
      rw [Int.add_mul, Int.mul_right_comm hi, hun, Int.add_mul, ← hun]
      generalize hi * 2 ^ s = A
      generalize (lo / 2 ^ (64 - s)) = B at *
      generalize lo * 2 ^ s = C at *
      omega
    have hdiv : (hi * 18446744073709551616 + lo) / y = ((hi * 2 ^ s + lo / 2 ^ (64 - s)) * 18446744073709551616 + (lo * 2 ^ s) % 18446744073709551616) / (y * 2 ^ s) := by
      rw [← hN, Int.mul_ediv_mul_of_pos_left _ _ hP]
    have hult : hi * 2 ^ s + lo / 2 ^ (64 - s) < y * 2 ^ s := by
      have h1 : (hi + 1) * 2 ^ s ≤ y * 2 ^ s := Int.mul_le_mul_of_nonneg_right (by omega) (by omega)
      rw [Int.add_mul, Int.one_mul] at h1
      omega
    rw [hdiv]
    -- names
    have hf : ∀ k, bits_Div64.f k hi lo y = bits_Div64.l0 k (y * 2 ^ s) (s : Int) (y * 2 ^ s / 4294967296) (y * 2 ^ s % 4294967296) (hi * 2 ^ s + lo / 2 ^ (64 - s)) ((lo * 2 ^ s) % 18446744073709551616 / 4294967296) ((lo * 2 ^ s) % 18446744073709551616 % 4294967296)
        ((hi * 2 ^ s + lo / 2 ^ (64 - s)) / (y * 2 ^ s / 4294967296)) ((hi * 2 ^ s + lo / 2 ^ (64 - s)) % (y * 2 ^ s / 4294967296)) := by
      intro k
      have e1 : shl .u64 y (s : Int) = y * 2 ^ s := by
        unfold shl
        rw [Int.toNat_natCast, Nat.min_eq_left (show s ≤ IntKind.u64.bits from Nat.le_trans hs (by decide)), u64_id (by omega) (by omega)]
      have e2 : shl .u64 hi (s : Int) = hi * 2 ^ s := by
        unfold shl
        rw [Int.toNat_natCast, Nat.min_eq_left (show s ≤ IntKind.u64.bits from Nat.le_trans hs (by decide)), u64_id (by omega) (by omega)]
      have e3 : shl .u64 lo (s : Int) = (lo * 2 ^ s) % 18446744073709551616 := by
        unfold shl
        rw [Int.toNat_natCast, Nat.min_eq_left (show s ≤ IntKind.u64.bits from Nat.le_trans hs (by decide)), IntKind.wrap_u64]
      have e4 : shr .u64 lo (64 - (s : Int)) = lo / 2 ^ (64 - s) := by
        unfold shr
        rw [show (64 - (s : Int)).toNat = 64 - s from by omega, Nat.min_eq_left (show 64 - s ≤ IntKind.u64.bits from by show 64 - s ≤ 64; omega)]
      unfold bits_Div64.f bits_LeadingZeros64.f
      rw [if_neg (by omega), if_neg (by omega), if_neg hz, if_pos (by omega), if_pos (by omega), Option.bind_some, hb, u64_id (n := (s : Int)) (by omega) (by omega), if_pos (by omega), u64_id (n := 64 - (s : Int)) (by omega) (by omega), if_pos (by omega), e1, e2, e3, e4,
        or_join s hhi0 hmod (by omega) hlo0 hlo1 (by omega), and32 (by omega) (by omega), and32 hm0 (by omega), if_neg (by omega)]
      have hyp : 0 < y * 2 ^ s / 4294967296 := by omega
      have hq0 : 0 ≤ (hi * 2 ^ s + lo / 2 ^ (64 - s)) / (y * 2 ^ s / 4294967296) := Int.ediv_nonneg (by omega) (by omega)
      have hq1 : (hi * 2 ^ s + lo / 2 ^ (64 - s)) / (y * 2 ^ s / 4294967296) ≤ hi * 2 ^ s + lo / 2 ^ (64 - s) := Int.ediv_le_self _ (by omega)
      have hde := Int.emod_add_mul_ediv (hi * 2 ^ s + lo / 2 ^ (64 - s)) (y * 2 ^ s / 4294967296)
      have hr0 := Int.emod_nonneg (hi * 2 ^ s + lo / 2 ^ (64 - s)) (show y * 2 ^ s / 4294967296 ≠ 0 by omega)
      have hr1 := Int.emod_lt_of_pos (hi * 2 ^ s + lo / 2 ^ (64 - s)) hyp
      rw [Int.tdiv_eq_ediv_of_nonneg (by omega), u64_id hq0 (by omega)]
      rw [Int.mul_comm (y * 2 ^ s / 4294967296)] at hde
      have hpr : 0 ≤ (hi * 2 ^ s + lo / 2 ^ (64 - s)) / (y * 2 ^ s / 4294967296) * (y * 2 ^ s / 4294967296) := Int.mul_nonneg hq0 (by omega)
      rw [u64_id hpr (by omega), u64_id (by omega) (by omega)]
      congr 1
      omega
    have hYp : 0 < y * 2 ^ s := by omega
    have D : Dv (y * 2 ^ s) (y * 2 ^ s / 4294967296) (y * 2 ^ s % 4294967296) := ⟨by omega, by omega, by omega, by omega, by omega⟩
    have hu0 : 0 ≤ hi * 2 ^ s + lo / 2 ^ (64 - s) := by omega
    clear hN hdiv hun hP64 hPc hP1 hhi hhi0 hlo0 hlo1 hlo2 hmod
    generalize (y * 2 ^ s) = Y at *
    generalize (hi * 2 ^ s + lo / 2 ^ (64 - s)) = u at *
    generalize (lo * 2 ^ s) % 18446744073709551616 = v at *
    clear hP
    have hv : v = v / 4294967296 * 4294967296 + v % 4294967296 := by omega
    have g0 : 0 ≤ v / 4294967296 := by omega
    have g1 : v / 4294967296 < 4294967296 := by omega
    have g2 : 0 ≤ v % 4294967296 := by omega
    have g3 : v % 4294967296 < 4294967296 := by omega
    generalize hY1 : Y / 4294967296 = Y1 at *
    generalize hY0 : Y % 4294967296 = Y0 at *
    generalize v / 4294967296 = v1 at *
    generalize v % 4294967296 = v0 at *
    subst hv
    -- the first half
    have hA0 : 0 ≤ u * 4294967296 + v1 := by omega
    obtain ⟨Q1, hQ1⟩ : ∃ Q, (u * 4294967296 + v1) / Y = Q := ⟨_, rfl⟩
    obtain ⟨R, hR⟩ : ∃ R, (u * 4294967296 + v1) % Y = R := ⟨_, rfl⟩
    have hQ10 : 0 ≤ Q1 := by rw [← hQ1]; exact Int.ediv_nonneg hA0 (by omega)
    have hQ1l : Q1 < 4294967296 := half_lt hYp hult g1 hQ1
    have hR0 : 0 ≤ R := by rw [← hR]; exact Int.emod_nonneg _ (by omega)
    have hR1 : R < Y := by rw [← hR]; exact Int.emod_lt_of_pos _ hYp
    have hsplit : u * 4294967296 + v1 = Q1 * Y + R := by
      have := Int.emod_add_mul_ediv (u * 4294967296 + v1) Y
      rw [hQ1, hR, Int.mul_comm] at this
      omega
    -- the second half
    have hB0 : 0 ≤ R * 4294967296 + v0 := by omega
    obtain ⟨Q0, hQ0⟩ : ∃ Q, (R * 4294967296 + v0) / Y = Q := ⟨_, rfl⟩
    have hQ00 : 0 ≤ Q0 := by rw [← hQ0]; exact Int.ediv_nonneg hB0 (by omega)
    rw [whole_eq hYp hsplit, hQ0]
    obtain ⟨z, hz2⟩ := l1_to D (s : Int) R v0 Q1 (by omega) hR1 g2 g3 Q0 hQ0 hQ00 hQ10 hQ1l
    refine ⟨z, Ev.congr hf ?_⟩
    have hd1 := D.lo
    have hd2 := D.hi
    -- the start of a half: the quotient by the upper word is no less
    have start : ∀ (x x1 Q : Int), 0 ≤ x → 0 ≤ x1 → x1 < 4294967296 → (x * 4294967296 + x1) / Y = Q → Q ≤ x / Y1 := by
      intro x x1 Q hx hx0 hx1 hQ
      rw [Int.le_ediv_iff_mul_le (by omega)]
      have hle : Q * Y ≤ x * 4294967296 + x1 := by rw [← hQ]; exact Int.ediv_mul_le _ (by omega)
      have hQn : 0 ≤ Q := by rw [← hQ]; exact Int.ediv_nonneg (by omega) (by omega)
      rw [D.eq, half_split] at hle
      have hn : 0 ≤ Q * Y0 := Int.mul_nonneg hQn D.lo0
      generalize Q * Y1 = a at *
      generalize Q * Y0 = b at *
      omega
    have parts : ∀ x : Int, 0 ≤ x → x / Y1 * Y1 + x % Y1 = x ∧ 0 ≤ x % Y1 ∧ x % Y1 < Y1 ∧ x / Y1 ≤ x := by
      intro x hx
      have := Int.emod_add_mul_ediv x Y1
      rw [Int.mul_comm] at this
      exact ⟨by omega, Int.emod_nonneg _ (by omega), Int.emod_lt_of_pos _ (by omega), Int.ediv_le_self _ hx⟩
    obtain ⟨p1, p2, p3, p4⟩ := parts u hu0
    obtain ⟨r1, r2, r3, r4⟩ := parts R hR0
    have s1 := start u v1 Q1 hu0 g0 g1 hQ1
    have s2 := start R v0 Q0 hR0 g2 g3 hQ0
    refine l0_to D (s : Int) u v1 v0 hult g0 g1 Q1 hQ1 hQ10 _ ?_ (u / Y1 - Q1).toNat (u / Y1) (u % Y1) (by omega) p1 p2 (by omega) (by omega)
    refine Ev.step (f := fun k => bits_Div64.l1 k Y (s : Int) Y1 Y0 v0 Q1 (R % Y1) R (R / Y1)) (fun k => ?_) (hz2 (R / Y1 - Q0).toNat (R / Y1) (R % Y1) (by omega) r1 r2 (by omega) (by omega))
    simp only [bits_Div64.j2]
    have hrem : IntKind.u64.wrap ((IntKind.u64.wrap ((IntKind.u64.wrap (u * 4294967296)) + v1)) - (IntKind.u64.wrap (Q1 * Y))) = R := by
      simp only [IntKind.wrap_u64]
      generalize Q1 * Y = c at *
      omega
    rw [if_neg (by omega), hrem, Int.tdiv_eq_ediv_of_nonneg hR0, u64_id (n := R / Y1) (by omega) (by omega)]
    have hpr : 0 ≤ R / Y1 * Y1 := Int.mul_nonneg (by omega) (by omega)
    rw [u64_id hpr (by omega), u64_id (n := R - R / Y1 * Y1) (by omega) (by omega)]
    congr 1
    omega
/-- A mean. -/
def mean (n c : Int) : Int := if c < 1 then 0 else min (n / c) 9223372036854775807
theorem Mean_f (H L c : Int) (c1 : c ≤ 9223372036854775807) : Ev (fun k => wide_Mean.f k H L c) (mean (val H L) c) := by
  obtain ⟨h0, h1⟩ := val_range H L
  by_cases hc : c < 1
  · refine ⟨0, fun k _ => ?_⟩
    show wide_Mean.f k H L c = _
    unfold wide_Mean.f mean
    rw [right_f, Option.bind_some, if_pos hc, if_pos hc]
  · have e := ok_enc (val H L) h0 h1
    have en := num_enc (val H L)
    have hr := right_f H L
    generalize val H L = n at *
    unfold top at h1
    generalize hp : enc n = p at *
    obtain ⟨a, b⟩ := p
    simp only at e en
    unfold ok at e
    unfold num at en
    have hor : Go.bits .or .u64 (IntKind.u64.wrap (IntKind.u64.wrap a * 4611686018427387904)) (IntKind.u64.wrap b) = n % 18446744073709551616 := by
      rw [u64_id (n := a) (by omega) (by omega), u64_id (n := b) (by omega) (by omega), IntKind.wrap_u64]
      have h62 : (4611686018427387904 : Int) = 2 ^ 62 := by decide
      rw [or_join 62 (by omega) (by rw [← h62]; omega) (by omega) (by omega) (by rw [← h62]; omega) (by omega)]
      omega
    have hf : ∀ k, wide_Mean.f k H L c = if a / 4 ≥ c then some 9223372036854775807 else (bits_Div64.f k (a / 4) (n % 18446744073709551616) c).bind fun bt116 => some (wrap64 (mn bt116.1 9223372036854775807)) := by
      intro k
      unfold wide_Mean.f
      rw [hr, Option.bind_some, if_neg hc]
      simp only
      rw [hor, u64_id (n := a) (by omega) (by omega), u64_id (n := c) (by omega) (by omega)]
    refine Ev.congr hf ?_
    have hn : n = a / 4 * 18446744073709551616 + n % 18446744073709551616 := by omega
    by_cases ht : a / 4 ≥ c
    · refine ⟨0, fun k _ => ?_⟩
      simp only
      rw [if_pos ht]
      unfold mean
      rw [if_neg hc]
      have : 9223372036854775807 ≤ n / c := by
        rw [Int.le_ediv_iff_mul_le (by omega)]
        omega
      exact congrArg some (by omega)
    · obtain ⟨z, hz⟩ := Div64_f (a / 4) (n % 18446744073709551616) c (by omega) (by omega) (by omega) (by omega) (by omega)
      rw [← hn] at hz
      have hq : 0 ≤ n / c := Int.ediv_nonneg h0 (by omega)
      refine Ev.congr (f := fun k => (bits_Div64.f k (a / 4) (n % 18446744073709551616) c).bind fun bt116 => some (wrap64 (mn bt116.1 9223372036854775807))) (fun k => if_neg ht) ?_
      refine Ev.bind hz ⟨0, fun k _ => ?_⟩
      show some (wrap64 (mn (n / c) 9223372036854775807)) = _
      unfold mean
      rw [if_neg hc, mn_eq, w64_id (by omega) (by omega)]
/-! ### The document's mean, bit by bit -/
theorem pow_split (k : Nat) : (2 : Int) ^ (k + 1) = 2 * 2 ^ k := by rw [Int.pow_succ]; omega
/-! ### The laws -/
theorem drop_total (l : List Int) (i : Nat) (h : i < l.length) : total (l.drop i) = cl l[i] + total (l.drop (i + 1)) := by
  rw [List.drop_eq_getElem_cons h]; simp only [total, List.map_cons, List.sum_cons]

end Go.Proofs.Ytnpelpnndkifmaa.Pure
