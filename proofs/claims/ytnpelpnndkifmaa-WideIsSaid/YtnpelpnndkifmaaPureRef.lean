/- What the reference's functions of layer 4 come to: the same numbers; no condition. -/
import Derived.Test.YtnpelpnndkifmaaPureBase
import Derived.Test.YtnpelpnndkifmaaPRefx3
namespace Go.Proofs.Ytnpelpnndkifmaa.Pure
open Go.RowKit Go.Proofs.Ytnpelpnndkifmaa.PAll Go.Proofs.Ytnpelpnndkifmaa.PRef Go.Proofs.YtnpelpnndkifmaaW.PrintWords Go.Proofs.YtnpelpnndkifmaaW.PrintLast Go.Proofs.YtnpelpnndkifmaaW.PrintMore
set_option linter.unusedVariables false
theorem refMay_f (H L : Int) : gossamerref04_May.f H L = some (decide (ok H L)) := May_f H L
theorem refright_f (H L : Int) : gossamerref04_right.f H L = some (enc (val H L)) := right_f H L
theorem refClamp_f (d : Int) : Ev (fun k => gossamerref03_Clamp.f k d 0 4611686018427387904) (cl d) := by
  refine ⟨1, fun k hk => ?_⟩
  obtain ⟨k, rfl⟩ : ∃ m, k = m + 1 := ⟨k - 1, by omega⟩
  show gossamerref03_Clamp.f (k + 1) d 0 4611686018427387904 = _
  unfold gossamerref03_Clamp.f
  rw [if_neg (by omega)]
  simp only [gossamerref03_Clamp.j0]
  by_cases h : d < 0
  · rw [if_pos (by simpa using h)]; congr 1; unfold cl; omega
  · rw [if_neg (by simpa using h)]
    by_cases h2 : d > 4611686018427387904
    · rw [if_pos h2]; congr 1; unfold cl; omega
    · rw [if_neg h2]; congr 1; unfold cl; omega
theorem refLess_f (H L H' L' : Int) : gossamerref04_Less.f H L H' L' = some (decide (val H L < val H' L')) := by
  unfold gossamerref04_Less.f
  rw [refright_f, Option.bind_some, refright_f, Option.bind_some]
  obtain ⟨h0, h1⟩ := val_range H L
  obtain ⟨k0, k1⟩ := val_range H' L'
  generalize val H L = n at *
  generalize val H' L' = m at *
  unfold enc
  simp only
  split
  · rw [Option.some.injEq, decide_eq_decide]; omega
  · rw [Option.some.injEq, decide_eq_decide]; omega
theorem refAdd_f (H L d : Int) : Ev (fun k => gossamerref04_Add.f k H L d) (enc (min (val H L + cl d) top)) := by
  obtain ⟨K, hK⟩ := refClamp_f d
  refine ⟨K, fun k hk => ?_⟩
  have hc := hK k hk
  simp only at hc
  show gossamerref04_Add.f k H L d = _
  unfold gossamerref04_Add.f
  rw [refright_f, Option.bind_some, hc, Option.bind_some]
  clear hc hK
  obtain ⟨h0, h1⟩ := val_range H L
  obtain ⟨c0, c1⟩ := cl_range d
  generalize val H L = n at *
  generalize cl d = c at *
  have e := ok_enc n h0 h1
  have en := num_enc n
  generalize hp : enc n = p at *
  obtain ⟨a, b⟩ := p
  simp only at e en ⊢
  unfold ok at e
  unfold num at en
  rw [w64_id (n := a + 1) (by omega) (by omega), w64_id (n := 4611686018427387904 - c) (by omega) (by omega)]
  unfold enc top
  unfold top at h1
  by_cases g : c = 4611686018427387904
  · rw [if_pos g]
    split
    · exact some_pair (by omega) (by omega)
    · exact some_pair (by omega) (by omega)
  · rw [if_neg g]
    by_cases g2 : b ≥ 4611686018427387904 - c
    · rw [if_pos g2, w64_id (n := b - (4611686018427387904 - c)) (by omega) (by omega)]
      split
      · exact some_pair (by omega) (by omega)
      · exact some_pair (by omega) (by omega)
    · rw [if_neg g2, if_neg (by omega), w64_id (n := b + c) (by omega) (by omega)]
      exact some_pair (by omega) (by omega)
theorem refSub_f (H L d : Int) : Ev (fun k => gossamerref04_Sub.f k H L d) (enc (max (val H L - cl d) 0)) := by
  obtain ⟨K, hK⟩ := refClamp_f d
  refine ⟨K, fun k hk => ?_⟩
  have hc := hK k hk
  simp only at hc
  show gossamerref04_Sub.f k H L d = _
  unfold gossamerref04_Sub.f
  rw [refright_f, Option.bind_some, hc, Option.bind_some]
  clear hc hK
  obtain ⟨h0, h1⟩ := val_range H L
  obtain ⟨c0, c1⟩ := cl_range d
  generalize val H L = n at *
  generalize cl d = c at *
  have e := ok_enc n h0 h1
  have en := num_enc n
  generalize hp : enc n = p at *
  obtain ⟨a, b⟩ := p
  simp only at e en ⊢
  unfold ok at e
  unfold num at en
  rw [w64_id (n := a - 1) (by omega) (by omega), w64_id (n := c - b) (by omega) (by omega)]
  unfold enc
  unfold top at h1
  by_cases g : c = 4611686018427387904
  · rw [if_pos g]
    split
    · exact some_pair (by omega) (by omega)
    · exact some_pair (by omega) (by omega)
  · rw [if_neg g]
    by_cases g2 : b < c
    · rw [if_pos g2, w64_id (n := 4611686018427387904 - (c - b)) (by omega) (by omega)]
      split
      · exact some_pair (by omega) (by omega)
      · exact some_pair (by omega) (by omega)
    · rw [if_neg g2, if_neg (by omega), w64_id (n := b - c) (by omega) (by omega)]
      exact some_pair (by omega) (by omega)
theorem refOf_l0 (l : List Int) (hl : l.length ≤ 140737488351232) : ∀ (j i : Nat) (n : Int), l.length - i = j → i ≤ l.length → 0 ≤ n → n ≤ top →
    Ev (fun k => gossamerref04_Of.l0 k l (i : Int) (enc n).1 (enc n).2) (enc (satAdd n (l.drop i)))
  | 0, i, n, hj, hi, h0, h1 => by
    refine Ev.step (f := fun _ => some (enc n)) (fun k => ?_) ?_
    · simp only [gossamerref04_Of.l0]; rw [if_neg (by omega)]
    · rw [List.drop_eq_nil_of_le (by omega)]; exact Ev.now _
  | j + 1, i, n, hj, hi, h0, h1 => by
    have hlt : i < l.length := by omega
    have ha := refAdd_f (enc n).1 (enc n).2 l[i]
    rw [val_enc n h0 h1] at ha
    refine Ev.step (f := fun k => (gossamerref04_Add.f k (enc n).1 (enc n).2 l[i]).bind fun p => gossamerref04_Of.l0 k l ((i + 1 : Nat) : Int) p.1 p.2) (fun k => ?_) ?_
    · simp only [gossamerref04_Of.l0]; rw [if_pos (by omega), if_pos (by omega), rd_at l i hlt, w64_id (by omega) (by omega)]; rfl
    · refine Ev.bind ha ?_
      rw [List.drop_eq_getElem_cons hlt]
      have := (cl_range l[i]).1
      exact refOf_l0 l hl j (i + 1) (min (n + cl l[i]) top) (by omega) (by omega) (by unfold top; omega) (by omega)
theorem refOf_f (l : List Int) (hl : l.length ≤ 140737488351232) : Ev (fun k => gossamerref04_Of.f k l) (enc (satAdd 0 l)) := by
  have := refOf_l0 l hl l.length 0 0 rfl (by omega) (by omega) (by unfold top; omega)
  exact this
theorem bit_f (n : Int) (h0 : 0 ≤ n) (h1 : n ≤ top) (k : Nat) (hk : k ≤ 95) : gossamerref04_bit.f (enc n).1 (enc n).2 (k : Int) = some (n / 2 ^ k % 2) := by
  have e := ok_enc n h0 h1
  have en := num_enc n
  generalize hp : enc n = p at *
  obtain ⟨a, b⟩ := p
  simp only at e en
  unfold ok at e
  unfold num at en
  have hbits : IntKind.u64.bits = 64 := rfl
  unfold gossamerref04_bit.f
  by_cases hlt : (k : Int) < 62
  · rw [if_pos hlt, if_pos (by omega), u64_id (n := b) (by omega) (by omega)]
    unfold shr
    rw [Int.toNat_natCast, Nat.min_eq_left (by rw [hbits]; omega)]
    have hp0 : (0 : Int) < 2 ^ k := Int.pow_pos (by decide)
    have hq : 0 ≤ b / 2 ^ k := Int.ediv_nonneg (by omega) (by omega)
    rw [Int.tmod_eq_emod_of_nonneg hq]
    congr 1
    obtain ⟨j, hj⟩ : ∃ j, 62 = k + 1 + j := ⟨61 - k, by omega⟩
    have hsp : (4611686018427387904 : Int) = 2 ^ k * (2 * 2 ^ j) := by
      rw [← pow_split, ← Int.pow_add, show k + (j + 1) = 62 from by omega]; rfl
    rw [← en, hsp, Int.mul_left_comm a, Int.add_comm (2 ^ k * _) b, Int.add_mul_ediv_left _ _ (by omega)]
    generalize b / 2 ^ k = x
    rw [Int.mul_left_comm a 2]
    generalize a * 2 ^ j = y
    omega
  · obtain ⟨j, rfl⟩ : ∃ j, k = 62 + j := ⟨k - 62, by omega⟩
    rw [if_neg hlt, w64_id (by omega) (by omega), if_pos (by omega), u64_id (n := a) (by omega) (by omega)]
    unfold shr
    rw [show ((62 + j : Nat) : Int) - 62 = (j : Int) from by omega, Int.toNat_natCast, Nat.min_eq_left (by rw [hbits]; omega)]
    have hp0 : (0 : Int) < 2 ^ j := Int.pow_pos (by decide)
    have hq : 0 ≤ a / 2 ^ j := Int.ediv_nonneg (by omega) (by omega)
    rw [Int.tmod_eq_emod_of_nonneg hq]
    congr 2
    rw [Int.pow_add, ← Int.ediv_ediv_of_nonneg (by decide)]
    congr 1
    have : (2 : Int) ^ 62 = 4611686018427387904 := by decide
    rw [this]; omega
theorem refMean_l0 (n c : Int) (h0 : 0 ≤ n) (h1 : n ≤ top) (c0 : 1 ≤ c) (c1 : c ≤ 9223372036854775807) : ∀ (j : Nat) (rest mean' : Int), j ≤ 96 → 0 ≤ rest → rest < c → 0 ≤ mean' → mean' ≤ 9223372036854775807 → n / 2 ^ j = mean' * c + rest →
    Ev (fun k => gossamerref04_Mean.l0 k c rest mean' ((j : Int) - 1) (enc n).1 (enc n).2) (mean n c)
  | 0, rest, m, hj, r0, r1, m0, m1, he => by
    refine Ev.step (f := fun _ => some (wrap64 m)) (fun k => ?_) ⟨0, fun k _ => ?_⟩
    · simp only [gossamerref04_Mean.l0]; rw [if_neg (by omega)]
    · have hm : n / c = m := by
        have hn : n = rest + m * c := by simpa [Int.add_comm] using he
        rw [hn, Int.add_mul_ediv_right _ _ (by omega), Int.ediv_eq_zero_of_lt r0 r1]; omega
      unfold mean
      rw [if_neg (by omega), hm, w64_id (by omega) (by omega)]
      exact congrArg some (by omega)
  | j + 1, rest, m, hj, r0, r1, m0, m1, he => by
    have hb := bit_f n h0 h1 j (by omega)
    have hsplit : n / 2 ^ j = 2 * (n / 2 ^ (j + 1)) + n / 2 ^ j % 2 := by
      have hp0 : (0 : Int) < 2 ^ j := Int.pow_pos (by decide)
      rw [pow_split, Int.mul_comm 2 (2 ^ j), ← Int.ediv_ediv_of_nonneg (Int.le_of_lt hp0)]
      omega
    have hbit : 0 ≤ n / 2 ^ j % 2 ∧ n / 2 ^ j % 2 ≤ 1 := by omega
    have hq : ((j + 1 : Nat) : Int) - 1 = (j : Int) := by omega
    rw [hq]
    rw [he] at hsplit
    by_cases hbig : m ≥ 4611686018427387904
    · refine Ev.step (f := fun _ => some 9223372036854775807) (fun k => ?_) ⟨0, fun k _ => ?_⟩
      · simp only [gossamerref04_Mean.l0]; rw [if_pos (by omega), hb, Option.bind_some, if_pos hbig]
      · unfold mean
        rw [if_neg (by omega)]
        have : 9223372036854775807 ≤ n / c := by
          rw [Int.le_ediv_iff_mul_le (by omega)]
          have hp1 : (2 : Int) ≤ 2 ^ (j + 1) := by have : (0 : Int) < 2 ^ j := Int.pow_pos (by decide); rw [pow_split]; omega
          have hle : n / 2 ^ (j + 1) * 2 ^ (j + 1) ≤ n := Int.ediv_mul_le _ (by omega)
          have hx : n / 2 ^ (j + 1) * 2 ≤ n / 2 ^ (j + 1) * 2 ^ (j + 1) := Int.mul_le_mul_of_nonneg_left hp1 (Int.ediv_nonneg h0 (by omega))
          rw [he] at hle hx
          have hmc : 4611686018427387904 * c ≤ m * c := Int.mul_le_mul_of_nonneg_right hbig (by omega)
          generalize m * c = t at *
          omega
        exact congrArg some (by omega)
    · by_cases hge : rest * 2 + n / 2 ^ j % 2 ≥ c
      · refine Ev.step (f := fun k => gossamerref04_Mean.l0 k c (rest * 2 + n / 2 ^ j % 2 - c) (m * 2 + 1) ((j : Int) - 1) (enc n).1 (enc n).2) (fun k => ?_) (refMean_l0 n c h0 h1 c0 c1 j _ _ (by omega) (by omega) (by omega) (by omega) (by omega) ?_)
        · simp only [gossamerref04_Mean.l0]
          rw [if_pos (by omega), hb, Option.bind_some, if_neg hbig, u64_id (n := rest * 2) (by omega) (by omega), u64_id (n := rest * 2 + n / 2 ^ j % 2) (by omega) (by omega), u64_id (n := c) (by omega) (by omega), if_pos hge, u64_id (n := rest * 2 + n / 2 ^ j % 2 - c) (by omega) (by omega), u64_id (n := m * 2) (by omega) (by omega), u64_id (n := m * 2 + 1) (by omega) (by omega), w64_id (by omega) (by omega)]
        · rw [hsplit, Int.add_mul, Int.mul_right_comm m 2 c]
          generalize m * c = t at *
          omega
      · refine Ev.step (f := fun k => gossamerref04_Mean.l0 k c (rest * 2 + n / 2 ^ j % 2) (m * 2) ((j : Int) - 1) (enc n).1 (enc n).2) (fun k => ?_) (refMean_l0 n c h0 h1 c0 c1 j _ _ (by omega) (by omega) (by omega) (by omega) (by omega) ?_)
        · simp only [gossamerref04_Mean.l0]
          rw [if_pos (by omega), hb, Option.bind_some, if_neg hbig, u64_id (n := rest * 2) (by omega) (by omega), u64_id (n := rest * 2 + n / 2 ^ j % 2) (by omega) (by omega), u64_id (n := c) (by omega) (by omega), if_neg hge, u64_id (n := m * 2) (by omega) (by omega), w64_id (by omega) (by omega)]
        · rw [hsplit, Int.mul_right_comm m 2 c]
          generalize m * c = t at *
          omega
theorem refMean_f (H L c : Int) (c1 : c ≤ 9223372036854775807) : Ev (fun k => gossamerref04_Mean.f k H L c) (mean (val H L) c) := by
  obtain ⟨h0, h1⟩ := val_range H L
  by_cases hc : c < 1
  · refine ⟨0, fun k _ => ?_⟩
    show gossamerref04_Mean.f k H L c = _
    unfold gossamerref04_Mean.f mean
    rw [refright_f, Option.bind_some, if_pos hc, if_pos hc]
  · refine Ev.congr (f := fun k => gossamerref04_Mean.l0 k c 0 0 (((96 : Nat) : Int) - 1) (enc (val H L)).1 (enc (val H L)).2) (fun k => ?_) (refMean_l0 (val H L) c h0 h1 (by omega) c1 96 0 0 (by omega) (by omega) (by omega) (by omega) (by omega) ?_)
    · show gossamerref04_Mean.f k H L c = _
      unfold gossamerref04_Mean.f
      rw [refright_f, Option.bind_some, if_neg hc]; rfl
    · unfold top at h1
      have : (2 : Int) ^ 96 = 79228162514264337593543950336 := by decide
      rw [this]; omega

end Go.Proofs.Ytnpelpnndkifmaa.Pure
