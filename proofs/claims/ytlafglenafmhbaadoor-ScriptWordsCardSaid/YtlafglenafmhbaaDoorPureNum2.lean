/- The program's Number and the document's answer alike. -/
import Derived.Test.YtlafglenafmhbaaDoorPureNum
namespace Go.Proofs.YtlafglenafmhbaaDoor.Pure
open Go.RowKit Go.Proofs.YtlafglenafmhbaaDoor.PSc Go.Proofs.YtlafglenafmhbaaDoorW.PrintWords Go.Proofs.YtlafglenafmhbaaDoorW.PrintLast Go.Proofs.YtlafglenafmhbaaDoorW.PrintMore
set_option linter.unusedVariables false
theorem runN_pos : ∀ (n u : Nat) (r : List Int), u ≤ n → (u : Int) ≤ 9223372036854775807 → runN 0 (DD u ++ r) 0 = runN 0 r (u : Int) := by
  intro n
  induction n with
  | zero =>
    intro u r hu hm
    rw [show u = 0 by omega, DD_small (by omega)]
    show runN 0 ((48 + ((0 : Nat) : Int)) :: r) 0 = _
    conv => lhs; unfold runN
    rw [if_neg (by omega), show stp 0 0 (48 + ((0 : Nat) : Int)) = ((0 : Nat) : Int) by decide +kernel]
  | succ n ih =>
    intro u r hu hm
    by_cases h : u < 10
    · rw [DD_small h]
      show runN 0 ((48 + (u : Int)) :: r) 0 = _
      conv => lhs; unfold runN
      rw [if_neg (by omega)]
      congr 1
      unfold stp
      rw [if_neg (by omega), w64_id (n := 48 + (u : Int)) (by omega) (by omega), w64_id (n := 48 + (u : Int) - 48) (by omega) (by omega), w64_id (n := 0 * 10) (by omega) (by omega), w64_id (by omega) (by omega)]
      omega
    · rw [DD_big h, List.append_assoc, ih (u / 10) _ (by omega) (by omega)]
      show runN 0 ((48 + ((u % 10 : Nat) : Int)) :: r) _ = _
      conv => lhs; unfold runN
      rw [if_neg (by omega)]
      congr 1
      unfold stp
      rw [if_neg (by omega), w64_id (n := 48 + ((u % 10 : Nat) : Int)) (by omega) (by omega), w64_id (n := 48 + ((u % 10 : Nat) : Int) - 48) (by omega) (by omega), w64_id (n := ((u / 10 : Nat) : Int) * 10) (by omega) (by omega), w64_id (by omega) (by omega)]
      omega
theorem runN_neg : ∀ (n u : Nat) (r : List Int), u ≤ n → (u : Int) ≤ 9223372036854775808 → runN 1 (DD u ++ r) 0 = runN 1 r (-(u : Int)) := by
  intro n
  induction n with
  | zero =>
    intro u r hu hm
    rw [show u = 0 by omega, DD_small (by omega)]
    show runN 1 ((48 + ((0 : Nat) : Int)) :: r) 0 = _
    conv => lhs; unfold runN
    rw [if_neg (by omega), show stp 1 0 (48 + ((0 : Nat) : Int)) = -((0 : Nat) : Int) by decide +kernel]
  | succ n ih =>
    intro u r hu hm
    by_cases h : u < 10
    · rw [DD_small h]
      show runN 1 ((48 + (u : Int)) :: r) 0 = _
      conv => lhs; unfold runN
      rw [if_neg (by omega)]
      congr 1
      unfold stp
      rw [if_pos rfl, w64_id (n := 48 + (u : Int)) (by omega) (by omega), w64_id (n := 48 + (u : Int) - 48) (by omega) (by omega), w64_id (n := 0 * 10) (by omega) (by omega), w64_id (by omega) (by omega)]
      omega
    · rw [DD_big h, List.append_assoc, ih (u / 10) _ (by omega) (by omega)]
      show runN 1 ((48 + ((u % 10 : Nat) : Int)) :: r) _ = _
      conv => lhs; unfold runN
      rw [if_neg (by omega)]
      congr 1
      unfold stp
      rw [if_pos rfl, w64_id (n := 48 + ((u % 10 : Nat) : Int)) (by omega) (by omega), w64_id (n := 48 + ((u % 10 : Nat) : Int) - 48) (by omega) (by omega), w64_id (n := -((u / 10 : Nat) : Int) * 10) (by omega) (by omega), w64_id (by omega) (by omega)]
      omega
theorem parse_digits : ∀ (n u : Nat) (r : List UInt8), u ≤ n → (u : Int) ≤ 9223372036854775808 → Lib.parseUint10 0 (Lib.decDigits u ++ r) = Lib.parseUint10 u r := by
  intro n
  induction n with
  | zero =>
    intro u r hu hm
    rw [show u = 0 by omega, Lib.decDigits_one (by omega)]
    rfl
  | succ n ih =>
    intro u r hu hm
    have step : ∀ (a d : Nat), d < 10 → (a : Int) ≤ 922337203685477580 → Lib.parseUint10 a (UInt8.ofNat (48 + d) :: r) = Lib.parseUint10 (a * 10 + d) r := by
      intro a d hd ha
      have e : (UInt8.ofNat (48 + d)).toNat = 48 + d := by rw [UInt8.toNat_ofNat']; omega
      conv => lhs; unfold Lib.parseUint10
      rw [e, if_pos (by omega), if_neg (by omega), if_neg (by omega), show 48 + d - 48 = d by omega]
    by_cases h : u < 10
    · rw [Lib.decDigits_one h]
      show Lib.parseUint10 0 (UInt8.ofNat (48 + u) :: r) = _
      rw [step 0 u h (by omega)]
      congr 1; omega
    · conv => lhs; rw [Lib.decDigits, dif_neg h]
      rw [List.append_assoc, ih (u / 10) _ (by omega) (by omega)]
      show Lib.parseUint10 (u / 10) (UInt8.ofNat (48 + u % 10) :: r) = _
      rw [step (u / 10) (u % 10) (by omega) (by omega)]
      congr 1; omega
theorem digits_head : ∀ (n u : Nat), u ≤ n → ∃ c r, Lib.decDigits u = c :: r ∧ 48 ≤ c.toNat ∧ c.toNat ≤ 57 := by
  intro n
  induction n with
  | zero => intro u hu; rw [show u = 0 by omega]; exact ⟨48, [], Lib.decDigits_one (by omega), by decide, by decide⟩
  | succ n ih =>
    intro u hu
    by_cases h : u < 10
    · refine ⟨UInt8.ofNat (48 + u), [], Lib.decDigits_one h, ?_, ?_⟩
      · rw [UInt8.toNat_ofNat']; omega
      · rw [UInt8.toNat_ofNat']; omega
    · obtain ⟨c, r, e, h0, h1⟩ := ih (u / 10) (by omega)
      refine ⟨c, r ++ [UInt8.ofNat (48 + u % 10)], ?_, h0, h1⟩
      rw [Lib.decDigits, dif_neg h, e]; rfl
theorem digits_len : ∀ (d u : Nat), u < 10 ^ (d + 1) → (Lib.decDigits u).length ≤ d + 1 := by
  intro d
  induction d with
  | zero =>
    intro u h
    rw [Lib.decDigits_one (by simpa using h)]; simp
  | succ d ih =>
    intro u h
    by_cases h' : u < 10
    · rw [Lib.decDigits_one h']; simp
    · rw [Lib.decDigits, dif_neg h']
      have := ih (u / 10) (by rw [Nat.pow_succ] at h; omega)
      simp only [List.length_append, List.length_cons, List.length_nil]; omega
theorem mag_digits (u : Nat) (hm : (u : Int) ≤ 9223372036854775808) : Lib.parseMag (Lib.decDigits u) = .ok u := by
  obtain ⟨c, r, e, h0, h1⟩ := digits_head u u (Nat.le_refl _)
  unfold Lib.parseMag
  rw [if_neg (by rw [e]; exact List.cons_ne_nil _ _)]
  have := parse_digits u u [] (Nat.le_refl _) hm
  rw [List.append_nil] at this
  rw [this]; rfl
theorem atoi_cons (c : UInt8) (r : List UInt8) (u : Nat) (hp : Lib.parseMag (if c.toNat = 43 ∨ c.toNat = 45 then r else c :: r) = .ok u) (h1 : ¬ (¬ c.toNat = 45 ∧ 9223372036854775808 ≤ u)) (h2 : ¬ (c.toNat = 45 ∧ 9223372036854775808 < u)) :
    Lib.atoiAll (c :: r) = .ok (if c.toNat = 45 then -(u : Int) else u) := by
  simp only [Lib.atoiAll]
  rw [hp]
  simp only []
  rw [if_neg h1, if_neg h2]
/-- A number's words are read back, by both. -/
theorem atoi_itoa (n : Int) (h0 : -9223372036854775808 ≤ n) (h1 : n ≤ 9223372036854775807) : Lib.atoiAll (Lib.itoa n) = .ok n := by
  unfold Lib.itoa
  by_cases h : n < 0
  · rw [if_pos h, atoi_cons 45 (Lib.decDigits n.natAbs) n.natAbs (by rw [if_pos (by decide), mag_digits _ (by omega)]) (fun hh => hh.1 (by decide)) (fun hh => by have := hh.2; omega), if_pos (by decide)]
    congr 1; omega
  · rw [if_neg h]
    obtain ⟨c, r, e, hc0, hc1⟩ := digits_head n.toNat n.toNat (Nat.le_refl _)
    have hm := mag_digits n.toNat (by omega)
    rw [e] at hm ⊢
    rw [atoi_cons c r n.toNat (by rw [if_neg (by omega), hm]) (fun hh => by have := hh.2; omega) (fun hh => by have := hh.1; omega), if_neg (by omega)]
    congr 1; omega
theorem itoa_size (n : Int) (h0 : -9223372036854775808 ≤ n) (h1 : n ≤ 9223372036854775807) : (Lib.itoa n).length ≤ 20 := by
  have h := digits_len 18 n.natAbs (by show n.natAbs < 10000000000000000000; omega)
  have h' := digits_len 18 n.toNat (by show n.toNat < 10000000000000000000; omega)
  unfold Lib.itoa
  split
  · simp only [List.length_cons]; omega
  · omega
theorem sgn_DD_byt (n : Int) : bytesOf (⟨(Lib.itoa n).toArray⟩ : ByteArray) = sgn n ++ DD n.natAbs := by
  unfold bytesOf sgn DD Lib.itoa
  by_cases h : n < 0
  · rw [if_pos h, if_pos h]; rfl
  · rw [if_neg h, if_neg h, show n.toNat = n.natAbs by omega]; rfl
/-- Of a number's own words. -/
theorem rn_itoa (n : Int) (h0 : -9223372036854775808 ≤ n) (h1 : n ≤ 9223372036854775807) : rn (⟨(Lib.itoa n).toArray⟩ : ByteArray) = (n, true) := by
  have hsz : (⟨(Lib.itoa n).toArray⟩ : ByteArray).size = (Lib.itoa n).length := by show (Lib.itoa n).toArray.size = _; simp
  have hlen := itoa_size n h0 h1
  have hb := sgn_DD_byt n
  obtain ⟨c, r, e, hc0, hc1⟩ := digits_head n.natAbs n.natAbs (Nat.le_refl _)
  have hD : DD n.natAbs = (c.toNat : Int) :: r.map (fun b => (b.toNat : Int)) := by unfold DD; rw [e]; rfl
  have hpos : 0 < (bytesOf (⟨(Lib.itoa n).toArray⟩ : ByteArray)).length := by rw [hb, hD]; simp; omega
  have hne : (⟨(Lib.itoa n).toArray⟩ : ByteArray).toList ≠ [] := by
    intro h
    rw [ByteArray.toList_eq] at h
    unfold bytesOf at hpos
    rw [h] at hpos
    simp at hpos
  have hat := bytes_at _ 0 hpos
  unfold rn
  rw [if_neg (by omega)]
  by_cases h : n < 0
  · have hs : sgn n = [45] := by unfold sgn; rw [if_pos h]
    rw [hs] at hb
    have h45 : bt (⟨(Lib.itoa n).toArray⟩ : ByteArray) 0 = 45 := by
      rw [show (0 : Int) = ((0 : Nat) : Int) from rfl, hat]; simp only [hb]; rfl
    rw [if_pos ⟨hne, h45⟩, hb]
    show fn _ (runN 1 (DD n.natAbs) 0) = _
    have := runN_neg n.natAbs n.natAbs [] (Nat.le_refl _) (by omega)
    rw [List.append_nil] at this
    rw [this]
    show (if _ = _ then _ else _) = _
    rw [show -(n.natAbs : Int) = n by omega, if_pos rfl]
  · have hs : sgn n = [] := by unfold sgn; rw [if_neg h]
    rw [hs, List.nil_append] at hb
    have h45 : bt (⟨(Lib.itoa n).toArray⟩ : ByteArray) 0 = (c.toNat : Int) := by
      rw [show (0 : Int) = ((0 : Nat) : Int) from rfl, hat]; simp only [hb, hD]; rfl
    rw [if_neg (fun hh => by rw [h45] at hh; omega), hb]
    have := runN_pos n.natAbs n.natAbs [] (Nat.le_refl _) (by omega)
    rw [List.append_nil] at this
    rw [this]
    show (if _ = _ then _ else _) = _
    rw [show ((n.natAbs : Nat) : Int) = n by omega, if_pos rfl]
theorem runN_range (neg : Int) : ∀ (l : List Int) (m r : Int), -9223372036854775808 ≤ m ∧ m ≤ 9223372036854775807 → runN neg l m = some r → -9223372036854775808 ≤ r ∧ r ≤ 9223372036854775807
  | [], m, r, h, e => by unfold runN at e; injection e with e; omega
  | c :: l, m, r, h, e => by
    unfold runN at e
    split at e
    · cases e
    · exact runN_range neg l _ r (stp_range neg m c) e
theorem fn_none {s : ByteArray} (hno : ∀ n : Int, -9223372036854775808 ≤ n → n ≤ 9223372036854775807 → (⟨(Lib.itoa n).toArray⟩ : ByteArray) ≠ s) (o : Option Int) (ho : ∀ r, o = some r → -9223372036854775808 ≤ r ∧ r ≤ 9223372036854775807) : fn s o = (0, false) := by
  cases o with
  | none => rfl
  | some m =>
    have := ho m rfl
    show (if _ = s then _ else _) = _
    rw [if_neg (hno m this.1 this.2)]
/-- The two Numbers are one. -/
theorem rn_eq (s : ByteArray) : rn s = numberOf s := by
  by_cases h : ∃ n : Int, -9223372036854775808 ≤ n ∧ n ≤ 9223372036854775807 ∧ (⟨(Lib.itoa n).toArray⟩ : ByteArray) = s
  · obtain ⟨n, h0, h1, rfl⟩ := h
    rw [rn_itoa n h0 h1]
    unfold numberOf atoiOf
    rw [show (⟨(Lib.itoa n).toArray⟩ : ByteArray).data.toList = Lib.itoa n from rfl, atoi_itoa n h0 h1]
    show _ = if _ then _ else _
    rw [if_pos (by rw [ByteArray.toList_eq])]
  · have hno : ∀ n : Int, -9223372036854775808 ≤ n → n ≤ 9223372036854775807 → (⟨(Lib.itoa n).toArray⟩ : ByteArray) ≠ s := fun n h0 h1 e => h ⟨n, h0, h1, e⟩
    have hr : rn s = (0, false) := by
      unfold rn
      split
      · exact fn_none hno _ (fun r e => by injection e with e; omega)
      · split
        · exact fn_none hno _ (fun r e => runN_range _ _ _ r (by omega) e)
        · exact fn_none hno _ (fun r e => runN_range _ _ _ r (by omega) e)
    rw [hr]
    unfold numberOf
    cases ha : atoiOf s with
    | none => rfl
    | some n =>
      have hn := atoiOf_range ha
      have hne := hno n hn.1 hn.2
      show _ = if _ then _ else _
      rw [if_neg]
      intro e
      exact hne (arr_ext (by rw [← ByteArray.toList_eq s, ← e]))
theorem rnum_is (s : ByteArray) : Ev (fun k => gossamerref43_Number.f k s) (numberOf s) := by rw [← rn_eq]; exact rnum_f s
end Go.Proofs.YtlafglenafmhbaaDoor.Pure
