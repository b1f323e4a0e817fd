/- The numbers of words: the program's and the document's are the same; no condition but a bound on the length. -/
import Derived.Test.YtlafglenafmhbaaDoorPureHex
import Derived.Test.YtlafglenafmhbaaDoorNum
namespace Go.Proofs.YtlafglenafmhbaaDoor.Pure
open Go.RowKit Go.Proofs.YtlafglenafmhbaaDoor.PSc Go.Proofs.YtlafglenafmhbaaDoorW.PrintWords Go.Proofs.YtlafglenafmhbaaDoorW.PrintLast Go.Proofs.YtlafglenafmhbaaDoorW.PrintMore
set_option linter.unusedVariables false
/-- The decimal digits, as numbers. -/
def DD (u : Nat) : List Int := (Lib.decDigits u).map fun b => (b.toNat : Int)
theorem DD_small {u : Nat} (h : u < 10) : DD u = [48 + (u : Int)] := by
  unfold DD
  rw [Lib.decDigits_one h]
  simp only [List.map_cons, List.map_nil, UInt8.toNat_ofNat']
  congr 1; omega
theorem DD_big {u : Nat} (h : ¬ u < 10) : DD u = DD (u / 10) ++ [48 + ((u % 10 : Nat) : Int)] := by
  unfold DD
  conv => lhs; rw [Lib.decDigits, dif_neg h]
  rw [List.map_append]
  congr 1
  simp only [List.map_cons, List.map_nil, UInt8.toNat_ofNat']
  congr 1; omega
def sgn (n : Int) : List Int := if n < 0 then [45] else []
theorem itoa_son (n : Int) : (⟨(Lib.itoa n).toArray⟩ : ByteArray) = strOfNums (sgn n ++ DD n.natAbs) := by
  refine arr_ext ?_
  rw [strOfNums_data]
  have key : ∀ u : Nat, (DD u).map (fun n => UInt8.ofNat n.toNat) = Lib.decDigits u := by
    intro u
    unfold DD
    rw [List.map_map]
    conv => rhs; rw [← List.map_id (Lib.decDigits u)]
    refine List.map_congr_left fun b _ => ?_
    simp
  unfold sgn Lib.itoa
  by_cases h : n < 0
  · rw [if_pos h, if_pos h, List.map_append, key]; rfl
  · rw [if_neg h, if_neg h, List.nil_append, key]
    have : n.toNat = n.natAbs := by omega
    rw [this]
theorem dig10 (d : Int) (h0 : 0 ≤ d) (h1 : d < (10 : Nat)) : bt (⟨#[48, 49, 50, 51, 52, 53, 54, 55, 56, 57]⟩ : ByteArray) d = 48 + d :=
  of_fin (n := 10) (P := fun d => bt (⟨#[48, 49, 50, 51, 52, 53, 54, 55, 56, 57]⟩ : ByteArray) d = 48 + d) (by decide +kernel) d h0 h1
theorem tm10 (x : Int) : (0 ≤ x → Int.tmod x 10 = ((x.natAbs % 10 : Nat) : Int)) ∧ (x < 0 → Int.tmod x 10 = -((x.natAbs % 10 : Nat) : Int)) := by
  constructor
  · intro h; rw [Int.tmod_eq_emod_of_nonneg h]; omega
  · intro h
    have e : x = -(-x) := by omega
    rw [e, Int.neg_tmod, Int.tmod_eq_emod_of_nonneg (by omega)]
    omega
theorem td10 (x : Int) : (0 ≤ x → Int.tdiv x 10 = ((x.natAbs / 10 : Nat) : Int)) ∧ (x < 0 → Int.tdiv x 10 = -((x.natAbs / 10 : Nat) : Int)) := by
  constructor
  · intro h; rw [Int.tdiv_eq_ediv_of_nonneg h]; omega
  · intro h
    have e : x = -(-x) := by omega
    rw [e, Int.neg_tdiv, Int.tdiv_eq_ediv_of_nonneg (by omega)]
    omega
theorem son_cons (a : Int) (xs : List Int) : strOfNums [a] ++ strOfNums xs = strOfNums (a :: xs) := by rw [son_append]; rfl
theorem dec_step (x0 x : Int) (out : List Int) (hx0 : -9223372036854775808 ≤ x) (hx1 : x ≤ 9223372036854775807) (hl : out.length ≤ 1000) (k : Nat) :
    gossamerref43_Dec.l0 (k + 1) x0 (strOfNums out) x = if x.natAbs / 10 = 0 then some (strOfNums (sgn x0 ++ (48 + ((x.natAbs % 10 : Nat) : Int)) :: out)) else gossamerref43_Dec.l0 k x0 (strOfNums ((48 + ((x.natAbs % 10 : Nat) : Int)) :: out)) (Int.tdiv x 10) := by
  have h10 := dig10 ((x.natAbs % 10 : Nat) : Int) (by omega) (by omega)
  have hw : wrap64 (Int.tdiv x 10) = Int.tdiv x 10 := by
    rcases Int.lt_or_le x 0 with h | h
    · rw [(td10 x).2 h, w64_id (by omega) (by omega)]
    · rw [(td10 x).1 h, w64_id (by omega) (by omega)]
  have hz : (Int.tdiv x 10 = 0) = (x.natAbs / 10 = 0) := by
    apply propext
    rcases Int.lt_or_le x 0 with h | h
    · rw [(td10 x).2 h]; omega
    · rw [(td10 x).1 h]; omega
  have hfin : (if x0 < 0 then (if 1 + (strOfNums ((48 + ((x.natAbs % 10 : Nat) : Int)) :: out)).size ≤ 9223372036854775807 then some ((⟨#[45]⟩ : ByteArray) ++ strOfNums ((48 + ((x.natAbs % 10 : Nat) : Int)) :: out)) else none) else some (strOfNums ((48 + ((x.natAbs % 10 : Nat) : Int)) :: out))) = some (strOfNums (sgn x0 ++ (48 + ((x.natAbs % 10 : Nat) : Int)) :: out)) := by
    by_cases h : x0 < 0
    · rw [if_pos h, if_pos (by rw [son_size]; simp only [List.length_cons]; omega)]
      unfold sgn
      rw [if_pos h, show (⟨#[45]⟩ : ByteArray) = strOfNums [45] from rfl, son_append]
    · rw [if_neg h]; unfold sgn; rw [if_neg h, List.nil_append]
  have hsz : (strOfNums [48 + ((x.natAbs % 10 : Nat) : Int)]).size + (strOfNums out).size ≤ 9223372036854775807 := by
    rw [son_size, son_size]; simp only [List.length_cons, List.length_nil]; omega
  simp only [gossamerref43_Dec.l0]
  by_cases hn : Int.tmod x 10 < 0
  · have hxn : x < 0 := by
      rcases Int.lt_or_le x 0 with h | h
      · exact h
      · rw [(tm10 x).1 h] at hn; omega
    have e : wrap64 (-(Int.tmod x 10)) = ((x.natAbs % 10 : Nat) : Int) := by rw [(tm10 x).2 hxn, w64_id (by omega) (by omega)]; omega
    rw [if_pos hn, e, if_pos (by omega), if_pos (by omega), h10]
    simp only [Option.bind_some]
    rw [if_pos hsz, hw, son_cons, hfin]
    simp only [hz]
  · have e : Int.tmod x 10 = ((x.natAbs % 10 : Nat) : Int) := by
      rcases Int.lt_or_le x 0 with h | h
      · rw [(tm10 x).2 h] at hn ⊢; omega
      · exact (tm10 x).1 h
    rw [if_neg hn, e, if_pos (by omega), if_pos (by omega), h10]
    simp only [Option.bind_some]
    rw [if_pos hsz, hw, son_cons, hfin]
    simp only [hz]
theorem dec_l0 (x0 : Int) : ∀ (d : Nat) (x : Int) (out : List Int), x.natAbs < 10 ^ (d + 1) → -9223372036854775808 ≤ x → x ≤ 9223372036854775807 → out.length + d ≤ 1000 →
    Ev (fun k => gossamerref43_Dec.l0 k x0 (strOfNums out) x) (strOfNums (sgn x0 ++ (DD x.natAbs ++ out))) := by
  intro d
  induction d with
  | zero =>
    intro x out hd hx0 hx1 hl
    have hu : x.natAbs < 10 := by simpa using hd
    refine Ev.step (f := fun _ => some (strOfNums (sgn x0 ++ (DD x.natAbs ++ out)))) (fun k => ?_) (Ev.now _)
    rw [dec_step x0 x out hx0 hx1 (by omega), if_pos (by omega), DD_small hu, Nat.mod_eq_of_lt hu]
    rfl
  | succ d ih =>
    intro x out hd hx0 hx1 hl
    by_cases hu : x.natAbs < 10
    · refine Ev.step (f := fun _ => some (strOfNums (sgn x0 ++ (DD x.natAbs ++ out)))) (fun k => ?_) (Ev.now _)
      rw [dec_step x0 x out hx0 hx1 (by omega), if_pos (by omega), DD_small hu, Nat.mod_eq_of_lt hu]
      rfl
    · have hq : (Int.tdiv x 10).natAbs = x.natAbs / 10 := by
        rcases Int.lt_or_le x 0 with h | h
        · rw [(td10 x).2 h]; omega
        · rw [(td10 x).1 h]; omega
      have hr : -9223372036854775808 ≤ Int.tdiv x 10 ∧ Int.tdiv x 10 ≤ 9223372036854775807 := by
        rcases Int.lt_or_le x 0 with h | h
        · rw [(td10 x).2 h]; omega
        · rw [(td10 x).1 h]; omega
      have h1 := ih (Int.tdiv x 10) ((48 + ((x.natAbs % 10 : Nat) : Int)) :: out) (by rw [hq]; rw [Nat.pow_succ] at hd; omega) hr.1 hr.2 (by simp only [List.length_cons]; omega)
      rw [hq] at h1
      have e : DD (x.natAbs / 10) ++ (48 + ((x.natAbs % 10 : Nat) : Int)) :: out = DD x.natAbs ++ out := by
        rw [DD_big hu, List.append_assoc]; rfl
      rw [e] at h1
      refine Ev.step (fun k => ?_) h1
      rw [dec_step x0 x out hx0 hx1 (by omega), if_neg (by omega)]
theorem dec_f (n : Int) (h0 : -9223372036854775808 ≤ n) (h1 : n ≤ 9223372036854775807) : Ev (fun k => gossamerref43_Dec.f k n) (⟨(Lib.itoa n).toArray⟩ : ByteArray) := by
  rw [itoa_son]
  have h := dec_l0 n 18 n [] (by show n.natAbs < 10000000000000000000; omega) h0 h1 (by simp)
  rw [List.append_nil] at h
  exact h
/-! ### The document's Number -/
theorem w64_range (n : Int) : -9223372036854775808 ≤ wrap64 n ∧ wrap64 n ≤ 9223372036854775807 := by unfold wrap64; omega
def stp (neg m c : Int) : Int := if neg = 1 then wrap64 ((wrap64 (m * 10)) - (wrap64 ((wrap64 c) - 48))) else wrap64 ((wrap64 (m * 10)) + (wrap64 ((wrap64 c) - 48)))
theorem stp_range (neg m c : Int) : -9223372036854775808 ≤ stp neg m c ∧ stp neg m c ≤ 9223372036854775807 := by
  unfold stp
  split <;> exact w64_range _
def runN (neg : Int) : List Int → Int → Option Int
  | [], m => some m
  | c :: r, m => if c < 48 ∨ c > 57 then none else runN neg r (stp neg m c)
def fn (s : ByteArray) (o : Option Int) : Int × Bool := match o with
  | none => (0, false)
  | some m => if (⟨(Lib.itoa m).toArray⟩ : ByteArray) = s then (m, true) else (0, false)
theorem num_end (s : ByteArray) (m neg x : Int) (h0 : -9223372036854775808 ≤ m) (h1 : m ≤ 9223372036854775807) :
    Ev (fun k => gossamerref43_Number.j3 k s m neg x false) (fn s (some m)) := by
  refine Ev.step (f := fun k => (gossamerref43_Dec.f k m).bind fun t109 => (if t109.toList = s.toList then (some (m, true)) else (some (0, false)))) (fun k => ?_) ?_
  · simp only [gossamerref43_Number.j3]; rw [if_neg (by simp)]
  · refine Ev.bind (dec_f m h0 h1) ?_
    unfold fn
    simp only [toList_iff]
    by_cases h : (⟨(Lib.itoa m).toArray⟩ : ByteArray) = s
    · simp only [if_pos h]; exact Ev.now _
    · simp only [if_neg h]; exact Ev.now _
theorem num_l0 (s : ByteArray) (neg : Int) (hs : s.size ≤ 20) : ∀ (j i : Nat) (m : Int), s.size - i = j → i ≤ s.size → -9223372036854775808 ≤ m → m ≤ 9223372036854775807 →
    Ev (fun k => gossamerref43_Number.l0 k s m neg (i : Int)) (fn s (runN neg ((bytesOf s).drop i) m)) := by
  intro j
  induction j with
  | zero =>
    intro i m hj hi h0 h1
    rw [List.drop_eq_nil_of_le (by rw [bytesOf_length]; omega)]
    refine Ev.step (f := fun k => gossamerref43_Number.j3 k s m neg (i : Int) false) (fun k => ?_) (num_end s m neg _ h0 h1)
    simp only [gossamerref43_Number.l0]
    rw [if_neg (by omega)]
  | succ j ih =>
    intro i m hj hi h0 h1
    have hi' : i < (bytesOf s).length := by rw [bytesOf_length]; omega
    rw [List.drop_eq_getElem_cons hi', ← bytes_at s i hi']
    refine Ev.step (f := fun k => gossamerref43_Number.j3 k s m neg (i : Int) true) (fun k => ?_) ?_
    · simp only [gossamerref43_Number.l0]
      rw [if_pos (by omega), show decide ((s.size : Int) ≤ 20) = true from decide_eq_true (by omega)]
    refine Ev.step (f := fun k => gossamerref43_Number.j4 k s m neg (i : Int) (decide (bt s i < 48 ∨ bt s i > 57))) (fun k => ?_) ?_
    · simp only [gossamerref43_Number.j3]
      rw [if_pos trivial, if_pos (by omega), if_pos (by omega)]
      by_cases h : bt s i < 48
      · rw [if_pos h, show decide (bt s i < 48 ∨ bt s i > 57) = true from decide_eq_true (.inl h)]
      · rw [if_neg h]
        congr 1
        simp only [h, false_or]
    by_cases h : bt s i < 48 ∨ bt s i > 57
    · refine Ev.step (f := fun _ => some (0, false)) (fun k => ?_) ?_
      · simp only [gossamerref43_Number.j4]
        rw [if_pos (decide_eq_true h)]
      · unfold runN; rw [if_pos h]; exact Ev.now _
    · have hr := stp_range neg m (bt s i)
      have h2 := ih (i + 1) (stp neg m (bt s i)) (by omega) (by omega) hr.1 hr.2
      refine Ev.step (f := fun k => gossamerref43_Number.l0 k s (stp neg m (bt s i)) neg ((i + 1 : Nat) : Int)) (fun k => ?_) ?_
      · simp only [gossamerref43_Number.j4]
        rw [if_neg (by simp [h]), w64_succ i (by omega)]
        unfold stp
        by_cases hn : neg = 1
        · rw [if_pos hn, if_pos hn, if_pos (by omega), if_pos (by omega)]
        · rw [if_neg hn, if_neg hn, if_pos (by omega), if_pos (by omega)]
      · unfold runN; rw [if_neg h]; exact h2
/-- What the document's Number answers. -/
def rn (s : ByteArray) : Int × Bool :=
  if 20 < s.size then fn s (some 0) else if s.toList ≠ [] ∧ bt s 0 = 45 then fn s (runN 1 ((bytesOf s).drop 1) 0) else fn s (runN 0 (bytesOf s) 0)
theorem num_j1 (s : ByteArray) (i : Nat) (hi : i ≤ s.size) : Ev (fun k => gossamerref43_Number.j1 k s 0 (i : Int)) (if 20 < s.size then fn s (some 0) else fn s (runN (i : Int) ((bytesOf s).drop i) 0)) := by
  refine Ev.step (f := fun k => gossamerref43_Number.l0 k s 0 (i : Int) (i : Int)) (fun k => rfl) ?_
  by_cases h : 20 < s.size
  · rw [if_pos h]
    refine Ev.step (f := fun k => gossamerref43_Number.j3 k s 0 (i : Int) (i : Int) false) (fun k => ?_) (num_end s 0 _ _ (by omega) (by omega))
    simp only [gossamerref43_Number.l0]
    rw [show decide ((s.size : Int) ≤ 20) = false from decide_eq_false (by omega), ite_self]
  · rw [if_neg h]
    exact num_l0 s (i : Int) (by omega) (s.size - i) i 0 rfl hi (by omega) (by omega)
theorem size_pos {s : ByteArray} (h : ¬ s.toList = []) : 0 < s.size := by
  rw [ByteArray.toList_eq] at h
  rcases Nat.eq_zero_or_pos s.size with e | e
  · exact absurd (List.eq_nil_of_length_eq_zero (by simpa using e)) h
  · exact e
theorem rnum_f (s : ByteArray) : Ev (fun k => gossamerref43_Number.f k s) (rn s) := by
  unfold gossamerref43_Number.f rn
  by_cases h : s.toList = ([] : List UInt8)
  · simp only [if_pos h]
    refine Ev.step (f := fun k => gossamerref43_Number.j1 k s 0 ((0 : Nat) : Int)) (fun k => ?_) ?_
    · simp only [gossamerref43_Number.j0]; rw [if_neg (by simp)]; rfl
    · have := num_j1 s 0 (by omega)
      simp only [ne_eq, h, not_true, false_and, if_false]
      exact this
  · have h0 := size_pos h
    simp only [if_neg h]
    rw [show (fun k => if 0 < (s.size : Int) then gossamerref43_Number.j0 k s 0 0 (bt s 0 == 45) else none) = fun k => gossamerref43_Number.j0 k s 0 0 (bt s 0 == 45) from funext fun k => if_pos (by omega)]
    by_cases h45 : bt s 0 = 45
    · refine Ev.step (f := fun k => gossamerref43_Number.j1 k s 0 ((1 : Nat) : Int)) (fun k => ?_) ?_
      · simp only [gossamerref43_Number.j0]; rw [if_pos (by simp [h45])]; rfl
      · have := num_j1 s 1 (by omega)
        rw [if_pos (⟨h, h45⟩ : s.toList ≠ [] ∧ bt s 0 = 45)]
        exact this
    · refine Ev.step (f := fun k => gossamerref43_Number.j1 k s 0 ((0 : Nat) : Int)) (fun k => ?_) ?_
      · simp only [gossamerref43_Number.j0]; rw [if_neg (by simp [h45])]; rfl
      · have := num_j1 s 0 (by omega)
        rw [if_neg (fun hh : s.toList ≠ [] ∧ bt s 0 = 45 => h45 hh.2)]
        exact this
end Go.Proofs.YtlafglenafmhbaaDoor.Pure
