/- The words of bytes, and the bytes of words: the program's and the document's are the same; no condition but a bound on the length. -/
import Derived.Test.YtlafglenafmhbaaDoorRef
import Derived.Test.YtlafglenafmhbaaDoorHex
namespace Go.Proofs.YtlafglenafmhbaaDoor.Pure
open Go.RowKit Go.Proofs.YtlafglenafmhbaaDoor.PSc Go.Proofs.YtlafglenafmhbaaDoorW.PrintWords Go.Proofs.YtlafglenafmhbaaDoorW.PrintLast Go.Proofs.YtlafglenafmhbaaDoorW.PrintMore
set_option linter.unusedVariables false
theorem w64_id {n : Int} (h0 : -9223372036854775808 ≤ n) (h1 : n ≤ 9223372036854775807) : wrap64 n = n := IntWalk.wrap64_in n ⟨h0, h1⟩
theorem w64_succ (i : Nat) (h : i ≤ 100000) : wrap64 ((i : Int) + 1) = ((i + 1 : Nat) : Int) := by rw [w64_id (by omega) (by omega)]; rfl
theorem arr_ext {a b : ByteArray} (h : a.data.toList = b.data.toList) : a = b := by
  cases a; cases b; simp only [ByteArray.mk.injEq]; exact Array.toList_inj.1 h
theorem toList_iff (a b : ByteArray) : a.toList = b.toList ↔ a = b := by
  rw [ByteArray.toList_eq, ByteArray.toList_eq]
  exact ⟨arr_ext, fun h => by rw [h]⟩
theorem son_append (a b : List Int) : strOfNums a ++ strOfNums b = strOfNums (a ++ b) := by
  refine arr_ext ?_
  rw [ByteArray.data_append, Array.toList_append, strOfNums_data, strOfNums_data, strOfNums_data, List.map_append]
theorem son_bytes (s : ByteArray) : strOfNums (bytesOf s) = s := by
  refine arr_ext ?_
  rw [strOfNums_data, bytesOf, List.map_map]
  conv => rhs; rw [← List.map_id s.data.toList]
  refine List.map_congr_left fun b _ => ?_
  simp
/-- Numbers that are bytes. -/
def Byt (xs : List Int) : Prop := ∀ x ∈ xs, 0 ≤ x ∧ x ≤ 255
theorem byt_bytesOf (s : ByteArray) : Byt (bytesOf s) := by
  intro x hx
  unfold bytesOf at hx
  obtain ⟨b, _, rfl⟩ := List.mem_map.1 hx
  have := b.toNat_lt
  omega
theorem bytes_son {xs : List Int} (h : Byt xs) : bytesOf (strOfNums xs) = xs := by
  unfold bytesOf
  rw [strOfNums_data, List.map_map]
  conv => rhs; rw [← List.map_id xs]
  refine List.map_congr_left fun x hx => ?_
  have := h x hx
  simp only [Function.comp, id]
  rw [UInt8.toNat_ofNat']
  omega
theorem bt_son {xs : List Int} (h : Byt xs) (i : Nat) (hi : i < xs.length) : bt (strOfNums xs) (i : Int) = xs[i] := by
  rw [← rd_bytesOf, bytes_son h]
  unfold rd
  simp [hi]
theorem son_size (xs : List Int) : (strOfNums xs).size = xs.length := strOfNums_size xs
theorem son_nil : strOfNums [] = ⟨#[]⟩ := rfl
theorem son_inj {a b : List Int} (ha : Byt a) (hb : Byt b) (h : strOfNums a = strOfNums b) : a = b := by
  rw [← bytes_son ha, ← bytes_son hb, h]
abbrev DG : ByteArray := ⟨#[48, 49, 50, 51, 52, 53, 54, 55, 56, 57, 97, 98, 99, 100, 101, 102]⟩
/-- A digit's letter; a letter's digit. -/
def dg (n : Int) : Int := bt DG n
def hv (c : Int) : Int := Lib.indexByte DG.data.toList c.toNat.toUInt8
theorem of_fin {n : Nat} {P : Int → Prop} (h : ∀ c : Fin n, P (c.val : Int)) (x : Int) (h0 : 0 ≤ x) (h1 : x < n) : P x := by
  have := h ⟨x.toNat, by omega⟩
  simpa [Int.toNat_of_nonneg h0] using this
theorem and15 (x : Int) (h0 : 0 ≤ x) (h1 : x < (256 : Nat)) : Go.bits .and .u8 x 15 = x % 16 := of_fin (n := 256) (P := fun x => Go.bits .and .u8 x 15 = x % 16) (by decide +kernel) x h0 h1
theorem hv_dg (x : Int) (h0 : 0 ≤ x) (h1 : x < (16 : Nat)) : hv (dg x) = x := of_fin (n := 16) (P := fun x => hv (dg x) = x) (by decide +kernel) x h0 h1
theorem dg_byt (x : Int) (h0 : 0 ≤ x) (h1 : x < (16 : Nat)) : 0 ≤ dg x ∧ dg x ≤ 255 := bt_range _ _
theorem hv_cases (x : Int) (h0 : 0 ≤ x) (h1 : x < (256 : Nat)) : hv x = -1 ∨ (0 ≤ hv x ∧ hv x < 16 ∧ dg (hv x) = x) :=
  of_fin (n := 256) (P := fun x => hv x = -1 ∨ (0 ≤ hv x ∧ hv x < 16 ∧ dg (hv x) = x)) (by decide +kernel) x h0 h1
theorem digit_f (x : Int) (h0 : 0 ≤ x) (h1 : x < (256 : Nat)) : gossamerref43_digit.f 3 x = some (hv x) := of_fin (n := 256) (P := fun x => gossamerref43_digit.f 3 x = some (hv x)) (by decide +kernel) x h0 h1
theorem or16 (x y : Int) (h0 : 0 ≤ x) (h1 : x < (16 : Nat)) (h2 : 0 ≤ y) (h3 : y < (16 : Nat)) : (Go.bits .or .i64 (wrap64 (x * 16)) y) % 256 = 16 * x + y :=
  of_fin (n := 16) (P := fun y => (Go.bits .or .i64 (wrap64 (x * 16)) y) % 256 = 16 * x + y) (fun c => of_fin (n := 16) (P := fun x => (Go.bits .or .i64 (wrap64 (x * 16)) (c.val : Int)) % 256 = 16 * x + c.val) (by revert c; decide +kernel) x h0 h1) y h2 h3
/-- The letters of bytes. -/
def H (xs : List Int) : List Int := xs.flatMap fun n => [dg (n / 16), dg (n % 16)]
theorem H_cons (n : Int) (xs : List Int) : H (n :: xs) = dg (n / 16) :: dg (n % 16) :: H xs := rfl
theorem H_append (a b : List Int) : H (a ++ b) = H a ++ H b := List.flatMap_append
theorem H_length : ∀ xs : List Int, (H xs).length = 2 * xs.length
  | [] => rfl
  | x :: xs => by rw [H_cons]; simp [H_length xs]; omega
theorem H_byt : ∀ xs : List Int, Byt (H xs)
  | [] => fun x hx => by cases hx
  | n :: xs => by
    intro x hx
    rw [H_cons] at hx
    rcases List.mem_cons.1 hx with rfl | hx
    · exact bt_range _ _
    · rcases List.mem_cons.1 hx with rfl | hx
      · exact bt_range _ _
      · exact H_byt xs x hx
/-- What Hex answers. -/
def hx (s : ByteArray) : ByteArray := if s.toList = [] then ⟨#[45]⟩ else strOfNums (H (bytesOf s))
theorem bytes_at (s : ByteArray) (i : Nat) (h : i < (bytesOf s).length) : bt s (i : Int) = (bytesOf s)[i] := by
  rw [← rd_bytesOf]; unfold rd; simp [h]
theorem hex_l0 (s : ByteArray) (hs : s.size ≤ 1000) : ∀ (j i : Nat) (out : List Int), s.size - i = j → i ≤ s.size → out.length ≤ 2 * i →
    Ev (fun k => script_Hex.l0 k out (s.size : Int) (i : Int) s) (strOfNums (out ++ H ((bytesOf s).drop i)))
  | 0, i, out, hj, hi, ho => by
    rw [List.drop_eq_nil_of_le (by rw [bytesOf_length]; omega)]
    refine Ev.step (f := fun _ => some (strOfNums (out ++ H []))) (fun k => ?_) (Ev.now _)
    simp only [script_Hex.l0]
    rw [if_neg (by omega)]
    simp [H]
  | j + 1, i, out, hj, hi, ho => by
    have hlt : i < (bytesOf s).length := by rw [bytesOf_length]; omega
    have hr := bt_range s (i : Int)
    rw [List.drop_eq_getElem_cons hlt, H_cons, ← bytes_at s i hlt]
    have ih := hex_l0 s hs j (i + 1) (out ++ [dg (bt s i / 16), dg (bt s i % 16)]) (by omega) (by omega) (by simp; omega)
    rw [List.append_assoc] at ih
    refine Ev.step (f := fun k => script_Hex.l0 k (out ++ [dg (bt s i / 16), dg (bt s i % 16)]) (s.size : Int) ((i + 1 : Nat) : Int) s) (fun k => ?_) ih
    simp only [script_Hex.l0]
    rw [and15 _ hr.1 (by omega)]
    rw [if_pos (by omega), if_pos (by omega), if_pos (by omega), if_pos (by omega), if_pos (by omega), if_pos (by omega), if_pos (by omega)]
    simp only [Option.bind_some]
    rw [if_pos (by simp; omega), w64_succ i (by omega)]
    rfl
theorem hex_f (s : ByteArray) (hs : s.size ≤ 1000) : Ev (fun k => script_Hex.f k s) (hx s) := by
  unfold script_Hex.f hx
  by_cases h : s.toList = []
  · simp only [if_pos h]; exact Ev.now _
  · simp only [if_neg h]
    exact hex_l0 s hs s.size 0 [] rfl (by omega) (by simp)
theorem refhex_l0 (s : ByteArray) (hs : s.size ≤ 1000) : ∀ (j i : Nat) (out : List Int), s.size - i = j → i ≤ s.size → out.length ≤ 2 * i →
    Ev (fun k => gossamerref43_Hex.l0 k s (strOfNums out) (i : Int)) (strOfNums (out ++ H ((bytesOf s).drop i)))
  | 0, i, out, hj, hi, ho => by
    rw [List.drop_eq_nil_of_le (by rw [bytesOf_length]; omega)]
    refine Ev.step (f := fun _ => some (strOfNums (out ++ H []))) (fun k => ?_) (Ev.now _)
    simp only [gossamerref43_Hex.l0]
    rw [if_neg (by omega)]
    simp [H]
  | j + 1, i, out, hj, hi, ho => by
    have hlt : i < (bytesOf s).length := by rw [bytesOf_length]; omega
    have hr := bt_range s (i : Int)
    rw [List.drop_eq_getElem_cons hlt, H_cons, ← bytes_at s i hlt]
    have ih := refhex_l0 s hs j (i + 1) (out ++ [dg (bt s i / 16), dg (bt s i % 16)]) (by omega) (by omega) (by simp; omega)
    rw [List.append_assoc] at ih
    refine Ev.step (f := fun k => gossamerref43_Hex.l0 k s (strOfNums (out ++ [dg (bt s i / 16), dg (bt s i % 16)])) ((i + 1 : Nat) : Int)) (fun k => ?_) ih
    simp only [gossamerref43_Hex.l0]
    have e1 : Int.tdiv (bt s i) 16 % 256 = bt s i / 16 := by rw [Int.tdiv_eq_ediv_of_nonneg hr.1]; omega
    have e2 : Int.tmod (bt s i) 16 = bt s i % 16 := Int.tmod_eq_emod_of_nonneg hr.1
    rw [e1, e2]
    rw [if_pos (by omega), if_pos (by omega), if_pos (by omega), if_pos (by omega), if_pos (by omega), if_pos (by omega)]
    simp only [Option.bind_some]
    rw [if_pos (by rw [son_size, son_size]; simp; omega), w64_succ i (by omega), son_append]
    rfl
theorem refhex_f (s : ByteArray) (hs : s.size ≤ 1000) : Ev (fun k => gossamerref43_Hex.f k s) (hx s) := by
  unfold gossamerref43_Hex.f hx
  by_cases h : s.toList = []
  · simp only [if_pos h]; exact Ev.now _
  · simp only [if_neg h]
    exact refhex_l0 s hs s.size 0 [] rfl (by omega) (by simp)
end Go.Proofs.YtlafglenafmhbaaDoor.Pure
