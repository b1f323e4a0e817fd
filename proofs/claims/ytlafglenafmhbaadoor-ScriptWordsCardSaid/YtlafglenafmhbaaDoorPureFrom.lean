/- The bytes of words: the program's and the document's are the same; the bytes of a word of bytes are the bytes; no condition but a bound on the length. -/
import Derived.Test.YtlafglenafmhbaaDoorPureHex
namespace Go.Proofs.YtlafglenafmhbaaDoor.Pure
open Go.RowKit Go.Proofs.YtlafglenafmhbaaDoor.PSc Go.Proofs.YtlafglenafmhbaaDoorW.PrintWords Go.Proofs.YtlafglenafmhbaaDoorW.PrintLast Go.Proofs.YtlafglenafmhbaaDoorW.PrintMore
set_option linter.unusedVariables false
/-- The bytes of letters, two by two. -/
def dec : List Int → List Int → Option (List Int)
  | [], out => some out
  | [_], _ => none
  | a :: b :: r, out => if hv a < 0 then none else if hv b < 0 then none else dec r (out ++ [16 * hv a + hv b])
def fin (o : Option (List Int)) : ByteArray × Bool := match o with | some xs => (strOfNums xs, true) | none => (⟨#[]⟩, false)
/-- What FromHex answers. -/
def fh (s : ByteArray) : ByteArray × Bool :=
  if s.toList = [45] then (⟨#[]⟩, true) else if (bytesOf s).length = 0 ∨ (bytesOf s).length % 2 ≠ 0 then (⟨#[]⟩, false) else fin (dec (bytesOf s) [])
theorem ib_f (x : Int) : strings_IndexByte.f DG x = some (hv x) := rfl
theorem son_extract (a b : Int) (r : List Int) (h : Byt (a :: b :: r)) : (strOfNums (a :: b :: r)).extract 2 (strOfNums (a :: b :: r)).size = strOfNums r := by
  refine arr_ext ?_
  rw [ByteArray.data_extract, Array.toList_extract, strOfNums_data, strOfNums_data, son_size]
  simp only [List.length_cons]
  show List.take _ (List.map _ r) = _
  exact List.take_of_length_le (by simp)
theorem Byt.tail2 {a b : Int} {r : List Int} (h : Byt (a :: b :: r)) : Byt r := fun x hx => h x (List.mem_cons_of_mem _ (List.mem_cons_of_mem _ hx))
theorem son_cons_ne {a : Int} {r : List Int} : (strOfNums (a :: r)).toList ≠ [] := by
  rw [ByteArray.toList_eq, strOfNums_data]; simp
theorem from_l0 : ∀ (xs : List Int) (out : List Int), Byt xs → xs.length % 2 = 0 → out.length + xs.length ≤ 1000 → Ev (fun k => script_FromHex.l0 k (strOfNums xs) out) (fin (dec xs out))
  | [], out, hb, he, hl => by
    refine Ev.step (f := fun _ => some (strOfNums out, true)) (fun k => ?_) (Ev.now _)
    simp only [script_FromHex.l0]
    rw [if_pos (by rw [ByteArray.toList_eq]; rfl)]
  | [a], out, hb, he, hl => by simp at he
  | a :: b :: r, out, hb, he, hl => by
    have ha := hb a (List.mem_cons_self ..)
    have hb1 := hb b (List.mem_cons_of_mem _ (List.mem_cons_self ..))
    have e0 : bt (strOfNums (a :: b :: r)) 0 = a := bt_son hb 0 (by simp)
    have e1 : bt (strOfNums (a :: b :: r)) 1 = b := bt_son hb 1 (by simp)
    simp only [List.length_cons] at he hl
    have hz : ((strOfNums (a :: b :: r)).size : Int) = (r.length : Int) + 2 := by rw [son_size]; simp; omega
    by_cases h1 : hv a < 0
    · refine Ev.step (f := fun _ => some (⟨#[]⟩, false)) (fun k => ?_) (by simp only [dec, if_pos h1, fin]; exact Ev.now _)
      simp only [script_FromHex.l0]
      rw [if_neg son_cons_ne, if_pos (by omega), e0, e1]
      simp only [ib_f, Option.bind_some]
      rw [if_pos (by omega), if_pos h1]
    · by_cases h2 : hv b < 0
      · refine Ev.step (f := fun _ => some (⟨#[]⟩, false)) (fun k => ?_) (by simp only [dec, if_neg h1, if_pos h2, fin]; exact Ev.now _)
        simp only [script_FromHex.l0]
        rw [if_neg son_cons_ne, if_pos (by omega), e0, e1]
        simp only [ib_f, Option.bind_some]
        rw [if_pos (by omega), if_neg h1, if_pos h2]
      · have ca := hv_cases a ha.1 (by omega)
        have cb := hv_cases b hb1.1 (by omega)
        have ih := from_l0 r (out ++ [16 * hv a + hv b]) hb.tail2 (by omega) (by simp; omega)
        refine Ev.step (f := fun k => script_FromHex.l0 k (strOfNums r) (out ++ [16 * hv a + hv b])) (fun k => ?_) (by simp only [dec, if_neg h1, if_neg h2]; exact ih)
        simp only [script_FromHex.l0]
        rw [if_neg son_cons_ne, if_pos (by omega), e0, e1]
        simp only [ib_f, Option.bind_some]
        rw [if_pos (by omega), if_neg h1, if_neg h2, if_pos (by omega), if_pos (by omega), or16 _ _ (by omega) (by omega) (by omega) (by omega), son_extract a b r hb]
theorem from_f (s : ByteArray) (hs : s.size ≤ 1000) : Ev (fun k => script_FromHex.f k s) (fh s) := by
  unfold script_FromHex.f fh
  have hn : (bytesOf s).length = s.size := bytesOf_length s
  by_cases h0 : s.toList = [45]
  · simp only [if_pos h0]; exact Ev.now _
  · simp only [if_neg h0]
    have stop : Ev (fun k => script_FromHex.j0 k s true) ((⟨#[]⟩ : ByteArray), false) := by
      refine Ev.step (f := fun _ => some (⟨#[]⟩, false)) (fun k => ?_) (Ev.now _)
      simp only [script_FromHex.j0]; rfl
    by_cases h1 : s.toList = []
    · simp only [if_pos h1]
      have : (bytesOf s).length = 0 := by
        rw [ByteArray.toList_eq] at h1
        unfold bytesOf; rw [h1]; rfl
      rw [if_pos (.inl this)]
      exact stop
    · simp only [if_neg h1]
      have hpos : (bytesOf s).length ≠ 0 := by
        intro h
        apply h1
        rw [ByteArray.toList_eq]
        unfold bytesOf at h
        rw [List.length_map] at h
        exact List.eq_nil_of_length_eq_zero h
      by_cases h2 : (bytesOf s).length % 2 ≠ 0
      · rw [if_pos (.inr h2)]
        have hm : (((s.size : Int) % 2) != 0) = true := bne_iff_ne.2 (by omega)
        simp only [hm]
        exact stop
      · rw [if_neg (by omega)]
        have hm : (((s.size : Int) % 2) != 0) = false := bne_eq_false_iff_eq.2 (by omega)
        simp only [hm]
        have hl := from_l0 (bytesOf s) [] (byt_bytesOf s) (by omega) (by simp; omega)
        rw [son_bytes] at hl
        refine Ev.step (f := fun k => script_FromHex.l0 k s []) (fun k => ?_) hl
        simp only [script_FromHex.j0]; rfl
/-- What has been read gives the letters again. -/
theorem refdigit_ev (x : Int) (h0 : 0 ≤ x) (h1 : x < (256 : Nat)) : Ev (fun k => gossamerref43_digit.f k x) (hv x) := Ev.of (fun k => gossamerref43_digit.mono _ k) (k := 3) (digit_f x h0 h1)
/-- What the document's loop answers, from a place on. -/
def rfR (s : ByteArray) (i : Nat) (out : List Int) : ByteArray × Bool :=
  if (bytesOf s).length = 0 then (⟨#[]⟩, false) else if s.toList = [45] then (⟨#[]⟩, true) else if (bytesOf s).length % 2 ≠ 0 then (⟨#[]⟩, false) else fin (dec ((bytesOf s).drop i) out)
theorem minus_len {s : ByteArray} (h : s.toList = [45]) : (bytesOf s).length = 1 := by
  rw [ByteArray.toList_eq] at h
  unfold bytesOf; rw [h]; rfl
theorem rf_end (s : ByteArray) (i : Nat) (out : List Int) (hs : s.size ≤ 1000) (hi : i ≤ s.size) (hend : s.size ≤ i + 1) (ho : i = 2 * out.length) (hby : Byt out) (hH : H out = (bytesOf s).take i) :
    (if (hx (strOfNums out)).toList = s.toList then (strOfNums out, true) else ((⟨#[]⟩ : ByteArray), false)) = rfR s i out := by
  have hn : (bytesOf s).length = s.size := bytesOf_length s
  have hxo : out ≠ [] → hx (strOfNums out) = strOfNums (H out) := by
    intro hne
    unfold hx
    cases out with
    | nil => exact absurd rfl hne
    | cons a r => rw [if_neg son_cons_ne, bytes_son hby]
  have hx0 : hx (strOfNums []) = ⟨#[45]⟩ := by
    unfold hx
    rw [if_pos (by rw [ByteArray.toList_eq]; rfl)]
  by_cases he : s.size = i
  · have hall : H out = bytesOf s := by rw [hH, List.take_of_length_le (by omega)]
    by_cases h0 : (bytesOf s).length = 0
    · have hr : rfR s i out = (⟨#[]⟩, false) := by unfold rfR; rw [if_pos h0]
      have hout : out = [] := List.eq_nil_of_length_eq_zero (by omega)
      subst hout
      rw [hr, hx0, if_neg]
      intro h
      have h2 : s.toList = [] := by
        rw [ByteArray.toList_eq]
        have : s.data.toList.length = 0 := by rw [data_length]; omega
        exact List.eq_nil_of_length_eq_zero this
      rw [h2, ByteArray.toList_eq] at h
      cases h
    · have hne : out ≠ [] := fun h => by subst h; simp at ho; omega
      have hr : rfR s i out = (strOfNums out, true) := by
        unfold rfR
        rw [if_neg h0, if_neg (fun h => by have := minus_len h; omega), if_neg (by omega), List.drop_eq_nil_of_le (by omega)]
        rfl
      rw [hr, hxo hne, hall, son_bytes, if_pos rfl]
  · have h1 : s.size = i + 1 := by omega
    by_cases hm : s.toList = [45]
    · have hl := minus_len hm
      have hr : rfR s i out = (⟨#[]⟩, true) := by unfold rfR; rw [if_neg (by omega), if_pos hm]
      have hout : out = [] := List.eq_nil_of_length_eq_zero (by omega)
      subst hout
      rw [hr, hx0, if_pos (by rw [hm, ByteArray.toList_eq])]
      rfl
    · have hr : rfR s i out = (⟨#[]⟩, false) := by unfold rfR; rw [if_neg (by omega), if_neg hm, if_pos (by omega)]
      rw [hr, if_neg]
      intro h
      by_cases hout : out = []
      · subst hout
        rw [hx0, ByteArray.toList_eq] at h
        exact hm h.symm
      · rw [hxo hout, toList_iff] at h
        have h2 := congrArg ByteArray.size h
        rw [son_size, H_length] at h2
        omega
theorem rf_l0 (s : ByteArray) (hs : s.size ≤ 1000) : ∀ (n i : Nat) (out : List Int), s.size - i ≤ n → i ≤ s.size → i = 2 * out.length → Byt out → H out = (bytesOf s).take i →
    Ev (fun k => gossamerref43_FromHex.l0 k s (strOfNums out) (i : Int)) (rfR s i out) := by
  intro n
  have hn : (bytesOf s).length = s.size := bytesOf_length s
  have stop : ∀ (i : Nat) (out : List Int), s.size ≤ i + 1 → i ≤ s.size → i = 2 * out.length → Byt out → H out = (bytesOf s).take i → Ev (fun k => gossamerref43_FromHex.l0 k s (strOfNums out) (i : Int)) (rfR s i out) := by
    intro i out hend hi ho hby hH
    rw [← rf_end s i out hs hi hend ho hby hH]
    refine Ev.step (f := fun k => (gossamerref43_Hex.f k (strOfNums out)).bind fun t => if t.toList = s.toList then some (strOfNums out, true) else some ((⟨#[]⟩ : ByteArray), false)) (fun k => ?_) (Ev.bind (refhex_f (strOfNums out) (by rw [son_size]; omega)) ?_)
    · simp only [gossamerref43_FromHex.l0]
      rw [w64_succ i (by omega), if_neg (by omega)]
    · by_cases h : (hx (strOfNums out)).toList = s.toList
      · simp only [if_pos h]; exact Ev.now _
      · simp only [if_neg h]; exact Ev.now _
  induction n with
  | zero =>
    intro i out hj hi ho hby hH
    exact stop i out (by omega) hi ho hby hH
  | succ n ih =>
    intro i out hj hi ho hby hH
    by_cases hend : s.size ≤ i + 1
    · exact stop i out hend hi ho hby hH
    · have hlt : i < (bytesOf s).length := by omega
      have hlt1 : i + 1 < (bytesOf s).length := by omega
      have ra := bt_range s (i : Int)
      have rb := bt_range s ((i + 1 : Nat) : Int)
      have hdr : (bytesOf s).drop i = bt s (i : Int) :: bt s ((i + 1 : Nat) : Int) :: (bytesOf s).drop (i + 2) := by
        rw [List.drop_eq_getElem_cons hlt, List.drop_eq_getElem_cons hlt1, ← bytes_at s i hlt, ← bytes_at s (i + 1) hlt1]
      have hR : rfR s i out = if (bytesOf s).length % 2 ≠ 0 then (⟨#[]⟩, false) else fin (dec (bt s (i : Int) :: bt s ((i + 1 : Nat) : Int) :: (bytesOf s).drop (i + 2)) out) := by
        unfold rfR
        rw [if_neg (by omega), if_neg (fun h => by have := minus_len h; omega), hdr]
      have hR2 : ∀ o2, rfR s (i + 2) o2 = if (bytesOf s).length % 2 ≠ 0 then (⟨#[]⟩, false) else fin (dec ((bytesOf s).drop (i + 2)) o2) := by
        intro o2
        unfold rfR
        rw [if_neg (by omega), if_neg (fun h => by have := minus_len h; omega)]
      have e16 : wrap64 ((i : Int) + 2) = ((i + 2 : Nat) : Int) := by rw [w64_id (by omega) (by omega)]; rfl
      have bad : hv (bt s (i : Int)) < 0 ∨ hv (bt s ((i + 1 : Nat) : Int)) < 0 → rfR s i out = (⟨#[]⟩, false) := by
        intro hc
        rw [hR]
        split
        · rfl
        · simp only [dec]
          by_cases h1 : hv (bt s (i : Int)) < 0
          · rw [if_pos h1]; rfl
          · rw [if_neg h1, if_pos (hc.resolve_left h1)]; rfl
      have da := refdigit_ev (bt s (i : Int)) ra.1 (by omega)
      have db := refdigit_ev (bt s ((i + 1 : Nat) : Int)) rb.1 (by omega)
      refine Ev.step (f := fun k => (gossamerref43_digit.f k (bt s (i : Int))).bind fun t119 => (gossamerref43_digit.f k (bt s ((i + 1 : Nat) : Int))).bind fun t120 => if t119 < 0 then some ((⟨#[]⟩ : ByteArray), false) else if t120 < 0 then some ((⟨#[]⟩ : ByteArray), false) else
          if (strOfNums out).size + (strOfNums [(wrap64 ((wrap64 (16 * t119)) + t120)) % 256]).size ≤ 9223372036854775807 then gossamerref43_FromHex.l0 k s (strOfNums out ++ strOfNums [(wrap64 ((wrap64 (16 * t119)) + t120)) % 256]) ((i + 2 : Nat) : Int) else none) (fun k => ?_) (Ev.bind da (Ev.bind db ?_))
      · simp only [gossamerref43_FromHex.l0]
        rw [w64_succ i (by omega), if_pos (by omega), if_pos (by omega), if_pos (by omega)]
        simp only [if_pos (show (0 : Int) ≤ ((i + 1 : Nat) : Int) by omega), e16]
        rfl
      · by_cases h1 : hv (bt s (i : Int)) < 0
        · simp only [if_pos h1]
          rw [bad (.inl h1)]
          exact Ev.now _
        · by_cases h2 : hv (bt s ((i + 1 : Nat) : Int)) < 0
          · simp only [if_neg h1, if_pos h2]
            rw [bad (.inr h2)]
            exact Ev.now _
          · have ca := hv_cases (bt s (i : Int)) ra.1 (by omega)
            have cb := hv_cases (bt s ((i + 1 : Nat) : Int)) rb.1 (by omega)
            have hv1 : (wrap64 ((wrap64 (16 * hv (bt s (i : Int)))) + hv (bt s ((i + 1 : Nat) : Int)))) % 256 = 16 * hv (bt s (i : Int)) + hv (bt s ((i + 1 : Nat) : Int)) := by
              rw [w64_id (n := 16 * hv (bt s (i : Int))) (by omega) (by omega), w64_id (by omega) (by omega)]
              omega
            simp only [if_neg h1, if_neg h2, hv1]
            have hsz : (strOfNums out).size + (strOfNums [16 * hv (bt s (i : Int)) + hv (bt s ((i + 1 : Nat) : Int))]).size ≤ 9223372036854775807 := by rw [son_size, son_size]; simp; omega
            simp only [if_pos hsz, son_append]
            have hih := ih (i + 2) (out ++ [16 * hv (bt s (i : Int)) + hv (bt s ((i + 1 : Nat) : Int))]) (by omega) (by omega) (by simp; omega) ?_ ?_
            · have e : rfR s i out = rfR s (i + 2) (out ++ [16 * hv (bt s (i : Int)) + hv (bt s ((i + 1 : Nat) : Int))]) := by
                rw [hR, hR2]
                simp only [dec, if_neg h1, if_neg h2]
              rw [e]
              exact hih
            · intro x hx
              rcases List.mem_append.1 hx with hx | hx
              · exact hby x hx
              · rw [List.mem_singleton] at hx; subst hx; omega
            · rw [H_append, hH]
              have e1 : (bytesOf s).take (i + 2) = (bytesOf s).take i ++ [bt s (i : Int), bt s ((i + 1 : Nat) : Int)] := by
                rw [List.take_succ_eq_append_getElem hlt1, List.take_succ_eq_append_getElem hlt, ← bytes_at s i hlt, ← bytes_at s (i + 1) hlt1]
                simp
              rw [e1]
              congr 1
              show [dg ((16 * hv (bt s (i : Int)) + hv (bt s ((i + 1 : Nat) : Int))) / 16), dg ((16 * hv (bt s (i : Int)) + hv (bt s ((i + 1 : Nat) : Int))) % 16)] = _
              rw [show (16 * hv (bt s (i : Int)) + hv (bt s ((i + 1 : Nat) : Int))) / 16 = hv (bt s (i : Int)) by omega, show (16 * hv (bt s (i : Int)) + hv (bt s ((i + 1 : Nat) : Int))) % 16 = hv (bt s ((i + 1 : Nat) : Int)) by omega]
              rw [(ca.resolve_left (by omega)).2.2, (cb.resolve_left (by omega)).2.2]
theorem rf_f (s : ByteArray) (hs : s.size ≤ 1000) : Ev (fun k => gossamerref43_FromHex.f k s) (fh s) := by
  have h := rf_l0 s hs s.size 0 [] (by omega) (by omega) rfl (fun x hx => by cases hx) rfl
  have e : rfR s 0 [] = fh s := by
    unfold rfR fh
    rw [List.drop_zero]
    by_cases h0 : (bytesOf s).length = 0
    · rw [if_pos h0, if_neg (fun h => by have := minus_len h; omega), if_pos (.inl h0)]
    · rw [if_neg h0]
      by_cases hm : s.toList = [45]
      · rw [if_pos hm, if_pos hm]
      · rw [if_neg hm, if_neg hm]
        by_cases h2 : (bytesOf s).length % 2 ≠ 0
        · rw [if_pos h2, if_pos (.inr h2)]
        · rw [if_neg h2, if_neg (by omega)]
  rw [e] at h
  exact h
theorem dec_H : ∀ (xs out : List Int), Byt xs → dec (H xs) out = some (out ++ xs)
  | [], out, _ => by simp [H, dec]
  | n :: xs, out, hb => by
    have hn := hb n (List.mem_cons_self ..)
    have h1 := hv_dg (n / 16) (by omega) (by omega)
    have h2 := hv_dg (n % 16) (by omega) (by omega)
    rw [H_cons]
    simp only [dec, h1, h2]
    rw [if_neg (by omega), if_neg (by omega), dec_H xs _ (fun x hx => hb x (List.mem_cons_of_mem _ hx)), show 16 * (n / 16) + n % 16 = n by omega]
    simp
/-- The bytes of a word of bytes are the bytes. -/
theorem fh_hx (s : ByteArray) : fh (hx s) = (s, true) := by
  unfold hx
  by_cases h : s.toList = []
  · rw [if_pos h]
    unfold fh
    rw [if_pos (by rw [ByteArray.toList_eq])]
    have : s = ⟨#[]⟩ := (toList_iff _ _).1 (by rw [h, ByteArray.toList_eq])
    rw [this]
  · rw [if_neg h]
    have hb := H_byt (bytesOf s)
    have hpos : (bytesOf s).length ≠ 0 := by
      intro h0
      apply h
      rw [ByteArray.toList_eq]
      unfold bytesOf at h0
      rw [List.length_map] at h0
      exact List.eq_nil_of_length_eq_zero h0
    unfold fh
    rw [bytes_son hb, if_neg (fun h => by have := minus_len h; rw [bytes_son hb, H_length] at this; omega), if_neg (by rw [H_length]; omega), dec_H _ _ (byt_bytesOf s), List.nil_append]
    show (strOfNums (bytesOf s), true) = _
    rw [son_bytes]
theorem hx_size (s : ByteArray) (hs : s.size ≤ 300) : (hx s).size ≤ 1000 := by
  unfold hx
  split
  · decide
  · rw [son_size, H_length, bytesOf_length]; omega
end Go.Proofs.YtlafglenafmhbaaDoor.Pure
