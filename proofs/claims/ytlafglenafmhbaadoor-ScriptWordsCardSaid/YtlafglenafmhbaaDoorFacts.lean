/- What the awake of the script comes to, number by number and line by line. -/
import Derived.Test.YtlafglenafmhbaaDoorParse
namespace Go.Proofs.YtlafglenafmhbaaDoor
open Go.RowKit Go.Shelf Go.Proofs.YtlafglenafmhbaaDoorW.PrintWords Go.Proofs.YtlafglenafmhbaaDoorW.PrintLast Go.Proofs.YtlafglenafmhbaaDoorW.PrintMore PSc
set_option linter.unusedVariables false
theorem itoa_m1 : Lib.itoa (-1) = [45, 49] := by rw [show (-1 : Int) = -((1 : Nat) : Int) from rfl, Lib.itoa_neg 1 (by decide), Lib.decDigits_one (by decide)]; rfl
theorem itoa_5 : Lib.itoa 5 = [53] := by rw [show (5 : Int) = ((5 : Nat) : Int) from rfl, Lib.itoa_nonneg, Lib.decDigits_one (by decide)]; rfl
theorem itoa_m3 : Lib.itoa (-3) = [45, 51] := by rw [show (-3 : Int) = -((3 : Nat) : Int) from rfl, Lib.itoa_neg 3 (by decide), Lib.decDigits_one (by decide)]; rfl
theorem hex_f : script_Hex.f 9 ⟨#[15, 122]⟩ = some ⟨#[48, 102, 55, 97]⟩ := by kernel_rfl
theorem words_lot : script_words.f 9 1 ⟨#[15, 122]⟩ 0 [] = some [⟨#[108, 111, 116]⟩, ⟨#[48, 102, 55, 97]⟩] := by
  unfold script_words.f
  rw [if_pos rfl, hex_f]
  rfl
theorem words_open : script_words.f 9 7 ⟨#[]⟩ 0 [-1, 5] = some [⟨#[111, 112, 101, 110]⟩, ⟨#[45, 49]⟩, ⟨#[53]⟩] := by
  have h : script_numbers.f 9 [-1, 5] = some [⟨#[45, 49]⟩, ⟨#[53]⟩] := by
    unfold script_numbers.f
    simp [script_numbers.l0, strconv_Itoa.f, rd, wrap64, itoa_m1, itoa_5]
  unfold script_words.f
  simp [h]
theorem words_tick : script_words.f 9 2 ⟨#[]⟩ (-3) [] = some [⟨#[116, 105, 99, 107]⟩, ⟨#[45, 51]⟩] := by
  have h : script_numbers.f 9 [-3] = some [⟨#[45, 51]⟩] := by
    unfold script_numbers.f
    simp [script_numbers.l0, strconv_Itoa.f, rd, wrap64, itoa_m3]
  unfold script_words.f
  simp [h]
theorem text_eq : textOf [[⟨#[108, 111, 116]⟩, ⟨#[48, 102, 55, 97]⟩], [⟨#[111, 112, 101, 110]⟩, ⟨#[45, 49]⟩, ⟨#[53]⟩], [⟨#[116, 105, 99, 107]⟩, ⟨#[45, 51]⟩]] = [108, 111, 116, 32, 48, 102, 55, 97, 10, 111, 112, 101, 110, 32, 45, 49, 32, 53, 10, 116, 105, 99, 107, 32, 45, 51, 10] := by rfl
theorem line_lot : Line ⟨#[108, 111, 116, 32, 48, 102, 55, 97, 10, 111, 112, 101, 110, 32, 45, 49, 32, 53, 10, 116, 105, 99, 107, 32, 45, 51, 10]⟩ ⟨#[111, 112, 101, 110, 32, 45, 49, 32, 53, 10, 116, 105, 99, 107, 32, 45, 51, 10]⟩ [⟨#[108, 111, 116]⟩, ⟨#[48, 102, 55, 97]⟩] :=
  ⟨by rw [ByteArray.toList_eq]; decide, by decide, ⟨#[108, 111, 116, 32, 48, 102, 55, 97]⟩, by kernel_rfl, by decide, by kernel_rfl, by kernel_rfl⟩
theorem line_open : Line ⟨#[111, 112, 101, 110, 32, 45, 49, 32, 53, 10, 116, 105, 99, 107, 32, 45, 51, 10]⟩ ⟨#[116, 105, 99, 107, 32, 45, 51, 10]⟩ [⟨#[111, 112, 101, 110]⟩, ⟨#[45, 49]⟩, ⟨#[53]⟩] :=
  ⟨by rw [ByteArray.toList_eq]; decide, by decide, ⟨#[111, 112, 101, 110, 32, 45, 49, 32, 53]⟩, by kernel_rfl, by decide, by kernel_rfl, by kernel_rfl⟩
theorem line_tick : Line ⟨#[116, 105, 99, 107, 32, 45, 51, 10]⟩ ⟨#[]⟩ [⟨#[116, 105, 99, 107]⟩, ⟨#[45, 51]⟩] :=
  ⟨by rw [ByteArray.toList_eq]; decide, by decide, ⟨#[116, 105, 99, 107, 32, 45, 51]⟩, by kernel_rfl, by decide, by kernel_rfl, by kernel_rfl⟩
theorem line_sync : Line ⟨#[115, 121, 110, 99, 10, 115, 105, 110, 107, 10]⟩ ⟨#[115, 105, 110, 107, 10]⟩ [⟨#[115, 121, 110, 99]⟩] :=
  ⟨by rw [ByteArray.toList_eq]; decide, by decide, ⟨#[115, 121, 110, 99]⟩, by kernel_rfl, by decide, by kernel_rfl, by kernel_rfl⟩
theorem line_sink : Line ⟨#[115, 105, 110, 107, 10]⟩ ⟨#[]⟩ [⟨#[115, 105, 110, 107]⟩] :=
  ⟨by rw [ByteArray.toList_eq]; decide, by decide, ⟨#[115, 105, 110, 107]⟩, by kernel_rfl, by decide, by kernel_rfl, by kernel_rfl⟩
theorem fromHex_f : script_FromHex.f 9 ⟨#[48, 102, 55, 97]⟩ = some (⟨#[15, 122]⟩, true) := by kernel_rfl
theorem number_m1 : script_Number.f 9 ⟨#[45, 49]⟩ = some (-1, true) := by
  have h : atoiOf ⟨#[45, 49]⟩ = some (-1) := by kernel_rfl
  unfold script_Number.f numberOf
  rw [if_pos (by decide), h]
  simp only [itoa_m1, ByteArray.toList_eq]
  rfl
theorem number_5 : script_Number.f 9 ⟨#[53]⟩ = some (5, true) := by
  have h : atoiOf ⟨#[53]⟩ = some 5 := by kernel_rfl
  unfold script_Number.f numberOf
  rw [if_pos (by decide), h]
  simp only [itoa_5, ByteArray.toList_eq]
  rfl
theorem number_m3 : script_Number.f 9 ⟨#[45, 51]⟩ = some (-3, true) := by
  have h : atoiOf ⟨#[45, 51]⟩ = some (-3) := by kernel_rfl
  unfold script_Number.f numberOf
  rw [if_pos (by decide), h]
  simp only [itoa_m3, ByteArray.toList_eq]
  rfl
theorem several_f : ∃ r1 r2 r3 r4, script_several.f 9 [⟨#[45, 49]⟩, ⟨#[53]⟩] = some (r1, r2, r3, r4, true) := by
  refine ⟨7, ⟨#[]⟩, 0, [-1, 5], ?_⟩
  have n1 : ∀ k, script_Number.f k ⟨#[45, 49]⟩ = some (-1, true) := fun _ => number_m1
  have n2 : ∀ k, script_Number.f k ⟨#[53]⟩ = some (5, true) := fun _ => number_5
  unfold script_several.f
  simp [script_several.l0, rdOf, wrap64, n1, n2]
theorem digits_min : Lib.decDigits 9223372036854775808 = [57, 50, 50, 51, 51, 55, 50, 48, 51, 54, 56, 53, 52, 55, 55, 53, 56, 48, 56] := by
  rw [Lib.decDigits_eq, Lib.nDigits_unique 18 9223372036854775808 (by decide) (by decide)]
  kernel_rfl
theorem number_min : script_Number.f 9 ⟨#[45, 57, 50, 50, 51, 51, 55, 50, 48, 51, 54, 56, 53, 52, 55, 55, 53, 56, 48, 56]⟩ = some (-9223372036854775808, true) := by
  have h : atoiOf ⟨#[45, 57, 50, 50, 51, 51, 55, 50, 48, 51, 54, 56, 53, 52, 55, 55, 53, 56, 48, 56]⟩ = some (-9223372036854775808) := by kernel_rfl
  have hi : Lib.itoa (-9223372036854775808) = [45, 57, 50, 50, 51, 51, 55, 50, 48, 51, 54, 56, 53, 52, 55, 55, 53, 56, 48, 56] := by
    rw [show (-9223372036854775808 : Int) = -((9223372036854775808 : Nat) : Int) from rfl, Lib.itoa_neg _ (by decide), digits_min]
  unfold script_Number.f numberOf
  rw [if_pos (by decide), h]
  simp only [hi, ByteArray.toList_eq]
  rfl
end Go.Proofs.YtlafglenafmhbaaDoor
