/- script.Number: what it answers, by the library's contracts of Atoi and Itoa. -/
import Derived.Test.YtlafglenafmhbaaDoorBase
import Derived.WalkSmall
import Derived.Lib.AppendIntMem
namespace Go.Proofs.YtlafglenafmhbaaDoor
open Go.RowKit Go.Shelf Go.Proofs.YtlafglenafmhbaaDoorW.PrintWords Go.Proofs.YtlafglenafmhbaaDoorW.PrintLast Go.Proofs.YtlafglenafmhbaaDoorW.PrintMore
set_option linter.unusedVariables false
/-- The library's variables, as they lie. -/
structure Gl (w : World) : Prop where
  tab : Lib.TabIs Tryd.prog w "internal/strconv.uint64pow10" .u64 Lib.pow10Tab
  e0 : ∃ ev, w.cell? ⟨0, 0, none⟩ = some ev ∧ (ev = .nilIface ∨ ∃ te pe, ev = .iface te pe)
  e1 : ∃ ev, w.cell? ⟨1, 0, none⟩ = some ev ∧ (ev = .nilIface ∨ ∃ te pe, ev = .iface te pe)
  m : ∃ m, w.cell? ⟨2, 0, none⟩ = some (.int .i64 m)
  sz : 10 ≤ w.heap.size
theorem Gl.cell {w w' : World} (hb : Below w.heap.size w w') {p : Addr} {v : Value} (h : w.cell? p = some v) : w'.cell? p = some v := (hb.cell (World.block_lt_of_cell? w _ h)).trans h
theorem Gl.below {w w' : World} (h : Gl w) (hb : Below w.heap.size w w') : Gl w' where
  tab := var?_below hb (by kernel_rfl : Tryd.prog.globalNamed "internal/strconv.uint64pow10" = some 3) (by have := h.sz; omega) h.tab
  e0 := by obtain ⟨ev, h1, h2⟩ := h.e0; exact ⟨ev, Gl.cell hb h1, h2⟩
  e1 := by obtain ⟨ev, h1, h2⟩ := h.e1; exact ⟨ev, Gl.cell hb h1, h2⟩
  m := by obtain ⟨m, h1⟩ := h.m; exact ⟨m, Gl.cell hb h1⟩
  sz := Nat.le_trans h.sz hb.size
theorem itoa_calls (n : Int) (h0 : -9223372036854775808 ≤ n) (h1 : n ≤ 9223372036854775807) (w : World) (hg : Gl w) :
    Calls Tryd.prog 14 #[.int .i64 n] w fun e w' => e = .returned (.string ⟨(Lib.itoa n).toArray⟩) ∧ Below w.heap.size w w' := by
  refine (Tryd.strconv_Itoa n h0 h1 w hg.tab).mono ?_
  rintro e w' ⟨rfl, k, os, rfl⟩
  exact ⟨rfl, Go.Lib.below_grow _ _ (Nat.le_refl _) _ _⟩
/-- What strconv.Atoi answers: a number, and whether without an error. -/
def atoiOf (s : ByteArray) : Option Int := match Lib.atoiAll s.data.toList with | .ok v => some v | _ => none
theorem atoi_calls (s : ByteArray) (hs : s.size ≤ 281474976710656) (w : World) (hg : Gl w) :
    Calls Tryd.prog 13 #[.string s] w fun e w' => (∃ n ev, e = .returned (.tuple #[.int .i64 n, ev]) ∧ ((atoiOf s = some n ∧ ev = .nilIface) ∨ (atoiOf s = none ∧ ∃ N, ev = .iface 71 (.pointer (some ⟨N, 0, none⟩))))) ∧ Below w.heap.size w w' := by
  unfold atoiOf
  cases h : Lib.atoiAll s.data.toList with
  | ok v =>
    refine (Tryd.strconv_Atoi_ok s (by omega) v h w).mono ?_
    rintro e w' ⟨rfl, hw⟩
    refine ⟨⟨v, _, rfl, .inl ⟨rfl, rfl⟩⟩, ?_⟩
    rcases hw with rfl | ⟨t, rfl⟩
    · exact Below.refl _ _
    · exact bytes_below (Below.refl _ _) (Nat.le_refl _) _ _
  | range =>
    obtain ⟨ev, h1, h2⟩ := hg.e1
    refine (Tryd.strconv_Atoi_range s hs h ev w h1 h2).mono ?_
    rintro e w' ⟨N, rfl, _, _, hb⟩
    exact ⟨⟨_, _, rfl, .inr ⟨rfl, N, rfl⟩⟩, hb⟩
  | _ =>
    obtain ⟨ev, h1, h2⟩ := hg.e0
    refine (Any.strconv_Atoi_syntax Tryd.laysC172 s hs h ev w h1 h2).mono ?_
    rintro e w' ⟨N, rfl, _, _, hb⟩
    exact ⟨⟨_, _, rfl, .inr ⟨rfl, N, rfl⟩⟩, hb⟩
theorem atoiOf_range {s : ByteArray} {n : Int} (h : atoiOf s = some n) : -9223372036854775808 ≤ n ∧ n ≤ 9223372036854775807 := by
  unfold atoiOf at h
  cases hl : s.data.toList with
  | nil => rw [hl] at h; simp [Lib.atoiAll] at h
  | cons c r =>
    rw [hl] at h
    simp only [Lib.atoiAll] at h
    generalize Lib.parseMag (if c.toNat = 43 ∨ c.toNat = 45 then r else c :: r) = pm at h
    cases pm with
    | ok u =>
      by_cases h1 : ¬ c.toNat = 45 ∧ 9223372036854775808 ≤ u
      · simp [h1] at h
      · by_cases h2 : c.toNat = 45 ∧ 9223372036854775808 < u
        · simp [h2] at h
        · simp only [h1, h2, if_false] at h
          by_cases h3 : c.toNat = 45
          · simp [h3] at h; omega
          · simp [h3] at h; omega
    | range => simp at h
    | _ => simp at h
/-- What script.Number answers. -/
def numberOf (s : ByteArray) : Int × Bool :=
  match atoiOf s with
  | some n => if (Lib.itoa n) = s.toList then (n, true) else (0, false)
  | none => (0, false)
namespace PSc
def script_Number.f (_ : Nat) (a0 : ByteArray) : Option (Int × Bool) := if a0.size ≤ 281474976710656 then some (numberOf a0) else none
theorem script_Number.mono : ∀ a0 k, LeO (script_Number.f k a0) (script_Number.f (k + 1) a0) := fun _ _ => LeO.refl _
theorem script_Number.calls (k : Nat) (a0 : ByteArray) (r1 : Int) (r2 : Bool) (w : World) (hg : Gl w) (h : script_Number.f k a0 = some (r1, r2)) :
    Calls Tryd.prog 5 #[.string a0] w fun e w' => e = .returned (.tuple #[.int .i64 r1, .bool r2]) ∧ Below w.heap.size w w' := by
  obtain ⟨hs, h'⟩ : a0.size ≤ 281474976710656 ∧ numberOf a0 = (r1, r2) := by
    unfold script_Number.f at h
    by_cases hs : a0.size ≤ 281474976710656
    · rw [if_pos hs] at h; exact ⟨hs, Option.some.inj h⟩
    · rw [if_neg hs] at h; cases h
  unfold numberOf at h'
  go_enter Tryd.func5, Tryd.ntmps5
  go_wp2_with fail
  refine (atoi_calls a0 hs w hg).mono ?_
  rintro e w1 ⟨⟨n, ev, rfl, hc⟩, hb⟩
  rcases hc with ⟨ha, rfl⟩ | ⟨ha, N, rfl⟩
  · rw [ha] at h'
    have hrg := atoiOf_range ha
    have hg1 := hg.below hb
    go_wp2_with fail
    refine (itoa_calls n hrg.1 hrg.2 w1 hg1).mono ?_
    rintro e w2 ⟨rfl, hb2⟩
    have hB : Below w.heap.size w w2 := hb.trans (hb2.mono hb.size)
    clear hb hb2 hg hg1
    by_cases he : Lib.itoa n = a0.toList
    · simp only [if_pos he, Prod.mk.injEq] at h'
      obtain ⟨rfl, rfl⟩ := h'
      have hq : (Lib.itoa n == a0.toList) = true := beq_iff_eq.2 he
      go_wp2
      go_ret2
      exact ⟨rfl, hB⟩
    · simp only [if_neg he, Prod.mk.injEq] at h'
      obtain ⟨rfl, rfl⟩ := h'
      have hq : (Lib.itoa n == a0.toList) = false := beq_eq_false_iff_ne.2 he
      have hq2 : (Lib.itoa n != a0.toList) = true := bne_iff_ne.2 he
      go_wp2
      go_ret2
      exact ⟨rfl, hB⟩
  · rw [ha] at h'
    simp only [Prod.mk.injEq] at h'
    obtain ⟨rfl, rfl⟩ := h'
    go_wp2
    go_ret2
    exact ⟨rfl, hb⟩
def strconv_Itoa.f (_ : Nat) (a0 : Int) : Option (ByteArray) := if -9223372036854775808 ≤ a0 ∧ a0 ≤ 9223372036854775807 then some ⟨(Lib.itoa a0).toArray⟩ else none
theorem strconv_Itoa.mono : ∀ a0 k, LeO (strconv_Itoa.f k a0) (strconv_Itoa.f (k + 1) a0) := fun _ _ => LeO.refl _
theorem strconv_Itoa.calls (k : Nat) (a0 : Int) (r : ByteArray) (w : World) (hg : Gl w) (h : strconv_Itoa.f k a0 = some r) :
    Calls Tryd.prog 14 #[.int .i64 a0] w fun e w' => e = .returned (.string r) ∧ Below w.heap.size w w' := by
  unfold strconv_Itoa.f at h
  by_cases hr : -9223372036854775808 ≤ a0 ∧ a0 ≤ 9223372036854775807
  · rw [if_pos hr] at h
    obtain rfl := Option.some.inj h
    exact itoa_calls a0 hr.1 hr.2 w hg
  · rw [if_neg hr] at h
    cases h
end PSc
end Go.Proofs.YtlafglenafmhbaaDoor
