/- script.Print: the text of events, by the contracts of words, Join and the builder. -/
import Derived.Test.YtlafglenafmhbaaDoorWords
import Derived.LoopTactic
namespace Go.Proofs.YtlafglenafmhbaaDoor
open Go.RowKit Go.Shelf Go.Proofs.YtlafglenafmhbaaDoorW.PrintWords Go.Proofs.YtlafglenafmhbaaDoorW.PrintLast Go.Proofs.YtlafglenafmhbaaDoorW.PrintMore PSc
set_option linter.unusedVariables false
theorem n166 : Go.Proofs.Lays.n166 Tryd.prog Tryd.lays156_ren where
  mixed := Tryd.lays156.mixed
  f166 := Tryd.lays156.f166
  f240 := Tryd.lays156.f240
  f276 := Tryd.lays156.f276
  t0 := Tryd.lays156.t0
  a0 := Tryd.lays156.a0
  z0 := Tryd.lays156.z0
  v0 := Tryd.lays156.v0
  t3 := Tryd.lays156.t3
  a3 := Tryd.lays156.a3
  z3 := Tryd.lays156.z3
  v3 := Tryd.lays156.v3
  t4 := Tryd.lays156.t4
  a4 := Tryd.lays156.a4
  z4 := Tryd.lays156.z4
  v4 := Tryd.lays156.v4
  t9 := Tryd.lays156.t9
  a9 := Tryd.lays156.a9
  z9 := Tryd.lays156.z9
  v9 := Tryd.lays156.v9
  t20 := Tryd.lays156.t20
  a20 := Tryd.lays156.a20
  z20 := Tryd.lays156.z20
  v20 := Tryd.lays156.v20
  t37 := Tryd.lays156.t37
  a37 := Tryd.lays156.a37
  z37 := Tryd.lays156.z37
  v37 := Tryd.lays156.v37
  t70 := Tryd.lays156.t70
  a70 := Tryd.lays156.a70
  z70 := Tryd.lays156.z70
  v70 := Tryd.lays156.v70
  t72 := Tryd.lays156.t72
  a72 := Tryd.lays156.a72
  z72 := Tryd.lays156.z72
  v72 := Tryd.lays156.v72
  t75 := Tryd.lays156.t75
  a75 := Tryd.lays156.a75
  z75 := Tryd.lays156.z75
  v75 := Tryd.lays156.v75
  t164 := Tryd.lays156.t164
  a164 := Tryd.lays156.a164
  z164 := Tryd.lays156.z164
  v164 := Tryd.lays156.v164
theorem write_calls (B b : Nat) (l : List UInt8) (s : ByteArray) (w : World) (h : Lib.IsBuilder 49 5 B b (Lib.byteCells l) w) (hlen : l.length + s.size ≤ 140737488355328) (hBw : B ≤ w.heap.size) :
    Calls Tryd.prog 19 #[.pointer (some ⟨b, 0, none⟩), .string s] w fun e w' => e = .returned (.tuple #[.int .i64 s.size, .nilIface]) ∧ Lib.IsBuilder 49 5 B b (Lib.byteCells (l ++ s.data.toList)) w' ∧ Below B w w' := by
  refine (Any.Builder_WriteString n166 Tryd.Builder_Extra_156 B b (Lib.byteCells l) s w h (by rw [Lib.byteCells_length]; exact hlen) hBw).mono ?_
  rintro e w' ⟨rfl, hb, hB⟩
  refine ⟨rfl, .inr ?_, hB⟩
  rw [Lib.byteCells_append]
  exact hb
theorem builder_step {B b : Nat} {bs : List Value} {W W' : World} (h : Lib.IsBuilder 49 5 B b bs W) (hb : Below W.heap.size W W') : Lib.IsBuilder 49 5 B b bs W' := by
  have key : ∀ p, Lib.BuilderAt 49 5 B b p bs W → Lib.BuilderAt 49 5 B b p bs W' := by
    rintro p ⟨h1, v, h2, h3, h4⟩
    exact ⟨h1, v, blk_below h2 hb, pw_own_below h3 hb, h4⟩
  exact h.imp (key _) (key _)
theorem equalIn_slice_nil (d : Nat) (t : TypeId) {x : TypeId} (h : Tryd.prog.underlying t = some (.slice x)) (a : Addr) (n c : Nat) (W : World) : (Op.equalIn (d + 1) t (.slice (some a) n c) (.slice none 0 0)).run Tryd.prog W = .ok false W := by
  simp [Op.equalIn, run_underlying h]
theorem eql_slice_nil (a : Addr) (n c : Nat) (W : World) : (binOp .eql 50 (.slice (some a) n c) (.slice none 0 0)).run Tryd.prog W = .ok (.bool false) W := by
  simp only [binOp]
  simp [Op.equal, Op.maxDepth, equalIn_slice_nil 9999 50 Tryd.underlying50]
/-- An event, as its cells lie. -/
structure Evt where
  kind : Int
  bytes : ByteArray
  num : Int
  A : Option Addr
  c : Nat
  ks : List Int
def Evt.value (e : Evt) : Nat → Value
  | 0 => .int .i64 e.kind
  | 1 => .string e.bytes
  | 2 => .int .i64 e.num
  | _ => .slice e.A e.ks.length e.c
def lineOf (ws : List ByteArray) : List UInt8 := Lib.join (ws.map (·.data.toList)) [32] ++ [10]
def textOf (ls : List (List ByteArray)) : List UInt8 := ls.flatMap lineOf

set_option maxRecDepth 100000 in
set_option maxHeartbeats 2000000 in
theorem print_calls (k bk : Nat) (evs : List Evt) (ls : List (List ByteArray)) (w : World) (hg : Gl w) (hn : evs.length ≤ 1000) (hl : ls.length = evs.length)
    (hc : ∀ (j : Nat) e, evs[j]? = some e → ∀ i : Nat, i < 4 → w.cell? ⟨bk, j * 4 + i, none⟩ = some (e.value i))
    (hk : ∀ (j : Nat) e, evs[j]? = some e → Kd.C (Kd.int .i64) w e.A e.ks.length e.ks ∧ e.ks.length ≤ e.c)
    (hw : ∀ (j : Nat) e ws, evs[j]? = some e → ls[j]? = some ws → script_words.f k e.kind e.bytes e.num e.ks = some ws ∧ 0 < ws.length ∧ ws.length ≤ 1000 ∧ (lineOf ws).length ≤ 100000) :
    Calls Tryd.prog 11 #[.slice (some ⟨bk, 0, none⟩) evs.length evs.length] w fun e w' => e = .returned (.tuple #[.string ⟨(textOf ls).toArray⟩, .int .i64 0]) ∧ Below w.heap.size w w' := by
  have hbig : ∀ j, (textOf (ls.take j)).length ≤ j * 100000 := by
    intro j
    induction j with
    | zero => simp [textOf]
    | succ j ih =>
      by_cases hj : j < ls.length
      · rw [List.take_succ_eq_append_getElem hj]
        have he : evs[j]? = some (evs[j]'(by omega)) := List.getElem?_eq_getElem (by omega)
        have h4 := (hw j _ _ he (List.getElem?_eq_getElem hj)).2.2.2
        unfold textOf at ih ⊢
        rw [List.flatMap_append, List.length_append]
        simp only [List.flatMap_cons, List.flatMap_nil, List.append_nil]
        omega
      · rw [List.take_of_length_le (by omega)]
        rw [List.take_of_length_le (by omega)] at ih
        exact Nat.le_trans ih (Nat.mul_le_mul_right _ (Nat.le_succ j))
  go_enter Tryd.func11, Tryd.ntmps11
  go_wp2
  go_loopw [10] (fun i wr => ∃ j : Nat, j ≤ evs.length ∧ i = .int .i64 j ∧ Lib.IsBuilder 49 5 w.heap.size w.heap.size (Lib.byteCells (textOf (ls.take j))) wr ∧ Below w.heap.size w wr) (fun i _ => evs.length - (Lib.intOf i).toNat)
  case atStart => exact ⟨0, Nat.zero_le _, rfl, Lib.fresh_isBuilder 49 5 w, (Below.refl _ w).alloc (Nat.le_refl _) _⟩
  case round =>
    obtain ⟨j, hj, rfl, hbd, hb⟩ := hrel
    by_cases hlt : j < evs.length
    · obtain ⟨e, he⟩ : ∃ e, evs[j]? = some e := ⟨_, List.getElem?_eq_getElem hlt⟩
      obtain ⟨ws, hws⟩ : ∃ ws, ls[j]? = some ws := ⟨_, List.getElem?_eq_getElem (by omega)⟩
      obtain ⟨hwf, hw0, hw1, hw2⟩ := hw j e ws he hws
      have x0 := Gl.cell hb (hc j e he 0 (by decide))
      have x1 := Gl.cell hb (hc j e he 1 (by decide))
      have x2 := Gl.cell hb (hc j e he 2 (by decide))
      have x3 := Gl.cell hb (hc j e he 3 (by decide))
      simp only [Evt.value, Nat.add_zero] at x0 x1 x2 x3
      have hlt' : decide (j < evs.length) = true := decide_eq_true hlt
      have hk' := hk j e he
      go_wp2_with fail
      have hb1 : Below wr.heap.size wr (wr.alloc (.cells #[.int .i64 e.kind, .string e.bytes, .int .i64 e.num, .slice e.A e.ks.length e.c] 34)) := (Below.refl _ wr).alloc (Nat.le_refl _) _
      generalize wr.alloc (.cells #[.int .i64 e.kind, .string e.bytes, .int .i64 e.num, .slice e.A e.ks.length e.c] 34) = W1 at hb1 ⊢
      have hB1 : Below w.heap.size w W1 := hb.trans (hb1.mono hb.size)
      refine (script_words.calls k e.kind e.bytes e.num e.A e.c e.ks ws W1 (hg.below hB1) (Kd.C_below hk'.1 hB1) hk'.2 hwf).mono ?_
      rintro e2 W2 ⟨v, rfl, hR, hb2⟩
      have hB2 : Below w.heap.size w W2 := hB1.trans (hb2.mono hB1.size)
      have hbd2 := builder_step (builder_step hbd hb1) hb2
      obtain ⟨A, c, rfl⟩ := Kd.R_slice hR
      obtain ⟨_, hcap, hC⟩ := Kd.R_reads' hR
      obtain ⟨ad, rfl, _⟩ := hC.2.2 hw0
      obtain ⟨g, rfl⟩ := Kd.R_head hR
      have hq := eql_slice_nil
      have hjn : (Lib.join (ws.map (·.data.toList)) [32]).length + 1 ≤ 100000 := by unfold lineOf at hw2; simpa using hw2
      have hC' := Kd.reads_of_C (enc := Value.string) (d := (⟨#[]⟩ : ByteArray)) (h1 := fun _ => rfl) hC
      obtain ⟨ad2, ead, hcl⟩ := hC'.2.2 hw0
      cases ead
      have hcellW : ∀ (j : Nat) x, ws[j]? = some x → W2.cell? ⟨g, 0 + j, none⟩ = some (.string x) := by
        intro j x hx
        have hjl := (List.getElem?_eq_some_iff.1 hx).1
        have := hcl j hjl
        rw [add_plain] at this
        simpa [List.getD_eq_getElem?_getD, hx] using this
      have hgW : g < W2.heap.size := by
        obtain ⟨x, hx⟩ : ∃ x, ws[0]? = some x := ⟨_, List.getElem?_eq_getElem hw0⟩
        exact World.block_lt_of_cell? W2 ⟨g, 0 + 0, none⟩ (hcellW 0 x hx)
      go_wp2_with fail
      refine (Tryd.strings_Join g 0 c ws ⟨#[32]⟩ W2 hcellW hgW (by omega) hcap (by show (Lib.join (ws.map (·.data.toList)) [32]).length ≤ _; omega)).mono ?_
      rintro e3 W3 ⟨rfl, hb3⟩
      have hB3 : Below w.heap.size w W3 := hB2.trans (hb3.mono hB2.size)
      have hbd3 := builder_step hbd2 hb3
      have hline : lineOf ws = Lib.join (ws.map (·.data.toList)) [32] ++ [10] := rfl
      have hsm := hbig j
      have hadd : (9223372036854775807 < (Lib.join (ws.map (·.data.toList)) [32]).length + 1) = False := eq_false (by omega)
      have htk : textOf (ls.take (j + 1)) = textOf (ls.take j) ++ lineOf ws := by
        have hjl : j < ls.length := by omega
        rw [List.take_succ_eq_append_getElem hjl]
        have hwe : ls[j] = ws := by have := List.getElem?_eq_getElem hjl; rw [hws] at this; exact (Option.some.inj this).symm
        unfold textOf
        rw [List.flatMap_append, hwe]
        simp
      clear hcellW hgW hcl hC hC' hR hws hwf he x0 x1 x2 x3 hk hw hc
      go_wp2_with fail
      generalize hJ : Lib.join (List.map (fun x => x.data.toList) ws) [32] = J at hjn hline hadd ⊢
      generalize hLS : ((⟨J.toArray⟩ : ByteArray) ++ (⟨#[10]⟩ : ByteArray)) = LS
      have hsz : LS.size = J.length + 1 := by rw [← hLS, ByteArray.size_append]; rfl
      have hLd : LS.data.toList = lineOf ws := by rw [← hLS, hline]; simp
      clear hLS
      refine (write_calls w.heap.size w.heap.size (textOf (ls.take j)) LS W3 hbd3 (by omega) hB3.size).mono ?_
      rintro e4 W4 ⟨rfl, hbd4, hb4⟩
      have hB4 : Below w.heap.size w W4 := hB3.trans hb4
      have hbd5 : Lib.IsBuilder 49 5 w.heap.size w.heap.size (Lib.byteCells (textOf (ls.take (j + 1)))) W4 := by
        rw [htk, ← hLd]
        exact hbd4
      clear hbd hbd2 hbd3 hbd4 hadd hjn hq
      go_wp2
      go_roundw
      case rel => exact ⟨j + 1, by omega, by simp, hbd5, hB4⟩
      case measure => simp [Lib.intOf]; omega
    · obtain rfl : j = evs.length := by omega
      have hlt' : decide (evs.length < evs.length) = false := decide_eq_false (by omega)
      go_wp2_with fail
      rw [List.take_of_length_le (by omega)] at hbd
      refine (Tryd.Builder_String_any w.heap.size w.heap.size (textOf ls) wr hbd hb.size).mono ?_
      rintro e5 W5 ⟨rfl, hb5⟩
      have hB5 : Below w.heap.size w W5 := hb.trans hb5
      clear hc hk hw hbd hbig
      go_wp2
      go_ret2
      exact ⟨rfl, hB5⟩
end Go.Proofs.YtlafglenafmhbaaDoor
