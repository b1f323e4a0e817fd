/- What must come, whatever the arguments are: the script's awake. -/
import Derived.Test.YtlafglenafmhbaaDoorFacts
namespace Go.Proofs.YtlafglenafmhbaaDoor
open Go.RowKit Go.Shelf Go.Proofs.YtlafglenafmhbaaDoorW.PrintWords Go.Proofs.YtlafglenafmhbaaDoorW.PrintLast Go.Proofs.YtlafglenafmhbaaDoorW.PrintMore PSc
set_option linter.unusedVariables false
def T0 : ByteArray := ⟨#[108, 111, 116, 32, 48, 102, 55, 97, 10, 111, 112, 101, 110, 32, 45, 49, 32, 53, 10, 116, 105, 99, 107, 32, 45, 51, 10]⟩
def T1 : ByteArray := ⟨#[111, 112, 101, 110, 32, 45, 49, 32, 53, 10, 116, 105, 99, 107, 32, 45, 51, 10]⟩
def T2 : ByteArray := ⟨#[116, 105, 99, 107, 32, 45, 51, 10]⟩
def U0 : ByteArray := ⟨#[115, 121, 110, 99, 10, 115, 105, 110, 107, 10]⟩
def U1 : ByteArray := ⟨#[115, 105, 110, 107, 10]⟩
theorem parse_first (w : World) (hg : Gl w) : Calls Tryd.prog 12 #[.string T0] w fun e w' => (∃ A c, e = .returned (.tuple #[.slice A 3 c, .int .i64 0, .int .i64 0])) ∧ Below w.heap.size w w' := by
  let ss : Nat → ByteArray := fun | 0 => T0 | 1 => T1 | 2 => T2 | _ => ⟨#[]⟩
  let wss : Nat → List ByteArray := fun | 0 => [⟨#[108, 111, 116]⟩, ⟨#[48, 102, 55, 97]⟩] | 1 => [⟨#[111, 112, 101, 110]⟩, ⟨#[45, 49]⟩, ⟨#[53]⟩] | _ => [⟨#[116, 105, 99, 107]⟩, ⟨#[45, 51]⟩]
  have h3 : (ss 3).toList = [] := by rw [ByteArray.toList_eq]; rfl
  refine (parse_calls 9 3 ss wss w hg (by decide) (fun j hj => ?_) (.inl h3)).mono ?_
  · match j, hj with
    | 0, _ => exact ⟨line_lot, .lot _ _ fromHex_f⟩
    | 1, _ =>
      obtain ⟨r1, r2, r3, r4, h⟩ := several_f
      exact ⟨line_open, .open_ _ _ r1 r2 r3 r4 h⟩
    | 2, _ => exact ⟨line_tick, .tick _ _ number_m3⟩
  · rintro e w' ⟨⟨h1, _⟩, hb⟩
    exact ⟨h1 h3, hb⟩
theorem parse_second (w : World) (hg : Gl w) : Calls Tryd.prog 12 #[.string U0] w fun e w' => e = .returned (.tuple #[.slice none 0 0, .int .i64 2, .int .i64 2]) ∧ Below w.heap.size w w' := by
  let ss : Nat → ByteArray := fun | 0 => U0 | _ => U1
  let wss : Nat → List ByteArray := fun _ => [⟨#[115, 121, 110, 99]⟩]
  have hne : (ss 1).toList ≠ [] := line_sink.ne
  refine (parse_calls 9 1 ss wss w hg (by decide) (fun j hj => ?_) (.inr ⟨_, line_sink⟩)).mono ?_
  · match j, hj with
    | 0, _ => exact ⟨line_sync, .sync⟩
  · rintro e w' ⟨⟨_, h2⟩, hb⟩
    exact ⟨h2 hne, hb⟩
/-- The three events' text. -/
theorem print_three (w : World) (hg : Gl w) (bk g : Nat) (hk : w.heap[g]? = some (.cells #[.int .i64 (-1), .int .i64 5] 3 (0, 0)))
    (hc : w.heap[bk]? = some (.cells #[.int .i64 1, .string ⟨#[15, 122]⟩, .int .i64 0, .slice none 0 0, .int .i64 7, .string ⟨#[]⟩, .int .i64 0, .slice (some ⟨g, 0, none⟩) 2 2, .int .i64 2, .string ⟨#[]⟩, .int .i64 (-3), .slice none 0 0] 34 (0, 0))) :
    Calls Tryd.prog 11 #[.slice (some ⟨bk, 0, none⟩) 3 3] w fun e w' => e = .returned (.tuple #[.string T0, .int .i64 0]) ∧ Below w.heap.size w w' := by
  have hkeep : Kd.C (Kd.int .i64) w (some ⟨g, 0, none⟩) 2 [-1, 5] := Kd.C_of_reads (enc := Value.int .i64) (d := (0 : Int)) (h1 := fun _ => rfl) ⟨rfl, by decide, fun _ => ⟨_, rfl, fun j hj => by
    rw [add_plain]
    match j, hj with
    | 0, _ => exact (blk_cell hk 0).trans rfl
    | 1, _ => exact (blk_cell hk 1).trans rfl⟩⟩
  refine (print_calls 9 bk [⟨1, ⟨#[15, 122]⟩, 0, none, 0, []⟩, ⟨7, ⟨#[]⟩, 0, some ⟨g, 0, none⟩, 2, [-1, 5]⟩, ⟨2, ⟨#[]⟩, -3, none, 0, []⟩]
    [[⟨#[108, 111, 116]⟩, ⟨#[48, 102, 55, 97]⟩], [⟨#[111, 112, 101, 110]⟩, ⟨#[45, 49]⟩, ⟨#[53]⟩], [⟨#[116, 105, 99, 107]⟩, ⟨#[45, 51]⟩]] w hg (by simp) rfl ?_ ?_ ?_).mono ?_
  · intro j e he i hi
    match j, he with
    | 0, he =>
      obtain rfl := Option.some.inj he
      match i, hi with
      | 0, _ => exact (blk_cell hc 0).trans rfl
      | 1, _ => exact (blk_cell hc 1).trans rfl
      | 2, _ => exact (blk_cell hc 2).trans rfl
      | 3, _ => exact (blk_cell hc 3).trans rfl
    | 1, he =>
      obtain rfl := Option.some.inj he
      match i, hi with
      | 0, _ => exact (blk_cell hc 4).trans rfl
      | 1, _ => exact (blk_cell hc 5).trans rfl
      | 2, _ => exact (blk_cell hc 6).trans rfl
      | 3, _ => exact (blk_cell hc 7).trans rfl
    | 2, he =>
      obtain rfl := Option.some.inj he
      match i, hi with
      | 0, _ => exact (blk_cell hc 8).trans rfl
      | 1, _ => exact (blk_cell hc 9).trans rfl
      | 2, _ => exact (blk_cell hc 10).trans rfl
      | 3, _ => exact (blk_cell hc 11).trans rfl
    | j + 3, he => simp at he
  · intro j e he
    match j, he with
    | 0, he => obtain rfl := Option.some.inj he; exact ⟨Kd.C_nil _ _, Nat.le_refl _⟩
    | 1, he => obtain rfl := Option.some.inj he; exact ⟨hkeep, Nat.le_refl _⟩
    | 2, he => obtain rfl := Option.some.inj he; exact ⟨Kd.C_nil _ _, Nat.le_refl _⟩
    | j + 3, he => simp at he
  · intro j e ws he hw
    match j, he, hw with
    | 0, he, hw => obtain rfl := Option.some.inj he; obtain rfl := Option.some.inj hw; exact ⟨words_lot, by decide, by decide, by decide⟩
    | 1, he, hw => obtain rfl := Option.some.inj he; obtain rfl := Option.some.inj hw; exact ⟨words_open, by decide, by decide, by decide⟩
    | 2, he, hw => obtain rfl := Option.some.inj he; obtain rfl := Option.some.inj hw; exact ⟨words_tick, by decide, by decide, by decide⟩
    | j + 3, he, hw => simp at he
  · rintro e w' ⟨rfl, hb⟩
    rw [text_eq]
    exact ⟨rfl, hb⟩
namespace PSc
def gossamerlaw43_awake.f (_ : Nat) : Option (Bool) := some true
theorem gossamerlaw43_awake.mono : ∀ k, LeO (gossamerlaw43_awake.f k) (gossamerlaw43_awake.f (k + 1)) := fun _ => LeO.refl _
set_option maxRecDepth 100000 in
set_option maxHeartbeats 4000000 in
theorem gossamerlaw43_awake.calls (k : Nat) (r : Bool) (w : World) (hg : Gl w) (h : gossamerlaw43_awake.f k = some r) :
    Calls Tryd.prog 4 #[] w fun e w' => e = .returned (.bool r) ∧ Below w.heap.size w w' := by
  obtain rfl := Option.some.inj h
  go_enter Tryd.func4, Tryd.ntmps4
  go_wp2_with fail
  have hbA : Below w.heap.size w (w.alloc (.cells #[.int .i64 (-1), .int .i64 5] 3)) := (Below.refl _ w).alloc (Nat.le_refl _) _
  have kA := blk_new w (.cells #[.int .i64 (-1), .int .i64 5] 3)
  have hsA : (w.alloc (.cells #[.int .i64 (-1), .int .i64 5] 3)).heap.size = w.heap.size + 1 := by simp
  generalize w.alloc (.cells #[.int .i64 (-1), .int .i64 5] 3) = WA at hbA kA hsA ⊢
  rw [← hsA]
  generalize hCS : (#[.int .i64 1, .string ⟨#[15, 122]⟩, .int .i64 0, .slice none 0 0, .int .i64 7, .string ⟨#[]⟩, .int .i64 0, .slice (some ⟨w.heap.size, 0, none⟩) 2 2, .int .i64 2, .string ⟨#[]⟩, .int .i64 (-3), .slice none 0 0] : Array Value) = CS
  have hbB : Below WA.heap.size WA (WA.alloc (.cells CS 34)) := (Below.refl _ WA).alloc (Nat.le_refl _) _
  have kB := blk_new WA (.cells CS 34)
  have kA2 := blk_below kA hbB
  generalize WA.alloc (.cells CS 34) = WB at hbB kB kA2 ⊢
  rw [← hCS] at kB
  have hB0 : Below w.heap.size w WB := hbA.trans (hbB.mono hbA.size)
  refine (print_three WB (hg.below hB0) _ _ kA2 kB).mono ?_
  rintro e W1 ⟨rfl, hb1⟩
  have hB1 : Below w.heap.size w W1 := hB0.trans (hb1.mono hB0.size)
  clear hCS kA kB kA2 hbA hbB hB0 hb1 hsA
  go_wp2_with fail
  refine (parse_first W1 (hg.below hB1)).mono ?_
  rintro e W2 ⟨⟨A, c, rfl⟩, hb2⟩
  have hB2 : Below w.heap.size w W2 := hB1.trans (hb2.mono hB1.size)
  clear hb2 hB1
  go_wp2_with fail
  refine (parse_second W2 (hg.below hB2)).mono ?_
  rintro e W3 ⟨rfl, hb3⟩
  have hB3 : Below w.heap.size w W3 := hB2.trans (hb3.mono hB2.size)
  clear hb3 hB2
  go_wp2_with fail
  refine (script_FromHex.calls 9 ⟨#[48, 102, 55, 97]⟩ ⟨#[15, 122]⟩ true W3 fromHex_f).mono ?_
  rintro e W4 ⟨rfl, hb4⟩
  have hB4 : Below w.heap.size w W4 := hB3.trans (hb4.mono hB3.size)
  clear hb4 hB3
  go_wp2_with fail
  refine (script_Number.calls 9 ⟨#[45, 57, 50, 50, 51, 51, 55, 50, 48, 51, 54, 56, 53, 52, 55, 55, 53, 56, 48, 56]⟩ (-9223372036854775808) true W4 (hg.below hB4) number_min).mono ?_
  rintro e W5 ⟨rfl, hb5⟩
  have hB5 : Below w.heap.size w W5 := hB4.trans (hb5.mono hB4.size)
  clear hb5 hB4
  have hT : T0.toList = [108, 111, 116, 32, 48, 102, 55, 97, 10, 111, 112, 101, 110, 32, 45, 49, 32, 53, 10, 116, 105, 99, 107, 32, 45, 51, 10] := by rw [ByteArray.toList_eq]; rfl
  have hx : (⟨#[15, 122]⟩ : ByteArray).toList = [15, 122] := by rw [ByteArray.toList_eq]
  go_wp2_with fail
  refine (script_Hex.calls 9 ⟨#[]⟩ ⟨#[45]⟩ W5 (by kernel_rfl)).mono ?_
  rintro e W6 ⟨rfl, hb6⟩
  have hB6 : Below w.heap.size w W6 := hB5.trans (hb6.mono hB5.size)
  clear hb6 hB5
  have hy : (⟨#[45]⟩ : ByteArray).toList = [45] := by rw [ByteArray.toList_eq]
  go_wp2
  go_ret
  exact ⟨rfl, hB6⟩
end PSc
end Go.Proofs.YtlafglenafmhbaaDoor
