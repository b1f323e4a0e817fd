/- script.single's and script.plain's function literals. -/
import Derived.Test.YtlafglenafmhbaaDoorNum
namespace Go.Proofs.YtlafglenafmhbaaDoor
open Go.RowKit Go.Shelf Go.Proofs.YtlafglenafmhbaaDoorW.PrintWords Go.Proofs.YtlafglenafmhbaaDoorW.PrintLast Go.Proofs.YtlafglenafmhbaaDoorW.PrintMore PSc
set_option linter.unusedVariables false
theorem plain1_calls (kd : Int) (g : Nat) (A : Option Addr) (c : Nat) (w : World) (hbox : w.heap[g]? = some (.cells #[.int .i64 kd] 3 (0, 0))) :
    Calls Tryd.prog 48 #[.slice A 0 c, .pointer (some ⟨g, 0, none⟩)] w fun e w' => e = .returned (.tuple #[.agg #[.int .i64 kd, .string ⟨#[]⟩, .int .i64 0, .slice none 0 0], .bool true]) ∧ Below w.heap.size w w' := by
  have hc : w.cell? ⟨g, 0, none⟩ = some (.int .i64 kd) := (blk_cell hbox 0).trans rfl
  have hgl := blk_lt hbox
  have hb : Below w.heap.size w (w.alloc (.cells #[.int .i64 0, .string ⟨#[]⟩, .int .i64 0, .slice none 0 0] 34)) := (Below.refl _ w).alloc (Nat.le_refl _) _
  go_enter Tryd.func48, Tryd.ntmps48
  go_wp2
  refine bodyPost_ret (results_ct rfl _ _ w.heap.size 34 #[.int .i64 kd, .string ⟨#[]⟩, .int .i64 0, .slice none 0 0] (0, 0) _ rfl (blk_new w _) Tryd.underlying34 rfl (by kernel_rfl)) rfl ?_
  exact ⟨rfl, (Below.refl _ w).alloc (Nat.le_refl _) _⟩
theorem single1_calls (k : Nat) (kd : Int) (g : Nat) (b o c : Nat) (s : ByteArray) (n : Int) (is : Bool) (w : World) (hg : Gl w) (hbox : w.heap[g]? = some (.cells #[.int .i64 kd] 3 (0, 0))) (hs : w.cell? ⟨b, o, none⟩ = some (.string s)) (hn : script_Number.f k s = some (n, is)) :
    Calls Tryd.prog 47 #[.slice (some ⟨b, o, none⟩) 1 c, .pointer (some ⟨g, 0, none⟩)] w fun e w' => e = .returned (.tuple #[.agg #[.int .i64 kd, .string ⟨#[]⟩, .int .i64 n, .slice none 0 0], .bool is]) ∧ Below w.heap.size w w' := by
  have hc : w.cell? ⟨g, 0, none⟩ = some (.int .i64 kd) := (blk_cell hbox 0).trans rfl
  have hgl := blk_lt hbox
  have hb0 : Below w.heap.size w (w.alloc (.cells #[.int .i64 0, .string ⟨#[]⟩, .int .i64 0, .slice none 0 0] 34)) := (Below.refl _ w).alloc (Nat.le_refl _) _
  have hs0 := Gl.cell hb0 hs
  have hnew : (w.alloc (.cells #[.int .i64 0, .string ⟨#[]⟩, .int .i64 0, .slice none 0 0] 34)).heap[w.heap.size]? = some (.cells #[.int .i64 0, .string ⟨#[]⟩, .int .i64 0, .slice none 0 0] 34 (0, 0)) := blk_new w _
  go_enter Tryd.func47, Tryd.ntmps47
  go_wp2_with fail
  generalize w.alloc (.cells #[.int .i64 0, .string ⟨#[]⟩, .int .i64 0, .slice none 0 0] 34) = W0 at hb0 hs0 hnew ⊢
  refine (script_Number.calls k s n is W0 (hg.below hb0) hn).mono ?_
  rintro e W1 ⟨rfl, hb1⟩
  have hB1 : Below w.heap.size w W1 := hb0.trans (hb1.mono hb0.size)
  have hnew1 := blk_below hnew hb1
  have hc1 : W1.cell? ⟨g, 0, none⟩ = some (.int .i64 kd) := Gl.cell hB1 hc
  clear hs hs0 hn hnew hb0 hb1 hc hbox
  have c0 : W1.cell? ⟨w.heap.size, 0, none⟩ = some (.int .i64 0) := (blk_cell hnew1 0).trans rfl
  have f0 : W1.frozen? ⟨w.heap.size, 0, none⟩ = false := blk_frozen hnew1 0
  have c1 : W1.cell? ⟨w.heap.size, 1, none⟩ = some (.string ⟨#[]⟩) := (blk_cell hnew1 1).trans rfl
  have f1 : W1.frozen? ⟨w.heap.size, 1, none⟩ = false := blk_frozen hnew1 1
  have c2 : W1.cell? ⟨w.heap.size, 2, none⟩ = some (.int .i64 0) := (blk_cell hnew1 2).trans rfl
  have f2 : W1.frozen? ⟨w.heap.size, 2, none⟩ = false := blk_frozen hnew1 2
  have c3 : W1.cell? ⟨w.heap.size, 3, none⟩ = some (.slice none 0 0) := (blk_cell hnew1 3).trans rfl
  have f3 : W1.frozen? ⟨w.heap.size, 3, none⟩ = false := blk_frozen hnew1 3
  have hl1 := blk_lt hnew1
  go_wp2
  refine bodyPost_ret (results_ct rfl _ _ w.heap.size 34 #[.int .i64 kd, .string ⟨#[]⟩, .int .i64 n, .slice none 0 0] (0, 0) _ rfl (by
    refine blk_put (cs := #[.int .i64 kd, .string ⟨#[]⟩, .int .i64 n, .slice none 0 0]) ?_ 3 _ rfl
    refine blk_put (cs := #[.int .i64 kd, .string ⟨#[]⟩, .int .i64 0, .slice none 0 0]) ?_ 2 _ rfl
    refine blk_put (cs := #[.int .i64 kd, .string ⟨#[]⟩, .int .i64 0, .slice none 0 0]) ?_ 1 _ rfl
    refine blk_put (cs := #[.int .i64 0, .string ⟨#[]⟩, .int .i64 0, .slice none 0 0]) ?_ 0 _ rfl
    exact hnew1) Tryd.underlying34 rfl (by kernel_rfl)) rfl ?_
  exact ⟨rfl, (((hB1.setCell (p := ⟨w.heap.size, 0, none⟩) (Nat.le_refl _) _).setCell (p := ⟨w.heap.size, 1, none⟩) (Nat.le_refl _) _).setCell (p := ⟨w.heap.size, 2, none⟩) (Nat.le_refl _) _).setCell (p := ⟨w.heap.size, 3, none⟩) (Nat.le_refl _) _⟩
end Go.Proofs.YtlafglenafmhbaaDoor
