/-
  No cell of these rows narrows 'for every input' (looked for: loops, veiled, ifaces, maps, wideKeys, modest, calm, conditions, laid).
  DERIVED. THE GIVEN ROWS OF THIS SEAT. 4 by the template 'for every input the law returns true; each argument reads behind the call as it read before'; 0 by the template 'total and deterministic' (their statements: YtnpelpnndkifmaaTotals.lean).
  GIVEN WITH THE SEED: the statements are not yours to turn. If you find one false, say at which input.
  Laid BY PROGRAM, IN A SANDBOX (cutbox-rows.mjs): the forced cells as the released guide's own fill.sh prints them over the translation e7f953be331422b5… (all of the seat's roots in one cut). By AI agents, Wed Nov 11 2026. No macro, syntax, notation, axiom, sorry.
-/
import Derived.Test.YtnpelpnndkifmaaChecked
import GoSem.Claim
import GoSem.ClaimJoined
import GoSem.ClaimMapViews
import Derived.JoinedTies
import Derived.KernelRfl
namespace Go.Proofs.Ytnpelpnndkifmaa
/- THE CELL 'sum', in the pinned program and in every row, IS THE sha256 OF THE DUMP (.gsa) THAT YtnpelpnndkifmaaProg.lean LOADS. Nothing in Lean hashes anything: it is a label: what it is worth is what the hold of that sum in a sandbox is worth. -/
noncomputable def Try.pinned : Pinned := { name := "ytnpelpnndkifmaa", sum := "e7f953be331422b5068c1bcdd0fe95687149132d3bdc69ad58917da5b727aca6", checked := Try.checked }
namespace Rows
def none {H : Type} : Left H := { results := [], args := [] }

/-- 'gossamerlaw04.WideIs': WHATEVER THE INPUT: true; the input reads as it did. -/
def wideIsSpec : ChangeSpec := { name := "wideIs", fn := fun _ => fun
  | [d1, d2, d3] => { results := [.lit (.bool true)], args := [d1, d2, d3] }
  | _ => none }
def wideIsRow : OpenClaim := { program := "ytnpelpnndkifmaa", sum := "e7f953be331422b5068c1bcdd0fe95687149132d3bdc69ad58917da5b727aca6", func := "gossamer/gossamerlaw04.WideIs", spec := "wideIs", named := ["math/bits.divideError", "math/bits.overflowError"], apart := false }
def WideIsSaid : Prop := wideIsRow.holds Try.pinned (OpenSpec.ofChange wideIsSpec)

/-- ITS FALSE NEIGHBOUR: 'it returns false'. Refute it at one input. -/
def wideIsWrong : ChangeSpec := { name := "wideIs", fn := fun _ => fun
  | [d1, d2, d3] => { results := [.lit (.bool false)], args := [d1, d2, d3] }
  | _ => none }
def WideIsWrongFalsely : Prop := wideIsRow.holds Try.pinned (OpenSpec.ofChange wideIsWrong)

/-- 'gossamerlaw04.WideBack': WHATEVER THE INPUT: true; the input reads as it did. -/
def wideBackSpec : ChangeSpec := { name := "wideBack", fn := fun _ => fun
  | [d1, d2] => { results := [.lit (.bool true)], args := [d1, d2] }
  | _ => none }
def wideBackRow : OpenClaim := { program := "ytnpelpnndkifmaa", sum := "e7f953be331422b5068c1bcdd0fe95687149132d3bdc69ad58917da5b727aca6", func := "gossamer/gossamerlaw04.WideBack", spec := "wideBack", named := ["math/bits.divideError", "math/bits.overflowError"], apart := false }
def WideBackSaid : Prop := wideBackRow.holds Try.pinned (OpenSpec.ofChange wideBackSpec)

/-- ITS FALSE NEIGHBOUR: 'it returns false'. Refute it at one input. -/
def wideBackWrong : ChangeSpec := { name := "wideBack", fn := fun _ => fun
  | [d1, d2] => { results := [.lit (.bool false)], args := [d1, d2] }
  | _ => none }
def WideBackWrongFalsely : Prop := wideBackRow.holds Try.pinned (OpenSpec.ofChange wideBackWrong)

/-- 'gossamerlaw04.WideOrder': WHATEVER THE INPUT: true; the input reads as it did. -/
def wideOrderSpec : ChangeSpec := { name := "wideOrder", fn := fun _ => fun
  | [d] => { results := [.lit (.bool true)], args := [d] }
  | _ => none }
def wideOrderRow : OpenClaim := { program := "ytnpelpnndkifmaa", sum := "e7f953be331422b5068c1bcdd0fe95687149132d3bdc69ad58917da5b727aca6", func := "gossamer/gossamerlaw04.WideOrder", spec := "wideOrder", named := ["math/bits.divideError", "math/bits.overflowError"], apart := false }
def WideOrderSaid : Prop := wideOrderRow.holds Try.pinned (OpenSpec.ofChange wideOrderSpec)

/-- ITS FALSE NEIGHBOUR: 'it returns false'. Refute it at one input. -/
def wideOrderWrong : ChangeSpec := { name := "wideOrder", fn := fun _ => fun
  | [d] => { results := [.lit (.bool false)], args := [d] }
  | _ => none }
def WideOrderWrongFalsely : Prop := wideOrderRow.holds Try.pinned (OpenSpec.ofChange wideOrderWrong)

/-- 'gossamerlaw04.WideMean': WHATEVER THE INPUT: true; the input reads as it did. -/
def wideMeanSpec : ChangeSpec := { name := "wideMean", fn := fun _ => fun
  | [d] => { results := [.lit (.bool true)], args := [d] }
  | _ => none }
def wideMeanRow : OpenClaim := { program := "ytnpelpnndkifmaa", sum := "e7f953be331422b5068c1bcdd0fe95687149132d3bdc69ad58917da5b727aca6", func := "gossamer/gossamerlaw04.WideMean", spec := "wideMean", named := ["math/bits.divideError", "math/bits.overflowError"], apart := false }
def WideMeanSaid : Prop := wideMeanRow.holds Try.pinned (OpenSpec.ofChange wideMeanSpec)

/-- ITS FALSE NEIGHBOUR: 'it returns false'. Refute it at one input. -/
def wideMeanWrong : ChangeSpec := { name := "wideMean", fn := fun _ => fun
  | [d] => { results := [.lit (.bool false)], args := [d] }
  | _ => none }
def WideMeanWrongFalsely : Prop := wideMeanRow.holds Try.pinned (OpenSpec.ofChange wideMeanWrong)

/- THE SECOND FORM. 'bulk': how many values and letters a reading holds, each counted each time it is reached (what is shared counts as often as it is met; a slice's spare places count too). A statement '..UptoSaid' is the law's where the arguments, and the package variables that the reading takes, are together of bulk at most 1048576: NARROWER than '..Said'. Prove '..Said' where nothing that the law and all that it calls make is longer than what came in: it says more and counts as full. Else prove '..UptoSaid'. A law counts once. -/
mutual
def uptoBulk {H : Type} : DataW H → Nat
  | .lit (.string bytes) => bytes.length + 1
  | .lit _ => 1
  | .nil => 1
  | .ptr d => uptoBulk d + 1
  | .slice elems spare => uptoBulkAll elems + uptoBulkAll spare + 1
  | .agg parts => uptoBulkAll parts + 1
  | .iface _ d => uptoBulk d + 1
  | .map entries => uptoBulkEntries entries + 1
  | .held _ => 1
def uptoBulkAll {H : Type} : List (DataW H) → Nat
  | [] => 0
  | d :: r => uptoBulk d + uptoBulkAll r
def uptoBulkEntries {H : Type} : List (Lit × DataW H) → Nat
  | [] => 0
  | x :: r => uptoBulkEntry x + uptoBulkEntries r
def uptoBulkEntry {H : Type} : Lit × DataW H → Nat
  | (.string bytes, d) => bytes.length + uptoBulk d + 1
  | (_, d) => uptoBulk d + 1
 end
def uptoSmall : (H : Type) → List (DataW H) → Bool := fun _ ds => decide (uptoBulkAll ds ≤ 1048576)
def OpenSpec.upto (s : _root_.Go.ChangeSpec) : _root_.Go.OpenSpec := { _root_.Go.OpenSpec.ofChange s with cond := some uptoSmall }

/-- 'gossamerlaw04.WideIs', WHERE WHAT IT READS IS OF BULK AT MOST 1048576: true; the input reads as it did. -/
def wideIsUptoRow : OpenClaim := { program := "ytnpelpnndkifmaa", sum := "e7f953be331422b5068c1bcdd0fe95687149132d3bdc69ad58917da5b727aca6", func := "gossamer/gossamerlaw04.WideIs", spec := "wideIs", named := ["math/bits.divideError", "math/bits.overflowError"], apart := false, narrowed := true }
def WideIsUptoSaid : Prop := wideIsUptoRow.holds Try.pinned (OpenSpec.upto wideIsSpec)

/-- 'gossamerlaw04.WideBack', WHERE WHAT IT READS IS OF BULK AT MOST 1048576: true; the input reads as it did. -/
def wideBackUptoRow : OpenClaim := { program := "ytnpelpnndkifmaa", sum := "e7f953be331422b5068c1bcdd0fe95687149132d3bdc69ad58917da5b727aca6", func := "gossamer/gossamerlaw04.WideBack", spec := "wideBack", named := ["math/bits.divideError", "math/bits.overflowError"], apart := false, narrowed := true }
def WideBackUptoSaid : Prop := wideBackUptoRow.holds Try.pinned (OpenSpec.upto wideBackSpec)

/-- 'gossamerlaw04.WideOrder', WHERE WHAT IT READS IS OF BULK AT MOST 1048576: true; the input reads as it did. -/
def wideOrderUptoRow : OpenClaim := { program := "ytnpelpnndkifmaa", sum := "e7f953be331422b5068c1bcdd0fe95687149132d3bdc69ad58917da5b727aca6", func := "gossamer/gossamerlaw04.WideOrder", spec := "wideOrder", named := ["math/bits.divideError", "math/bits.overflowError"], apart := false, narrowed := true }
def WideOrderUptoSaid : Prop := wideOrderUptoRow.holds Try.pinned (OpenSpec.upto wideOrderSpec)

/-- 'gossamerlaw04.WideMean', WHERE WHAT IT READS IS OF BULK AT MOST 1048576: true; the input reads as it did. -/
def wideMeanUptoRow : OpenClaim := { program := "ytnpelpnndkifmaa", sum := "e7f953be331422b5068c1bcdd0fe95687149132d3bdc69ad58917da5b727aca6", func := "gossamer/gossamerlaw04.WideMean", spec := "wideMean", named := ["math/bits.divideError", "math/bits.overflowError"], apart := false, narrowed := true }
def WideMeanUptoSaid : Prop := wideMeanUptoRow.holds Try.pinned (OpenSpec.upto wideMeanSpec)

end Rows
end Go.Proofs.Ytnpelpnndkifmaa
