/-
  No cell of these rows narrows 'for every input' (looked for: loops, veiled, ifaces, maps, wideKeys, modest, calm, conditions, laid).
  DERIVED. THE GIVEN ROWS OF THIS SEAT. 3 by the template 'for every input the law returns true; each argument reads behind the call as it read before'; 0 by the template 'total and deterministic' (their statements: YtalmhafekmggdaaTotals.lean).
  GIVEN WITH THE SEED: the statements are not yours to turn. If you find one false, say at which input.
  Laid BY PROGRAM, IN A SANDBOX (cutbox-rows.mjs): the forced cells as the released guide's own fill.sh prints them over the translation 5f0c9beee2edf6a2… (all of the seat's roots in one cut). By AI agents, Wed Nov 11 2026. No macro, syntax, notation, axiom, sorry.
-/
import Derived.Test.YtalmhafekmggdaaChecked
import GoSem.Claim
import GoSem.ClaimJoined
import GoSem.ClaimMapViews
import Derived.JoinedTies
import Derived.KernelRfl
namespace Go.Proofs.Ytalmhafekmggdaa
/- THE CELL 'sum', in the pinned program and in every row, IS THE sha256 OF THE DUMP (.gsa) THAT YtalmhafekmggdaaProg.lean LOADS. Nothing in Lean hashes anything: it is a label: what it is worth is what the hold of that sum in a sandbox is worth. -/
noncomputable def Try.pinned : Pinned := { name := "ytalmhafekmggdaa", sum := "5f0c9beee2edf6a242d9b0665c42b6eaa28f5b3c772fa4c7b097db29c083d895", checked := Try.checked }
namespace Rows
def none {H : Type} : Left H := { results := [], args := [] }

/-- 'gossamerlaw38.PageIs': WHATEVER THE INPUT: true; the input reads as it did. -/
def pageIsSpec : ChangeSpec := { name := "pageIs", fn := fun _ => fun
  | [d1, d2] => { results := [.lit (.bool true)], args := [d1, d2] }
  | _ => none }
def pageIsRow : OpenClaim := { program := "ytalmhafekmggdaa", sum := "5f0c9beee2edf6a242d9b0665c42b6eaa28f5b3c772fa4c7b097db29c083d895", func := "gossamer/gossamerlaw38.PageIs", spec := "pageIs", unfollowed := true, recurses := true, apart := false }
def PageIsSaid : Prop := pageIsRow.holds Try.pinned (OpenSpec.ofChange pageIsSpec)

/-- ITS FALSE NEIGHBOUR: 'it returns false'. Refute it at one input. -/
def pageIsWrong : ChangeSpec := { name := "pageIs", fn := fun _ => fun
  | [d1, d2] => { results := [.lit (.bool false)], args := [d1, d2] }
  | _ => none }
def PageIsWrongFalsely : Prop := pageIsRow.holds Try.pinned (OpenSpec.ofChange pageIsWrong)

/-- 'gossamerlaw38.PageSome': WHATEVER THE INPUT: true; the input reads as it did. -/
def pageSomeSpec : ChangeSpec := { name := "pageSome", fn := fun _ => fun
  | [d1, d2, d3] => { results := [.lit (.bool true)], args := [d1, d2, d3] }
  | _ => none }
def pageSomeRow : OpenClaim := { program := "ytalmhafekmggdaa", sum := "5f0c9beee2edf6a242d9b0665c42b6eaa28f5b3c772fa4c7b097db29c083d895", func := "gossamer/gossamerlaw38.PageSome", spec := "pageSome", unfollowed := true, recurses := true, apart := false }
def PageSomeSaid : Prop := pageSomeRow.holds Try.pinned (OpenSpec.ofChange pageSomeSpec)

/-- ITS FALSE NEIGHBOUR: 'it returns false'. Refute it at one input. -/
def pageSomeWrong : ChangeSpec := { name := "pageSome", fn := fun _ => fun
  | [d1, d2, d3] => { results := [.lit (.bool false)], args := [d1, d2, d3] }
  | _ => none }
def PageSomeWrongFalsely : Prop := pageSomeRow.holds Try.pinned (OpenSpec.ofChange pageSomeWrong)

/-- 'gossamerlaw38.PageAll': WHATEVER THE INPUT: true; the input reads as it did. -/
def pageAllSpec : ChangeSpec := { name := "pageAll", fn := fun _ => fun
  | [d1, d2] => { results := [.lit (.bool true)], args := [d1, d2] }
  | _ => none }
def pageAllRow : OpenClaim := { program := "ytalmhafekmggdaa", sum := "5f0c9beee2edf6a242d9b0665c42b6eaa28f5b3c772fa4c7b097db29c083d895", func := "gossamer/gossamerlaw38.PageAll", spec := "pageAll", unfollowed := true, recurses := true, apart := false }
def PageAllSaid : Prop := pageAllRow.holds Try.pinned (OpenSpec.ofChange pageAllSpec)

/-- ITS FALSE NEIGHBOUR: 'it returns false'. Refute it at one input. -/
def pageAllWrong : ChangeSpec := { name := "pageAll", fn := fun _ => fun
  | [d1, d2] => { results := [.lit (.bool false)], args := [d1, d2] }
  | _ => none }
def PageAllWrongFalsely : Prop := pageAllRow.holds Try.pinned (OpenSpec.ofChange pageAllWrong)

/- THE SECOND FORM. 'bulk': how many values and letters a reading holds, each counted each time it is reached (what is shared counts as often as it is met; a slice's spare places count too). A statement '..UptoSaid' is the law's where the arguments, and the package variables that the reading takes, are together of bulk at most 1048576: NARROWER than '..Said'. Prove '..Said' where nothing that the law and all that it calls make is longer than what came in: it says more and counts as full. Else prove '..UptoSaid'. A law counts once. -/
mutual
def uptoBulk {H : Type} : DataW H → Nat
  | .lit (.string bytes) => bytes.length + 1
  | .lit _ => 1
  | .nil => 1
  | .ptr d => uptoBulk d + 1
  | .slice elems spare => uptoBulkAll elems + uptoBulkAll spare + 1
  | .agg parts => uptoBulkAll parts + 1
  | .iface _ d => uptoBulk d + 1
  | .map entries => uptoBulkEntries entries + 1
  | .held _ => 1
def uptoBulkAll {H : Type} : List (DataW H) → Nat
  | [] => 0
  | d :: r => uptoBulk d + uptoBulkAll r
def uptoBulkEntries {H : Type} : List (Lit × DataW H) → Nat
  | [] => 0
  | x :: r => uptoBulkEntry x + uptoBulkEntries r
def uptoBulkEntry {H : Type} : Lit × DataW H → Nat
  | (.string bytes, d) => bytes.length + uptoBulk d + 1
  | (_, d) => uptoBulk d + 1
 end
def uptoSmall : (H : Type) → List (DataW H) → Bool := fun _ ds => decide (uptoBulkAll ds ≤ 1048576)
def OpenSpec.upto (s : _root_.Go.ChangeSpec) : _root_.Go.OpenSpec := { _root_.Go.OpenSpec.ofChange s with cond := some uptoSmall }

/-- 'gossamerlaw38.PageIs', WHERE WHAT IT READS IS OF BULK AT MOST 1048576: true; the input reads as it did. -/
def pageIsUptoRow : OpenClaim := { program := "ytalmhafekmggdaa", sum := "5f0c9beee2edf6a242d9b0665c42b6eaa28f5b3c772fa4c7b097db29c083d895", func := "gossamer/gossamerlaw38.PageIs", spec := "pageIs", unfollowed := true, recurses := true, apart := false, narrowed := true }
def PageIsUptoSaid : Prop := pageIsUptoRow.holds Try.pinned (OpenSpec.upto pageIsSpec)

/-- 'gossamerlaw38.PageSome', WHERE WHAT IT READS IS OF BULK AT MOST 1048576: true; the input reads as it did. -/
def pageSomeUptoRow : OpenClaim := { program := "ytalmhafekmggdaa", sum := "5f0c9beee2edf6a242d9b0665c42b6eaa28f5b3c772fa4c7b097db29c083d895", func := "gossamer/gossamerlaw38.PageSome", spec := "pageSome", unfollowed := true, recurses := true, apart := false, narrowed := true }
def PageSomeUptoSaid : Prop := pageSomeUptoRow.holds Try.pinned (OpenSpec.upto pageSomeSpec)

/-- 'gossamerlaw38.PageAll', WHERE WHAT IT READS IS OF BULK AT MOST 1048576: true; the input reads as it did. -/
def pageAllUptoRow : OpenClaim := { program := "ytalmhafekmggdaa", sum := "5f0c9beee2edf6a242d9b0665c42b6eaa28f5b3c772fa4c7b097db29c083d895", func := "gossamer/gossamerlaw38.PageAll", spec := "pageAll", unfollowed := true, recurses := true, apart := false, narrowed := true }
def PageAllUptoSaid : Prop := pageAllUptoRow.holds Try.pinned (OpenSpec.upto pageAllSpec)

end Rows
end Go.Proofs.Ytalmhafekmggdaa
