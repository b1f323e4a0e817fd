/- What the walks of the script share: the package's variables as they lie, bytes of a string as a row, the library's contracts in the printed words. -/
import Derived.Test.YtlafglenafmhbaaDoorPScx0
import Derived.Test.YtlafglenafmhbaaDoorShelf
namespace Go.Proofs.YtlafglenafmhbaaDoor
open Go.RowKit Go.Shelf Go.Proofs.YtlafglenafmhbaaDoorW.PrintWords Go.Proofs.YtlafglenafmhbaaDoorW.PrintLast Go.Proofs.YtlafglenafmhbaaDoorW.PrintMore
set_option linter.unusedVariables false
section
variable {P : Program} {ops : Array Oper} {rest : List Oper} {o : Oper} {a : Act} {Q : Exit → Act → World → Prop}
/-- []byte(s): a row that is read. -/
theorem bytes_event {W : World} (hgd : o.guard = none) {N : Tmp} (_hd : o.dst = some N) {s : ByteArray}
    (hrun : (execOp a.eval o).run P W = .ok (.value (.slice (some ⟨W.heap.size, 0, none⟩) s.size (grownCap W s.size 0 5))) (Lib.bytesWorld W 5 s))
    (h : ∀ (g c : Nat) (C : Array Value) (fr : Nat × Nat), g = W.heap.size → (∀ i : Int, 0 ≤ i → i < s.size → C[i.toNat]? = some (.int .u8 (bt s i))) →
      ∀ w1, w1.heap[g]? = some (.cells C 5 fr) → Below W.heap.size W w1 → wpList P ops Q rest (a.put o.dst (.slice (some ⟨g, 0, none⟩) s.size c)) w1) : wpList P ops Q (o :: rest) a W := by
  refine Kd.event_run hgd hrun (h _ _ _ _ rfl ?_ _ (Lib.bytesWorld_at_new W 5 s) ⟨rfl, rfl, rfl, by rw [Lib.bytesWorld_size]; omega, fun k hk => Lib.bytesWorld_at_old W 5 s k hk⟩)
  intro i h0 h1
  have hj : i.toNat < s.size := by omega
  have := Lib.bytesWorld_cell W 5 s i.toNat hj
  rw [World.cell?] at this
  simp only [Lib.bytesWorld_at_new] at this
  have e : ((s.data.toList.getD i.toNat 0).toNat : Int) = bt s i := by
    rw [← bt_at s i hj]
    simp [List.getD_eq_getElem?_getD, hj]
    rfl
  rw [e] at this
  simpa using this
end
theorem bytes_cell {w : World} {g : Nat} {C : Array Value} {t : TypeId} {fr : Nat × Nat} {j : Nat} {v : Value} (h : w.heap[g]? = some (.cells C t fr)) (hc : C[j]? = some v) : w.cell? ⟨g, j, none⟩ = some v := by
  simp [World.cell?, h, hc]

namespace PSc
def strings_IndexByte.f (a0 : ByteArray) (a1 : Int) : Option (Int) := some (Lib.indexByte a0.data.toList a1.toNat.toUInt8)
theorem strings_IndexByte.calls (a0 : ByteArray) (a1 : Int) (r : Int) (w : World) (h : strings_IndexByte.f a0 a1 = some r) :
    Calls Tryd.prog 16 #[.string a0, .int .u8 a1] w fun e w' => e = .returned (.int .i64 r) ∧ Drawn0 w w' := by
  obtain rfl := Option.some.inj h
  refine (Tryd.strings_IndexByte a0 a1 w).mono ?_
  rintro e w' ⟨rfl, rfl⟩
  exact ⟨rfl, Drawn0.refl _⟩
end PSc
end Go.Proofs.YtlafglenafmhbaaDoor
