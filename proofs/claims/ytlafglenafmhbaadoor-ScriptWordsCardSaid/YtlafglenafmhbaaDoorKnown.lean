/- script.readers: what the map of readers holds; the readers. -/
import Derived.Test.YtlafglenafmhbaaDoorPrint
import Derived.Maps.Own
import Derived.Maps.OwnSet
import Derived.Maps.Keyed
namespace Go.Proofs.YtlafglenafmhbaaDoor
open Go.RowKit Go.Shelf Go.Maps Go.Proofs.YtlafglenafmhbaaDoorW.PrintWords Go.Proofs.YtlafglenafmhbaaDoorW.PrintLast Go.Proofs.YtlafglenafmhbaaDoorW.PrintMore PSc
set_option linter.unusedVariables false
/-- A map's values, read as they are. -/
def Rf (v : Value) : Option (DataW Value × List MemPlace) := some (.held v, [])
theorem keyed9 : Keyed Tryd.prog 9 := string_keyed Tryd.underlying9
theorem key9 (s : ByteArray) (hs : s.size ≤ maxLen) : keyOf Tryd.prog 9 (.string s) = some (.string s.data.toList) := WideMaps.keyOf_string_mk Tryd.underlying9 hs
def clo (f g : Nat) : Value := .func (.func f) #[] #[.pointer (some ⟨g, 0, none⟩)]
def DW (s : List UInt8) (v : Value) (D : DataW Value) : DataW Value := D.put (.string s) (.held v)
/-- What the readers' map holds. -/
def D7 (g2 g3 g4 g5 g6 : Nat) : DataW Value :=
  DW [111, 112, 101, 110] (.func (.func 35) #[] #[]) (DW [99, 114, 97, 115, 104] (clo 48 g6) (DW [102, 117, 115, 101] (clo 47 g5) (DW [115, 97, 118, 101] (clo 48 g4) (DW [115, 121, 110, 99] (clo 48 g3) (DW [116, 105, 99, 107] (clo 47 g2) (DW [108, 111, 116] (.func (.func 32) #[] #[]) (.map [])))))))
structure KN (b g2 g3 g4 g5 g6 : Nat) (w : World) : Prop where
  m : w.ownsMap Tryd.prog 9 Rf b 7 (D7 g2 g3 g4 g5 g6)
  k2 : w.heap[g2]? = some (.cells #[.int .i64 2] 3 (0, 0))
  k3 : w.heap[g3]? = some (.cells #[.int .i64 3] 3 (0, 0))
theorem KN.below {b g2 g3 g4 g5 g6 : Nat} {w w' : World} (h : KN b g2 g3 g4 g5 g6 w) (hb : Below w.heap.size w w') : KN b g2 g3 g4 g5 g6 w' :=
  ⟨h.m.kept (grown_of_below hb none) (by simp), blk_below h.k2 hb, blk_below h.k3 hb⟩
theorem single_calls (n : Int) (w : World) : Calls Tryd.prog 33 #[.int .i64 n] w fun e w' => e = .returned (clo 47 w.heap.size) ∧ w.alloc (.cells #[.int .i64 n] 3) = w' := by
  go_enter Tryd.func33, Tryd.ntmps33
  go_wp2
  go_ret
  exact ⟨rfl, rfl⟩
theorem plain_calls (n : Int) (w : World) : Calls Tryd.prog 34 #[.int .i64 n] w fun e w' => e = .returned (clo 48 w.heap.size) ∧ w.alloc (.cells #[.int .i64 n] 3) = w' := by
  go_enter Tryd.func34, Tryd.ntmps34
  go_wp2
  go_ret
  exact ⟨rfl, rfl⟩
set_option maxRecDepth 100000 in
set_option maxHeartbeats 2000000 in
theorem readers_calls (w : World) : Calls Tryd.prog 22 #[] w fun e w' => ∃ b g2 g3 g4 g5 g6, e = .returned (.map (some b)) ∧ KN b g2 g3 g4 g5 g6 w' ∧ Below w.heap.size w w' := by
  go_enter Tryd.func22, Tryd.ntmps22
  have km := fun W : World => (show (Instr.makeMap 54 none).run Tryd.prog W = .ok (.map (some W.heap.size)) (W.alloc (.map #[] 0)) from rfl)
  have m0 := World.ownsMap_made w Tryd.prog 9 Rf
  have b0 : Below w.heap.size w (w.alloc (.map #[] 0)) := (Below.refl _ w).alloc (Nat.le_refl _) _
  obtain ⟨W1, r1, m1, gr1⟩ := m0.update keyed9 Tryd.underlying54 (by decide) (key9 ⟨#[108, 111, 116]⟩ (by decide)) (show Rf (.func (.func 32) #[] #[]) = some (.held (.func (.func 32) #[] #[]), []) from rfl)
  have b1 := b0.grown gr1 (by simp) (fun k e => by cases e; omega)
  go_wp2_with fail
  clear r1 km m0 b0 gr1
  refine (single_calls 2 W1).mono ?_
  rintro e V1 ⟨rfl, hV1⟩
  have v1 : Below w.heap.size w V1 := by rw [← hV1]; exact b1.alloc b1.size _
  have n1 := m1.alloc (.cells #[.int .i64 2] 3)
  rw [hV1] at n1
  have k2 : V1.heap[W1.heap.size]? = some (.cells #[.int .i64 2] 3 (0, 0)) := by rw [← hV1]; exact blk_new W1 _
  generalize W1.heap.size = g2 at n1 k2 ⊢
  clear hV1 b1 m1
  obtain ⟨W2, r2, m2, gr2⟩ := n1.update keyed9 Tryd.underlying54 (by decide) (key9 ⟨#[116, 105, 99, 107]⟩ (by decide)) (show Rf (clo 47 g2) = some (.held (clo 47 g2), []) from rfl)
  have b2 := v1.grown gr2 (by first | exact Nat.le_refl _ | exact v1.size | exact v2.size | exact v3.size | exact v4.size | exact v5.size) (fun k e => by cases e; omega)
  have k2 := blk_grown (w1 := W2) k2 gr2 (by intro e; cases e; have := n1; obtain ⟨es, ck, hh, _⟩ := this; rw [k2] at hh; cases hh)
  go_wp2_with fail
  clear r2 gr2 n1 v1
  refine (plain_calls 3 W2).mono ?_
  rintro e V2 ⟨rfl, hV2⟩
  have v2 : Below w.heap.size w V2 := by rw [← hV2]; exact b2.alloc b2.size _
  have n2 := m2.alloc (.cells #[.int .i64 3] 3)
  rw [hV2] at n2
  have k3 : V2.heap[W2.heap.size]? = some (.cells #[.int .i64 3] 3 (0, 0)) := by rw [← hV2]; exact blk_new W2 _
  have k2 := blk_below (w1 := V2) k2 (by rw [← hV2]; exact (Below.refl _ W2).alloc (Nat.le_refl _) _)
  generalize W2.heap.size = g3 at n2 k3 ⊢
  clear hV2 b2 m2
  obtain ⟨W3, r3, m3, gr3⟩ := n2.update keyed9 Tryd.underlying54 (by decide) (key9 ⟨#[115, 121, 110, 99]⟩ (by decide)) (show Rf (clo 48 g3) = some (.held (clo 48 g3), []) from rfl)
  have b3 := v2.grown gr3 (by first | exact Nat.le_refl _ | exact v1.size | exact v2.size | exact v3.size | exact v4.size | exact v5.size) (fun k e => by cases e; omega)
  have k2 := blk_grown (w1 := W3) k2 gr3 (by intro e; cases e; have := n2; obtain ⟨es, ck, hh, _⟩ := this; rw [k2] at hh; cases hh)
  have k3 := blk_grown (w1 := W3) k3 gr3 (by intro e; cases e; have := n2; obtain ⟨es, ck, hh, _⟩ := this; rw [k3] at hh; cases hh)
  go_wp2_with fail
  clear r3 gr3 n2 v2
  refine (plain_calls 4 W3).mono ?_
  rintro e V3 ⟨rfl, hV3⟩
  have v3 : Below w.heap.size w V3 := by rw [← hV3]; exact b3.alloc b3.size _
  have n3 := m3.alloc (.cells #[.int .i64 4] 3)
  rw [hV3] at n3
  have k4 : V3.heap[W3.heap.size]? = some (.cells #[.int .i64 4] 3 (0, 0)) := by rw [← hV3]; exact blk_new W3 _
  have k2 := blk_below (w1 := V3) k2 (by rw [← hV3]; exact (Below.refl _ W3).alloc (Nat.le_refl _) _)
  have k3 := blk_below (w1 := V3) k3 (by rw [← hV3]; exact (Below.refl _ W3).alloc (Nat.le_refl _) _)
  generalize W3.heap.size = g4 at n3 k4 ⊢
  clear hV3 b3 m3
  obtain ⟨W4, r4, m4, gr4⟩ := n3.update keyed9 Tryd.underlying54 (by decide) (key9 ⟨#[115, 97, 118, 101]⟩ (by decide)) (show Rf (clo 48 g4) = some (.held (clo 48 g4), []) from rfl)
  have b4 := v3.grown gr4 (by first | exact Nat.le_refl _ | exact v1.size | exact v2.size | exact v3.size | exact v4.size | exact v5.size) (fun k e => by cases e; omega)
  have k2 := blk_grown (w1 := W4) k2 gr4 (by intro e; cases e; have := n3; obtain ⟨es, ck, hh, _⟩ := this; rw [k2] at hh; cases hh)
  have k3 := blk_grown (w1 := W4) k3 gr4 (by intro e; cases e; have := n3; obtain ⟨es, ck, hh, _⟩ := this; rw [k3] at hh; cases hh)
  go_wp2_with fail
  clear r4 gr4 n3 v3
  refine (single_calls 5 W4).mono ?_
  rintro e V4 ⟨rfl, hV4⟩
  have v4 : Below w.heap.size w V4 := by rw [← hV4]; exact b4.alloc b4.size _
  have n4 := m4.alloc (.cells #[.int .i64 5] 3)
  rw [hV4] at n4
  have k5 : V4.heap[W4.heap.size]? = some (.cells #[.int .i64 5] 3 (0, 0)) := by rw [← hV4]; exact blk_new W4 _
  have k2 := blk_below (w1 := V4) k2 (by rw [← hV4]; exact (Below.refl _ W4).alloc (Nat.le_refl _) _)
  have k3 := blk_below (w1 := V4) k3 (by rw [← hV4]; exact (Below.refl _ W4).alloc (Nat.le_refl _) _)
  generalize W4.heap.size = g5 at n4 k5 ⊢
  clear hV4 b4 m4
  obtain ⟨W5, r5, m5, gr5⟩ := n4.update keyed9 Tryd.underlying54 (by decide) (key9 ⟨#[102, 117, 115, 101]⟩ (by decide)) (show Rf (clo 47 g5) = some (.held (clo 47 g5), []) from rfl)
  have b5 := v4.grown gr5 (by first | exact Nat.le_refl _ | exact v1.size | exact v2.size | exact v3.size | exact v4.size | exact v5.size) (fun k e => by cases e; omega)
  have k2 := blk_grown (w1 := W5) k2 gr5 (by intro e; cases e; have := n4; obtain ⟨es, ck, hh, _⟩ := this; rw [k2] at hh; cases hh)
  have k3 := blk_grown (w1 := W5) k3 gr5 (by intro e; cases e; have := n4; obtain ⟨es, ck, hh, _⟩ := this; rw [k3] at hh; cases hh)
  go_wp2_with fail
  clear r5 gr5 n4 v4
  refine (plain_calls 6 W5).mono ?_
  rintro e V5 ⟨rfl, hV5⟩
  have v5 : Below w.heap.size w V5 := by rw [← hV5]; exact b5.alloc b5.size _
  have n5 := m5.alloc (.cells #[.int .i64 6] 3)
  rw [hV5] at n5
  have k6 : V5.heap[W5.heap.size]? = some (.cells #[.int .i64 6] 3 (0, 0)) := by rw [← hV5]; exact blk_new W5 _
  have k2 := blk_below (w1 := V5) k2 (by rw [← hV5]; exact (Below.refl _ W5).alloc (Nat.le_refl _) _)
  have k3 := blk_below (w1 := V5) k3 (by rw [← hV5]; exact (Below.refl _ W5).alloc (Nat.le_refl _) _)
  generalize W5.heap.size = g6 at n5 k6 ⊢
  clear hV5 b5 m5
  obtain ⟨W6, r6, m6, gr6⟩ := n5.update keyed9 Tryd.underlying54 (by decide) (key9 ⟨#[99, 114, 97, 115, 104]⟩ (by decide)) (show Rf (clo 48 g6) = some (.held (clo 48 g6), []) from rfl)
  have b6 := v5.grown gr6 (by first | exact Nat.le_refl _ | exact v1.size | exact v2.size | exact v3.size | exact v4.size | exact v5.size) (fun k e => by cases e; omega)
  have k2 := blk_grown (w1 := W6) k2 gr6 (by intro e; cases e; have := n5; obtain ⟨es, ck, hh, _⟩ := this; rw [k2] at hh; cases hh)
  have k3 := blk_grown (w1 := W6) k3 gr6 (by intro e; cases e; have := n5; obtain ⟨es, ck, hh, _⟩ := this; rw [k3] at hh; cases hh)
  obtain ⟨W7, r7, m7, gr7⟩ := m6.update keyed9 Tryd.underlying54 (by decide) (key9 ⟨#[111, 112, 101, 110]⟩ (by decide)) (show Rf (.func (.func 35) #[] #[]) = some (.held (.func (.func 35) #[] #[]), []) from rfl)
  have b7 := b6.grown gr7 b6.size (fun k e => by cases e; omega)
  have k2 := blk_grown (w1 := W7) k2 gr7 (by intro e; cases e; obtain ⟨es, ck, hh, _⟩ := m6; rw [k2] at hh; cases hh)
  have k3 := blk_grown (w1 := W7) k3 gr7 (by intro e; cases e; obtain ⟨es, ck, hh, _⟩ := m6; rw [k3] at hh; cases hh)
  go_wp2
  go_ret
  exact ⟨w.heap.size, g2, g3, g4, g5, g6, rfl, ⟨m7, k2, k3⟩, b7⟩
end Go.Proofs.YtlafglenafmhbaaDoor
