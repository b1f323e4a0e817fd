-- The walks of the reference's Add and Sub, one theorem a way through (written by a program of this repo).
import Derived.Test.YtnpelpnndkifmaaPRefx1
namespace Go.Proofs.Ytnpelpnndkifmaa.PRef
open Go.RowKit Go.Proofs.YtnpelpnndkifmaaW.PrintWords Go.Proofs.YtnpelpnndkifmaaW.PrintLast Go.Proofs.YtnpelpnndkifmaaW.PrintMore
set_option linter.unusedVariables false
set_option linter.unusedSimpArgs false
theorem bcell {W w1 : World} (hb : Below W.heap.size W w1) : (∀ b o, b < W.heap.size → w1.cell? ⟨b, o, none⟩ = W.cell? ⟨b, o, none⟩) ∧ (∀ b o, b < W.heap.size → w1.frozen? ⟨b, o, none⟩ = W.frozen? ⟨b, o, none⟩) :=
  ⟨fun b o h => hb.cell (p := ⟨b, o, none⟩) h, fun b o h => hb.frozen (p := ⟨b, o, none⟩) h⟩
/-- What is known behind the two callees: the argument's box holds what it was put right to; the result's slot is a zero one. -/
theorem after_ (w w1 w2 : World) (H L a b : Int) (hB : Below w.heap.size w w1)
    (hc : ∀ (b o : Nat), b < w.heap.size + 1 + 1 → w1.cell? ⟨b, o, none⟩ = ((w.alloc (.cells #[.int .i64 H, .int .i64 L] 23)).alloc (.cells #[.int .i64 0, .int .i64 0] 23)).cell? ⟨b, o, none⟩)
    (hf : ∀ (b o : Nat), b < w.heap.size + 1 + 1 → w1.frozen? ⟨b, o, none⟩ = ((w.alloc (.cells #[.int .i64 H, .int .i64 L] 23)).alloc (.cells #[.int .i64 0, .int .i64 0] 23)).frozen? ⟨b, o, none⟩)
    (_hz : w.heap.size + 1 + 1 ≤ w1.heap.size)
    (hD : Drawn0 ((w1.setCell ⟨w.heap.size, 0, none⟩ (.int .i64 a)).setCell ⟨w.heap.size, 1, none⟩ (.int .i64 b)) w2) :
    Below w.heap.size w w2 ∧ w2.cell? ⟨w.heap.size, 0, none⟩ = some (.int .i64 a) ∧ w2.cell? ⟨w.heap.size, 1, none⟩ = some (.int .i64 b) ∧
    w2.cell? ⟨w.heap.size + 1, 0, none⟩ = some (.int .i64 0) ∧ w2.cell? ⟨w.heap.size + 1, 1, none⟩ = some (.int .i64 0) ∧
    w2.frozen? ⟨w.heap.size, 0, none⟩ = false ∧ w2.frozen? ⟨w.heap.size, 1, none⟩ = false ∧ w2.frozen? ⟨w.heap.size + 1, 0, none⟩ = false ∧ w2.frozen? ⟨w.heap.size + 1, 1, none⟩ = false := by
  obtain ⟨n, rfl⟩ := hD
  refine ⟨pw_below_drewN (Below.setCell (Below.setCell hB (by simp) _) (by simp) _) n, ?_, ?_, ?_, ?_, ?_, ?_, ?_, ?_⟩ <;> simp [go_sem, hc, hf]
  · exact World.cell?_setCell_same' _ _ _ (by simp [go_sem, hc])
  · exact World.cell?_setCell_same' _ _ _ (by simp [go_sem, hc])
def gossamerref04_Add.f (k : Nat) (a0_0 : Int) (a0_1 : Int) (a1 : Int) : Option (Int × Int) := (gossamerref04_right.f a0_0 a0_1).bind fun bt107 => ((gossamerref03_Clamp.f k a1 0 4611686018427387904).bind fun t109 => (if t109 = 4611686018427387904 then (if (wrap64 (bt107.1 + 1)) > 4294967296 then (some (4294967296, 4611686018427387903)) else (some (wrap64 (bt107.1 + 1), bt107.2))) else (if bt107.2 ≥ (wrap64 (4611686018427387904 - t109)) then (if (wrap64 (bt107.1 + 1)) > 4294967296 then (some (4294967296, 4611686018427387903)) else (some (wrap64 (bt107.1 + 1), wrap64 (bt107.2 - (wrap64 (4611686018427387904 - t109)))))) else (if bt107.1 > 4294967296 then (some (4294967296, 4611686018427387903)) else (some (bt107.1, wrap64 (bt107.2 + t109)))))))
theorem gossamerref04_Add.mono : ∀ a0 a1 a2 k, LeO (gossamerref04_Add.f k a0 a1 a2) (gossamerref04_Add.f (k + 1) a0 a1 a2) := by
  intro a0 a1 a2 k
  unfold gossamerref04_Add.f
  repeat' first
      | (with_reducible exact gossamerref03_Clamp.mono _ _ _ _)
      | (with_reducible exact LeO.refl _)
      | (with_reducible exact LeO.none _)
      | (with_reducible refine LeO.ite ?_ ?_)
      | (with_reducible refine LeO.bind ?_ (fun _ => ?_))
      | exact gossamerref03_Clamp.mono _ _ _ _
      | exact LeO.none _
      | refine LeO.ite ?_ ?_
      | refine LeO.bind ?_ (fun _ => ?_)

set_option maxHeartbeats 1000000 in
theorem add1 (k : Nat) (H L d a b c : Int) (w : World) (hr : Aside0 (gossamerref04_right.f H L = some (a, b))) (hcl : Aside0 (gossamerref03_Clamp.f k d 0 4611686018427387904 = some c)) (g : (c == 4611686018427387904) = true) (g2 : decide (4294967296 < wrap64 (a + 1)) = true) :
    Calls Try.prog 9 #[.agg #[.int .i64 H, .int .i64 L], .int .i64 d] w fun e w' => e = .returned (.agg #[.int .i64 (4294967296), .int .i64 (4611686018427387903)]) ∧ Below w.heap.size w w' := by
  go_enter Try.func9, Try.ntmps9
  go_wp2_with fail
  refine (gossamerref04_right.calls H L a b _ hr.out).mono ?_
  rintro e w1 ⟨rfl, hb⟩
  obtain ⟨hc, hf⟩ := bcell hb
  have hz := hb.size
  have hB : Below w.heap.size w w1 := (((Below.refl _ w).alloc (Nat.le_refl _) _).alloc (by simp) _).trans (hb.mono (by simp; omega))
  have HB := Aside0.mk hB
  clear hB hb
  simp only [World.size_alloc] at hc hf hz
  go_wp2_with fail
  refine (gossamerref03_Clamp.calls k d 0 4611686018427387904 c _ hcl.out).mono ?_
  rintro e w2 ⟨rfl, hD⟩
  obtain ⟨HB2, x0, x1, y0, y1, f0, f1, k0, k1⟩ := after_ w w1 w2 H L a b HB.out hc hf hz hD
  have HB := Aside0.mk HB2
  clear hD hc hf hz HB2
  go_wp2_with fail
  exact bodyPost_ret (v := .agg #[.int .i64 (4294967296), .int .i64 (4611686018427387903)]) (by simp [results, Try.results9, go_sem, x0, x1, y0, y1, f0, f1, k0, k1]) rfl ⟨rfl, by repeat (first | exact HB.out | refine Below.drew ?_ | refine pw_below_drewN ?_ _ | refine Below.setCell ?_ (by simp) _)⟩
set_option maxHeartbeats 1000000 in
theorem add2 (k : Nat) (H L d a b c : Int) (w : World) (hr : Aside0 (gossamerref04_right.f H L = some (a, b))) (hcl : Aside0 (gossamerref03_Clamp.f k d 0 4611686018427387904 = some c)) (g : (c == 4611686018427387904) = true) (g2 : decide (4294967296 < wrap64 (a + 1)) = false) :
    Calls Try.prog 9 #[.agg #[.int .i64 H, .int .i64 L], .int .i64 d] w fun e w' => e = .returned (.agg #[.int .i64 (wrap64 (a + 1)), .int .i64 (b)]) ∧ Below w.heap.size w w' := by
  go_enter Try.func9, Try.ntmps9
  go_wp2_with fail
  refine (gossamerref04_right.calls H L a b _ hr.out).mono ?_
  rintro e w1 ⟨rfl, hb⟩
  obtain ⟨hc, hf⟩ := bcell hb
  have hz := hb.size
  have hB : Below w.heap.size w w1 := (((Below.refl _ w).alloc (Nat.le_refl _) _).alloc (by simp) _).trans (hb.mono (by simp; omega))
  have HB := Aside0.mk hB
  clear hB hb
  simp only [World.size_alloc] at hc hf hz
  go_wp2_with fail
  refine (gossamerref03_Clamp.calls k d 0 4611686018427387904 c _ hcl.out).mono ?_
  rintro e w2 ⟨rfl, hD⟩
  obtain ⟨HB2, x0, x1, y0, y1, f0, f1, k0, k1⟩ := after_ w w1 w2 H L a b HB.out hc hf hz hD
  have HB := Aside0.mk HB2
  clear hD hc hf hz HB2
  go_wp2_with fail
  exact bodyPost_ret (v := .agg #[.int .i64 (wrap64 (a + 1)), .int .i64 (b)]) (by simp [results, Try.results9, go_sem, x0, x1, y0, y1, f0, f1, k0, k1]) rfl ⟨rfl, by repeat (first | exact HB.out | refine Below.drew ?_ | refine pw_below_drewN ?_ _ | refine Below.setCell ?_ (by simp) _)⟩
set_option maxHeartbeats 1000000 in
theorem add3 (k : Nat) (H L d a b c : Int) (w : World) (hr : Aside0 (gossamerref04_right.f H L = some (a, b))) (hcl : Aside0 (gossamerref03_Clamp.f k d 0 4611686018427387904 = some c)) (g : (c == 4611686018427387904) = false) (gb : decide (wrap64 (4611686018427387904 - c) ≤ b) = true) (g2 : decide (4294967296 < wrap64 (a + 1)) = true) :
    Calls Try.prog 9 #[.agg #[.int .i64 H, .int .i64 L], .int .i64 d] w fun e w' => e = .returned (.agg #[.int .i64 (4294967296), .int .i64 (4611686018427387903)]) ∧ Below w.heap.size w w' := by
  go_enter Try.func9, Try.ntmps9
  go_wp2_with fail
  refine (gossamerref04_right.calls H L a b _ hr.out).mono ?_
  rintro e w1 ⟨rfl, hb⟩
  obtain ⟨hc, hf⟩ := bcell hb
  have hz := hb.size
  have hB : Below w.heap.size w w1 := (((Below.refl _ w).alloc (Nat.le_refl _) _).alloc (by simp) _).trans (hb.mono (by simp; omega))
  have HB := Aside0.mk hB
  clear hB hb
  simp only [World.size_alloc] at hc hf hz
  go_wp2_with fail
  refine (gossamerref03_Clamp.calls k d 0 4611686018427387904 c _ hcl.out).mono ?_
  rintro e w2 ⟨rfl, hD⟩
  obtain ⟨HB2, x0, x1, y0, y1, f0, f1, k0, k1⟩ := after_ w w1 w2 H L a b HB.out hc hf hz hD
  have HB := Aside0.mk HB2
  clear hD hc hf hz HB2
  go_wp2_with fail
  exact bodyPost_ret (v := .agg #[.int .i64 (4294967296), .int .i64 (4611686018427387903)]) (by simp [results, Try.results9, go_sem, x0, x1, y0, y1, f0, f1, k0, k1]) rfl ⟨rfl, by repeat (first | exact HB.out | refine Below.drew ?_ | refine pw_below_drewN ?_ _ | refine Below.setCell ?_ (by simp) _)⟩
set_option maxHeartbeats 1000000 in
theorem add4 (k : Nat) (H L d a b c : Int) (w : World) (hr : Aside0 (gossamerref04_right.f H L = some (a, b))) (hcl : Aside0 (gossamerref03_Clamp.f k d 0 4611686018427387904 = some c)) (g : (c == 4611686018427387904) = false) (gb : decide (wrap64 (4611686018427387904 - c) ≤ b) = true) (g2 : decide (4294967296 < wrap64 (a + 1)) = false) :
    Calls Try.prog 9 #[.agg #[.int .i64 H, .int .i64 L], .int .i64 d] w fun e w' => e = .returned (.agg #[.int .i64 (wrap64 (a + 1)), .int .i64 (wrap64 (b - wrap64 (4611686018427387904 - c)))]) ∧ Below w.heap.size w w' := by
  go_enter Try.func9, Try.ntmps9
  go_wp2_with fail
  refine (gossamerref04_right.calls H L a b _ hr.out).mono ?_
  rintro e w1 ⟨rfl, hb⟩
  obtain ⟨hc, hf⟩ := bcell hb
  have hz := hb.size
  have hB : Below w.heap.size w w1 := (((Below.refl _ w).alloc (Nat.le_refl _) _).alloc (by simp) _).trans (hb.mono (by simp; omega))
  have HB := Aside0.mk hB
  clear hB hb
  simp only [World.size_alloc] at hc hf hz
  go_wp2_with fail
  refine (gossamerref03_Clamp.calls k d 0 4611686018427387904 c _ hcl.out).mono ?_
  rintro e w2 ⟨rfl, hD⟩
  obtain ⟨HB2, x0, x1, y0, y1, f0, f1, k0, k1⟩ := after_ w w1 w2 H L a b HB.out hc hf hz hD
  have HB := Aside0.mk HB2
  clear hD hc hf hz HB2
  go_wp2_with fail
  exact bodyPost_ret (v := .agg #[.int .i64 (wrap64 (a + 1)), .int .i64 (wrap64 (b - wrap64 (4611686018427387904 - c)))]) (by simp [results, Try.results9, go_sem, x0, x1, y0, y1, f0, f1, k0, k1]) rfl ⟨rfl, by repeat (first | exact HB.out | refine Below.drew ?_ | refine pw_below_drewN ?_ _ | refine Below.setCell ?_ (by simp) _)⟩
set_option maxHeartbeats 1000000 in
theorem add5 (k : Nat) (H L d a b c : Int) (w : World) (hr : Aside0 (gossamerref04_right.f H L = some (a, b))) (hcl : Aside0 (gossamerref03_Clamp.f k d 0 4611686018427387904 = some c)) (g : (c == 4611686018427387904) = false) (gb : decide (wrap64 (4611686018427387904 - c) ≤ b) = false) (g2 : decide (4294967296 < a) = true) :
    Calls Try.prog 9 #[.agg #[.int .i64 H, .int .i64 L], .int .i64 d] w fun e w' => e = .returned (.agg #[.int .i64 (4294967296), .int .i64 (4611686018427387903)]) ∧ Below w.heap.size w w' := by
  go_enter Try.func9, Try.ntmps9
  go_wp2_with fail
  refine (gossamerref04_right.calls H L a b _ hr.out).mono ?_
  rintro e w1 ⟨rfl, hb⟩
  obtain ⟨hc, hf⟩ := bcell hb
  have hz := hb.size
  have hB : Below w.heap.size w w1 := (((Below.refl _ w).alloc (Nat.le_refl _) _).alloc (by simp) _).trans (hb.mono (by simp; omega))
  have HB := Aside0.mk hB
  clear hB hb
  simp only [World.size_alloc] at hc hf hz
  go_wp2_with fail
  refine (gossamerref03_Clamp.calls k d 0 4611686018427387904 c _ hcl.out).mono ?_
  rintro e w2 ⟨rfl, hD⟩
  obtain ⟨HB2, x0, x1, y0, y1, f0, f1, k0, k1⟩ := after_ w w1 w2 H L a b HB.out hc hf hz hD
  have HB := Aside0.mk HB2
  clear hD hc hf hz HB2
  go_wp2_with fail
  exact bodyPost_ret (v := .agg #[.int .i64 (4294967296), .int .i64 (4611686018427387903)]) (by simp [results, Try.results9, go_sem, x0, x1, y0, y1, f0, f1, k0, k1]) rfl ⟨rfl, by repeat (first | exact HB.out | refine Below.drew ?_ | refine pw_below_drewN ?_ _ | refine Below.setCell ?_ (by simp) _)⟩
set_option maxHeartbeats 1000000 in
theorem add6 (k : Nat) (H L d a b c : Int) (w : World) (hr : Aside0 (gossamerref04_right.f H L = some (a, b))) (hcl : Aside0 (gossamerref03_Clamp.f k d 0 4611686018427387904 = some c)) (g : (c == 4611686018427387904) = false) (gb : decide (wrap64 (4611686018427387904 - c) ≤ b) = false) (g2 : decide (4294967296 < a) = false) :
    Calls Try.prog 9 #[.agg #[.int .i64 H, .int .i64 L], .int .i64 d] w fun e w' => e = .returned (.agg #[.int .i64 (a), .int .i64 (wrap64 (b + c))]) ∧ Below w.heap.size w w' := by
  go_enter Try.func9, Try.ntmps9
  go_wp2_with fail
  refine (gossamerref04_right.calls H L a b _ hr.out).mono ?_
  rintro e w1 ⟨rfl, hb⟩
  obtain ⟨hc, hf⟩ := bcell hb
  have hz := hb.size
  have hB : Below w.heap.size w w1 := (((Below.refl _ w).alloc (Nat.le_refl _) _).alloc (by simp) _).trans (hb.mono (by simp; omega))
  have HB := Aside0.mk hB
  clear hB hb
  simp only [World.size_alloc] at hc hf hz
  go_wp2_with fail
  refine (gossamerref03_Clamp.calls k d 0 4611686018427387904 c _ hcl.out).mono ?_
  rintro e w2 ⟨rfl, hD⟩
  obtain ⟨HB2, x0, x1, y0, y1, f0, f1, k0, k1⟩ := after_ w w1 w2 H L a b HB.out hc hf hz hD
  have HB := Aside0.mk HB2
  clear hD hc hf hz HB2
  go_wp2_with fail
  exact bodyPost_ret (v := .agg #[.int .i64 (a), .int .i64 (wrap64 (b + c))]) (by simp [results, Try.results9, go_sem, x0, x1, y0, y1, f0, f1, k0, k1]) rfl ⟨rfl, by repeat (first | exact HB.out | refine Below.drew ?_ | refine pw_below_drewN ?_ _ | refine Below.setCell ?_ (by simp) _)⟩
set_option maxHeartbeats 1000000 in
theorem sub1 (k : Nat) (H L d a b c : Int) (w : World) (hr : Aside0 (gossamerref04_right.f H L = some (a, b))) (hcl : Aside0 (gossamerref03_Clamp.f k d 0 4611686018427387904 = some c)) (g : (c == 4611686018427387904) = true) (g2 : decide (wrap64 (a - 1) < 0) = true) :
    Calls Try.prog 11 #[.agg #[.int .i64 H, .int .i64 L], .int .i64 d] w fun e w' => e = .returned (.agg #[.int .i64 (0), .int .i64 (0)]) ∧ Below w.heap.size w w' := by
  go_enter Try.func11, Try.ntmps11
  go_wp2_with fail
  refine (gossamerref04_right.calls H L a b _ hr.out).mono ?_
  rintro e w1 ⟨rfl, hb⟩
  obtain ⟨hc, hf⟩ := bcell hb
  have hz := hb.size
  have hB : Below w.heap.size w w1 := (((Below.refl _ w).alloc (Nat.le_refl _) _).alloc (by simp) _).trans (hb.mono (by simp; omega))
  have HB := Aside0.mk hB
  clear hB hb
  simp only [World.size_alloc] at hc hf hz
  go_wp2_with fail
  refine (gossamerref03_Clamp.calls k d 0 4611686018427387904 c _ hcl.out).mono ?_
  rintro e w2 ⟨rfl, hD⟩
  obtain ⟨HB2, x0, x1, y0, y1, f0, f1, k0, k1⟩ := after_ w w1 w2 H L a b HB.out hc hf hz hD
  have HB := Aside0.mk HB2
  clear hD hc hf hz HB2
  go_wp2_with fail
  exact bodyPost_ret (v := .agg #[.int .i64 (0), .int .i64 (0)]) (by simp [results, Try.results11, go_sem, x0, x1, y0, y1, f0, f1, k0, k1]) rfl ⟨rfl, by repeat (first | exact HB.out | refine Below.drew ?_ | refine pw_below_drewN ?_ _ | refine Below.setCell ?_ (by simp) _)⟩
set_option maxHeartbeats 1000000 in
theorem sub2 (k : Nat) (H L d a b c : Int) (w : World) (hr : Aside0 (gossamerref04_right.f H L = some (a, b))) (hcl : Aside0 (gossamerref03_Clamp.f k d 0 4611686018427387904 = some c)) (g : (c == 4611686018427387904) = true) (g2 : decide (wrap64 (a - 1) < 0) = false) :
    Calls Try.prog 11 #[.agg #[.int .i64 H, .int .i64 L], .int .i64 d] w fun e w' => e = .returned (.agg #[.int .i64 (wrap64 (a - 1)), .int .i64 (b)]) ∧ Below w.heap.size w w' := by
  go_enter Try.func11, Try.ntmps11
  go_wp2_with fail
  refine (gossamerref04_right.calls H L a b _ hr.out).mono ?_
  rintro e w1 ⟨rfl, hb⟩
  obtain ⟨hc, hf⟩ := bcell hb
  have hz := hb.size
  have hB : Below w.heap.size w w1 := (((Below.refl _ w).alloc (Nat.le_refl _) _).alloc (by simp) _).trans (hb.mono (by simp; omega))
  have HB := Aside0.mk hB
  clear hB hb
  simp only [World.size_alloc] at hc hf hz
  go_wp2_with fail
  refine (gossamerref03_Clamp.calls k d 0 4611686018427387904 c _ hcl.out).mono ?_
  rintro e w2 ⟨rfl, hD⟩
  obtain ⟨HB2, x0, x1, y0, y1, f0, f1, k0, k1⟩ := after_ w w1 w2 H L a b HB.out hc hf hz hD
  have HB := Aside0.mk HB2
  clear hD hc hf hz HB2
  go_wp2_with fail
  exact bodyPost_ret (v := .agg #[.int .i64 (wrap64 (a - 1)), .int .i64 (b)]) (by simp [results, Try.results11, go_sem, x0, x1, y0, y1, f0, f1, k0, k1]) rfl ⟨rfl, by repeat (first | exact HB.out | refine Below.drew ?_ | refine pw_below_drewN ?_ _ | refine Below.setCell ?_ (by simp) _)⟩
set_option maxHeartbeats 1000000 in
theorem sub3 (k : Nat) (H L d a b c : Int) (w : World) (hr : Aside0 (gossamerref04_right.f H L = some (a, b))) (hcl : Aside0 (gossamerref03_Clamp.f k d 0 4611686018427387904 = some c)) (g : (c == 4611686018427387904) = false) (gb : decide (b < c) = true) (g2 : decide (wrap64 (a - 1) < 0) = true) :
    Calls Try.prog 11 #[.agg #[.int .i64 H, .int .i64 L], .int .i64 d] w fun e w' => e = .returned (.agg #[.int .i64 (0), .int .i64 (0)]) ∧ Below w.heap.size w w' := by
  go_enter Try.func11, Try.ntmps11
  go_wp2_with fail
  refine (gossamerref04_right.calls H L a b _ hr.out).mono ?_
  rintro e w1 ⟨rfl, hb⟩
  obtain ⟨hc, hf⟩ := bcell hb
  have hz := hb.size
  have hB : Below w.heap.size w w1 := (((Below.refl _ w).alloc (Nat.le_refl _) _).alloc (by simp) _).trans (hb.mono (by simp; omega))
  have HB := Aside0.mk hB
  clear hB hb
  simp only [World.size_alloc] at hc hf hz
  go_wp2_with fail
  refine (gossamerref03_Clamp.calls k d 0 4611686018427387904 c _ hcl.out).mono ?_
  rintro e w2 ⟨rfl, hD⟩
  obtain ⟨HB2, x0, x1, y0, y1, f0, f1, k0, k1⟩ := after_ w w1 w2 H L a b HB.out hc hf hz hD
  have HB := Aside0.mk HB2
  clear hD hc hf hz HB2
  go_wp2_with fail
  exact bodyPost_ret (v := .agg #[.int .i64 (0), .int .i64 (0)]) (by simp [results, Try.results11, go_sem, x0, x1, y0, y1, f0, f1, k0, k1]) rfl ⟨rfl, by repeat (first | exact HB.out | refine Below.drew ?_ | refine pw_below_drewN ?_ _ | refine Below.setCell ?_ (by simp) _)⟩
set_option maxHeartbeats 1000000 in
theorem sub4 (k : Nat) (H L d a b c : Int) (w : World) (hr : Aside0 (gossamerref04_right.f H L = some (a, b))) (hcl : Aside0 (gossamerref03_Clamp.f k d 0 4611686018427387904 = some c)) (g : (c == 4611686018427387904) = false) (gb : decide (b < c) = true) (g2 : decide (wrap64 (a - 1) < 0) = false) :
    Calls Try.prog 11 #[.agg #[.int .i64 H, .int .i64 L], .int .i64 d] w fun e w' => e = .returned (.agg #[.int .i64 (wrap64 (a - 1)), .int .i64 (wrap64 (4611686018427387904 - wrap64 (c - b)))]) ∧ Below w.heap.size w w' := by
  go_enter Try.func11, Try.ntmps11
  go_wp2_with fail
  refine (gossamerref04_right.calls H L a b _ hr.out).mono ?_
  rintro e w1 ⟨rfl, hb⟩
  obtain ⟨hc, hf⟩ := bcell hb
  have hz := hb.size
  have hB : Below w.heap.size w w1 := (((Below.refl _ w).alloc (Nat.le_refl _) _).alloc (by simp) _).trans (hb.mono (by simp; omega))
  have HB := Aside0.mk hB
  clear hB hb
  simp only [World.size_alloc] at hc hf hz
  go_wp2_with fail
  refine (gossamerref03_Clamp.calls k d 0 4611686018427387904 c _ hcl.out).mono ?_
  rintro e w2 ⟨rfl, hD⟩
  obtain ⟨HB2, x0, x1, y0, y1, f0, f1, k0, k1⟩ := after_ w w1 w2 H L a b HB.out hc hf hz hD
  have HB := Aside0.mk HB2
  clear hD hc hf hz HB2
  go_wp2_with fail
  exact bodyPost_ret (v := .agg #[.int .i64 (wrap64 (a - 1)), .int .i64 (wrap64 (4611686018427387904 - wrap64 (c - b)))]) (by simp [results, Try.results11, go_sem, x0, x1, y0, y1, f0, f1, k0, k1]) rfl ⟨rfl, by repeat (first | exact HB.out | refine Below.drew ?_ | refine pw_below_drewN ?_ _ | refine Below.setCell ?_ (by simp) _)⟩
set_option maxHeartbeats 1000000 in
theorem sub5 (k : Nat) (H L d a b c : Int) (w : World) (hr : Aside0 (gossamerref04_right.f H L = some (a, b))) (hcl : Aside0 (gossamerref03_Clamp.f k d 0 4611686018427387904 = some c)) (g : (c == 4611686018427387904) = false) (gb : decide (b < c) = false) (g2 : decide (a < 0) = true) :
    Calls Try.prog 11 #[.agg #[.int .i64 H, .int .i64 L], .int .i64 d] w fun e w' => e = .returned (.agg #[.int .i64 (0), .int .i64 (0)]) ∧ Below w.heap.size w w' := by
  go_enter Try.func11, Try.ntmps11
  go_wp2_with fail
  refine (gossamerref04_right.calls H L a b _ hr.out).mono ?_
  rintro e w1 ⟨rfl, hb⟩
  obtain ⟨hc, hf⟩ := bcell hb
  have hz := hb.size
  have hB : Below w.heap.size w w1 := (((Below.refl _ w).alloc (Nat.le_refl _) _).alloc (by simp) _).trans (hb.mono (by simp; omega))
  have HB := Aside0.mk hB
  clear hB hb
  simp only [World.size_alloc] at hc hf hz
  go_wp2_with fail
  refine (gossamerref03_Clamp.calls k d 0 4611686018427387904 c _ hcl.out).mono ?_
  rintro e w2 ⟨rfl, hD⟩
  obtain ⟨HB2, x0, x1, y0, y1, f0, f1, k0, k1⟩ := after_ w w1 w2 H L a b HB.out hc hf hz hD
  have HB := Aside0.mk HB2
  clear hD hc hf hz HB2
  go_wp2_with fail
  exact bodyPost_ret (v := .agg #[.int .i64 (0), .int .i64 (0)]) (by simp [results, Try.results11, go_sem, x0, x1, y0, y1, f0, f1, k0, k1]) rfl ⟨rfl, by repeat (first | exact HB.out | refine Below.drew ?_ | refine pw_below_drewN ?_ _ | refine Below.setCell ?_ (by simp) _)⟩
set_option maxHeartbeats 1000000 in
theorem sub6 (k : Nat) (H L d a b c : Int) (w : World) (hr : Aside0 (gossamerref04_right.f H L = some (a, b))) (hcl : Aside0 (gossamerref03_Clamp.f k d 0 4611686018427387904 = some c)) (g : (c == 4611686018427387904) = false) (gb : decide (b < c) = false) (g2 : decide (a < 0) = false) :
    Calls Try.prog 11 #[.agg #[.int .i64 H, .int .i64 L], .int .i64 d] w fun e w' => e = .returned (.agg #[.int .i64 (a), .int .i64 (wrap64 (b - c))]) ∧ Below w.heap.size w w' := by
  go_enter Try.func11, Try.ntmps11
  go_wp2_with fail
  refine (gossamerref04_right.calls H L a b _ hr.out).mono ?_
  rintro e w1 ⟨rfl, hb⟩
  obtain ⟨hc, hf⟩ := bcell hb
  have hz := hb.size
  have hB : Below w.heap.size w w1 := (((Below.refl _ w).alloc (Nat.le_refl _) _).alloc (by simp) _).trans (hb.mono (by simp; omega))
  have HB := Aside0.mk hB
  clear hB hb
  simp only [World.size_alloc] at hc hf hz
  go_wp2_with fail
  refine (gossamerref03_Clamp.calls k d 0 4611686018427387904 c _ hcl.out).mono ?_
  rintro e w2 ⟨rfl, hD⟩
  obtain ⟨HB2, x0, x1, y0, y1, f0, f1, k0, k1⟩ := after_ w w1 w2 H L a b HB.out hc hf hz hD
  have HB := Aside0.mk HB2
  clear hD hc hf hz HB2
  go_wp2_with fail
  exact bodyPost_ret (v := .agg #[.int .i64 (a), .int .i64 (wrap64 (b - c))]) (by simp [results, Try.results11, go_sem, x0, x1, y0, y1, f0, f1, k0, k1]) rfl ⟨rfl, by repeat (first | exact HB.out | refine Below.drew ?_ | refine pw_below_drewN ?_ _ | refine Below.setCell ?_ (by simp) _)⟩
def gossamerref04_Sub.f (k : Nat) (a0_0 : Int) (a0_1 : Int) (a1 : Int) : Option (Int × Int) := (gossamerref04_right.f a0_0 a0_1).bind fun bt117 => ((gossamerref03_Clamp.f k a1 0 4611686018427387904).bind fun t119 => (if t119 = 4611686018427387904 then (if (wrap64 (bt117.1 - 1)) < 0 then (some (0, 0)) else (some (wrap64 (bt117.1 - 1), bt117.2))) else (if bt117.2 < t119 then (if (wrap64 (bt117.1 - 1)) < 0 then (some (0, 0)) else (some (wrap64 (bt117.1 - 1), wrap64 (4611686018427387904 - (wrap64 (t119 - bt117.2)))))) else (if bt117.1 < 0 then (some (0, 0)) else (some (bt117.1, wrap64 (bt117.2 - t119)))))))
theorem gossamerref04_Sub.mono : ∀ a0 a1 a2 k, LeO (gossamerref04_Sub.f k a0 a1 a2) (gossamerref04_Sub.f (k + 1) a0 a1 a2) := by
  intro a0 a1 a2 k
  unfold gossamerref04_Sub.f
  repeat' first
      | (with_reducible exact gossamerref03_Clamp.mono _ _ _ _)
      | (with_reducible exact LeO.refl _)
      | (with_reducible exact LeO.none _)
      | (with_reducible refine LeO.ite ?_ ?_)
      | (with_reducible refine LeO.bind ?_ (fun _ => ?_))
      | exact gossamerref03_Clamp.mono _ _ _ _
      | exact LeO.none _
      | refine LeO.ite ?_ ?_
      | refine LeO.bind ?_ (fun _ => ?_)

theorem gossamerref04_Add.calls (k : Nat) (a0_0 : Int) (a0_1 : Int) (a1 : Int) (r1 : Int) (r2 : Int) (w : World) (h : gossamerref04_Add.f k a0_0 a0_1 a1 = some (r1, r2)) :
    Calls Try.prog 9 #[.agg #[.int .i64 a0_0, .int .i64 a0_1], .int .i64 a1] w fun e w' => e = .returned (.agg #[.int .i64 r1, .int .i64 r2]) ∧ Below w.heap.size w w' := by
  unfold gossamerref04_Add.f at h
  obtain ⟨⟨a, b⟩, hr, h⟩ := Option.bind_eq_some_iff.1 h
  obtain ⟨c, hc, h⟩ := Option.bind_eq_some_iff.1 h
  simp only at h
  by_cases g : c = 4611686018427387904
  · rw [if_pos g] at h
    by_cases g2 : wrap64 (a + 1) > 4294967296
    · rw [if_pos g2, Option.some.injEq, Prod.mk.injEq] at h
      obtain ⟨rfl, rfl⟩ := h
      exact add1 k a0_0 a0_1 a1 a b c w ⟨hr⟩ ⟨hc⟩ (beq_iff_eq.2 g) (decide_eq_true g2)
    · rw [if_neg g2, Option.some.injEq, Prod.mk.injEq] at h
      obtain ⟨rfl, rfl⟩ := h
      exact add2 k a0_0 a0_1 a1 a _ c w ⟨hr⟩ ⟨hc⟩ (beq_iff_eq.2 g) (decide_eq_false g2)
  · rw [if_neg g] at h
    by_cases gb : b ≥ wrap64 (4611686018427387904 - c)
    · rw [if_pos gb] at h
      by_cases g2 : wrap64 (a + 1) > 4294967296
      · rw [if_pos g2, Option.some.injEq, Prod.mk.injEq] at h
        obtain ⟨rfl, rfl⟩ := h
        exact add3 k a0_0 a0_1 a1 a b c w ⟨hr⟩ ⟨hc⟩ (beq_eq_false_iff_ne.2 g) (decide_eq_true gb) (decide_eq_true g2)
      · rw [if_neg g2, Option.some.injEq, Prod.mk.injEq] at h
        obtain ⟨rfl, rfl⟩ := h
        exact add4 k a0_0 a0_1 a1 a b c w ⟨hr⟩ ⟨hc⟩ (beq_eq_false_iff_ne.2 g) (decide_eq_true gb) (decide_eq_false g2)
    · rw [if_neg gb] at h
      by_cases g2 : a > 4294967296
      · rw [if_pos g2, Option.some.injEq, Prod.mk.injEq] at h
        obtain ⟨rfl, rfl⟩ := h
        exact add5 k a0_0 a0_1 a1 a b c w ⟨hr⟩ ⟨hc⟩ (beq_eq_false_iff_ne.2 g) (decide_eq_false gb) (decide_eq_true g2)
      · rw [if_neg g2, Option.some.injEq, Prod.mk.injEq] at h
        obtain ⟨rfl, rfl⟩ := h
        exact add6 k a0_0 a0_1 a1 _ b c w ⟨hr⟩ ⟨hc⟩ (beq_eq_false_iff_ne.2 g) (decide_eq_false gb) (decide_eq_false g2)
theorem gossamerref04_Sub.calls (k : Nat) (a0_0 : Int) (a0_1 : Int) (a1 : Int) (r1 : Int) (r2 : Int) (w : World) (h : gossamerref04_Sub.f k a0_0 a0_1 a1 = some (r1, r2)) :
    Calls Try.prog 11 #[.agg #[.int .i64 a0_0, .int .i64 a0_1], .int .i64 a1] w fun e w' => e = .returned (.agg #[.int .i64 r1, .int .i64 r2]) ∧ Below w.heap.size w w' := by
  unfold gossamerref04_Sub.f at h
  obtain ⟨⟨a, b⟩, hr, h⟩ := Option.bind_eq_some_iff.1 h
  obtain ⟨c, hc, h⟩ := Option.bind_eq_some_iff.1 h
  simp only at h
  by_cases g : c = 4611686018427387904
  · rw [if_pos g] at h
    by_cases g2 : wrap64 (a - 1) < 0
    · rw [if_pos g2, Option.some.injEq, Prod.mk.injEq] at h
      obtain ⟨rfl, rfl⟩ := h
      exact sub1 k a0_0 a0_1 a1 a b c w ⟨hr⟩ ⟨hc⟩ (beq_iff_eq.2 g) (decide_eq_true g2)
    · rw [if_neg g2, Option.some.injEq, Prod.mk.injEq] at h
      obtain ⟨rfl, rfl⟩ := h
      exact sub2 k a0_0 a0_1 a1 a _ c w ⟨hr⟩ ⟨hc⟩ (beq_iff_eq.2 g) (decide_eq_false g2)
  · rw [if_neg g] at h
    by_cases gb : b < c
    · rw [if_pos gb] at h
      by_cases g2 : wrap64 (a - 1) < 0
      · rw [if_pos g2, Option.some.injEq, Prod.mk.injEq] at h
        obtain ⟨rfl, rfl⟩ := h
        exact sub3 k a0_0 a0_1 a1 a b c w ⟨hr⟩ ⟨hc⟩ (beq_eq_false_iff_ne.2 g) (decide_eq_true gb) (decide_eq_true g2)
      · rw [if_neg g2, Option.some.injEq, Prod.mk.injEq] at h
        obtain ⟨rfl, rfl⟩ := h
        exact sub4 k a0_0 a0_1 a1 a b c w ⟨hr⟩ ⟨hc⟩ (beq_eq_false_iff_ne.2 g) (decide_eq_true gb) (decide_eq_false g2)
    · rw [if_neg gb] at h
      by_cases g2 : a < 0
      · rw [if_pos g2, Option.some.injEq, Prod.mk.injEq] at h
        obtain ⟨rfl, rfl⟩ := h
        exact sub5 k a0_0 a0_1 a1 a b c w ⟨hr⟩ ⟨hc⟩ (beq_eq_false_iff_ne.2 g) (decide_eq_false gb) (decide_eq_true g2)
      · rw [if_neg g2, Option.some.injEq, Prod.mk.injEq] at h
        obtain ⟨rfl, rfl⟩ := h
        exact sub6 k a0_0 a0_1 a1 _ b c w ⟨hr⟩ ⟨hc⟩ (beq_eq_false_iff_ne.2 g) (decide_eq_false gb) (decide_eq_false g2)
end Go.Proofs.Ytnpelpnndkifmaa.PRef
