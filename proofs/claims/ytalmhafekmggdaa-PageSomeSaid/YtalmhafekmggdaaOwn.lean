/- page.Of, page.Some and page.Cut: their contracts, in the printed contracts' words. -/
import Derived.Test.YtalmhafekmggdaaCut
import Derived.Test.YtalmhafekmggdaaPPgx1
namespace Go.Proofs.Ytalmhafekmggdaa
open Go.RowKit Go.Shelf Go.Proofs.YtalmhafekmggdaaW.PrintWords Go.Proofs.YtalmhafekmggdaaW.PrintLast Go.Proofs.YtalmhafekmggdaaW.PrintMore
attribute [local go_sem] Oper.semAt_some

theorem EachOf.below {each : Value} {zs : List Int} {w w' : World} (h : EachOf each zs w) (hb : Below w.heap.size w w') : EachOf each zs w' := by
  rcases h with ⟨rfl, rfl⟩ | ⟨ge, lbe, rfl, hen, hg⟩
  · exact .inl ⟨rfl, rfl⟩
  · exact .inr ⟨ge, lbe, rfl, hen, fun S W hW h1 h2 => hg S W (hb.trans (hW.mono hb.size)) (fun k hk => h1 k (Nat.lt_of_lt_of_le hk hb.size)) h2⟩

theorem EachOf.alloc {each : Value} {zs : List Int} {w : World} (h : EachOf each zs w) (o : Obj) : EachOf each zs (w.alloc o) := h.below ((Below.refl _ w).alloc (Nat.le_refl _) _)
theorem EachOf.drew {each : Value} {zs : List Int} {w : World} (h : EachOf each zs w) : EachOf each zs w.drew := h.below (Below.drew (Below.refl _ w))
theorem EachOf.drewN {each : Value} {zs : List Int} {w : World} (h : EachOf each zs w) (n : Nat) : EachOf each zs (w.drewN n) := h.below (pw_below_drewN (Below.refl _ w) n)

/-- What a row that is read is, where all that lay is kept. -/
theorem ints_of_C {w : World} {A : Option Addr} {n : Nat} {zs : List Int} {S : Nat → Prop} (h : Kd.C (Kd.int .i64) w A n zs) (hS : ∀ k, k < w.heap.size → S k) : Ints S w A n zs := by
  have h' : ReadsInt w .i64 A n zs := Kd.reads_of_C (enc := Value.int .i64) (d := (0 : Int)) (h1 := fun _ => rfl) h
  obtain ⟨h1, h2, h3⟩ := h'
  refine ⟨h1, h2, fun h0 => ?_⟩
  obtain ⟨ad, e, hc⟩ := h3 h0
  refine ⟨ad, e, hS _ ?_, fun j hj => ?_⟩
  · have := hc 0 h0
    have h4 : ad.add 0 = ad := rfl
    rw [h4] at this
    unfold World.cell? at this
    by_cases hlt : ad.block < w.heap.size
    · exact hlt
    · rw [Array.getElem?_eq_none (by omega)] at this
      simp at this
  · simpa using hc j hj

theorem of_each {w : World} {A : Option Addr} {n c : Nat} {zs : List Int} (h : Kd.C (Kd.int .i64) w A n zs) :
    EachOf (.func (.func 16) #[] #[.pointer (some ⟨w.heap.size, 0, none⟩)]) zs (w.alloc (.cells #[.slice A n c] 24)) := by
  have hb : Below w.heap.size w (w.alloc (.cells #[.slice A n c] 24)) := (Below.refl _ w).alloc (Nat.le_refl _) _
  refine .inr ⟨16, _, rfl, enters_of Try.func16 (by kernel_rfl) rfl, fun S W hW h1 h2 => ?_⟩
  refine of_gives S _ A n c zs W ?_ h2 ?_ ?_
  · have := hW.size; simp at this; omega
  · refine (hW.cell (p := ⟨w.heap.size, 0, none⟩) (by simp)).trans ?_
    exact (Boxed.new w 24 _).cell
  · have hI := ints_of_C (S := fun k => k < w.heap.size) h (fun k hk => hk)
    have hI2 := hI.below (KeepS.of_below (hb.trans (hW.mono (by simp))) (fun k hk => hk))
    exact ⟨hI2.1, hI2.2.1, fun h0 => by
      obtain ⟨ad, e, hb2, hc⟩ := hI2.2.2 h0
      exact ⟨ad, e, h1 _ (by simp; omega), hc⟩⟩
theorem nil_each (w : World) : EachOf .nilFunc [] w := .inl ⟨rfl, rfl⟩

namespace PPg
set_option linter.unusedVariables false
theorem page_Of.calls (A : Option Addr) (c : Nat) (zs : List Int) (w : World) (h : Kd.C (Kd.int .i64) w A zs.length zs) :
    Calls Try.prog 8 #[.slice A zs.length c] w fun e w' => ∃ g, e = .returned (.func (.func 16) #[] #[.pointer (some ⟨g, 0, none⟩)]) ∧ EachOf (.func (.func 16) #[] #[.pointer (some ⟨g, 0, none⟩)]) zs w' ∧ Below w.heap.size w w' := by
  refine (of_calls A zs.length c w).mono ?_
  rintro e w' ⟨rfl, rfl⟩
  exact ⟨_, rfl, of_each h, (Below.refl _ w).alloc (Nat.le_refl _) _⟩

/-- What page.Cut says. -/
def page_Cut.f (_ : Nat) (A L : Int) (l : List Int) : Option (List Int × Bool × Int) := if 1 ≤ L ∧ L ≤ 100 then some (pageOf A L l, pageMore A L l, 0) else some ([], false, 11)
theorem page_Cut.mono : ∀ A L l k, LeO (page_Cut.f k A L l) (page_Cut.f (k + 1) A L l) := fun _ _ _ _ => LeO.refl _

set_option maxRecDepth 100000 in
set_option maxHeartbeats 2000000 in
theorem cut_err (A L : Int) (each : Value) (n : Nat) (w : World) (hone : each.oneCell' = true) (h : ¬ (1 ≤ L ∧ L ≤ 100)) :
    CallsIn Fence.wide n Try.prog 7 #[.agg #[.int .i64 A, .int .i64 L], each] w fun e w' => e = .returned (.tuple #[.slice none 0 0, .bool false, .int .i64 11]) ∧ Below w.heap.size w w' := by
  have hMay : ∀ W : World, Calls Try.prog 11 #[.agg #[.int .i64 A, .int .i64 L]] W fun e W' => e = .returned (.int .i64 11) ∧ Below W.heap.size W W' := fun W => page_May.calls A L 11 W (by
    unfold page_May.f
    by_cases h1 : L < 1
    · rw [if_pos h1]
    · rw [if_neg h1, if_pos (by omega)])
  refine callsIn_of_wp_marks Try.func7 rfl trivial ?_ rfl
  simp only [Try.ntmps7, List.size_toArray, List.length_cons, List.length_nil, Nat.reduceAdd, Nat.reduceSub, Array.replicate_succ, Array.replicate_zero, List.push_toArray, List.append_toArray, List.nil_append, List.cons_append]
  gi_wp2_with fail
  refine wpIn_scope_straight ?_
  gi_wp2_with fail
  refine ⟨trivial, fun h => (by cases h), (callsIn_wide.2 (hMay _)).mono ?_⟩
  clear hMay
  rintro e W2 ⟨rfl, hb⟩
  have hB2 : Below w.heap.size w W2 := ((Below.refl _ w).alloc (Nat.le_refl _) _).trans (hb.mono (by simp))
  clear hb
  gi_wp2_with fail
  rw [Exit.noGoto_ret]
  exact ⟨_, results_tmp3 rfl _ _ _, rfl, hB2⟩

theorem page_Cut.calls (k : Nat) (A L : Int) (each : Value) (l1 : List Int) (r1 : List Int) (r2 : Bool) (r3 : Int) (w : World) (hE : EachOf each l1 w) (h : page_Cut.f k A L l1 = some (r1, r2, r3)) :
    Calls Try.prog 7 #[.agg #[.int .i64 A, .int .i64 L], each] w fun e w' => ∃ v0_ : Value, e = .returned (.tuple #[v0_, .bool r2, .int .i64 r3]) ∧ Kd.R (Kd.int .i64) 3 w' w.heap.size (fun _ => True) v0_ r1 ∧ Below w.heap.size w w' := by
  unfold page_Cut.f at h
  by_cases hL : 1 ≤ L ∧ L ≤ 100
  · rw [if_pos hL] at h
    obtain ⟨rfl, rfl, rfl⟩ : pageOf A L l1 = r1 ∧ pageMore A L l1 = r2 ∧ (0 : Int) = r3 := by simpa using h
    refine (callsIn_wide.1 (cut_wide A L l1 each 0 w hL.1 hL.2 hE fun W => page_May.calls A L 0 W ?_)).mono ?_
    · unfold page_May.f
      rw [if_neg (by omega), if_neg (by omega)]
    · rintro e w' ⟨v, rfl, hr, hb⟩
      exact ⟨v, rfl, Kd.R_of_own (enc := Value.int .i64) (h1 := fun _ => rfl) hr (fun _ _ => trivial), hb⟩
  · rw [if_neg hL] at h
    obtain ⟨rfl, rfl, rfl⟩ : ([] : List Int) = r1 ∧ false = r2 ∧ (11 : Int) = r3 := by simpa using h
    refine (callsIn_wide.1 (cut_err A L each 0 w hE.one hL)).mono ?_
    rintro e w' ⟨rfl, hb⟩
    exact ⟨_, rfl, Kd.R_nil _ _ _ _ _, hb⟩
end PPg
end Go.Proofs.Ytalmhafekmggdaa
