/- page.Of: its value gives the numbers of the list, one by one; the list lies in memory that the rounds keep. -/
import Derived.RangeFuncNested
import Derived.RangeFuncBound
import Derived.RangeFuncCalls
import Derived.RangeFuncLeaves
import Derived.Shelf.Abstract
import Derived.Shelf.RegionOpen
import Derived.WalkKit
import Derived.OwnWalkIn
import Derived.TacticsInMore
import Derived.LoopNIn
import Derived.LoopIn
import Derived.Outline
import Derived.Lib.Hide
import Derived.Test.YtalmhafekmggdaaSeq
namespace Go.Proofs.Ytalmhafekmggdaa
open Go.RowKit Go.Shelf
attribute [local go_sem] Oper.semAt_some

theorem add_block (a : Addr) (n : Nat) : (a.add n).block = a.block := by unfold Addr.add; split <;> rfl
/-- A slice value's numbers, in a block of S. -/
def Ints (S : Nat → Prop) (W : World) (a : Option Addr) (len : Nat) (zs : List Int) : Prop :=
  zs.length = len ∧ len ≤ 9223372036854775807 ∧ (0 < len → ∃ ad, a = some ad ∧ S ad.block ∧ ∀ j, j < len → W.cell? (ad.add j) = some (.int .i64 (zs[j]?.getD 0)))
theorem Ints.below {S : Nat → Prop} {X Y : World} (h : KeepS S X Y) {a : Option Addr} {len : Nat} {zs : List Int} (hi : Ints S X a len zs) : Ints S Y a len zs :=
  ⟨hi.1, hi.2.1, fun h0 => by
    obtain ⟨ad, e, hb, hc⟩ := hi.2.2 h0
    exact ⟨ad, e, hb, fun j hj => (h.cell (p := ad.add j) (by rw [add_block]; exact hb)).trans (hc j hj)⟩⟩

theorem take_snoc (zs : List Int) {k : Nat} (hk : k < zs.length) : zs.take (k + 1) = zs.take k ++ [zs[k]?.getD 0] := by
  rw [List.take_succ_eq_append_getElem hk]; simp [hk]

set_option maxRecDepth 100000 in
set_option maxHeartbeats 2000000 in
theorem of1_in (n l : Nat) (S : Nat → Prop) (Bs : Nat) (a : Option Addr) (len cap : Nat) (zs : List Int) (B : Nat) (J Jx : List Int → World → Prop) (W : World)
    (hY : ∀ (n' : Nat) (pre : List Int) (x : Int) (W1 : World), pre ++ [x] <+: zs → B ≤ W1.heap.size → J pre W1 → YieldAt Fence.wide n' Try.prog l #[.int .i64 x] W1 fun e W' =>
      (e = .returned (.bool true) ∧ J (pre ++ [x]) W' ∧ Kept S B W1 W') ∨ (e = .returned (.bool false) ∧ Jx (pre ++ [x]) W' ∧ Kept S B W1 W'))
    (hB : B ≤ W.heap.size) (hBs : W.cell? ⟨Bs, 0, none⟩ = some (.slice a len cap)) (hi : Ints S W a len zs) (h0 : J [] W) :
    CallsIn Fence.wide n Try.prog 16 #[.func (.yield l) #[] #[], .pointer (some ⟨Bs, 0, none⟩)] W fun e W' => (∃ v, e = .returned v) ∧ (J zs W' ∨ ∃ pre, pre <+: zs ∧ Jx pre W') := by
  obtain ⟨hz, hmax, hcell⟩ := hi
  refine callsIn_of_wp Try.func16 rfl trivial ?_ rfl
  simp only [Try.ntmps16, List.size_toArray, List.length_cons, List.length_nil, Nat.reduceAdd, Nat.reduceSub, Array.replicate_succ, Array.replicate_zero, List.push_toArray, List.append_toArray, List.nil_append, List.cons_append]
  gi_wp2
  gi_loopw [7] (fun i wr => ∃ k : Nat, k ≤ len ∧ i = .int .i64 k ∧ J (zs.take k) wr ∧ KeepS S W wr)
    (fun i _ => len - (intOf i).toNat)
  case atStart => exact ⟨0, Nat.zero_le _, rfl, h0, KeepS.refl _ _⟩
  case round =>
    obtain ⟨k, hk, rfl, hJs, hnx⟩ := hrel
    by_cases hlt : k < len
    · obtain ⟨ad, rfl, hb, hc⟩ := hcell (by omega)
      have hcx : wr.cell? (ad.add k) = some (.int .i64 (zs[k]?.getD 0)) := (hnx.cell (p := ad.add k) (by rw [add_block]; exact hb)).trans (hc k hlt)
      have hsn := take_snoc zs (k := k) (by omega)
      generalize zs[k]?.getD 0 = x at hcx hsn
      have hpre : zs.take k ++ [x] <+: zs := by rw [← hsn]; exact List.take_prefix _ _
      obtain ⟨fn, tmps, assign, body, hy, hR⟩ := hY (n - 1) _ x wr hpre (Nat.le_trans hB hnx.size) hJs
      have HS := Lib.hid hsn
      have HZ := Lib.hid hz
      clear hpre hc hcell hsn hz
      gi_wp2
      refine ⟨fun h => (by cases h), hR.mono ?_⟩
      rintro e W3 (⟨rfl, hJ3, hk3⟩ | ⟨rfl, hJx3, _⟩)
      · gi_wp2
        go_roundw
        case rel => exact ⟨k + 1, by omega, by simp, by rw [HS.out]; exact hJ3, hnx.trans hk3.below⟩
        case measure => simp [intOf]; omega
      · gi_wp2
        refine bodyPost_ret (results_none rfl _ _ _) rfl ?_
        exact ⟨⟨_, rfl⟩, .inr ⟨zs.take (k + 1), List.take_prefix _ _, by rw [HS.out]; exact hJx3⟩⟩
    · obtain rfl : k = len := by omega
      gi_wp2
      go_end0
      exact ⟨⟨_, rfl⟩, .inl (by rw [List.take_of_length_le (by omega)] at hJs; exact hJs)⟩

/-- **page.Of's value gives the numbers**, whatever the loop. -/
theorem of_gives (S : Nat → Prop) (Bs : Nat) (a : Option Addr) (len cap : Nat) (zs : List Int) (w : World) (hBs : Bs < w.heap.size) (hS : ∀ k, S k → k < w.heap.size) (hc : w.cell? ⟨Bs, 0, none⟩ = some (.slice a len cap)) (hi : Ints S w a len zs) :
    Gives 16 #[.pointer (some ⟨Bs, 0, none⟩)] S zs w := fun n l J Jx W hW _ _ hY h0 =>
  of1_in n l S Bs a len cap zs W.heap.size J Jx W hY (Nat.le_refl _) ((hW.cell (p := ⟨Bs, 0, none⟩) hBs).trans hc) (hi.below (KeepS.of_below hW hS)) h0

set_option maxHeartbeats 1000000 in
/-- page.Of boxes its list. -/
theorem of_calls (a : Option Addr) (len cap : Nat) (w : World) :
    Calls Try.prog 8 #[.slice a len cap] w fun e w' => e = .returned (.func (.func 16) #[] #[.pointer (some ⟨w.heap.size, 0, none⟩)]) ∧ w.alloc (.cells #[.slice a len cap] 24) = w' := by
  go_enter Try.func8, Try.ntmps8
  go_wp2
  go_ret
  exact ⟨rfl, rfl⟩

set_option maxHeartbeats 1000000 in
/-- page.Some boxes both. -/
theorem some_calls (each is : Value) (h1 : each.oneCell' = true) (h2 : is.oneCell' = true) (w : World) :
    Calls Try.prog 13 #[each, is] w fun e w' => e = .returned (.func (.func 17) #[] #[.pointer (some ⟨w.heap.size, 0, none⟩), .pointer (some ⟨w.heap.size + 1, 0, none⟩)]) ∧ (w.alloc (.cells #[each] 30)).alloc (.cells #[is] 37) = w' := by
  go_enter Try.func13, Try.ntmps13
  go_wp2
  go_ret
  exact ⟨rfl, rfl⟩
end Go.Proofs.Ytalmhafekmggdaa
