/- page.Some: its value gives the numbers of the other one that are so; the test reads only. -/
import Derived.Scope
import Derived.WalkMore
import Derived.Test.YtalmhafekmggdaaOf
namespace Go.Proofs.Ytalmhafekmggdaa
open Go.RowKit Go.Shelf
attribute [local go_sem] Oper.semAt_some

section
variable {F : Fence} {n : Nat} {P : Program} {b : Frame} {a : Act} {k : List Item} {cs : List Frame} {w : World} {Q : Exit → Act → World → Prop}
theorem stepR_scope {c : Code} : step P (lone (b.atR a (.code (.scope c) :: k)) cs w) = .next (lone (b.atR a (.code c :: .inScope c :: k)) cs w) :=
  step_lone_go (by simp [stepG, stepG.exec, Frame.atR])
theorem stepR_inScope {c : Code} : step P (lone (b.atR a (.inScope c :: k)) cs w) = .next (lone (b.atR a k) cs w) :=
  step_lone_go (by simp [stepG, stepG.exec, Frame.atR])
/-- A scope through which the run goes without a goto, within a fence. -/
theorem wpIn_scope_straight {c : Code} (h : c.wpIn F n P (Exit.noGoto Q) a w) : (Code.scope c).wpIn F n P Q a w := by
  intro b k cs hro hb hr
  have h0 : (lone (b.atR a (.code (.scope c) :: k)) cs w).fenced P F := fenced_calm hb hr rfl
  obtain ⟨e, a₁, w₁, hq, harr⟩ := h b (.inScope c :: k) cs hro hb hr
  cases e with
  | normal => exact ⟨.normal, a₁, w₁, hq, .head h0 stepR_scope (StepsIn.trans harr (.one (fenced_calm hb hr rfl) stepR_inScope))⟩
  | exit id =>
    have hx : exitTo id (.inScope c :: k) = exitTo id k := by simp [exitTo]
    exact ⟨.exit id, a₁, w₁, hq, fun k' hk => .head h0 stepR_scope (harr.1 k' (by rw [hx]; exact hk)),
      fun hr' hk => let ⟨k₁, h1, h2⟩ := harr.2 hr' (by rw [hx]; exact hk); ⟨k₁, h1, .head h0 stepR_scope h2⟩⟩
  | goto l => exact hq.elim
  | ret => exact ⟨_, a₁, w₁, hq, .of_steps (.one h0 stepR_scope) harr⟩
  | panic ch => exact ⟨_, a₁, w₁, hq, .of_steps (.one h0 stepR_scope) harr⟩
  | outgrown => exact ⟨_, a₁, w₁, hq, .of_steps (.one h0 stepR_scope) harr⟩
end

theorem equalIn_func_nil (d : Nat) (t : TypeId) {x y : Array TypeId} {z : Bool} (h : Try.prog.underlying t = some (.func x y z)) (g : Fn) (c lb : Array Value) (W : World) : (Op.equalIn (d + 1) t (.func g c lb) .nilFunc).run Try.prog W = .ok false W := by
  simp [Op.equalIn, run_underlying h]
theorem equalIn_nil_nil (d : Nat) (t : TypeId) {x y : Array TypeId} {z : Bool} (h : Try.prog.underlying t = some (.func x y z)) (W : World) : (Op.equalIn (d + 1) t .nilFunc .nilFunc).run Try.prog W = .ok true W := by
  simp [Op.equalIn, run_underlying h]
theorem eql_seq_nil (g : Fn) (c lb : Array Value) (W : World) : (binOp .eql 30 (.func g c lb) .nilFunc).run Try.prog W = .ok (.bool false) W := by
  simp only [binOp]
  simp [Op.equal, Op.maxDepth, equalIn_func_nil 9999 30 Try.underlying30]
theorem eql_nil_nil (W : World) : (binOp .eql 30 .nilFunc .nilFunc).run Try.prog W = .ok (.bool true) W := by
  simp only [binOp]
  simp [Op.equal, Op.maxDepth, equalIn_nil_nil 9999 30 Try.underlying30]
theorem eql_is_nil (g : Fn) (c lb : Array Value) (W : World) : (binOp .eql 37 (.func g c lb) .nilFunc).run Try.prog W = .ok (.bool false) W := by
  simp only [binOp]
  simp [Op.equal, Op.maxDepth, equalIn_func_nil 9999 37 Try.underlying37]

theorem filter_step {q : Int → Bool} {zs pre : List Int} {x : Int} (h : pre ++ [x] <+: zs) (hq : q x = true) : pre.filter q ++ [x] <+: zs.filter q := by
  obtain ⟨r, rfl⟩ := h
  exact ⟨r.filter q, by simp [hq]⟩
theorem filter_pre {q : Int → Bool} {zs pre : List Int} (h : pre <+: zs) : pre.filter q <+: zs.filter q := by
  obtain ⟨r, rfl⟩ := h
  exact ⟨r.filter q, by simp⟩
theorem filter_hit {q : Int → Bool} {pre : List Int} {x : Int} (hq : q x = true) : (pre ++ [x]).filter q = pre.filter q ++ [x] := by simp [hq]
theorem filter_miss {q : Int → Bool} {pre : List Int} {x : Int} (hq : q x = false) : (pre ++ [x]).filter q = pre.filter q := by simp [hq]

set_option maxRecDepth 100000 in
set_option maxHeartbeats 2000000 in
theorem some_gives (S : Nat → Prop) (Be Bi ge gi : Nat) (lbe lbi : Array Value) (q : Int → Bool) (zs : List Int) (w : World) (hS : ∀ k, S k → k < w.heap.size) (hBe : S Be) (hBi : S Bi)
    (hce : w.cell? ⟨Be, 0, none⟩ = some (.func (.func ge) #[] lbe)) (hci : w.cell? ⟨Bi, 0, none⟩ = some (.func (.func gi) #[] lbi))
    (eg : ∀ args w, (callFunc ge args).run Try.prog w = .ok (.enter ge args) w) (ei : ∀ args w, (callFunc gi args).run Try.prog w = .ok (.enter gi args) w)
    (hG : Gives ge lbe S zs w) (hq : ∀ (x : Int) (W : World), KeepS S w W → Calls Try.prog gi (#[.int .i64 x] ++ lbi) W fun e w' => e = .returned (.bool (q x)) ∧ W = w') :
    Gives 17 #[.pointer (some ⟨Be, 0, none⟩), .pointer (some ⟨Bi, 0, none⟩)] S (zs.filter q) w := by
  intro n l J Jx W hW hJ hJx hY h0
  have cE : W.cell? ⟨Be, 0, none⟩ = some (.func (.func ge) #[] lbe) := (hW.cell (p := ⟨Be, 0, none⟩) (hS _ hBe)).trans hce
  have cI : W.cell? ⟨Bi, 0, none⟩ = some (.func (.func gi) #[] lbi) := (hW.cell (p := ⟨Bi, 0, none⟩) (hS _ hBi)).trans hci
  have hsz := hW.size
  refine callsIn_of_wp_marks Try.func17 rfl trivial ?_ rfl
  simp only [Try.ntmps17, List.size_toArray, List.length_cons, List.length_nil, Nat.reduceAdd, Nat.reduceSub, Array.replicate_succ, Array.replicate_zero, List.push_toArray, List.append_toArray, List.nil_append, List.cons_append]
  have hBe' : Be < W.heap.size := Nat.lt_of_lt_of_le (hS _ hBe) hsz
  have hBi' : Bi < W.heap.size := Nat.lt_of_lt_of_le (hS _ hBi) hsz
  have cE2 : (W.alloc (.cells #[.func (.yield l) #[] #[]] 37)).cell? ⟨Be, 0, none⟩ = some (.func (.func ge) #[] lbe) := (World.cell?_alloc_lt W _ _ hBe').trans cE
  have cI2 : (W.alloc (.cells #[.func (.yield l) #[] #[]] 37)).cell? ⟨Bi, 0, none⟩ = some (.func (.func gi) #[] lbi) := (World.cell?_alloc_lt W _ _ hBi').trans cI
  have q1 := eql_seq_nil
  have q2 := eql_is_nil
  gi_wp2
  refine wpIn_scope_straight ?_
  gi_wp2
  refine wpIn_label ?_
  gi_wp2
  clear q1 q2
  have bY : Boxed (W.alloc (.cells #[.func (.yield l) #[] #[]] 37)) W.heap.size 37 (.func (.yield l) #[] #[]) := Boxed.new W 37 _
  have hSW : ∀ k, S k → k < W.heap.size := fun k hk => Nat.lt_of_lt_of_le (hS k hk) hsz
  have hB0 : KeepS S W (W.alloc (.cells #[.func (.yield l) #[] #[]] 37)) := (KeepS.refl _ W).alloc hSW _
  have hWn : KeepS S w W := KeepS.of_below hW hS
  have hz : (W.alloc (.cells #[.func (.yield l) #[] #[]] 37)).heap.size = W.heap.size + 1 := by simp
  have hG' := hG.later (w' := W.alloc (.cells #[.func (.yield l) #[] #[]] 37)) (hW.trans ((Below.refl _ W).alloc hsz _))
  obtain ⟨W0, hW0⟩ : ∃ W0, W.alloc (.cells #[.func (.yield l) #[] #[]] 37) = W0 := ⟨_, rfl⟩
  have h0' : J [] W0 := by rw [← hW0]; exact hJ.alloc _ h0
  rw [hW0] at bY hB0 hz hG' cE2 cI2 ⊢
  clear hW0 cE cI cE2 cI2
  refine wpIn_range_gives (gf := ge) (lb := lbe) rfl eg S zs hG' (Below.refl _ _) (fun k hk => by have := hSW k hk; omega) rfl
    (fun pre W1 => (J (pre.filter q) W1 ∧ Boxed W1 W.heap.size 37 (.func (.yield l) #[] #[])) ∧ KeepS S W W1)
    (fun c pre W1 => c = .exit 0 ∧ Jx (pre.filter q) W1)
    (OwnFrom.and (OwnFrom.and (fun s X Y row hs hg hr => ownUp hJ (by omega : W.heap.size ≤ W0.heap.size) _ X Y row hs hg hr) (Own.from (boxed_own _ _ _) _)) (ownFrom_keepS hSW (by omega)))
    (fun c s X Y row hs hg hr => ⟨hs.1, ownUp hJx (by omega : W.heap.size ≤ W0.heap.size) _ X Y row hs.2 hg hr⟩)
    ⟨⟨h0', bY⟩, hB0⟩
    (fun x => { tmps := #[.func (.yield l) #[] #[], .pointer (some ⟨Be, 0, none⟩), .pointer (some ⟨Bi, 0, none⟩), .pointer (some ⟨W.heap.size, 0, none⟩), .int .i64 x, .func (.func ge) #[] lbe, .bool false, .bool false, .func (.func gi) #[] lbi, .bool false, .bool false, .func (.func ge) #[] lbe, .int .i64 x, undef, undef, undef, undef, undef, undef, undef, undef, undef], defers := [] }) ?assign ?body ?done ?stop
  case assign =>
    intro l2 m x W1 K hK
    gi_wp2
    exact hK
  case body =>
    rintro l2 m pre x W1 hpre hge ⟨⟨hj, bY1⟩, hB1⟩
    have cI : W1.cell? ⟨Bi, 0, none⟩ = some (.func (.func gi) #[] lbi) := (hB1.cell (p := ⟨Bi, 0, none⟩) hBi).trans ((hW.cell (p := ⟨Bi, 0, none⟩) (hS _ hBi)).trans hci)
    have cY := bY1.cell
    have hcall := hq x W1 (hWn.trans hB1)
    rcases Bool.eq_false_or_eq_true (q x) with hqx | hqx
    · obtain ⟨fn, tmps, assign, body, hy, hR⟩ := hY (m - 1) (pre.filter q) x W1 (filter_step hpre hqx) (by omega) hj
      rw [hqx] at hcall
      gi_wp2_with fail
      refine ⟨trivial, fun h => (by cases h), (CallsIn.inRound l2 (callsIn_wide.2 hcall)).mono ?_⟩
      rintro e W2 ⟨rfl, rfl⟩
      gi_wp2_with fail
      refine ⟨fun h => (by cases h), (show RoundIn (Fence.wide.inRound l2) (m - 1) Try.prog l fn tmps assign body W1 _ from hR).mono ?_⟩
      rintro e W3 (⟨rfl, hJ3, hk3⟩ | ⟨rfl, hJx3, hk3⟩)
      · gi_wp2
        exact ⟨hk3.up (by omega), ⟨by rw [filter_hit hqx]; exact hJ3, hk3.typ _ _ _ bY1⟩, hB1.trans hk3.below⟩
      · gi_wp2
        exact ⟨hk3.up (by omega), rfl, by rw [filter_hit hqx]; exact hJx3⟩
    · rw [hqx] at hcall
      gi_wp2_with fail
      refine ⟨trivial, fun h => (by cases h), (CallsIn.inRound l2 (callsIn_wide.2 hcall)).mono ?_⟩
      rintro e W2 ⟨rfl, rfl⟩
      gi_wp2
      refine ⟨fun _ h => (by cases h), ?_⟩
      gi_wp2
      exact ⟨Kept.refl _ _ _, ⟨by rw [filter_miss hqx]; exact hj, bY1⟩, hB1⟩
  case done =>
    rintro D W1 hD ⟨⟨hj, bY1⟩, hB1⟩ hK
    gi_wp2
    rw [Exit.noGoto_normal]
    refine ⟨by simp, .inl ⟨_, _, rfl, run_takeDeferred hK, ?_⟩⟩
    exact ⟨_, results_none rfl _ _ _, ⟨_, rfl⟩, .inl (hJ.putObj _ hj (by omega) hK rfl)⟩
  case stop =>
    rintro D c pre W1 hD hpre ⟨rfl, hj⟩ hK
    gi_wp2
    rw [Exit.noGoto_normal]
    refine ⟨by simp, .inl ⟨_, _, rfl, run_takeDeferred hK, ?_⟩⟩
    exact ⟨_, results_none rfl _ _ _, ⟨_, rfl⟩, .inr ⟨_, filter_pre hpre, hJx.putObj _ hj (by omega) hK rfl⟩⟩
end Go.Proofs.Ytalmhafekmggdaa
