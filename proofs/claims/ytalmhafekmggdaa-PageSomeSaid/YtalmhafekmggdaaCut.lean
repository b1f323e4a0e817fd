/- page.Cut: the numbers above a bound that an iterator gives, at most so many, and whether more follow. -/
import Derived.Maps.AppendAt
import Derived.Test.YtalmhafekmggdaaSome
namespace Go.Proofs.Ytalmhafekmggdaa
open Go.RowKit Go.Shelf
attribute [local go_sem] Oper.semAt_some

set_option maxHeartbeats 1000000 in
/-- A Some of nil gives nothing. -/
theorem some_nil_gives (S : Nat → Prop) (Be Bi : Nat) (w : World) (hBe : Be < w.heap.size) (hce : w.cell? ⟨Be, 0, none⟩ = some .nilFunc) :
    Gives 17 #[.pointer (some ⟨Be, 0, none⟩), .pointer (some ⟨Bi, 0, none⟩)] S [] w := by
  intro n l J Jx W hW hJ hJx hY h0
  have hBe' : Be < W.heap.size := Nat.lt_of_lt_of_le hBe hW.size
  have cE : W.cell? ⟨Be, 0, none⟩ = some .nilFunc := (hW.cell (p := ⟨Be, 0, none⟩) hBe).trans hce
  have cE2 : (W.alloc (.cells #[.func (.yield l) #[] #[]] 37)).cell? ⟨Be, 0, none⟩ = some .nilFunc := (World.cell?_alloc_lt W _ _ hBe').trans cE
  refine callsIn_of_wp Try.func17 rfl trivial ?_ rfl
  simp only [Try.ntmps17, List.size_toArray, List.length_cons, List.length_nil, Nat.reduceAdd, Nat.reduceSub, Array.replicate_succ, Array.replicate_zero, List.push_toArray, List.append_toArray, List.nil_append, List.cons_append]
  have q1 := eql_nil_nil
  gi_wp2
  refine wpIn_scope_straight ?_
  gi_wp2
  rw [Exit.noGoto_ret]
  refine bodyPost_ret (results_none rfl _ _ _) rfl ?_
  exact ⟨⟨_, rfl⟩, .inl (hJ.alloc _ h0)⟩
/-- The test of page.Cut: a number above the page's After. -/
theorem above_calls (x A : Int) (B : Nat) (w : World) (hc : w.cell? ⟨B, 0, none⟩ = some (.int .i64 A)) :
    Calls Try.prog 15 #[.int .i64 x, .pointer (some ⟨B, 0, none⟩)] w fun e w' => e = .returned (.bool (decide (A < x))) ∧ w = w' := by
  go_enter Try.func15, Try.ntmps15
  go_wp2
  go_ret
  exact ⟨rfl, rfl⟩

/-- What a page's numbers are, of those that are above After. -/
def pageOf (A L : Int) (zs : List Int) : List Int := (zs.filter fun x => decide (A < x)).take L.toNat
def pageMore (A L : Int) (zs : List Int) : Bool := decide (L.toNat < (zs.filter fun x => decide (A < x)).length)

theorem info3 : (Try.prog.info? 3).map (fun i => (i.zero, i.size, i.bytes)) = some (some (.int .i64 0), 1, 8) := by kernel_rfl

/-- What is known of the other iterator: it is nil and gives nothing; or it gives zs, whatever of what lay is kept. -/
def EachOf (each : Value) (zs : List Int) (w : World) : Prop :=
  (each = .nilFunc ∧ zs = []) ∨ ∃ ge lbe, each = .func (.func ge) #[] lbe ∧ (∀ args w, (callFunc ge args).run Try.prog w = .ok (.enter ge args) w) ∧
    ∀ (S : Nat → Prop) (W : World), Below w.heap.size w W → (∀ k, k < w.heap.size → S k) → (∀ k, S k → k < W.heap.size) → Gives ge lbe S zs W
theorem EachOf.one {each : Value} {zs : List Int} {w : World} (h : EachOf each zs w) : each.oneCell' = true := by
  rcases h with ⟨rfl, _⟩ | ⟨ge, lbe, rfl, _⟩ <;> rfl

theorem own_shape {W : World} {base : Nat} {e : TypeId} {size n : Nat} {v : Value} {xs : List Value} (h : W.ownsRow base e size v n xs) : ∃ a c, v = .slice a n c := by
  rcases h.2 with ⟨rfl, rfl⟩ | ⟨g, cap, cur, rfl, _⟩
  · exact ⟨none, 0, rfl⟩
  · exact ⟨_, cap, rfl⟩
theorem own_row {W : World} {base : Nat} {e : TypeId} {size n : Nat} {v : Value} {xs : List Value} (h : W.ownsRow base e size v n xs) (k : Nat) (hk : v.ownBlock = some k) : base ≤ k ∧ ∃ cur, W.heap[k]? = some (.cells cur e (0, 0)) := by
  rcases h.2 with ⟨rfl, _⟩ | ⟨g, cap, cur, rfl, hb, hh, _⟩
  · simp [Value.ownBlock] at hk
  · have : g = k := by simpa [Value.ownBlock] using hk
    subst this
    exact ⟨hb, cur, hh⟩
theorem own_base_le {W : World} {base base' : Nat} {e : TypeId} {size n : Nat} {v : Value} {xs : List Value} (h : W.ownsRow base e size v n xs) (hle : base' ≤ base) : W.ownsRow base' e size v n xs := by
  refine ⟨h.1, ?_⟩
  rcases h.2 with h' | ⟨g, cap, cur, hv, hb, r⟩
  · exact .inl h'
  · exact .inr ⟨g, cap, cur, hv, Nat.le_trans hle hb, r⟩

/-- out = append(out, x), the store behind it among it, keeps what a round keeps. -/
theorem appended_kept {S : Nat → Prop} {B b0 O : Nat} {W w1 : World} {v v' : Value} {n : Nat} {xs : List Value} {tmp : Obj} (hS : ∀ k, S k → k < W.heap.size) (hrow : W.ownsRow b0 3 1 v n xs)
    (hO : ¬ S O) (hr : ∀ g, v.ownBlock = some g → ¬ S g) (hgrow : (W.alloc tmp).grownBy w1 v.ownBlock) (hv1 : Boxed w1 O 24 v) : Kept S B W (w1.setCell ⟨O, 0, none⟩ v') := by
  have hrow2 := hrow.alloc tmp
  have k1 : Kept S B W (W.alloc tmp) := (Kept.refl _ _ _).alloc hS _
  have hS2 : ∀ k, S k → k < (W.alloc tmp).heap.size := fun k hk => by have := hS k hk; simp; omega
  have k2 : Kept S B (W.alloc tmp) w1 := by
    refine ⟨(KeepS.refl _ _).grown hgrow hS2 hr, (KeepsOthers.of_grownBy hgrow fun j o ej hj => ?_).from _, fun k cs fr hk => ?_⟩
    · obtain ⟨_, cur, hc⟩ := own_row hrow2 j ej
      rw [hc] at hj; cases hj; rfl
    · refine (hgrow.block k (Array.getElem?_eq_some_iff.1 hk).1 (fun e => ?_)).trans hk
      obtain ⟨_, cur, hc⟩ := own_row hrow2 k e.symm
      rw [hc] at hk
      simp at hk
  exact (k1.trans k2).set hO hv1 (by decide) _

theorem appended_box {b0 O M : Nat} {t : TypeId} {W w1 : World} {v v' u : Value} {n : Nat} {xs : List Value} {tmp : Obj} (hrow : W.ownsRow b0 3 1 v n xs) (hM : Boxed W M t u) (ht : t ≠ 3) (hne : M ≠ O)
    (hgrow : (W.alloc tmp).grownBy w1 v.ownBlock) : Boxed (w1.setCell ⟨O, 0, none⟩ v') M t u :=
  ((hM.alloc tmp).kept hgrow ((hM.alloc tmp).not_row ht (hrow.alloc tmp))).other hne _

set_option maxRecDepth 100000 in
set_option maxHeartbeats 4000000 in
theorem cut_wide (A L : Int) (zs : List Int) (each : Value) (n : Nat) (w : World) (h1 : 1 ≤ L) (h2 : L ≤ 100) (hE : EachOf each zs w)
    (hMay : ∀ W : World, Calls Try.prog 11 #[.agg #[.int .i64 A, .int .i64 L]] W fun e W' => e = .returned (.int .i64 0) ∧ Below W.heap.size W W') :
    CallsIn Fence.wide n Try.prog 7 #[.agg #[.int .i64 A, .int .i64 L], each] w fun e w' => ∃ v, e = .returned (.tuple #[v, .bool (pageMore A L zs), .int .i64 0]) ∧ w'.ownsRow w.heap.size 3 1 v (pageOf A L zs).length ((pageOf A L zs).map (Value.int .i64)) ∧ Below w.heap.size w w' := by
  have hone := hE.one
  have HE := Lib.hid hE
  clear hE
  refine callsIn_of_wp_marks Try.func7 rfl trivial ?_ rfl
  simp only [Try.ntmps7, List.size_toArray, List.length_cons, List.length_nil, Nat.reduceAdd, Nat.reduceSub, Array.replicate_succ, Array.replicate_zero, List.push_toArray, List.append_toArray, List.nil_append, List.cons_append]
  gi_wp2_with fail
  refine wpIn_scope_straight ?_
  gi_wp2_with fail
  refine ⟨trivial, fun h => (by cases h), (callsIn_wide.2 (hMay _)).mono ?_⟩
  clear hMay
  rintro e W2 ⟨rfl, hb⟩
  have hB2 : Below w.heap.size w W2 := ((Below.refl _ w).alloc (Nat.le_refl _) _).trans (hb.mono (by simp))
  have hz2 : w.heap.size + 1 ≤ W2.heap.size := by have := hb.size; simpa using this
  have bP : W2.heap[w.heap.size]? = some (.cells #[.int .i64 A, .int .i64 L] 23 (0, 0)) := (hb.block _ (by simp)).trans (World.alloc_heap_new w _)
  clear hb
  gi_wp2_with fail
  refine wpIn_label ?_
  gi_wp2_with fail
  refine ⟨trivial, fun h => (by cases h), (callsIn_wide.2 (some_calls each _ hone rfl _)).mono ?_⟩
  rintro e W3 ⟨rfl, rfl⟩
  gi_wp2_with fail
  obtain ⟨W4, hW4⟩ : ∃ W4, ((((W2.alloc (.cells #[.slice none 0 0] 24)).alloc (.cells #[.bool false] 4)).alloc (.cells #[each] 30)).alloc (.cells #[.func (.func 15) #[] #[.pointer (some ⟨w.heap.size, 0, none⟩)]] 37)) = W4 := ⟨_, rfl⟩
  have hz4 : W4.heap.size = W2.heap.size + 4 := by rw [← hW4]; simp
  have hB24 : Below W2.heap.size W2 W4 := by
    rw [← hW4]; exact ((((Below.refl _ W2).alloc (Nat.le_refl _) _).alloc (by simp) _).alloc (by simp; omega) _).alloc (by simp; omega) _
  have bO : Boxed W4 W2.heap.size 24 (.slice none 0 0) := by
    rw [← hW4]; exact (((Boxed.new W2 24 _).alloc _).alloc _).alloc _
  have bM : Boxed W4 (W2.heap.size + 1) 4 (.bool false) := by
    have := ((Boxed.new (W2.alloc (.cells #[.slice none 0 0] 24)) 4 (.bool false)).alloc (.cells #[each] 30)).alloc (.cells #[.func (.func 15) #[] #[.pointer (some ⟨w.heap.size, 0, none⟩)]] 37)
    rw [hW4] at this; simpa using this
  have bE : Boxed W4 (W2.heap.size + 2) 30 each := by
    have := (Boxed.new ((W2.alloc (.cells #[.slice none 0 0] 24)).alloc (.cells #[.bool false] 4)) 30 each).alloc (.cells #[.func (.func 15) #[] #[.pointer (some ⟨w.heap.size, 0, none⟩)]] 37)
    rw [hW4] at this; simpa using this
  have bI : Boxed W4 (W2.heap.size + 3) 37 (.func (.func 15) #[] #[.pointer (some ⟨w.heap.size, 0, none⟩)]) := by
    have := Boxed.new (((W2.alloc (.cells #[.slice none 0 0] 24)).alloc (.cells #[.bool false] 4)).alloc (.cells #[each] 30)) 37 (.func (.func 15) #[] #[.pointer (some ⟨w.heap.size, 0, none⟩)])
    rw [hW4] at this; simpa using this
  have bP4 : W4.heap[w.heap.size]? = some (.cells #[.int .i64 A, .int .i64 L] 23 (0, 0)) := (hB24.block _ (by omega)).trans bP
  have hB4 : Below w.heap.size w W4 := hB2.trans (hB24.mono (by omega))
  rw [hW4]
  clear hW4 hB24 bP hB2
  obtain ⟨S, hSd⟩ : ∃ S : Nat → Prop, S = fun k => k < W2.heap.size ∨ k = W2.heap.size + 2 ∨ k = W2.heap.size + 3 := ⟨_, rfl⟩
  have hS4 : ∀ k, S k → k < W4.heap.size := fun k hk => by rw [hSd] at hk; omega
  have hSlow : ∀ k, k < W2.heap.size → S k := fun k hk => by rw [hSd]; exact .inl hk
  have hSE : S (W2.heap.size + 2) := by rw [hSd]; exact .inr (.inl rfl)
  have hSI : S (W2.heap.size + 3) := by rw [hSd]; exact .inr (.inr rfl)
  have hSO : ¬ S W2.heap.size := by rw [hSd]; omega
  have hSM : ¬ S (W2.heap.size + 1) := by rw [hSd]; omega
  have hSup : ∀ k, S k → W2.heap.size ≤ k → k = W2.heap.size + 2 ∨ k = W2.heap.size + 3 := fun k hk hle => by rw [hSd] at hk; omega
  have hGive : Gives 17 #[.pointer (some ⟨W2.heap.size + 2, 0, none⟩), .pointer (some ⟨W2.heap.size + 3, 0, none⟩)] S (zs.filter fun x => decide (A < x)) W4 := by
    rcases HE.out with ⟨rfl, rfl⟩ | ⟨ge, lbe, rfl, eg, hG⟩
    · exact some_nil_gives S _ _ W4 (by omega) bE.cell
    · refine some_gives S _ _ ge 15 lbe #[.pointer (some ⟨w.heap.size, 0, none⟩)] _ zs W4 hS4 hSE hSI bE.cell bI.cell eg (enters_of Try.func15 (by kernel_rfl) rfl) (hG S W4 hB4 (fun k hk => hSlow k (by omega)) hS4) ?_
      intro x W hk
      refine above_calls x A w.heap.size W ?_
      rw [hk.cell (p := ⟨w.heap.size, 0, none⟩) (hSlow w.heap.size (by omega))]
      simp [World.cell?, bP4]
  have hSlowP : S w.heap.size := hSlow _ (by omega)
  clear HE hSd hSlow
  have hLn : ((L.toNat : Nat) : Int) = L := by omega
  obtain ⟨i0, hi, hz0, hz1, hz2'⟩ := info_parts info3
  have hSP : S w.heap.size := hSlowP
  refine wpIn_range_gives (gf := 17) (lb := #[.pointer (some ⟨W2.heap.size + 1 + 1, 0, none⟩), .pointer (some ⟨W2.heap.size + 1 + 1 + 1, 0, none⟩)]) rfl (enters_of Try.func17 (by kernel_rfl) rfl) S (zs.filter fun x => decide (A < x)) hGive (Below.refl _ _) hS4 rfl
    (fun pre W => ((∃ v, Boxed W W2.heap.size 24 v ∧ W.ownsRow W2.heap.size 3 1 v pre.length (pre.map (Value.int .i64)) ∧ pre.length ≤ L.toNat) ∧ Boxed W (W2.heap.size + 1) 4 (.bool false)) ∧ (KeepS S W4 W ∧ Below w.heap.size w W))
    (fun c pre W => (c = .exit 0 ∧ pre.length = L.toNat + 1) ∧ ((∃ v, Boxed W W2.heap.size 24 v ∧ W.ownsRow W2.heap.size 3 1 v (pre.take L.toNat).length ((pre.take L.toNat).map (Value.int .i64)) ∧ True) ∧ Boxed W (W2.heap.size + 1) 4 (.bool true)) ∧ Below w.heap.size w W)
    (OwnFrom.and (OwnFrom.and (Own.from (holdsRow_own W2.heap.size W2.heap.size 24 3 1 (fun (pre : List Int) => pre.length) (fun (pre : List Int) => pre.map (Value.int .i64)) (fun (pre : List Int) _ => pre.length ≤ L.toNat)) _) (Own.from (boxed_own _ _ (fun _ => .bool false)) _)) (OwnFrom.and (ownFrom_keepS hS4 (Nat.le_refl _)) (ownFrom_below (Nat.le_refl _) hB4.size)))
    (fun c => OwnFrom.and (ownFrom_pure _ (fun (pre : List Int) => c = .exit 0 ∧ pre.length = L.toNat + 1)) (OwnFrom.and (OwnFrom.and (Own.from (holdsRow_own W2.heap.size W2.heap.size 24 3 1 (fun (pre : List Int) => (pre.take L.toNat).length) (fun pre => (pre.take L.toNat).map (Value.int .i64)) (fun _ _ => True)) _) (Own.from (boxed_own _ _ (fun _ => .bool true)) _)) (ownFrom_below (Nat.le_refl _) hB4.size)))
    ⟨⟨⟨_, bO, World.ownsRow_nil _ _ _ _, by simp⟩, bM⟩, KeepS.refl _ _, hB4⟩
    (fun x => { tmps := #[.agg #[.int .i64 A, .int .i64 L], each, .pointer (some ⟨w.heap.size, 0, none⟩), undef, .slice none 0 0, .bool false, .int .i64 0, .int .i64 0, .pointer (some ⟨W2.heap.size, 0, none⟩), .pointer (some ⟨W2.heap.size + 1, 0, none⟩), .int .i64 x, .agg #[.int .i64 A, .int .i64 L], .int .i64 0, .int .i64 0, .bool false, undef, each, .func (.func 15) #[] #[.pointer (some ⟨w.heap.size, 0, none⟩)], .func (.func 17) #[] #[.pointer (some ⟨W2.heap.size + 1 + 1, 0, none⟩), .pointer (some ⟨W2.heap.size + 1 + 1 + 1, 0, none⟩)], .int .i64 x, undef, undef, undef, undef, undef, undef, undef, undef, undef, undef, undef], defers := [] }) ?assign ?body ?done ?stop
  case assign =>
    intro l2 m x W K hK
    gi_wp2
    exact hK
  case body =>
    rintro l2 m pre x W hpre hge ⟨⟨⟨v, hv, hrow, hlen⟩, bM1⟩, hK4, hB⟩
    have cO := hv.cell
    have fM := bM1.frozen
    have cM := bM1.cell
    have bPW : W.heap[w.heap.size]? = some (.cells #[.int .i64 A, .int .i64 L] 23 (0, 0)) := (hK4.block _ hSP).trans bP4
    have cL : W.cell? ⟨w.heap.size, 1, none⟩ = some (.int .i64 L) := by simp [World.cell?, bPW]
    have hSW : ∀ k, S k → k < W.heap.size := fun k hk => Nat.lt_of_lt_of_le (hS4 k hk) hK4.size
    obtain ⟨a, c, rfl⟩ := own_shape hrow
    by_cases hfull : pre.length = L.toNat
    · have hT : ((pre.length : Int) == L) = true := by rw [hfull]; simpa using hLn
      gi_wp2
      exact ⟨(Kept.refl _ _ _).set hSM bM1 (by decide) _, ⟨rfl, by simp [hfull]⟩, ⟨⟨_, hv.other (by omega) _, by rw [List.take_left' hfull]; exact hrow.kept (grownBy_setCell' _ _ _) (.inr (bM1.not_row (by decide) hrow).symm), trivial⟩, bM1.set _⟩, hB.setCell (p := ⟨W2.heap.size + 1, 0, none⟩) (by simp; omega) _⟩
    · have hT : ((pre.length : Int) == L) = false := by rw [beq_eq_false_iff_ne]; omega
      have hnS : ∀ g, (Value.slice a pre.length c).ownBlock = some g → ¬ S g := fun g hg hk => by
        obtain ⟨hge2, cur, hcur⟩ := own_row hrow g hg
        rcases hSup g hk hge2 with rfl | rfl
        · have := (hK4.block _ hSE).trans bE
          rw [hcur] at this; simp at this
        · have := (hK4.block _ hSI).trans bI
          rw [hcur] at this; simp at this
      gi_wp2_with (gi_at_builtin; refine wpListIn_append_own _ rfl _ _ 24 rfl W2.heap.size 3 i0 (.int .i64 0) 1 8 Try.underlying24 hi hz0 hz1 hz2' rfl (by decide) _ _ _ rfl (hrow.alloc _) ⟨W.heap.size, 0, none⟩ 1 1 [.int .i64 x] rfl rfl (cell_one_new _ _ _) (by simp [Value.oneCell']) (by simp only [maxLen]; omega) (by omega) (by have := hK4.size; simp; omega) ?_; intro v' w1 hown' hgrow _; obtain ⟨g', cap', rfl⟩ := ownsRow_succ hown'; obtain ⟨hv1, hv2, hr2, hk2, hb2⟩ := hv.appended (by decide) hrow (by have := hK4.size; omega) (Nat.le_refl _) hown' hgrow; have hc1 := hv1.cell; have hf1 := hv1.frozen)
      have hKept := appended_kept (S := S) (B := W4.heap.size) (v' := .slice (some ⟨g', 0, none⟩) (pre.length + 1) cap') hSW hrow hSO hnS hgrow hv1
      have hM2 := appended_box (O := W2.heap.size) (v' := .slice (some ⟨g', 0, none⟩) (pre.length + 1) cap') hrow bM1 (by decide) (by omega) hgrow
      exact ⟨hKept, ⟨⟨_, hv2, by simpa using hr2, by simp; omega⟩, hM2⟩, hK4.trans hKept.below, hB.trans (hb2.mono (by omega))⟩
  case done =>
    rintro D W hD ⟨⟨⟨v, hv, hrow, hlen⟩, bM1⟩, hK4, hB⟩ hK
    have cO := hv.cell
    have cM := bM1.cell
    obtain ⟨a, c, rfl⟩ := own_shape hrow
    gi_wp2
    gi_region
    all_goals gi_wp2
    all_goals rw [Exit.noGoto_ret]
    all_goals
      have hKd : W.drew.heap[D]? = some (.deferred (some [])) := hK
      refine ⟨by simp, .inl ⟨_, _, rfl, run_takeDeferred hKd, ?_⟩⟩
      have hBd : Below w.heap.size w (W.drew.putObj D (.deferred none)) := (Below.drew hB).trans (belowK_b (w := w) (Nat.le_refl _) W.drew D _ _ (by have := hB4.size; omega) hKd rfl rfl)
      have hrd : (W.drew.putObj D (.deferred none)).ownsRow W2.heap.size 3 1 (.slice a (zs.filter fun x => decide (A < x)).length c) (zs.filter fun x => decide (A < x)).length ((zs.filter fun x => decide (A < x)).map (Value.int .i64)) := ownsRow_putObj (W := W.drew) hrow _ hKd rfl
      have e1 : pageOf A L zs = zs.filter fun x => decide (A < x) := List.take_of_length_le hlen
      have e2 : pageMore A L zs = false := decide_eq_false (by omega)
      rw [e1, e2]
      exact ⟨_, results_tmp3 rfl _ _ _, _, rfl, own_base_le hrd (by omega), hBd⟩
  case stop =>
    rintro D c pre W hD hpre ⟨⟨rfl, hlen⟩, ⟨⟨v, hv, hrow, _⟩, bM1⟩, hB⟩ hK
    have hpl := hpre.length_le
    have e1 : pageOf A L zs = pre.take L.toNat := by
      obtain ⟨r, hr⟩ := hpre
      unfold pageOf
      rw [← hr, List.take_append_of_le_length (by omega)]
    have e2 : pageMore A L zs = true := decide_eq_true (by omega)
    have hlp : (pageOf A L zs).length = L.toNat := by rw [e1, List.length_take]; omega
    rw [← e1, hlp] at hrow
    have E2 := Lib.hid e2
    have HL := Lib.hid hlp
    clear hpl hpre e1 e2 hlp
    obtain ⟨a, c, rfl⟩ := own_shape hrow
    have cO := hv.cell
    have cM := bM1.cell
    gi_wp2
    gi_region
    all_goals gi_wp2
    all_goals rw [Exit.noGoto_ret]
    all_goals
      have hKd : W.drew.heap[D]? = some (.deferred (some [])) := hK
      refine ⟨by simp, .inl ⟨_, _, rfl, run_takeDeferred hKd, ?_⟩⟩
      have hBd : Below w.heap.size w (W.drew.putObj D (.deferred none)) := (Below.drew hB).trans (belowK_b (w := w) (Nat.le_refl _) W.drew D _ _ (by have := hB4.size; omega) hKd rfl rfl)
      have hrd : (W.drew.putObj D (.deferred none)).ownsRow W2.heap.size 3 1 (.slice a L.toNat c) L.toNat ((pageOf A L zs).map (Value.int .i64)) := ownsRow_putObj (W := W.drew) hrow _ hKd rfl
      rw [E2.out, HL.out]
      exact ⟨_, results_tmp3 rfl _ _ _, _, rfl, own_base_le hrd (by omega), hBd⟩
end Go.Proofs.Ytalmhafekmggdaa
