-- WRITTEN BY PROGRAMS (a patched copy of the kit's print.py, and this repo's fake6.py and patch6.py) out of the translation. Not trusted: Lean checks it.
import Derived.Test.YtalmhafekmggdaaTook
namespace Go.Proofs.Ytalmhafekmggdaa.PPg
open Go.RowKit Go.Proofs.YtalmhafekmggdaaW.PrintWords Go.Proofs.YtalmhafekmggdaaW.PrintLast Go.Proofs.YtalmhafekmggdaaW.PrintMore
attribute [local go_sem] max2_int min2_int max_two min_two max_three min_three max_four min_four   -- for this text's walks alone
attribute [local go_sem] Oper.semAt_some
set_option linter.unusedVariables false
set_option linter.unusedSimpArgs false

/-! ### gossamerlaw38_PageSome: function 4 -/
def gossamerlaw38_PageSome.l0 : Nat → List Int → List Int → Int → Int → Int → Option (Bool)
  | 0, _, _, _, _, _ => none
  | k + 1, x0, x7, x8, x133000, x134000 => if x8 < (x0.length : Int) then (if 0 ≤ x8 then (if (rd x0 x8) > x133000 then (if x7.length < 17592186044416 then (gossamerlaw38_PageSome.l0 k x0 (x7 ++ [rd x0 x8]) (wrap64 (x8 + 1)) x133000 x134000) else (none)) else (gossamerlaw38_PageSome.l0 k x0 x7 (wrap64 (x8 + 1)) x133000 x134000)) else (none)) else ((took.f k x133000 (wrap64 (x134000)) x0).bind fun bt140 => (if 0 ≤ (mn (x7.length : Int) (mx 1 (wrap64 (x134000)))) then (if (mn (x7.length : Int) (mx 1 (wrap64 (x134000)))) ≤ (x7.length : Int) then ((gossamerref01_SameInts.f k bt140.1 (x7.take ((mn (x7.length : Int) (mx 1 (wrap64 (x134000)))) : Int).toNat)).bind fun t149 => (if t149 = true then ((gossamerlaw38_awake.f k).bind fun t150 => (some t150)) else (some false))) else (none)) else (none)))
def gossamerlaw38_PageSome.f (k : Nat) (l0 : List Int) (a1 : Int) (a2 : Int) : Option (Bool) := if (l0.length : Int) > 150 then ((gossamerlaw38_awake.f k).bind fun t134 => (some t134)) else (gossamerlaw38_PageSome.l0 k l0 ([] : List Int) 0 a1 a2)
theorem gossamerlaw38_PageSome.mono_l : ∀ k, (∀ y0 y1 y2 y3 y4, LeO (gossamerlaw38_PageSome.l0 k y0 y1 y2 y3 y4) (gossamerlaw38_PageSome.l0 (k + 1) y0 y1 y2 y3 y4))
  | 0 => fun _ _ _ _ _ r h => by simp [gossamerlaw38_PageSome.l0] at h
  | k + 1 => by
    have ih0 := gossamerlaw38_PageSome.mono_l k
    · intro y0 y1 y2 y3 y4
      unfold gossamerlaw38_PageSome.l0
      repeat' first
      | (with_reducible exact ih0 _ _ _ _ _)
      | (with_reducible exact gossamerlaw38_awake.mono _)
      | (with_reducible exact gossamerref01_SameInts.mono _ _ _)
      | (with_reducible exact took.mono _ _ _ _)
      | (with_reducible exact LeO.refl _)
      | (with_reducible exact LeO.none _)
      | (with_reducible refine LeO.ite ?_ ?_)
      | (with_reducible refine LeO.bind ?_ (fun _ => ?_))
      | exact ih0 _ _ _ _ _
      | exact gossamerlaw38_awake.mono _
      | exact gossamerref01_SameInts.mono _ _ _
      | exact took.mono _ _ _ _
      | exact LeO.none _
      | refine LeO.ite ?_ ?_
      | refine LeO.bind ?_ (fun _ => ?_)
theorem gossamerlaw38_PageSome.mono : ∀ a0 a1 a2 k, LeO (gossamerlaw38_PageSome.f k a0 a1 a2) (gossamerlaw38_PageSome.f (k + 1) a0 a1 a2) := by
  intro a0 a1 a2 k
  have ih0 := gossamerlaw38_PageSome.mono_l k
  unfold gossamerlaw38_PageSome.f
  repeat' first
      | (with_reducible exact ih0 _ _ _ _ _)
      | (with_reducible exact gossamerlaw38_awake.mono _)
      | (with_reducible exact gossamerref01_SameInts.mono _ _ _)
      | (with_reducible exact took.mono _ _ _ _)
      | (with_reducible exact LeO.refl _)
      | (with_reducible exact LeO.none _)
      | (with_reducible refine LeO.ite ?_ ?_)
      | (with_reducible refine LeO.bind ?_ (fun _ => ?_))
      | exact ih0 _ _ _ _ _
      | exact gossamerlaw38_awake.mono _
      | exact gossamerref01_SameInts.mono _ _ _
      | exact took.mono _ _ _ _
      | exact LeO.none _
      | refine LeO.ite ?_ ?_
      | refine LeO.bind ?_ (fun _ => ?_)
def gossamerlaw38_PageSome.T17 : Bool × List (List Nat × List Nat) := (true, [([], []), ([], []), ([], []), ([2], [2]), ([], []), ([4], [4]), ([5], [5]), ([3, 6], [3, 6]), ([1, 7], [1, 7]), ([0, 8], [0, 8]), ([9, 9], [9]), ([10, 10], [10]), ([10, 11], [10, 11]), ([12, 11, 0, 1, 2, 3, 4, 5, 6, 7, 8, 9, 10, 11, 12], [12])])
def gossamerlaw38_PageSome.B17 : List Nat := [0, 0, 0, 4, 0, 16, 48, 124, 254, 511, 1023, 2047, 4095, 8191]
theorem gossamerlaw38_PageSome.tab17 : rtab .any (opsOf Try.f4 17) = gossamerlaw38_PageSome.T17 := by kernel_rfl
theorem gossamerlaw38_PageSome.bits17 : waitsOk gossamerlaw38_PageSome.T17.2 gossamerlaw38_PageSome.B17 = true := by kernel_rfl
set_option maxHeartbeats 8000000 in
set_option maxRecDepth 100000 in
theorem gossamerlaw38_PageSome.calls (k : Nat) (A0 : Option Addr) (c0 : Nat) (l0 : List Int) (a1 : Int) (a2 : Int) (r : Bool) (w : World) (hw0 : 0 ≤ a2) (hw1 : a2 ≤ 255) (hrt : r = true) (hr0 : Kd.C (Kd.int .i64) w A0 l0.length l0) (hc0 : l0.length ≤ c0) (h : gossamerlaw38_PageSome.f k l0 a1 a2 = some r) :
    Calls Try.prog 4 #[.slice A0 l0.length c0, .int .i64 a1, .int .u8 a2] w fun e w' => e = .returned (.bool r) ∧ Below w.heap.size w w' := by
  have hu23 := Try.underlying23
  have HR0 := Aside0.mk hr0
  have HC0 := Aside0.mk hc0
  clear hr0 hc0
  have HB := Aside0.mk (Below.refl w.heap.size w)
  have H : (if (l0.length : Int) > 150 then ((gossamerlaw38_awake.f k).bind fun t134 => (some t134)) else (gossamerlaw38_PageSome.l0 k l0 ([] : List Int) 0 a1 a2)) = some r := h
  clear h
  by_cases c4 : (l0.length : Int) > 150
  · rw [if_pos c4] at H
    have c4b0 : decide (150 < (l0.length : Int)) = true := decide_eq_true c4
    have c4b1 : decide (150 < l0.length) = true := decide_eq_true (by omega)
    clear c4
    replace H := Option.bind_eq_some_iff.mp H
    obtain ⟨t134, A50, H⟩ := H
    replace H : (some t134) = some r := H
    have A5 := Aside0.mk A50
    clear A50
    obtain rfl := Option.some.inj H
    go_enter Try.func4, Try.ntmps4
    go_wp2_with (first | ((with_reducible refine gate_dst (N := 4) rfl ?_); refine box_event ?hg (N := 4) ?hd (cs := #[.int .i64 a1]) (t := 3) ?hr ?_; (case hd => rfl); (case hg => rfl); (case hr => first | (go_simp; done) | (go_simp; rfl)); intro gb132 hg w6 hbox hb; have n0_ := Aside0.mk (below_step (by repeat (first | (with_reducible first | exact HB.out | apply below_alloc | apply pw_below_drewN | apply below_drew1) | exact HB.out)) hb); have n1_ := Aside0.mk (hbox); have n2_ := Aside0.mk ((by rw [hg]; exact (below_size (by repeat (first | (with_reducible first | exact HB.out | apply below_alloc | apply pw_below_drewN | apply below_drew1) | exact HB.out))) : w.heap.size ≤ gb132)); have n3_ := Aside0.mk ((by rw [hg]; exact (below_size (by repeat (first | (with_reducible first | exact HB.out | apply below_alloc | apply pw_below_drewN | apply below_drew1) | exact HB.out))) : w.heap.size ≤ gb132)); clear HB; have HB := n0_; have BK132 := n1_; have GW132 := n2_; have GE132 := n3_; clear n0_ n1_ n2_ n3_; clear hb hbox hg) | ((with_reducible refine gate_dst (N := 5) rfl ?_); refine box_event ?hg (N := 5) ?hd (cs := #[.int .u8 a2]) (t := 5) ?hr ?_; (case hd => rfl); (case hg => rfl); (case hr => first | (go_simp; done) | (go_simp; rfl)); intro gb133 hg w7 hbox hb; have n0_ := Aside0.mk (blk_below (g := gb132) (o := .cells #[.int .i64 a1] 3 (0, 0)) (by (with_reducible repeat (first | refine blk_drewN ?_ _ | refine blk_drew ?_ | refine blk_alloc ?_ _)); exact BK132.out) hb); have n1_ := Aside0.mk (below_step (by repeat (first | (with_reducible first | exact HB.out | apply below_alloc | apply pw_below_drewN | apply below_drew1 | refine below_set ?_ GE132.out) | exact HB.out)) hb); have n2_ := Aside0.mk (hbox); have n3_ := Aside0.mk ((by rw [hg]; exact (below_size (by repeat (first | (with_reducible first | exact HB.out | apply below_alloc | apply pw_below_drewN | apply below_drew1 | refine below_set ?_ GE132.out) | exact HB.out))) : w.heap.size ≤ gb133)); have n4_ := Aside0.mk ((by rw [hg]; exact (below_size (by repeat (first | (with_reducible first | exact HB.out | apply below_alloc | apply pw_below_drewN | apply below_drew1 | refine below_set ?_ GE132.out) | exact HB.out))) : w.heap.size ≤ gb133)); have n5_ := Aside0.mk ((by rw [hg]; exact Nat.ne_of_lt (blk_lt (g := gb132) (o := .cells #[.int .i64 a1] 3 (0, 0)) (by (with_reducible repeat (first | refine blk_drewN ?_ _ | refine blk_drew ?_ | refine blk_alloc ?_ _)); exact BK132.out)) : gb132 ≠ gb133)); have n6_ := Aside0.mk ((by rw [hg]; exact Nat.ne_of_gt (blk_lt (g := gb132) (o := .cells #[.int .i64 a1] 3 (0, 0)) (by (with_reducible repeat (first | refine blk_drewN ?_ _ | refine blk_drew ?_ | refine blk_alloc ?_ _)); exact BK132.out)) : gb133 ≠ gb132)); clear BK132; clear HB; have BK132 := n0_; have HB := n1_; have BK133 := n2_; have GW133 := n3_; have GE133 := n4_; have NB132_133 := n5_; have NB133_132 := n6_; clear n0_ n1_ n2_ n3_ n4_ n5_ n6_; clear hb hbox hg) | ((with_reducible refine gate_callee (f := 6) rfl ?_); refine goesL_ (some 15) rfl rfl Try.func6 (by kernel_rfl) rfl #[] rfl (by (try simp only [List.map_toArray, List.map_cons, List.map_nil]); first | done | rfl | (simp only [List.length_drop, List.length_take]; rfl)) ?_; (with_reducible refine (gossamerlaw38_awake.calls k  t134 _ A5.out).mono ?_); rintro e w8 ⟨rfl, hb⟩; refine ⟨_, rfl, ?_⟩; have n0_ := Aside0.mk (blk_below (g := gb132) (o := .cells #[.int .i64 a1] 3 (0, 0)) (by (with_reducible repeat (first | refine blk_drewN ?_ _ | refine blk_drew ?_ | refine blk_alloc ?_ _)); exact BK132.out) hb); have n1_ := Aside0.mk (blk_below (g := gb133) (o := .cells #[.int .u8 a2] 5 (0, 0)) (by (with_reducible repeat (first | refine blk_drewN ?_ _ | refine blk_drew ?_ | refine blk_alloc ?_ _)); exact BK133.out) hb); have n2_ := Aside0.mk (below_step (by repeat (first | (with_reducible first | exact HB.out | apply below_alloc | apply pw_below_drewN | apply below_drew1 | refine below_set ?_ GE132.out | refine below_set ?_ GE133.out) | exact HB.out)) hb); clear BK132; clear BK133; clear HB; have BK132 := n0_; have BK133 := n1_; have HB := n2_; clear n0_ n1_ n2_; (try clear hb); (try clear hb2); (try clear hk); (try clear hi)))
    go_ret
    exact ⟨by first | rfl | (simp [errW_none, errW_some] <;> rfl) | (simp [*, errW_none, errW_some] <;> rfl), by repeat (first | (with_reducible first | exact HB.out | apply below_alloc | apply pw_below_drewN | apply below_drew1 | refine below_set ?_ GE132.out | refine below_set ?_ GE133.out) | exact HB.out)⟩
  · rw [if_neg c4] at H
    have c4b0 : decide (150 < (l0.length : Int)) = false := decide_eq_false c4
    have c4b1 : decide (150 < l0.length) = false := decide_eq_false (by omega)
    clear c4
    have H' := Aside0.mk H
    clear H
    refine calls_of_post0 Try.func4 rfl ?_
    simp only [Try.ntmps4, List.size_toArray, List.length_cons, List.length_nil, Nat.reduceAdd, Nat.reduceSub, Array.replicate_succ, Array.replicate_zero, List.push_toArray, List.append_toArray, List.nil_append, List.cons_append]
    go_wp2_with (first | ((with_reducible refine gate_dst (N := 4) rfl ?_); refine box_event ?hg (N := 4) ?hd (cs := #[.int .i64 a1]) (t := 3) ?hr ?_; (case hd => rfl); (case hg => rfl); (case hr => first | (go_simp; done) | (go_simp; rfl)); intro gb132 hg w9 hbox hb; have n0_ := Aside0.mk (below_step (by repeat (first | (with_reducible first | exact HB.out | apply below_alloc | apply pw_below_drewN | apply below_drew1) | exact HB.out)) hb); have n1_ := Aside0.mk (hbox); have n2_ := Aside0.mk ((by rw [hg]; exact (below_size (by repeat (first | (with_reducible first | exact HB.out | apply below_alloc | apply pw_below_drewN | apply below_drew1) | exact HB.out))) : w.heap.size ≤ gb132)); have n3_ := Aside0.mk ((by rw [hg]; exact (below_size (by repeat (first | (with_reducible first | exact HB.out | apply below_alloc | apply pw_below_drewN | apply below_drew1) | exact HB.out))) : w.heap.size ≤ gb132)); clear HB; have HB := n0_; have BK132 := n1_; have GW132 := n2_; have GE132 := n3_; clear n0_ n1_ n2_ n3_; clear hb hbox hg) | ((with_reducible refine gate_dst (N := 5) rfl ?_); refine box_event ?hg (N := 5) ?hd (cs := #[.int .u8 a2]) (t := 5) ?hr ?_; (case hd => rfl); (case hg => rfl); (case hr => first | (go_simp; done) | (go_simp; rfl)); intro gb133 hg w10 hbox hb; have n0_ := Aside0.mk (blk_below (g := gb132) (o := .cells #[.int .i64 a1] 3 (0, 0)) (by (with_reducible repeat (first | refine blk_drewN ?_ _ | refine blk_drew ?_ | refine blk_alloc ?_ _)); exact BK132.out) hb); have n1_ := Aside0.mk (below_step (by repeat (first | (with_reducible first | exact HB.out | apply below_alloc | apply pw_below_drewN | apply below_drew1 | refine below_set ?_ GE132.out) | exact HB.out)) hb); have n2_ := Aside0.mk (hbox); have n3_ := Aside0.mk ((by rw [hg]; exact (below_size (by repeat (first | (with_reducible first | exact HB.out | apply below_alloc | apply pw_below_drewN | apply below_drew1 | refine below_set ?_ GE132.out) | exact HB.out))) : w.heap.size ≤ gb133)); have n4_ := Aside0.mk ((by rw [hg]; exact (below_size (by repeat (first | (with_reducible first | exact HB.out | apply below_alloc | apply pw_below_drewN | apply below_drew1 | refine below_set ?_ GE132.out) | exact HB.out))) : w.heap.size ≤ gb133)); have n5_ := Aside0.mk ((by rw [hg]; exact Nat.ne_of_lt (blk_lt (g := gb132) (o := .cells #[.int .i64 a1] 3 (0, 0)) (by (with_reducible repeat (first | refine blk_drewN ?_ _ | refine blk_drew ?_ | refine blk_alloc ?_ _)); exact BK132.out)) : gb132 ≠ gb133)); have n6_ := Aside0.mk ((by rw [hg]; exact Nat.ne_of_gt (blk_lt (g := gb132) (o := .cells #[.int .i64 a1] 3 (0, 0)) (by (with_reducible repeat (first | refine blk_drewN ?_ _ | refine blk_drew ?_ | refine blk_alloc ?_ _)); exact BK132.out)) : gb133 ≠ gb132)); clear BK132; clear HB; have BK132 := n0_; have HB := n1_; have BK133 := n2_; have GW133 := n3_; have GE133 := n4_; have NB132_133 := n5_; have NB133_132 := n6_; clear n0_ n1_ n2_ n3_ n4_ n5_ n6_; clear hb hbox hg))
    go_loopg [7, 8] k (fun kq v7 v8 w' => ∃ (x7_1 : List Int) (x8_1 : Int), v8 = .int .i64 x8_1 ∧ Aside0 (gossamerlaw38_PageSome.l0 kq l0 x7_1 x8_1 a1 a2 = some r) ∧ Aside0 (kq ≤ k) ∧ Aside0 (Kd.R (Kd.int .i64) 3 w' w.heap.size (fun k_ => k_ ≠ gb132) v7 x7_1) ∧ Aside0 (w'.heap[gb132]? = some (.cells #[.int .i64 a1] 3 (0, 0))) ∧ Aside0 (w'.heap[gb133]? = some (.cells #[.int .u8 a2] 5 (0, 0))) ∧ Aside0 (Below w.heap.size w w'))
    case atStart => exact ⟨(([] : List Int)), (0), (by first | rfl | (simp; done) | (simp [*]; done)), H', ⟨Nat.le_refl _⟩, ⟨by first | exact Kd.R_nil _ _ _ _ _ | exact Kd.N_nil _ _ _ _ _ | exact Kd.V_nil _ _ _ _ _ | exact Kd.Q_nil _ _ _ _ _ | exact Kd.S_nil _ _ _ _ _⟩, ⟨by (with_reducible repeat (first | refine blk_drewN ?_ _ | refine blk_drew ?_ | refine blk_alloc ?_ _)); exact BK132.out⟩, ⟨by (with_reducible repeat (first | refine blk_drewN ?_ _ | refine blk_drew ?_ | refine blk_alloc ?_ _)); exact BK133.out⟩, ⟨by repeat (first | (with_reducible first | exact HB.out | apply below_alloc | apply pw_below_drewN | apply below_drew1 | refine below_set ?_ GE132.out | refine below_set ?_ GE133.out) | exact HB.out)⟩⟩
    case round =>
      clear H'
      try clear p2
      try clear c4
      try clear c4b0
      try clear c4b1
      try clear c6
      obtain ⟨x7_1, x8_1, rfl, HA, HK1, HO_7, BK132, BK133, HB⟩ := hrel
      cases gk with
      | zero => exact absurd HA.out (by simp [gossamerlaw38_PageSome.l0])
      | succ k1 =>
        have H := HA.out
        clear HA
        simp only [gossamerlaw38_PageSome.l0] at H
        by_cases c11 : x8_1 < (l0.length : Int)
        · rw [if_pos c11] at H
          have c11b0 : decide (x8_1 < (l0.length : Int)) = true := decide_eq_true c11
          clear c11
          by_cases c12 : 0 ≤ x8_1
          · rw [if_pos c12] at H
            have c12b0 : decide (0 ≤ x8_1) = true := decide_eq_true c12
            clear c12
            by_cases c13 : (rd l0 x8_1) > a1
            · rw [if_pos c13] at H
              have c13b0 : decide (a1 < (rd l0 x8_1)) = true := decide_eq_true c13
              clear c13
              by_cases c14 : x7_1.length < 17592186044416
              · rw [if_pos c14] at H
                have LMc14 := Aside0.mk c14
                clear c14
                obtain ⟨y137, hy137⟩ : ∃ y_ : List Int, y_ = (x7_1 ++ [rd l0 x8_1]) := ⟨_, rfl⟩
                replace H : (gossamerlaw38_PageSome.l0 k1 l0 y137 (wrap64 (x8_1 + 1)) a1 a2) = some r := by first | (rw [hy137]; with_reducible exact H) | (have H2_ := (Option.bind_some _ _).symm.trans H; rw [hy137]; with_reducible exact H2_) | (have H2_ := (Option.bind_some _ _).symm.trans H; with_reducible exact H2_) | with_reducible exact H | (rw [hy137]; exact H) | exact H
                have Ny137 := Aside0.mk hy137
                clear hy137
                have H' := Aside0.mk H
                clear H
                try go_wp2
                have n0_ := Aside0.mk (Kd.R_drew HO_7.out)
                have n1_ := Aside0.mk (blk_drew BK132.out)
                have n2_ := Aside0.mk (blk_drew BK133.out)
                have n3_ := Aside0.mk (below_drew1 HB.out)
                clear HO_7
                clear BK132
                clear BK133
                clear HB
                have HO_7 := n0_
                have BK132 := n1_
                have BK133 := n2_
                have HB := n3_
                clear n0_ n1_ n2_ n3_
                have p135 : 0 ≤ (x8_1 : Int) := of_decide_eq_true (by first | (with_reducible assumption) | assumption)
                have q135 : x8_1 < (l0.length : Int) := of_decide_eq_true (by first | (with_reducible assumption) | assumption)
                obtain ⟨ad135, e135, hx135_0⟩ := Kd.at_int HR0.out x8_1 p135 q135
                have hw135_0 := hx135_0
                cases e135
                replace hx135_0 := (HB.out.cell (World.block_lt_of_cell? w _ hx135_0)).trans hx135_0
                replace p135 := eq_true p135
                replace q135 := eq_true q135
                refine start_ (n := 6) (S := fun w' => w'.cell? ⟨gb132, 0, none⟩ = some (.int .i64 a1) ∧ w'.cell? (ad135.add (x8_1).toNat) = some (.int .i64 (rd l0 x8_1))) (ds := []) #[false, false, false, false, false, false] (by kernel_rfl) rfl rfl ⟨(blk_cell BK132.out 0).trans rfl, ((HB.out.cell (World.block_lt_of_cell? w _ hw135_0)).trans hw135_0)⟩ (fun hHeld => ?_)
                generalize wr.drew = w15 at HO_7 BK132 BK133 HB hx135_0 hHeld ⊢
                refine pure_ (i := 0) (N := some 22) (v := ?_) (a' := ?_) #[true, false, false, false, false, false] rfl rfl (by kernel_rfl) (fun _ _ _ h => h) (Or.inl ⟨by rfl, ?_⟩) ?_ ?_
                rotate_left
                · intro w'
                  go_simp
                  with_reducible rfl
                rotate_left
                · simp only [Act.put, List.setIfInBounds_toArray, List.set_cons_zero, List.set_cons_succ, i64_w, i32_w]
                  rfl
                refine pure_ (i := 1) (N := some 23) (v := ?_) (a' := ?_) #[true, true, false, false, false, false] rfl rfl (by kernel_rfl) (fun _ _ _ h => h) (Or.inl ⟨by rfl, ?_⟩) ?_ ?_
                rotate_left
                · intro w'
                  go_simp
                  with_reducible rfl
                rotate_left
                · simp only [Act.put, List.setIfInBounds_toArray, List.set_cons_zero, List.set_cons_succ, i64_w, i32_w]
                  rfl
                refine pure_ (i := 2) (N := some 24) (v := ?_) (a' := ?_) #[true, true, true, false, false, false] rfl rfl (by kernel_rfl) (fun _ _ _ h => h) (Or.inl ⟨by rfl, ?_⟩) ?_ ?_
                rotate_left
                · intro w'
                  go_simp
                  with_reducible rfl
                rotate_left
                · simp only [Act.put, List.setIfInBounds_toArray, List.set_cons_zero, List.set_cons_succ, i64_w, i32_w]
                  rfl
                refine take_ (i := 3) (N := some 25) (v := ?_) (a' := ?_) #[true, true, true, true, false, false] rfl rfl (by kernel_rfl) (fun _ _ _ h => h) (Or.inl ⟨by rfl, ?_⟩) hHeld ?_ ?_
                rotate_left
                · rintro w' ⟨s0, s1⟩
                  go_simp
                  with_reducible rfl
                rotate_left
                · simp only [Act.put, List.setIfInBounds_toArray, List.set_cons_zero, List.set_cons_succ, i64_w, i32_w]
                  rfl
                refine take_ (i := 4) (N := some 26) (v := ?_) (a' := ?_) #[true, true, true, true, true, false] rfl rfl (by kernel_rfl) (fun _ _ _ h => h) (Or.inl ⟨by rfl, ?_⟩) hHeld ?_ ?_
                rotate_left
                · rintro w' ⟨s0, s1⟩
                  go_simp
                  with_reducible rfl
                rotate_left
                · simp only [Act.put, List.setIfInBounds_toArray, List.set_cons_zero, List.set_cons_succ, i64_w, i32_w]
                  rfl
                refine pure_ (i := 5) (N := some 27) (v := ?_) (a' := ?_) #[true, true, true, true, true, true] rfl rfl (by kernel_rfl) (fun _ _ _ h => h) (Or.inl ⟨by rfl, ?_⟩) ?_ ?_
                rotate_left
                · intro w'
                  go_simp
                  with_reducible rfl
                rotate_left
                · simp only [Act.put, List.setIfInBounds_toArray, List.set_cons_zero, List.set_cons_succ, i64_w, i32_w]
                  rfl
                refine done_ (by kernel_rfl) ?_
                have p136 : 0 ≤ (x8_1 : Int) := of_decide_eq_true (by first | (with_reducible assumption) | assumption)
                have q136 : x8_1 < (l0.length : Int) := of_decide_eq_true (by first | (with_reducible assumption) | assumption)
                obtain ⟨ad136, e136, hx136_0⟩ := Kd.at_int HR0.out x8_1 p136 q136
                obtain rfl : ad135 = ad136 := (by injection e136)
                replace hx136_0 := (HB.out.cell (World.block_lt_of_cell? w _ hx136_0)).trans hx136_0
                replace p136 := eq_true p136
                replace q136 := eq_true q136
                try go_wp2_with (first | ((with_reducible refine gate_builtin (b := .append) (xs := #[.tmp 28, .tmp 33]) rfl ?_); at_builtin; refine Kd.R_append (Kd.int .i64) (w0 := w) w.heap.size rfl (.tmp 28) (.tmp 33) 24 3 (.int .i64 0) 8 rfl Try.underlying24 info3 rfl (by decide) (by omega) u7 x7_1 (rd l0 x8_1) [.int .i64 (rd l0 x8_1)] (fun k_ => k_ ≠ gb132) (fun _ => False) rfl rfl ?aP (fun _ hk => hk.elim) ?aF ?aO ?aB ?aS ?aL ?_; (case aP => exact rfl); (case aB => exact (by repeat (first | (with_reducible first | exact HB.out | apply below_alloc | apply pw_below_drewN | apply below_drew1 | refine below_set ?_ GE132.out | refine below_set ?_ GE133.out) | exact HB.out))); (case aF => exact (fun k_ hk => Kd.freshB (g := gb132) (o := .cells #[.int .i64 a1] 3 (0, 0)) (by (with_reducible repeat (first | refine blk_drewN ?_ _ | refine blk_drew ?_ | refine blk_alloc ?_ _)); exact BK132.out) k_ hk)); (case aO => exact (by (with_reducible repeat (first | apply Kd.R_alloc | apply Kd.R_drewN | apply Kd.R_drew)); exact HO_7.out)); (case aS => exact (below_size (by repeat (first | (with_reducible first | exact HB.out | apply below_alloc | apply pw_below_drewN | apply below_drew1 | refine below_set ?_ GE132.out | refine below_set ?_ GE133.out) | exact HB.out)))); (case aL => have := LMc14.out; omega); intro v138 w16 ho hb hg hat; rw [← Ny137.out] at ho; have n0_ := Aside0.mk (blk_grown (g := gb132) (o := .cells #[.int .i64 a1] 3 (0, 0)) (by (with_reducible repeat (first | refine blk_drewN ?_ _ | refine blk_drew ?_ | refine blk_alloc ?_ _)); exact BK132.out) hg (Kd.R_away HO_7.out (fun _ hk => hk))); have n1_ := Aside0.mk (blk_grown (g := gb133) (o := .cells #[.int .u8 a2] 5 (0, 0)) (by (with_reducible repeat (first | refine blk_drewN ?_ _ | refine blk_drew ?_ | refine blk_alloc ?_ _)); exact BK133.out) hg (Kd.R_ne HO_7.out BK133.out (by decide))); have n2_ := Aside0.mk (hb); have n3_ := Aside0.mk (ho); clear BK132; clear BK133; clear HB; clear HO_7; have BK132 := n0_; have BK133 := n1_; have HB := n2_; have HO139 := n3_; clear n0_ n1_ n2_ n3_; clear ho hb hg hat))
                go_roundg k1
                case measure => have := HK1.out; omega
                case rel => exact ⟨(y137), (wrap64 (x8_1 + 1)), (by first | rfl | (simp; done) | (simp [*]; done)), H', ⟨by have := HK1.out; omega⟩, ⟨by (with_reducible repeat (first | apply Kd.R_alloc | apply Kd.R_drewN | apply Kd.R_drew)); exact HO139.out⟩, ⟨by (with_reducible repeat (first | refine blk_drewN ?_ _ | refine blk_drew ?_ | refine blk_alloc ?_ _)); exact BK132.out⟩, ⟨by (with_reducible repeat (first | refine blk_drewN ?_ _ | refine blk_drew ?_ | refine blk_alloc ?_ _)); exact BK133.out⟩, ⟨by repeat (first | (with_reducible first | exact HB.out | apply below_alloc | apply pw_below_drewN | apply below_drew1 | refine below_set ?_ GE132.out | refine below_set ?_ GE133.out) | exact HB.out)⟩⟩
              · rw [if_neg c14] at H
                exact absurd H (by simp)
            · rw [if_neg c13] at H
              have c13b0 : decide (a1 < (rd l0 x8_1)) = false := decide_eq_false c13
              clear c13
              have H' := Aside0.mk H
              clear H
              try go_wp2
              have n0_ := Aside0.mk (Kd.R_drew HO_7.out)
              have n1_ := Aside0.mk (blk_drew BK132.out)
              have n2_ := Aside0.mk (blk_drew BK133.out)
              have n3_ := Aside0.mk (below_drew1 HB.out)
              clear HO_7
              clear BK132
              clear BK133
              clear HB
              have HO_7 := n0_
              have BK132 := n1_
              have BK133 := n2_
              have HB := n3_
              clear n0_ n1_ n2_ n3_
              have p135 : 0 ≤ (x8_1 : Int) := of_decide_eq_true (by first | (with_reducible assumption) | assumption)
              have q135 : x8_1 < (l0.length : Int) := of_decide_eq_true (by first | (with_reducible assumption) | assumption)
              obtain ⟨ad135, e135, hx135_0⟩ := Kd.at_int HR0.out x8_1 p135 q135
              have hw135_0 := hx135_0
              cases e135
              replace hx135_0 := (HB.out.cell (World.block_lt_of_cell? w _ hx135_0)).trans hx135_0
              replace p135 := eq_true p135
              replace q135 := eq_true q135
              refine start_ (n := 6) (S := fun w' => w'.cell? ⟨gb132, 0, none⟩ = some (.int .i64 a1) ∧ w'.cell? (ad135.add (x8_1).toNat) = some (.int .i64 (rd l0 x8_1))) (ds := []) #[false, false, false, false, false, false] (by kernel_rfl) rfl rfl ⟨(blk_cell BK132.out 0).trans rfl, ((HB.out.cell (World.block_lt_of_cell? w _ hw135_0)).trans hw135_0)⟩ (fun hHeld => ?_)
              generalize wr.drew = w17 at HO_7 BK132 BK133 HB hx135_0 hHeld ⊢
              refine pure_ (i := 0) (N := some 22) (v := ?_) (a' := ?_) #[true, false, false, false, false, false] rfl rfl (by kernel_rfl) (fun _ _ _ h => h) (Or.inl ⟨by rfl, ?_⟩) ?_ ?_
              rotate_left
              · intro w'
                go_simp
                with_reducible rfl
              rotate_left
              · simp only [Act.put, List.setIfInBounds_toArray, List.set_cons_zero, List.set_cons_succ, i64_w, i32_w]
                rfl
              refine pure_ (i := 1) (N := some 23) (v := ?_) (a' := ?_) #[true, true, false, false, false, false] rfl rfl (by kernel_rfl) (fun _ _ _ h => h) (Or.inl ⟨by rfl, ?_⟩) ?_ ?_
              rotate_left
              · intro w'
                go_simp
                with_reducible rfl
              rotate_left
              · simp only [Act.put, List.setIfInBounds_toArray, List.set_cons_zero, List.set_cons_succ, i64_w, i32_w]
                rfl
              refine pure_ (i := 2) (N := some 24) (v := ?_) (a' := ?_) #[true, true, true, false, false, false] rfl rfl (by kernel_rfl) (fun _ _ _ h => h) (Or.inl ⟨by rfl, ?_⟩) ?_ ?_
              rotate_left
              · intro w'
                go_simp
                with_reducible rfl
              rotate_left
              · simp only [Act.put, List.setIfInBounds_toArray, List.set_cons_zero, List.set_cons_succ, i64_w, i32_w]
                rfl
              refine take_ (i := 3) (N := some 25) (v := ?_) (a' := ?_) #[true, true, true, true, false, false] rfl rfl (by kernel_rfl) (fun _ _ _ h => h) (Or.inl ⟨by rfl, ?_⟩) hHeld ?_ ?_
              rotate_left
              · rintro w' ⟨s0, s1⟩
                go_simp
                with_reducible rfl
              rotate_left
              · simp only [Act.put, List.setIfInBounds_toArray, List.set_cons_zero, List.set_cons_succ, i64_w, i32_w]
                rfl
              refine take_ (i := 4) (N := some 26) (v := ?_) (a' := ?_) #[true, true, true, true, true, false] rfl rfl (by kernel_rfl) (fun _ _ _ h => h) (Or.inl ⟨by rfl, ?_⟩) hHeld ?_ ?_
              rotate_left
              · rintro w' ⟨s0, s1⟩
                go_simp
                with_reducible rfl
              rotate_left
              · simp only [Act.put, List.setIfInBounds_toArray, List.set_cons_zero, List.set_cons_succ, i64_w, i32_w]
                rfl
              refine pure_ (i := 5) (N := some 27) (v := ?_) (a' := ?_) #[true, true, true, true, true, true] rfl rfl (by kernel_rfl) (fun _ _ _ h => h) (Or.inl ⟨by rfl, ?_⟩) ?_ ?_
              rotate_left
              · intro w'
                go_simp
                with_reducible rfl
              rotate_left
              · simp only [Act.put, List.setIfInBounds_toArray, List.set_cons_zero, List.set_cons_succ, i64_w, i32_w]
                rfl
              refine done_ (by kernel_rfl) ?_
              try go_wp2
              go_roundg k1
              case measure => have := HK1.out; omega
              case rel => exact ⟨(x7_1), (wrap64 (x8_1 + 1)), (by first | rfl | (simp; done) | (simp [*]; done)), H', ⟨by have := HK1.out; omega⟩, ⟨by (with_reducible repeat (first | apply Kd.R_alloc | apply Kd.R_drewN | apply Kd.R_drew)); exact HO_7.out⟩, ⟨by (with_reducible repeat (first | refine blk_drewN ?_ _ | refine blk_drew ?_ | refine blk_alloc ?_ _)); exact BK132.out⟩, ⟨by (with_reducible repeat (first | refine blk_drewN ?_ _ | refine blk_drew ?_ | refine blk_alloc ?_ _)); exact BK133.out⟩, ⟨by repeat (first | (with_reducible first | exact HB.out | apply below_alloc | apply pw_below_drewN | apply below_drew1 | refine below_set ?_ GE132.out | refine below_set ?_ GE133.out) | exact HB.out)⟩⟩
          · rw [if_neg c12] at H
            exact absurd H (by simp)
        · rw [if_neg c11] at H
          have c11b0 : decide (x8_1 < (l0.length : Int)) = false := decide_eq_false c11
          clear c11
          replace H := Option.bind_eq_some_iff.mp H
          obtain ⟨⟨t140, t143, t144⟩, A180, H⟩ := H
          replace H : (if 0 ≤ (mn (x7_1.length : Int) (mx 1 (wrap64 (a2)))) then (if (mn (x7_1.length : Int) (mx 1 (wrap64 (a2)))) ≤ (x7_1.length : Int) then ((gossamerref01_SameInts.f k1 t140 (x7_1.take ((mn (x7_1.length : Int) (mx 1 (wrap64 (a2)))) : Int).toNat)).bind fun t149 => (if t149 = true then ((gossamerlaw38_awake.f k1).bind fun t150 => (some t150)) else (some false))) else (none)) else (none)) = some r := H
          have A18 := Aside0.mk A180
          clear A180
          obtain ⟨ji19, hji19⟩ : ∃ j_ : Int, (mx 1 (wrap64 (a2))) = j_ := ⟨_, rfl⟩
          replace H : (if 0 ≤ (mn (x7_1.length : Int) (ji19)) then (if (mn (x7_1.length : Int) (ji19)) ≤ (x7_1.length : Int) then ((gossamerref01_SameInts.f k1 t140 (x7_1.take ((mn (x7_1.length : Int) (ji19)) : Int).toNat)).bind fun t149 => (if t149 = true then ((gossamerlaw38_awake.f k1).bind fun t150 => (some t150)) else (some false))) else (none)) else (none)) = some r := by first | (rw [hji19] at H; exact H) | (simp only [hji19] at H ⊢; exact H)
          (try rw [hji19] at A18)
          have hji19_ : (if 1 < (wrap64 (a2)) then (wrap64 (a2)) else 1) = ji19 := hji19
          obtain ⟨ji20, hji20⟩ : ∃ j_ : Int, (mn (x7_1.length : Int) (ji19)) = j_ := ⟨_, rfl⟩
          replace H : (if 0 ≤ (ji20) then (if (ji20) ≤ (x7_1.length : Int) then ((gossamerref01_SameInts.f k1 t140 (x7_1.take ((ji20) : Int).toNat)).bind fun t149 => (if t149 = true then ((gossamerlaw38_awake.f k1).bind fun t150 => (some t150)) else (some false))) else (none)) else (none)) = some r := by first | (rw [hji20] at H; exact H) | (simp only [hji20] at H ⊢; exact H)
          (try rw [hji20] at A18)
          have hji20_ : (if (ji19) < (x7_1.length : Int) then (ji19) else (x7_1.length : Int)) = ji20 := hji20
          by_cases c21 : 0 ≤ (ji20)
          · rw [if_pos c21] at H
            have c21b0 := eq_true c21
            have c21b1 : decide (0 ≤ (ji20)) = true := decide_eq_true c21
            clear c21
            by_cases c22 : (ji20) ≤ (x7_1.length : Int)
            · rw [if_pos c22] at H
              have c22b0 := eq_true c22
              have c22b1 : decide ((ji20) ≤ (x7_1.length : Int)) = true := decide_eq_true c22
              clear c22
              obtain ⟨y145, hy145⟩ : ∃ y_ : List Int, y_ = (x7_1.take ((ji20) : Int).toNat) := ⟨_, rfl⟩
              replace H : ((gossamerref01_SameInts.f k1 t140 y145).bind fun t149 => (if t149 = true then ((gossamerlaw38_awake.f k1).bind fun t150 => (some t150)) else (some false))) = some r := by first | (rw [hy145]; with_reducible exact H) | (have H2_ := (Option.bind_some _ _).symm.trans H; rw [hy145]; with_reducible exact H2_) | (have H2_ := (Option.bind_some _ _).symm.trans H; with_reducible exact H2_) | with_reducible exact H | (rw [hy145]; exact H) | exact H
              have Ny145 := Aside0.mk hy145
              clear hy145
              replace H := Option.bind_eq_some_iff.mp H
              obtain ⟨t149, A230, H⟩ := H
              replace H : (if t149 = true then ((gossamerlaw38_awake.f k1).bind fun t150 => (some t150)) else (some false)) = some r := H
              have A23 := Aside0.mk A230
              clear A230
              by_cases c24 : t149 = true
              · subst c24
                have H1 : ((gossamerlaw38_awake.f k1).bind fun t150 => (some t150)) = some r := by rw [if_pos rfl] at H; exact H
                clear H
                have H := H1
                clear H1
                replace H := Option.bind_eq_some_iff.mp H
                obtain ⟨t150, A250, H⟩ := H
                replace H : (some t150) = some r := H
                have A25 := Aside0.mk A250
                clear A250
                obtain rfl := Option.some.inj H
                have hnb26 := NB132_133.out
                have hnc26 := NB133_132.out
                have hcz27_0 : wr.cell? ⟨gb132, 0, none⟩ = some (.int .i64 a1) := (blk_cell BK132.out 0).trans rfl
                have hfz27_0 := blk_frozen BK132.out 0
                have hcz28_0 : wr.cell? ⟨gb133, 0, none⟩ = some (.int .u8 a2) := (blk_cell BK133.out 0).trans rfl
                have hfz28_0 := blk_frozen BK133.out 0
                have q2 := eql_seq_nil
                go_wp2_with (first | ((with_reducible refine gate_callee (f := 8) rfl ?_); refine goesL_ (some 36) rfl rfl Try.func8 (by kernel_rfl) rfl #[.slice A0 l0.length c0] rfl (by (try simp only [List.map_toArray, List.map_cons, List.map_nil]); first | done | rfl | (simp only [List.length_drop, List.length_take]; rfl)) ?_; (with_reducible refine (page_Of.calls A0 c0 l0 _ ?side1).mono ?_); (case side1 => repeat (first | exact (Kd.C_below HR0.out HB.out) | (with_reducible refine Kd.C_alloc ?_ _) | (with_reducible refine Kd.C_drewN ?_ _) | (with_reducible refine Kd.C_drew ?_))); rintro e wOf ⟨gOf, rfl, hEOf, hb⟩; refine ⟨_, rfl, ?_⟩; have n0_ := Aside0.mk (Kd.R_below (by (with_reducible repeat (first | apply Kd.R_alloc | apply Kd.R_drewN | apply Kd.R_drew)); exact HO_7.out) hb); have n1_ := Aside0.mk (blk_below (g := gb132) (o := .cells #[.int .i64 a1] 3 (0, 0)) (by (with_reducible repeat (first | refine blk_drewN ?_ _ | refine blk_drew ?_ | refine blk_alloc ?_ _)); exact BK132.out) hb); have n2_ := Aside0.mk (blk_below (g := gb133) (o := .cells #[.int .u8 a2] 5 (0, 0)) (by (with_reducible repeat (first | refine blk_drewN ?_ _ | refine blk_drew ?_ | refine blk_alloc ?_ _)); exact BK133.out) hb); have n3_ := Aside0.mk (below_step (by repeat (first | (with_reducible first | exact HB.out | apply below_alloc | apply pw_below_drewN | apply below_drew1 | refine below_set ?_ GE132.out | refine below_set ?_ GE133.out) | exact HB.out)) hb); clear HO_7; clear BK132; clear BK133; clear HB; have HO_7 := n0_; have BK132 := n1_; have BK133 := n2_; have HB := n3_; clear n0_ n1_ n2_ n3_; have EOf := Aside0.mk hEOf; clear hEOf; clear hb) | ((with_reducible refine gate_callee (f := 13) rfl ?_); refine goesL_ (some 38) rfl rfl Try.func13 (by kernel_rfl) rfl #[.func (.func 16) #[] #[.pointer (some ⟨gOf, 0, none⟩)], .func (.func 14) #[] #[.pointer (some ⟨gb132, 0, none⟩)]] rfl (by (try simp only [List.map_toArray, List.map_cons, List.map_nil]); first | done | rfl | (simp only [List.length_drop, List.length_take]; rfl)) ?_; refine (some_calls _ _ rfl rfl _).mono ?_; rintro e wS ⟨rfl, hwS⟩; refine ⟨_, rfl, ?_⟩))
                clear q2
                rename_i K hKq
                have HWR := Aside0.mk (show wrap64 a2 = a2 from IntWalk.wrap64_in a2 ⟨by omega, by omega⟩)
                have HTK : Aside0 (t140 = tookOf a1 a2 l0) := by
                  have h := A18.out
                  rw [HWR.out] at h
                  have h2 := Option.some.inj h
                  exact ⟨(congrArg Prod.fst h2).symm⟩
                have hBS : Below wOf.heap.size wOf wS := by rw [← hwS]; exact ((Below.refl _ wOf).alloc (Nat.le_refl _) _).alloc (by simp) _
                have hzS : wS.heap.size = wOf.heap.size + 2 := by rw [← hwS]; simp
                have bE0 : Boxed wS wOf.heap.size 30 (.func (.func 16) #[] #[.pointer (some ⟨gOf, 0, none⟩)]) := by rw [← hwS]; exact (Boxed.new wOf 30 _).alloc _
                have bI0 : Boxed wS (wOf.heap.size + 1) 37 (.func (.func 14) #[] #[.pointer (some ⟨gb132, 0, none⟩)]) := by
                  rw [← hwS]
                  have := Boxed.new (wOf.alloc (.cells #[.func (.func 16) #[] #[.pointer (some ⟨gOf, 0, none⟩)]] 30)) 37 (.func (.func 14) #[] #[.pointer (some ⟨gb132, 0, none⟩)])
                  simpa using this
                clear hwS
                have bG : Boxed (wS.alloc (.cells #[.slice none 0 0] 24)) wS.heap.size 24 (.slice none 0 0) := Boxed.new wS 24 _
                have bE : Boxed (wS.alloc (.cells #[.slice none 0 0] 24)) wOf.heap.size 30 (.func (.func 16) #[] #[.pointer (some ⟨gOf, 0, none⟩)]) := bE0.alloc _
                have bI : Boxed (wS.alloc (.cells #[.slice none 0 0] 24)) (wOf.heap.size + 1) 37 (.func (.func 14) #[] #[.pointer (some ⟨gb132, 0, none⟩)]) := bI0.alloc _
                have hB4 : Below wOf.heap.size wOf (wS.alloc (.cells #[.slice none 0 0] 24)) := hBS.alloc (by omega) _
                have hz4 : (wS.alloc (.cells #[.slice none 0 0] 24)).heap.size = wS.heap.size + 1 := by simp
                generalize wS.alloc (.cells #[.slice none 0 0] 24) = W4 at bG bE bI hB4 hz4 ⊢
                clear bE0 bI0 hBS
                have hwz : w.heap.size ≤ wOf.heap.size := HB.out.size
                have hBw4 : Below w.heap.size w W4 := HB.out.trans (hB4.mono hwz)
                have l132 : gb132 < wOf.heap.size := blk_lt (g := gb132) (o := .cells #[.int .i64 a1] 3 (0, 0)) BK132.out
                have l133 : gb133 < wOf.heap.size := blk_lt (g := gb133) (o := .cells #[.int .u8 a2] 5 (0, 0)) BK133.out
                have b132 : W4.heap[gb132]? = some (.cells #[.int .i64 a1] 3 (0, 0)) := (hB4.block _ l132).trans BK132.out
                have b133 : W4.heap[gb133]? = some (.cells #[.int .u8 a2] 5 (0, 0)) := (hB4.block _ l133).trans BK133.out
                obtain ⟨G, hG⟩ : ∃ G, wS.heap.size = G := ⟨_, rfl⟩
                rw [hG] at hz4 bG ⊢
                have hGz : wOf.heap.size + 2 ≤ G := by omega
                clear hG hzS
                obtain ⟨S, hSd⟩ : ∃ S : Nat → Prop, S = fun k => k < G := ⟨_, rfl⟩
                have hS4 : ∀ k, S k → k < W4.heap.size := fun k hk => by rw [hSd] at hk; omega
                have hSlow : ∀ k, k < G → S k := fun k hk => by rw [hSd]; exact hk
                have hSup : ∀ k, S k → k < G := fun k hk => by rw [hSd] at hk; exact hk
                clear hSd
                have hGive : Gives 17 #[.pointer (some ⟨wOf.heap.size, 0, none⟩), .pointer (some ⟨wOf.heap.size + 1, 0, none⟩)] S (l0.filter fun x => decide (a1 < x)) W4 := by
                  rcases EOf.out with ⟨he, _⟩ | ⟨ge, lbe, he, eg, hg⟩
                  · cases he
                  · cases he
                    refine some_gives S _ _ 16 14 _ #[.pointer (some ⟨gb132, 0, none⟩)] _ l0 W4 hS4 (hSlow _ (by omega)) (hSlow _ (by omega)) bE.cell bI.cell eg (enters_of Try.func14 (by kernel_rfl) rfl) (hg S W4 hB4 (fun k hk => hSlow k (by omega)) hS4) ?_
                    intro x W hk
                    refine above2_calls x a1 gb132 W ?_
                    rw [hk.cell (p := ⟨gb132, 0, none⟩) (hSlow gb132 (by omega))]
                    simp [World.cell?, b132]
                clear EOf
                have hb0 : ∀ W, KeepS S W4 W → Below wOf.heap.size wOf W := fun W hk => hB4.trans ⟨hk.os, hk.tape, hk.output, by have := hk.size; exact this, fun k hk2 => hk.block k (hSlow k (by omega))⟩
                have tail : ∀ (D : Nat) (W : World) (v : Value), W4.heap.size ≤ D → KeepS S W4 W → Boxed W G 24 v → W.ownsRow G 3 1 v t140.length (t140.map (Value.int .i64)) → W.heap[D]? = some (.deferred (some [])) →
                    K { tmps := #[.slice A0 l0.length c0, .int .i64 a1, .int .u8 a2, undef, .pointer (some ⟨gb132, 0, none⟩), .pointer (some ⟨gb133, 0, none⟩), .bool false, u7, .int .i64 x8_1, .func (.func 17) #[] #[.pointer (some ⟨wOf.heap.size, 0, none⟩), .pointer (some ⟨wOf.heap.size + 1, 0, none⟩)], .pointer (some ⟨G, 0, none⟩), undef, .slice A0 l0.length c0, .int .i64 l0.length, .bool false, undef, .int .i64 x8_1, .slice A0 l0.length c0, .int .i64 l0.length, .bool false, u20, u21, u22, u23, u24, u25, u26, u27, u28, u29, u30, u31, u32, u33, u34, .slice A0 l0.length c0, .func (.func 16) #[] #[.pointer (some ⟨gOf, 0, none⟩)], .func (.func 14) #[] #[.pointer (some ⟨gb132, 0, none⟩)], .func (.func 17) #[] #[.pointer (some ⟨wOf.heap.size, 0, none⟩), .pointer (some ⟨wOf.heap.size + 1, 0, none⟩)], .func (.func 17) #[] #[.pointer (some ⟨wOf.heap.size, 0, none⟩), .pointer (some ⟨wOf.heap.size + 1, 0, none⟩)], .bool false, .func (.func 17) #[] #[.pointer (some ⟨wOf.heap.size, 0, none⟩), .pointer (some ⟨wOf.heap.size + 1, 0, none⟩)], undef, undef, undef, undef, undef, undef, undef, undef, undef, undef, undef, undef, undef, undef, undef, undef, undef, undef, undef, undef, undef, undef, undef], defers := [{ target := .collected D, args := #[] }] } W := by
                  intro D W v hD hK4 hv hrow hKd
                  refine hKq _ _ ?_
                  clear hKq hGive
                  have hb := hb0 W hK4
                  have n0_ := Aside0.mk (Kd.R_below HO_7.out hb)
                  have n1_ := Aside0.mk (blk_below (g := gb132) (o := .cells #[.int .i64 a1] 3 (0, 0)) BK132.out hb)
                  have n2_ := Aside0.mk (blk_below (g := gb133) (o := .cells #[.int .u8 a2] 5 (0, 0)) BK133.out hb)
                  have n3_ := Aside0.mk (HB.out.trans (hb.mono hwz))
                  clear HO_7 BK132 BK133 HB
                  have HO_7 := n0_
                  have BK132 := n1_
                  have BK133 := n2_
                  have HB := n3_
                  clear n0_ n1_ n2_ n3_
                  have HO142 : Aside0 (Kd.R (Kd.int .i64) 3 W w.heap.size (fun _ => True) v t140) := Aside0.mk (Kd.R_of_own (enc := Value.int .i64) (h1 := fun _ => rfl) (own_base_le hrow (by omega)) (fun _ _ => trivial))
                  have BKG : Aside0 (W.heap[G]? = some (.cells #[v] 24 (0, 0))) := Aside0.mk hv
                  have BKD : Aside0 (W.heap[D]? = some (.deferred (some []))) := Aside0.mk hKd
                  have hDw : w.heap.size ≤ D := by omega
                  clear hb hb0 hv hrow hKd hK4 b132 b133 hB4 hBw4 bG bE bI
                  try go_wp2
                  have BKG_ := Aside0.mk (blk_drew BKG.out)
                  clear BKG
                  have BKG := BKG_
                  clear BKG_
                  have BKD_ := Aside0.mk (blk_drew BKD.out)
                  clear BKD
                  have BKD := BKD_
                  clear BKD_
                  have n0_ := Aside0.mk (Kd.R_drew HO_7.out)
                  have n1_ := Aside0.mk (Kd.R_drew HO142.out)
                  have n2_ := Aside0.mk (blk_drew BK132.out)
                  have n3_ := Aside0.mk (blk_drew BK133.out)
                  have n4_ := Aside0.mk (below_drew1 HB.out)
                  clear HO_7
                  clear HO142
                  clear BK132
                  clear BK133
                  clear HB
                  have HO_7 := n0_
                  have HO142 := n1_
                  have BK132 := n2_
                  have BK133 := n3_
                  have HB := n4_
                  clear n0_ n1_ n2_ n3_ n4_
                  obtain ⟨Ao31, co31, eo31⟩ := Kd.R_slice HO_7.out
                  (first | subst eo31 | (injection eo31 with f1_ f2_ f3_; have f4_ := f1_.symm; have f5_ := f3_.symm; clear f1_ f2_ f3_; subst f4_; subst f5_))
                  have q32 : ((ji20) : Int) ≤ ((x7_1.length : Int) : Int) := of_decide_eq_true (by first | (with_reducible assumption) | assumption)
                  obtain ⟨i032, hi032, _, hsz32, _⟩ := info_parts info3
                  have hroom32 : x7_1.length ≤ co31 := (Kd.R_reads' HO_7.out).2.1
                  have hC32 : Kd.C (Kd.int .i64) _ Ao31 x7_1.length x7_1 := (Kd.R_reads' HO_7.out).2.2
                  have hcut32 := cut_to (P := Try.prog) 24 3 .i64 Try.underlying24 hi032 Ao31 x7_1.length co31 (ji20) (of_decide_eq_true (by first | (with_reducible assumption) | assumption)) q32 hroom32
                  have hr32 := Kd.C_take (m := ((ji20) : Int).toNat) hC32 (by omega)
                  have hy32 : y145.length = ((ji20) : Int).toNat := (by rw [Ny145.out, List.length_take]; omega)
                  rw [← Ny145.out] at hr32
                  rw [← hy32] at hcut32
                  have HR148 := Aside0.mk hr32
                  have HC148 := Aside0.mk (show y145.length ≤ co31 from by omega)
                  clear hr32 hC32 hroom32 hi032 hsz32
                  have KY32 := Aside0.mk hy32
                  clear hy32
                  have KL32 := Aside0.mk (show ((ji20) : Int).toNat ≤ x7_1.length from by omega)
                  replace q32 := eq_true q32
                  obtain ⟨Ao33, co33, eo33⟩ := Kd.R_slice HO142.out
                  (first | subst eo33 | (injection eo33 with f1_ f2_ f3_; have f4_ := f1_.symm; have f5_ := f3_.symm; clear f1_ f2_ f3_; subst f4_; subst f5_))
                  refine start_ (n := 14) (S := fun w' => w'.cell? ⟨gb133, 0, none⟩ = some (.int .u8 a2) ∧ w'.cell? ⟨G, 0, none⟩ = some (.slice Ao33 t140.length co33)) (ds := []) #[false, false, false, false, false, false, false, false, false, false, false, false, false, false] (by kernel_rfl) rfl rfl ⟨(blk_cell BK133.out 0).trans rfl, (blk_cell BKG.out 0).trans rfl⟩ (fun hHeld => ?_); refine with_tabW gossamerlaw38_PageSome.tab17 gossamerlaw38_PageSome.bits17 (fun HT_ HW_ => ?_)
                  generalize W.drew = w30 at BKG BKD HO_7 HO142 BK132 BK133 HB HR148 hHeld ⊢
                  refine take_ (i := 0) (N := some 52) (v := ?_) (a' := ?_) #[true, false, false, false, false, false, false, false, false, false, false, false, false, false] rfl rfl (take_ofW HT_.out HW_.out (by kernel_rfl)) (fun _ _ _ h => h) (Or.inl ⟨by rfl, ?_⟩) hHeld ?_ ?_
                  rotate_left
                  · rintro w' ⟨s0, s1⟩
                    go_simp
                    with_reducible rfl
                  rotate_left
                  · simp only [Act.put, List.setIfInBounds_toArray, List.set_cons_zero, List.set_cons_succ, i64_w, i32_w]
                    rfl
                  refine pure_ (i := 1) (N := some 53) (v := ?_) (a' := ?_) #[true, true, false, false, false, false, false, false, false, false, false, false, false, false] rfl rfl (any_of HT_.out (by kernel_rfl)) (fun _ _ _ h => h) (Or.inl ⟨by rfl, ?_⟩) ?_ ?_
                  rotate_left
                  · intro w'
                    go_simp
                    with_reducible rfl
                  rotate_left
                  · simp only [Act.put, List.setIfInBounds_toArray, List.set_cons_zero, List.set_cons_succ, i64_w, i32_w]
                    rfl
                  refine pure_ (i := 2) (N := some 54) (v := ?_) (a' := ?_) #[true, true, true, false, false, false, false, false, false, false, false, false, false, false] rfl rfl (any_of HT_.out (by kernel_rfl)) (fun _ _ _ h => h) (Or.inl ⟨by rfl, ?_⟩) ?_ ?_
                  rotate_left
                  · intro w'
                    go_simp
                    with_reducible rfl
                  rotate_left
                  · simp only [Act.put, List.setIfInBounds_toArray, List.set_cons_zero, List.set_cons_succ, i64_w, i32_w]
                    rfl
                  refine pure_ (i := 3) (N := some 55) (v := ?_) (a' := ?_) #[true, true, true, true, false, false, false, false, false, false, false, false, false, false] rfl rfl (any_of HT_.out (by kernel_rfl)) (fun _ _ _ h => h) (Or.inl ⟨by rfl, ?_⟩) ?_ ?_
                  rotate_left
                  · intro w'
                    go_simp
                    with_reducible rfl
                  rotate_left
                  · simp only [Act.put, List.setIfInBounds_toArray, List.set_cons_zero, List.set_cons_succ, i64_w, i32_w]
                    rfl
                  refine take_ (i := 4) (N := some 56) (v := ?_) (a' := ?_) #[true, true, true, true, true, false, false, false, false, false, false, false, false, false] rfl rfl (take_ofW HT_.out HW_.out (by kernel_rfl)) (fun _ _ _ h => h) (Or.inl ⟨by rfl, ?_⟩) hHeld ?_ ?_
                  rotate_left
                  · rintro w' ⟨s0, s1⟩
                    go_simp
                    with_reducible rfl
                  rotate_left
                  · simp only [Act.put, List.setIfInBounds_toArray, List.set_cons_zero, List.set_cons_succ, i64_w, i32_w]
                    rfl
                  refine pure_ (i := 5) (N := some 57) (v := ?_) (a' := ?_) #[true, true, true, true, true, true, false, false, false, false, false, false, false, false] rfl rfl (any_of HT_.out (by kernel_rfl)) (fun _ _ _ h => h) (Or.inl ⟨by rfl, ?_⟩) ?_ ?_
                  rotate_left
                  · intro w'
                    go_simp
                    with_reducible rfl
                  rotate_left
                  · simp only [Act.put, List.setIfInBounds_toArray, List.set_cons_zero, List.set_cons_succ, i64_w, i32_w]
                    rfl
                  refine pure_ (i := 6) (N := some 58) (v := ?_) (a' := ?_) #[true, true, true, true, true, true, true, false, false, false, false, false, false, false] rfl rfl (any_of HT_.out (by kernel_rfl)) (fun _ _ _ h => h) (Or.inl ⟨by rfl, ?_⟩) ?_ ?_
                  rotate_left
                  · intro w'
                    go_simp
                    with_reducible rfl
                  rotate_left
                  · simp only [Act.put, List.setIfInBounds_toArray, List.set_cons_zero, List.set_cons_succ, i64_w, i32_w]
                    rfl
                  refine pure_ (i := 7) (N := some 59) (v := ?_) (a' := ?_) #[true, true, true, true, true, true, true, true, false, false, false, false, false, false] rfl rfl (any_of HT_.out (by kernel_rfl)) (fun _ _ _ h => h) (Or.inl ⟨by rfl, ?_⟩) ?_ ?_
                  rotate_left
                  · intro w'
                    go_simp
                    with_reducible rfl
                  rotate_left
                  · simp only [Act.put, List.setIfInBounds_toArray, List.set_cons_zero, List.set_cons_succ, i64_w, i32_w]
                    rfl
                  refine pure_ (i := 8) (N := some 60) (v := ?_) (a' := ?_) #[true, true, true, true, true, true, true, true, true, false, false, false, false, false] rfl rfl (any_of HT_.out (by kernel_rfl)) (fun _ _ _ h => h) (Or.inl ⟨by rfl, ?_⟩) ?_ ?_
                  rotate_left
                  · intro w'
                    go_simp
                    with_reducible rfl
                  rotate_left
                  · simp only [Act.put, List.setIfInBounds_toArray, List.set_cons_zero, List.set_cons_succ, i64_w, i32_w]
                    rfl
                  refine one_ (i := 9) (N := some 61) #[true, true, true, true, true, true, true, true, true, true, false, false, false, false] rfl rfl (one_of HT_.out (by kernel_rfl)) (by decide) (fun K hK => ?_)
                  refine goes_ Try.func10 (by kernel_rfl) rfl #[.slice Ao33 t140.length co33, .slice Ao31 y145.length co31] (by rfl) rfl rfl (by (try simp only [List.map_toArray, List.map_cons, List.map_nil]); first | done | rfl | (simp only [List.length_drop, List.length_take]; rfl)) ?_
                  with_reducible refine (gossamerref01_SameInts.calls k1 _ _ t140 _ _ y145 true _ ?side1 ?side2 ?side3 ?side4 A23.out).mono ?_
                  (case side1 => repeat (first | exact (Kd.R_reads' HO142.out).2.2 | (with_reducible refine Kd.C_alloc ?_ _) | (with_reducible refine Kd.C_drewN ?_ _) | (with_reducible refine Kd.C_drew ?_)))
                  (case side2 => exact (Kd.R_reads' HO142.out).2.1)
                  (case side3 => repeat (first | exact (by repeat (first | (with_reducible exact HR148.out) | (with_reducible refine Kd.C_alloc ?_ _) | (with_reducible refine Kd.C_drewN ?_ _) | (with_reducible refine Kd.C_drew ?_) | exact HR148.out)) | (with_reducible refine Kd.C_alloc ?_ _) | (with_reducible refine Kd.C_drewN ?_ _) | (with_reducible refine Kd.C_drew ?_)))
                  (case side4 => exact HC148.out)
                  rintro e w' ⟨rfl, ⟨nd, rfl⟩⟩
                  refine ⟨_, rfl, ?_⟩
                  refine hK.out _ _ ⟨(blk_cell BK133.out 0).trans rfl, (blk_cell BKG.out 0).trans rfl⟩ (fun hHeld => ?_)
                  clear hK K
                  refine norm_ (a' := ?_) ?_ ?_
                  rotate_left
                  · show Act.put _ (some 61) _ = _
                    simp only [Act.put, List.setIfInBounds_toArray, List.set_cons_zero, List.set_cons_succ, i64_w, i32_w]
                    rfl
                  refine pure_ (i := 10) (N := some 62) (v := ?_) (a' := ?_) #[true, true, true, true, true, true, true, true, true, true, true, false, false, false] rfl rfl (any_of HT_.out (by kernel_rfl)) (fun _ _ _ h => h) (Or.inl ⟨by rfl, ?_⟩) ?_ ?_
                  rotate_left
                  · intro w'
                    go_simp
                    with_reducible rfl
                  rotate_left
                  · simp only [Act.put, List.setIfInBounds_toArray, List.set_cons_zero, List.set_cons_succ, i64_w, i32_w]
                    rfl
                  refine one_ (i := 11) (N := some 63) #[true, true, true, true, true, true, true, true, true, true, true, true, false, false] rfl rfl (one_of HT_.out (by kernel_rfl)) (by decide) (fun K hK => ?_)
                  refine goes_ Try.func6 (by kernel_rfl) rfl #[] (by rfl) rfl rfl (by (try simp only [List.map_toArray, List.map_cons, List.map_nil]); first | done | rfl | (simp only [List.length_drop, List.length_take]; rfl)) ?_
                  with_reducible refine (gossamerlaw38_awake.calls k1  t150 _ A25.out).mono ?_
                  rintro e w34 ⟨rfl, hb⟩
                  refine ⟨_, rfl, ?_⟩
                  have BKG_ := Aside0.mk (blk_below (g := G) (o := .cells #[.slice Ao33 t140.length co33] 24 (0, 0)) (by (with_reducible repeat (first | refine blk_drewN ?_ _ | refine blk_drew ?_ | refine blk_alloc ?_ _)); exact BKG.out) hb)
                  clear BKG
                  have BKG := BKG_
                  clear BKG_
                  have BKD_ := Aside0.mk (blk_below (g := D) (o := .deferred (some [])) (by (with_reducible repeat (first | refine blk_drewN ?_ _ | refine blk_drew ?_ | refine blk_alloc ?_ _)); exact BKD.out) hb)
                  clear BKD
                  have BKD := BKD_
                  clear BKD_
                  have n0_ := Aside0.mk (Kd.R_below (by (with_reducible repeat (first | apply Kd.R_alloc | apply Kd.R_drewN | apply Kd.R_drew)); exact HO_7.out) hb)
                  have n1_ := Aside0.mk (Kd.R_below (by (with_reducible repeat (first | apply Kd.R_alloc | apply Kd.R_drewN | apply Kd.R_drew)); exact HO142.out) hb)
                  have n2_ := Aside0.mk (blk_below (g := gb132) (o := .cells #[.int .i64 a1] 3 (0, 0)) (by (with_reducible repeat (first | refine blk_drewN ?_ _ | refine blk_drew ?_ | refine blk_alloc ?_ _)); exact BK132.out) hb)
                  have n3_ := Aside0.mk (blk_below (g := gb133) (o := .cells #[.int .u8 a2] 5 (0, 0)) (by (with_reducible repeat (first | refine blk_drewN ?_ _ | refine blk_drew ?_ | refine blk_alloc ?_ _)); exact BK133.out) hb)
                  have n4_ := Aside0.mk (Kd.C_below (by repeat (first | (with_reducible exact HR148.out) | (with_reducible refine Kd.C_alloc ?_ _) | (with_reducible refine Kd.C_drewN ?_ _) | (with_reducible refine Kd.C_drew ?_) | exact HR148.out)) hb)
                  have n5_ := Aside0.mk (below_step (by repeat (first | (with_reducible first | exact HB.out | apply below_alloc | apply pw_below_drewN | apply below_drew1 | refine below_set ?_ GE132.out | refine below_set ?_ GE133.out) | exact HB.out)) hb)
                  clear HO_7
                  clear HO142
                  clear BK132
                  clear BK133
                  clear HR148
                  clear HB
                  have HO_7 := n0_
                  have HO142 := n1_
                  have BK132 := n2_
                  have BK133 := n3_
                  have HR148 := n4_
                  have HB := n5_
                  clear n0_ n1_ n2_ n3_ n4_ n5_
                  (try clear hb)
                  (try clear hb2)
                  (try clear hk)
                  (try clear hi)
                  refine hK.out _ _ ⟨(blk_cell BK133.out 0).trans rfl, (blk_cell BKG.out 0).trans rfl⟩ (fun hHeld => ?_)
                  clear hK K
                  refine norm_ (a' := ?_) ?_ ?_
                  rotate_left
                  · show Act.put _ (some 63) _ = _
                    simp only [Act.put, List.setIfInBounds_toArray, List.set_cons_zero, List.set_cons_succ, i64_w, i32_w]
                    rfl
                  refine pure_ (i := 12) (N := some 64) (v := ?_) (a' := ?_) #[true, true, true, true, true, true, true, true, true, true, true, true, true, false] rfl rfl (any_of HT_.out (by kernel_rfl)) (fun _ _ _ h => h) (Or.inl ⟨by rfl, ?_⟩) ?_ ?_
                  rotate_left
                  · intro w'
                    go_simp
                    with_reducible rfl
                  rotate_left
                  · simp only [Act.put, List.setIfInBounds_toArray, List.set_cons_zero, List.set_cons_succ, i64_w, i32_w]
                    rfl
                  refine pure_ (i := 13) (N := some 6) (v := ?_) (a' := ?_) #[true, true, true, true, true, true, true, true, true, true, true, true, true, true] rfl rfl (any_of HT_.out (by kernel_rfl)) (fun _ _ _ h => h) (Or.inl ⟨by rfl, ?_⟩) ?_ ?_
                  rotate_left
                  · intro w'
                    go_simp
                    with_reducible rfl
                  rotate_left
                  · simp only [Act.put, List.setIfInBounds_toArray, List.set_cons_zero, List.set_cons_succ, i64_w, i32_w]
                    rfl
                  refine done_ (done_of HT_.out (by kernel_rfl)) ?_
                  try go_wp2
                  refine ⟨by simp, .inl ⟨_, _, rfl, run_takeDeferred BKD.out, ?_⟩⟩
                  exact ⟨_, results_tmp rfl _ _ _, (by rw [hrt]; rfl), HB.out.trans (belowK_b (w := w) (Nat.le_refl _) _ D _ _ hDw BKD.out rfl rfl)⟩
                obtain ⟨i0, hi, hz0, hz1, hz2'⟩ := info_parts Ytalmhafekmggdaa.info3
                obtain ⟨M, hM⟩ : ∃ M, (max 1 a2).toNat = M := ⟨_, rfl⟩
                have hM1 : 1 ≤ M := by omega
                have hM2 : a2 ≤ M := by omega
                have hM3 : (M : Int) = max 1 a2 := by omega
                refine (wpIn_wide (n := 0)).1 ?_
                refine wpIn_range_gives (gf := 17) (lb := #[.pointer (some ⟨wOf.heap.size, 0, none⟩), .pointer (some ⟨wOf.heap.size + 1, 0, none⟩)]) rfl (enters_of Try.func17 (by kernel_rfl) rfl) S (l0.filter fun x => decide (a1 < x)) hGive (Below.refl _ _) hS4 rfl
                  (fun pre W => (∃ v, Boxed W G 24 v ∧ W.ownsRow G 3 1 v pre.length (pre.map (Value.int .i64)) ∧ pre.length < M) ∧ KeepS S W4 W)
                  (fun c pre W => (c = .exit 2 ∧ pre.length = M) ∧ (∃ v, Boxed W G 24 v ∧ W.ownsRow G 3 1 v pre.length (pre.map (Value.int .i64)) ∧ True) ∧ KeepS S W4 W)
                  (OwnFrom.and (Own.from (holdsRow_own G G 24 3 1 (fun (pre : List Int) => pre.length) (fun (pre : List Int) => pre.map (Value.int .i64)) (fun (pre : List Int) _ => pre.length < M)) _) (ownFrom_keepS hS4 (Nat.le_refl _)))
                  (fun c => OwnFrom.and (ownFrom_pure _ (fun (pre : List Int) => c = .exit 2 ∧ pre.length = M)) (OwnFrom.and (Own.from (holdsRow_own G G 24 3 1 (fun (pre : List Int) => pre.length) (fun (pre : List Int) => pre.map (Value.int .i64)) (fun _ _ => True)) _) (ownFrom_keepS hS4 (Nat.le_refl _))))
                  ⟨⟨_, bG, World.ownsRow_nil _ _ _ _, hM1⟩, KeepS.refl _ _⟩
                  (fun x => { tmps := #[.slice A0 l0.length c0, .int .i64 a1, .int .u8 a2, undef, .pointer (some ⟨gb132, 0, none⟩), .pointer (some ⟨gb133, 0, none⟩), .bool false, u7, .int .i64 x8_1, .func (.func 17) #[] #[.pointer (some ⟨wOf.heap.size, 0, none⟩), .pointer (some ⟨wOf.heap.size + 1, 0, none⟩)], .pointer (some ⟨G, 0, none⟩), .int .i64 x, .slice A0 l0.length c0, .int .i64 l0.length, .bool false, undef, .int .i64 x8_1, .slice A0 l0.length c0, .int .i64 l0.length, .bool false, u20, u21, u22, u23, u24, u25, u26, u27, u28, u29, u30, u31, u32, u33, u34, .slice A0 l0.length c0, .func (.func 16) #[] #[.pointer (some ⟨gOf, 0, none⟩)], .func (.func 14) #[] #[.pointer (some ⟨gb132, 0, none⟩)], .func (.func 17) #[] #[.pointer (some ⟨wOf.heap.size, 0, none⟩), .pointer (some ⟨wOf.heap.size + 1, 0, none⟩)], .func (.func 17) #[] #[.pointer (some ⟨wOf.heap.size, 0, none⟩), .pointer (some ⟨wOf.heap.size + 1, 0, none⟩)], .bool false, .func (.func 17) #[] #[.pointer (some ⟨wOf.heap.size, 0, none⟩), .pointer (some ⟨wOf.heap.size + 1, 0, none⟩)], .int .i64 x, undef, undef, undef, undef, undef, undef, undef, undef, undef, undef, undef, undef, undef, undef, undef, undef, undef, undef, undef, undef, undef, undef], defers := [] }) ?assign ?body ?done ?stop
                case assign =>
                  intro l2 m x W Kx hKx
                  gi_wp2
                  exact hKx
                case body =>
                  rintro l2 m pre x W hpre hge ⟨⟨v, hv, hrow, hlen⟩, hK4⟩
                  have hwr := HWR.out
                  have hwr2 : IntKind.i64.wrap a2 = a2 := (i64_w a2).trans hwr
                  have cO := hv.cell
                  have bPW : W.heap[gb133]? = some (.cells #[.int .u8 a2] 5 (0, 0)) := (hK4.block _ (hSlow _ (by omega))).trans b133
                  have cL : W.cell? ⟨gb133, 0, none⟩ = some (.int .u8 a2) := by simp [World.cell?, bPW]
                  have hSW : ∀ k, S k → k < W.heap.size := fun k hk => Nat.lt_of_lt_of_le (hS4 k hk) hK4.size
                  obtain ⟨a, c, rfl⟩ := own_shape hrow
                  have hSO : ¬ S G := fun h => by have := hSup G h; omega
                  have hnS : ∀ g, (Value.slice a pre.length c).ownBlock = some g → ¬ S g := fun g hg hk => by
                    obtain ⟨hge2, cur, hcur⟩ := own_row hrow g hg
                    have := hSup g hk
                    omega
                  have h133 : S gb133 := hSlow _ (by omega)
                  by_cases hfull : a2 ≤ ((pre.length + 1 : Nat) : Int)
                  · have hT : decide (a2 ≤ ((pre.length + 1 : Nat) : Int)) = true := decide_eq_true hfull
                    gi_wp2_with (gi_at_builtin; refine wpListIn_append_own _ rfl _ _ 24 rfl G 3 i0 (.int .i64 0) 1 8 Try.underlying24 hi hz0 hz1 hz2' rfl (by decide) _ _ _ rfl (hrow.alloc _) ⟨W.heap.size, 0, none⟩ 1 1 [.int .i64 x] rfl rfl (cell_one_new _ _ _) (by simp [Value.oneCell']) (by simp only [maxLen]; omega) (by omega) (by have := hK4.size; simp; omega) ?_; intro v' w1 hown' hgrow _; obtain ⟨g', cap', rfl⟩ := ownsRow_succ hown'; obtain ⟨hv1, hv2, hr2, hk2, hb2⟩ := hv.appended (by decide) hrow (by have := hK4.size; omega) (Nat.le_refl _) hown' hgrow; have hc1 := hv1.cell; have hf1 := hv1.frozen; have hKept := appended_kept (S := S) (B := W4.heap.size) (v' := .slice (some ⟨g', 0, none⟩) (pre.length + 1) cap') hSW hrow hSO hnS hgrow hv1; have hc2 := hv2.cell; have cL2 := (hKept.below.cell (p := ⟨gb133, 0, none⟩) h133).trans cL)
                    exact ⟨hKept.up (by omega), ⟨rfl, by simp; omega⟩, ⟨⟨_, hv2, by simpa using hr2⟩, hK4.trans hKept.below⟩⟩
                  · have hT : decide (a2 ≤ ((pre.length + 1 : Nat) : Int)) = false := decide_eq_false hfull
                    gi_wp2_with (gi_at_builtin; refine wpListIn_append_own _ rfl _ _ 24 rfl G 3 i0 (.int .i64 0) 1 8 Try.underlying24 hi hz0 hz1 hz2' rfl (by decide) _ _ _ rfl (hrow.alloc _) ⟨W.heap.size, 0, none⟩ 1 1 [.int .i64 x] rfl rfl (cell_one_new _ _ _) (by simp [Value.oneCell']) (by simp only [maxLen]; omega) (by omega) (by have := hK4.size; simp; omega) ?_; intro v' w1 hown' hgrow _; obtain ⟨g', cap', rfl⟩ := ownsRow_succ hown'; obtain ⟨hv1, hv2, hr2, hk2, hb2⟩ := hv.appended (by decide) hrow (by have := hK4.size; omega) (Nat.le_refl _) hown' hgrow; have hc1 := hv1.cell; have hf1 := hv1.frozen; have hKept := appended_kept (S := S) (B := W4.heap.size) (v' := .slice (some ⟨g', 0, none⟩) (pre.length + 1) cap') hSW hrow hSO hnS hgrow hv1; have hc2 := hv2.cell; have cL2 := (hKept.below.cell (p := ⟨gb133, 0, none⟩) h133).trans cL)
                    exact ⟨hKept.up (by omega), ⟨_, hv2, by simpa using hr2, by simp; omega⟩, hK4.trans hKept.below⟩
                case done =>
                  rintro D W hD ⟨⟨v, hv, hrow, hlen⟩, hK4⟩ hKd
                  have e1 : t140 = l0.filter fun x => decide (a1 < x) := by
                    rw [HTK.out]; unfold tookOf; rw [hM]; exact List.take_of_length_le (by omega)
                  exact tail D W v hD hK4 hv (by rw [e1]; exact hrow) hKd
                case stop =>
                  rintro D c pre W hD hpre ⟨⟨rfl, hlen⟩, ⟨v, hv, hrow, _⟩, hK4⟩ hKd
                  have e1 : t140 = pre := by
                    rw [HTK.out]; unfold tookOf; rw [hM]
                    obtain ⟨r, hr⟩ := hpre
                    rw [← hr, List.take_append_of_le_length (by omega), List.take_of_length_le (by omega)]
                  have hz := tail D W v hD hK4 hv (by rw [e1]; exact hrow) hKd
                  clear tail hKq
                  gi_wp2
                  exact hz
              · replace c24 := Bool.eq_false_iff.mpr c24
                subst c24
                have H1 : (some false) = some r := by rw [if_neg (show ¬ (false = true) by decide)] at H; exact H
                clear H
                have H := H1
                clear H1
                exact absurd (Option.some.inj H) (by rw [hrt]; decide)
            · rw [if_neg c22] at H
              exact absurd H (by simp)
          · rw [if_neg c21] at H
            exact absurd H (by simp)

end Go.Proofs.Ytalmhafekmggdaa.PPg
