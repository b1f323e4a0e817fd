/- PageAll: what it computes is true; no condition. -/
import Derived.Test.YtalmhafekmggdaaPurePage
import Derived.Test.YtalmhafekmggdaaPagesAll
namespace Go.Proofs.Ytalmhafekmggdaa.Pure
open Go.RowKit Go.Proofs.Ytalmhafekmggdaa.PPg Go.Proofs.YtalmhafekmggdaaW.PrintWords Go.Proofs.YtalmhafekmggdaaW.PrintLast Go.Proofs.YtalmhafekmggdaaW.PrintMore
set_option linter.unusedVariables false
theorem awake_bind2 : Ev (fun k => (gossamerlaw38_awake.f k).bind fun t => some t) true := Ev.bind awake_f (Ev.now _)
abbrev Rises (l : List Int) : Prop := l.Pairwise (· < ·)
theorem fl_rises {A : Int} {l : List Int} (h : Rises l) : Rises (fl A l) := h.filter _

theorem fl_rest {F : List Int} (hs : Rises F) (n : Nat) (h0 : 0 < n) (hn : n ≤ F.length) : fl (F[n - 1]'(by omega)) F = F.drop n := by
  have e2 : fl (F[n - 1]'(by omega)) F = fl (F[n - 1]'(by omega)) (F.take n ++ F.drop n) := by rw [List.take_append_drop]
  rw [e2]
  unfold fl
  rw [List.filter_append]
  have t1 : (F.take n).filter (fun x => decide (F[n - 1]'(by omega) < x)) = [] := by
    rw [List.filter_eq_nil_iff]
    intro x hx
    obtain ⟨j, hj, rfl⟩ := List.getElem_of_mem hx
    simp only [List.length_take] at hj
    rw [List.getElem_take]
    simp only [decide_eq_true_eq, Int.not_lt]
    by_cases hjn : j = n - 1
    · subst hjn; exact Int.le_refl _
    · exact Int.le_of_lt (List.pairwise_iff_getElem.1 hs j (n - 1) (by omega) (by omega) (by omega))
  have t2 : (F.drop n).filter (fun x => decide (F[n - 1]'(by omega) < x)) = F.drop n := by
    rw [List.filter_eq_self]
    intro x hx
    obtain ⟨j, hj, rfl⟩ := List.getElem_of_mem hx
    simp only [List.length_drop] at hj
    rw [List.getElem_drop]
    simp only [decide_eq_true_eq]
    exact List.pairwise_iff_getElem.1 hs (n - 1) (n + j) (by omega) (by omega) (by omega)
  rw [t1, t2, List.nil_append]

/-- Behind a full page: the numbers above its last one are the rest. -/
theorem fl_last {A : Int} {l : List Int} (h : Rises l) (n : Nat) (h0 : 0 < n) (hn : n ≤ (fl A l).length) : fl ((fl A l)[n - 1]'(by omega)) l = (fl A l).drop n := by
  have hs : Rises (fl A l) := fl_rises h
  have hA : A < (fl A l)[n - 1]'(by omega) := by
    have := List.getElem_mem (l := fl A l) (n := n - 1) (by omega)
    exact of_decide_eq_true (List.mem_filter.1 this).2
  have e1 : fl ((fl A l)[n - 1]'(by omega)) l = fl ((fl A l)[n - 1]'(by omega)) (fl A l) := by
    generalize (fl A l)[n - 1]'(by omega) = b at hA
    unfold fl
    rw [List.filter_filter]
    refine List.filter_congr fun x _ => ?_
    by_cases hb : b < x
    · simp [hb]; omega
    · simp [hb]
  rw [e1]
  clear e1 hA
  exact fl_rest hs n h0 hn

section
variable (l rising want : List Int) (L : Int) (hl : l.length ≤ 150) (h1 : 1 ≤ L) (h2 : L ≤ 100) (hs : Rises rising) (hw : want.length ≤ 1000)
include hl h1 h2 hs hw
/-- The pages, one behind the other. -/
theorem pages_l3 : ∀ (m : Nat) (i : Nat) (A : Int) (got : List Int), (fl A rising).length ≤ m → i + (fl A rising).length ≤ l.length → got ++ fl A rising = want → Ev (fun k => gossamerlaw38_PageAll.l3 k l rising want got (i : Int) A L) true := by
  intro m
  induction m with
  | zero =>
    intro i A got hm hi hg
    have hF : fl A rising = [] := List.eq_nil_of_length_eq_zero (by omega)
    refine Ev.step (f := fun k => gossamerlaw38_PageAll.j5 k l rising want got (i : Int) [] false false A L) (fun k => ?_) ?_
    · simp only [gossamerlaw38_PageAll.l3, page_f, Option.bind_some, cutR, if_pos (show 1 ≤ L ∧ L ≤ 100 from ⟨h1, h2⟩), pageOf, pageMore]
      rw [if_pos (by omega)]
      have hF' : rising.filter (fun x => decide (A < x)) = [] := hF
      simp only [hF', List.take_nil, List.length_nil, if_pos]
      rw [decide_eq_false (show ¬ L.toNat < 0 by omega), decide_eq_false (show ¬ ((0 : Nat) : Int) > L by omega)]
      rfl
    · rw [hF, List.append_nil] at hg
      subst hg
      refine Ev.step (f := fun k => (gossamerref01_SameInts.f k got got).bind fun t => if t = true then (gossamerlaw38_awake.f k).bind fun t => some t else some false) (fun k => ?_) (Ev.bind (same_f got hw) awake_bind2)
      simp only [gossamerlaw38_PageAll.j5]
      rw [if_neg (by decide), if_pos (by simp; omega)]
      simp only [List.append_nil, Option.bind_some]
      rfl
  | succ m ih =>
    intro i A got hm hi hg
    have hgw : got.length + (fl A rising).length = want.length := by rw [← hg, List.length_append]
    by_cases hmore : L.toNat < (fl A rising).length
    · have hP : ((fl A rising).take L.toNat).length = L.toNat := by rw [List.length_take]; omega
      have hlast := fl_last (A := A) hs L.toNat (by omega) (by omega)
      have hb : ((fl A rising).take L.toNat)[L.toNat - 1]'(by omega) = (fl A rising)[L.toNat - 1]'(by omega) := List.getElem_take
      have hrd : rd ((fl A rising).take L.toNat) ((L.toNat - 1 : Nat) : Int) = (fl A rising)[L.toNat - 1]'(by omega) := (rd_at _ _ (by omega)).trans hb
      clear hb
      generalize (fl A rising)[L.toNat - 1]'(by omega) = B at hlast hrd
      have ih' := ih (i + 1) B (got ++ (fl A rising).take L.toNat) (by rw [hlast, List.length_drop]; omega) (by rw [hlast, List.length_drop]; omega) (by rw [hlast, List.append_assoc, List.take_append_drop]; exact hg)
      refine Ev.step (f := fun k => gossamerlaw38_PageAll.j5 k l rising want got (i : Int) ((fl A rising).take L.toNat) true false A L) (fun k => ?_) ?_
      · simp only [gossamerlaw38_PageAll.l3, page_f, Option.bind_some, cutR, if_pos (show 1 ≤ L ∧ L ≤ 100 from ⟨h1, h2⟩), pageOf, pageMore]
        rw [if_pos (by omega)]
        have hm' : decide (L.toNat < (rising.filter (fun x => decide (A < x))).length) = true := decide_eq_true hmore
        have hP' : ((rising.filter (fun x => decide (A < x))).take L.toNat).length = L.toNat := hP
        simp only [hm', hP', if_pos]
        rw [if_pos (by omega), decide_eq_false (show ¬ ((L.toNat : Nat) : Int) > L by omega)]
        rfl
      · generalize (fl A rising).take L.toNat = P at hP hrd ih'
        refine Ev.step (f := fun k => gossamerlaw38_PageAll.l3 k l rising want (got ++ P) ((i + 1 : Nat) : Int) B L) (fun k => ?_) ih'
        have hix : wrap64 ((P.length : Int) - 1) = ((L.toNat - 1 : Nat) : Int) := by rw [w64_id (by omega) (by omega)]; omega
        simp only [gossamerlaw38_PageAll.j5]
        rw [if_neg (by decide), if_pos (by omega)]
        simp only [Option.bind_some, if_pos]
        rw [hix, if_pos (by omega), if_pos (by omega), hrd, w64_succ i (by omega)]
    · have hP : (fl A rising).take L.toNat = fl A rising := List.take_of_length_le (by omega)
      refine Ev.step (f := fun k => gossamerlaw38_PageAll.j5 k l rising want got (i : Int) (fl A rising) false false A L) (fun k => ?_) ?_
      · simp only [gossamerlaw38_PageAll.l3, page_f, Option.bind_some, cutR, if_pos (show 1 ≤ L ∧ L ≤ 100 from ⟨h1, h2⟩), pageOf, pageMore]
        rw [if_pos (by omega)]
        have hm' : decide (L.toNat < (rising.filter (fun x => decide (A < x))).length) = false := decide_eq_false hmore
        have hP' : (rising.filter (fun x => decide (A < x))).take L.toNat = fl A rising := hP
        simp only [hm', hP', if_pos]
        rw [if_neg (by decide), decide_eq_false (show ¬ (((fl A rising).length : Nat) : Int) > L by omega)]
      · refine Ev.step (f := fun k => (gossamerref01_SameInts.f k want want).bind fun t => if t = true then (gossamerlaw38_awake.f k).bind fun t => some t else some false) (fun k => ?_) (Ev.bind (same_f want hw) awake_bind2)
        simp only [gossamerlaw38_PageAll.j5]
        rw [if_neg (by decide), if_pos (by omega)]
        simp only [hg, Option.bind_some]
        rfl
/-- The numbers above the first one. -/
theorem want_l2 (A : Int) : ∀ (j p : Nat), rising.length - p = j → p ≤ rising.length → rising.length ≤ l.length → want = fl A rising → Ev (fun k => gossamerlaw38_PageAll.l2 k l rising (fl A (rising.take p)) (p : Int) A L) true
  | 0, p, hj, hp, hr, hf => by
    have hp' : p = rising.length := by omega
    subst hp'
    rw [List.take_length, ← hf]
    refine Ev.step (f := fun k => gossamerlaw38_PageAll.l3 k l rising want [] 0 A L) (fun k => ?_) ?_
    · simp only [gossamerlaw38_PageAll.l2]; rw [if_neg (by omega)]
    · have hle : (fl A rising).length ≤ rising.length := List.length_filter_le _ _
      exact pages_l3 l rising want L hl h1 h2 hs hw (fl A rising).length 0 A [] (Nat.le_refl _) (by omega) (by rw [List.nil_append]; exact hf.symm)
  | j + 1, p, hj, hp, hr, hf => by
    have hlt : p < rising.length := by omega
    have ih := want_l2 A j (p + 1) (by omega) (by omega) hr hf
    have ht : (fl A (rising.take p)).length ≤ 1000 := by
      have : (fl A (rising.take p)).length ≤ (rising.take p).length := List.length_filter_le _ _
      rw [List.length_take] at this; omega
    have hsn : rising.take (p + 1) = rising.take p ++ [rising[p]] := List.take_succ_eq_append_getElem hlt
    refine Ev.step (f := fun k => gossamerlaw38_PageAll.l2 k l rising (fl A (rising.take (p + 1))) ((p + 1 : Nat) : Int) A L) (fun k => ?_) ih
    simp only [gossamerlaw38_PageAll.l2]
    rw [if_pos (by omega), if_pos (by omega), rd_at rising p hlt, w64_succ p (by omega), hsn]
    by_cases hx : rising[p] > A
    · rw [if_pos hx, if_pos (by omega)]
      have : fl A (rising.take p ++ [rising[p]]) = fl A (rising.take p) ++ [rising[p]] := by
        unfold fl; rw [List.filter_append, List.filter_cons_of_pos (by simpa using hx), List.filter_nil]
      rw [this]
    · rw [if_neg hx]
      have : fl A (rising.take p ++ [rising[p]]) = fl A (rising.take p) := by
        unfold fl; rw [List.filter_append, List.filter_cons_of_neg (by simpa using hx), List.filter_nil, List.append_nil]
      rw [this]
end
/-- A number put in its place. -/
theorem put_rises {r : List Int} {x : Int} {p : Nat} (hs : Rises r) (hp : p ≤ r.length) (hb : ∀ q (h : q < r.length), q < p → r[q] < x) (ha : ∀ h : p < r.length, x < r[p]) : Rises ((r.take p ++ [x]) ++ r.drop p) := by
  have ht : Rises (r.take p) := hs.sublist (List.take_sublist _ _)
  have hd : Rises (r.drop p) := hs.sublist (List.drop_sublist _ _)
  have mt : ∀ y ∈ r.take p, y < x := by
    intro y hy
    obtain ⟨j, hj, rfl⟩ := List.getElem_of_mem hy
    simp only [List.length_take] at hj
    rw [List.getElem_take]
    exact hb j (by omega) (by omega)
  have md : ∀ y ∈ r.drop p, x < y := by
    intro y hy
    obtain ⟨j, hj, rfl⟩ := List.getElem_of_mem hy
    simp only [List.length_drop] at hj
    rw [List.getElem_drop]
    have h1 := ha (by omega)
    by_cases hj0 : j = 0
    · subst hj0; exact h1
    · exact Int.lt_trans h1 (List.pairwise_iff_getElem.1 hs p (p + j) (by omega) (by omega) (by omega))
  unfold Rises
  rw [List.pairwise_append, List.pairwise_append]
  refine ⟨⟨ht, List.pairwise_singleton _ _, fun a hm b hb' => ?_⟩, hd, fun a hm b hb' => ?_⟩
  · rw [List.mem_singleton] at hb'; subst hb'; exact mt a hm
  · rw [List.mem_append, List.mem_singleton] at hm
    rcases hm with hm | rfl
    · exact Int.lt_trans (mt a hm) (md b hb')
    · exact md b hb'
section
variable (l : List Int) (A L : Int) (hl : l.length ≤ 150) (h1 : 1 ≤ L) (h2 : L ≤ 100)
include hl h1 h2
omit h1 h2 in
theorem put_l1 (i : Nat) (hi : i < l.length) (rising : List Int) (hs : Rises rising) (hr : rising.length ≤ i)
    (hnext : ∀ r, Rises r → r.length ≤ i + 1 → Ev (fun k => gossamerlaw38_PageAll.l0 k l r ((i + 1 : Nat) : Int) A L) true) :
    ∀ (j p : Nat), rising.length - p = j → p ≤ rising.length → (∀ q (h : q < rising.length), q < p → rising[q] < l[i]) → Ev (fun k => gossamerlaw38_PageAll.l1 k l rising (i : Int) (p : Int) A L) true
  | 0, p, hj, hp, hb => by
    have hp' : p = rising.length := by omega
    have := hnext ((rising.take p ++ [l[i]]) ++ rising.drop p) (put_rises hs hp hb (fun h => by omega)) (by simp; omega)
    refine Ev.step (f := fun k => gossamerlaw38_PageAll.l0 k l ((rising.take p ++ [l[i]]) ++ rising.drop p) ((i + 1 : Nat) : Int) A L) (fun k => ?_) this
    simp only [gossamerlaw38_PageAll.l1]
    rw [if_neg (by omega), if_pos (by omega), if_pos (by omega)]
    simp only [Option.bind_some, List.nil_append, Int.toNat_natCast, List.length_nil]
    rw [if_pos (by simp; omega), if_pos (by omega), if_pos (by omega), if_pos (by simp; omega), if_pos (by simp; omega), rd_at l i hi, w64_succ i (by omega)]
  | j + 1, p, hj, hp, hb => by
    have hlt : p < rising.length := by omega
    by_cases hx : rising[p] < l[i]
    · refine Ev.step (f := fun k => gossamerlaw38_PageAll.l1 k l rising (i : Int) ((p + 1 : Nat) : Int) A L) (fun k => ?_) (put_l1 i hi rising hs hr hnext j (p + 1) (by omega) (by omega) (fun q h hq => ?_))
      · simp only [gossamerlaw38_PageAll.l1]
        rw [if_pos (by omega), if_pos (by omega), if_pos (by omega), if_pos (by omega), rd_at rising p hlt, rd_at l i hi, if_pos hx, w64_succ p (by omega)]
      · by_cases hqp : q = p
        · subst hqp; exact hx
        · exact hb q h (by omega)
    · by_cases he : rising[p] = l[i]
      · refine Ev.step (f := fun k => gossamerlaw38_PageAll.l0 k l rising ((i + 1 : Nat) : Int) A L) (fun k => ?_) (hnext rising hs (by omega))
        simp only [gossamerlaw38_PageAll.l1]
        rw [if_pos (by omega), if_pos (by omega), if_pos (by omega), if_pos (by omega), rd_at rising p hlt, rd_at l i hi, if_neg hx, if_pos he, w64_succ i (by omega)]
      · have := hnext ((rising.take p ++ [l[i]]) ++ rising.drop p) (put_rises hs hp hb (fun h => by omega)) (by simp; omega)
        refine Ev.step (f := fun k => gossamerlaw38_PageAll.l0 k l ((rising.take p ++ [l[i]]) ++ rising.drop p) ((i + 1 : Nat) : Int) A L) (fun k => ?_) this
        simp only [gossamerlaw38_PageAll.l1]
        rw [if_pos (by omega), if_pos (by omega), if_pos (by omega), if_pos (by omega), rd_at rising p hlt, rd_at l i hi, if_neg hx, if_neg he, if_pos (by omega)]
        simp only [Option.bind_some, List.nil_append, Int.toNat_natCast, List.length_nil]
        rw [if_pos (by simp; omega), if_pos (by simp; omega), if_pos (by simp; omega), w64_succ i (by omega)]
theorem put_l0 : ∀ (j i : Nat) (rising : List Int), l.length - i = j → i ≤ l.length → Rises rising → rising.length ≤ i → Ev (fun k => gossamerlaw38_PageAll.l0 k l rising (i : Int) A L) true
  | 0, i, rising, hj, hi, hs, hr => by
    have hle : (fl A rising).length ≤ rising.length := List.length_filter_le _ _
    refine Ev.step (f := fun k => gossamerlaw38_PageAll.l2 k l rising [] 0 A L) (fun k => ?_) (want_l2 l rising (fl A rising) L hl h1 h2 hs (by omega) A rising.length 0 rfl (by omega) (by omega) rfl)
    simp only [gossamerlaw38_PageAll.l0]; rw [if_neg (by omega)]
  | j + 1, i, rising, hj, hi, hs, hr => by
    refine Ev.step (f := fun k => gossamerlaw38_PageAll.l1 k l rising (i : Int) 0 A L) (fun k => ?_) (put_l1 l A L hl i (by omega) rising hs hr (fun r hs' hr' => put_l0 j (i + 1) r (by omega) (by omega) hs' hr') rising.length 0 rfl (by omega) (fun q h hq => by omega))
    simp only [gossamerlaw38_PageAll.l0]; rw [if_pos (by omega)]
end
theorem PageAll (l : List Int) (A L : Int) : ∃ k, gossamerlaw38_PageAll.f k l A L = some true := by
  refine Ev.rounds (g := fun k => gossamerlaw38_PageAll.f k l A L) ?_
  have hj : Ev (fun k => gossamerlaw38_PageAll.j0 k l true A L) true := by
    refine Ev.step (f := fun k => (gossamerlaw38_awake.f k).bind fun t => some t) (fun k => ?_) awake_bind2
    simp only [gossamerlaw38_PageAll.j0]; rfl
  unfold gossamerlaw38_PageAll.f
  by_cases hl : (l.length : Int) > 150
  · simp only [if_pos hl]; exact hj
  · simp only [if_neg hl]
    by_cases h1 : L < 1
    · simp only [if_pos h1]; exact hj
    · simp only [if_neg h1]
      by_cases h2 : L > 100
      · simp only [decide_eq_true h2]; exact hj
      · simp only [decide_eq_false h2]
        refine Ev.step (f := fun k => gossamerlaw38_PageAll.l0 k l [] 0 A L) (fun k => ?_) (put_l0 l A L (by omega) (by omega) (by omega) l.length 0 [] rfl (by omega) List.Pairwise.nil (by simp))
        simp only [gossamerlaw38_PageAll.j0]; rfl
end Go.Proofs.Ytalmhafekmggdaa.Pure
