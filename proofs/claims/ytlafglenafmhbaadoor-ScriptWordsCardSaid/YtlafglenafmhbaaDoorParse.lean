/- script.Parse: at texts whose lines are known one by one. -/
import Derived.Test.YtlafglenafmhbaaDoorKnown
import Derived.Test.YtlafglenafmhbaaDoorReaders
import Derived.Test.YtlafglenafmhbaaDoorLits
import Derived.Scope
namespace Go.Proofs.YtlafglenafmhbaaDoor
open Go.RowKit Go.Shelf Go.Maps Go.Proofs.YtlafglenafmhbaaDoorW.PrintWords Go.Proofs.YtlafglenafmhbaaDoorW.PrintLast Go.Proofs.YtlafglenafmhbaaDoorW.PrintMore PSc
set_option linter.unusedVariables false
theorem look_at {b g2 g3 g4 g5 g6 : Nat} {w : World} (h : KN b g2 g3 g4 g5 g6 w) (s : ByteArray) (hs : s.size ≤ maxLen) (v : Value) (hv : (D7 g2 g3 g4 g5 g6).atKey (.string s.data.toList) (.held .nilFunc) = .held v) :
    (Instr.lookup 54 (.map (some b)) (.string s) false).run Tryd.prog w = .ok v w := by
  obtain ⟨u, ps, hrun, hu⟩ := h.m.lookup keyed9 Tryd.underlying54 (Tryd.zeroValue60 w) (show Rf .nilFunc = some (.held .nilFunc, []) from rfl) (key9 s hs)
  rw [hv] at hu
  have e : u = v := by
    unfold Rf at hu
    have h1 := Option.some.inj hu
    have h2 := congrArg Prod.fst h1
    simpa using h2
  rw [← e]
  exact hrun
theorem at_lot (g2 g3 g4 g5 g6 : Nat) : (D7 g2 g3 g4 g5 g6).atKey (.string [108, 111, 116]) (.held .nilFunc) = .held (.func (.func 32) #[] #[]) := by rfl
theorem at_open (g2 g3 g4 g5 g6 : Nat) : (D7 g2 g3 g4 g5 g6).atKey (.string [111, 112, 101, 110]) (.held .nilFunc) = .held (.func (.func 35) #[] #[]) := by rfl
theorem at_tick (g2 g3 g4 g5 g6 : Nat) : (D7 g2 g3 g4 g5 g6).atKey (.string [116, 105, 99, 107]) (.held .nilFunc) = .held (clo 47 g2) := by rfl
theorem at_sync (g2 g3 g4 g5 g6 : Nat) : (D7 g2 g3 g4 g5 g6).atKey (.string [115, 121, 110, 99]) (.held .nilFunc) = .held (clo 48 g3) := by rfl
theorem at_sink (g2 g3 g4 g5 g6 : Nat) : (D7 g2 g3 g4 g5 g6).atKey (.string [115, 105, 110, 107]) (.held .nilFunc) = .held .nilFunc := by rfl
theorem equalIn_func60 (d : Nat) {x y : Array TypeId} {z : Bool} (h : Tryd.prog.underlying 60 = some (.func x y z)) (g : Fn) (c lb : Array Value) (W : World) : (Op.equalIn (d + 1) 60 (.func g c lb) .nilFunc).run Tryd.prog W = .ok false W := by
  simp [Op.equalIn, run_underlying h]
theorem equalIn_nil60 (d : Nat) {x y : Array TypeId} {z : Bool} (h : Tryd.prog.underlying 60 = some (.func x y z)) (W : World) : (Op.equalIn (d + 1) 60 .nilFunc .nilFunc).run Tryd.prog W = .ok true W := by
  simp [Op.equalIn, run_underlying h]
theorem eql_func60 (g : Fn) (c lb : Array Value) (W : World) : (binOp .eql 60 (.func g c lb) .nilFunc).run Tryd.prog W = .ok (.bool false) W := by
  simp only [binOp]
  simp [Op.equal, Op.maxDepth, equalIn_func60 9999 Tryd.underlying60]
theorem eql_nil60 (W : World) : (binOp .eql 60 .nilFunc .nilFunc).run Tryd.prog W = .ok (.bool true) W := by
  simp only [binOp]
  simp [Op.equal, Op.maxDepth, equalIn_nil60 9999 Tryd.underlying60]
/-- What a line's words are, so that they are read. -/
inductive Reads (k : Nat) : List ByteArray → Prop
  | lot (h s : ByteArray) : script_FromHex.f k h = some (s, true) → Reads k [⟨#[108, 111, 116]⟩, h]
  | open_ (a b : ByteArray) (r1 : Int) (r2 : ByteArray) (r3 : Int) (r4 : List Int) : script_several.f k [a, b] = some (r1, r2, r3, r4, true) → Reads k [⟨#[111, 112, 101, 110]⟩, a, b]
  | tick (a : ByteArray) (n : Int) : script_Number.f k a = some (n, true) → Reads k [⟨#[116, 105, 99, 107]⟩, a]
  | sync : Reads k [⟨#[115, 121, 110, 99]⟩]
/-- A text's first line, and what is left. -/
structure Line (s rest : ByteArray) (ws : List ByteArray) : Prop where
  ne : s.toList ≠ []
  short : s.size < 100000
  cut : ∃ first : ByteArray, Lib.cut s.data.toList [10] = (first.data.toList, rest.data.toList, true) ∧ first.size < 100000 ∧ Lib.splitB ⟨#[32]⟩ 0 (Lib.countB first ⟨#[32]⟩) first = ws ∧ Lib.countB first ⟨#[32]⟩ + 1 = ws.length

theorem cells_new (W : World) (cs : Array Value) (t : TypeId) (j : Nat) : (W.alloc (.cells cs t)).cell? ((⟨W.heap.size, 0, none⟩ : Addr).add j) = cs[j]? := by
  have e : (⟨W.heap.size, 0, none⟩ : Addr).add j = ⟨W.heap.size, j, none⟩ := add_plain _ _
  rw [e]
  exact blk_cell (blk_new W _) j
theorem KN.grown {b g2 g3 g4 g5 g6 : Nat} {w w' : World} {row : Option Nat} (h : KN b g2 g3 g4 g5 g6 w) (hg : w.grownBy w' row) (hr : ∀ k, row = some k → ∃ cs, w.heap[k]? = some (.cells cs 34 (0, 0))) : KN b g2 g3 g4 g5 g6 w' := by
  refine ⟨h.m.kept hg ?_, blk_grown h.k2 hg ?_, blk_grown h.k3 hg ?_⟩
  · intro e
    obtain ⟨cs, hc⟩ := hr b e.symm
    obtain ⟨es, ck, hh, _⟩ := h.m
    rw [hc] at hh; cases hh
  · intro e
    obtain ⟨cs, hc⟩ := hr g2 e.symm
    rw [h.k2] at hc; simp at hc
  · intro e
    obtain ⟨cs, hc⟩ := hr g3 e.symm
    rw [h.k3] at hc; simp at hc
theorem info34 : (Tryd.prog.info? 34).map (fun i => (i.zero, i.size, i.bytes)) = some (some (.agg #[.int .i64 0, .string ⟨#[]⟩, .int .i64 0, .slice none 0 0]), 4, 56) := by kernel_rfl
theorem str_C {W : World} {g : Nat} (l : List ByteArray) (o : Nat) (hl : l.length ≤ 1000) (h : ∀ i, (hi : i < l.length) → W.cell? ⟨g, o + i, none⟩ = some (.string (l[i]'hi))) : Kd.C Kd.string W (some ⟨g, o, none⟩) l.length l := by
  refine Kd.C_of_reads (enc := Value.string) (d := (⟨#[]⟩ : ByteArray)) (h1 := fun _ => rfl) ⟨rfl, by omega, fun _ => ⟨_, rfl, fun j hj => ?_⟩⟩
  have e : (⟨g, o, none⟩ : Addr).add j = ⟨g, o + j, none⟩ := by unfold Addr.add; split <;> simp_all
  rw [e, h j hj]
  simp [List.getD_eq_getElem?_getD, hj]

set_option maxRecDepth 100000 in
set_option maxHeartbeats 8000000 in
theorem parse_calls (k n : Nat) (ss : Nat → ByteArray) (wss : Nat → List ByteArray) (w : World) (hg : Gl w) (hn : n ≤ 100)
    (hl : ∀ j, j < n → Line (ss j) (ss (j + 1)) (wss j) ∧ Reads k (wss j))
    (hend : (ss n).toList = [] ∨ ∃ rest, Line (ss n) rest [⟨#[115, 105, 110, 107]⟩]) :
    Calls Tryd.prog 12 #[.string (ss 0)] w fun e w' => (((ss n).toList = [] → ∃ A c, e = .returned (.tuple #[.slice A n c, .int .i64 0, .int .i64 0])) ∧ ((ss n).toList ≠ [] → e = .returned (.tuple #[.slice none 0 0, .int .i64 ((n + 1 : Nat) : Int), .int .i64 2]))) ∧ Below w.heap.size w w' := by
  go_enter Tryd.func12, Tryd.ntmps12
  go_wp2_with fail
  refine wp_scope_straight ?_
  go_wp2_with fail
  refine (readers_calls _).mono ?_
  rintro e W0 ⟨b, g2, g3, g4, g5, g6, rfl, hK0, hb0⟩
  go_wp2_with fail
  refine wp_label ?_
  go_wp2_with fail
  go_loopw [0, 5, 7] (fun s o i wr => ∃ j : Nat, j ≤ n ∧ s = .string (ss j) ∧ i = .int .i64 ((j + 1 : Nat) : Int) ∧ (∃ xs, wr.ownsRow w.heap.size 34 4 o j xs) ∧ KN b g2 g3 g4 g5 g6 wr ∧ Below w.heap.size w wr) (fun _ _ i _ => n + 1 - (Lib.intOf i).toNat)
  case atStart => exact ⟨0, Nat.zero_le _, rfl, rfl, ⟨[], World.ownsRow_nil _ _ _ _⟩, hK0, hb0⟩
  case round =>
    obtain ⟨j, hj, rfl, rfl, ⟨xs, hrow⟩, hK, hb⟩ := hrel
    obtain ⟨oA, oC, rfl⟩ := own_slice hrow
    obtain ⟨i0, hi, hz0, hz1, hz2⟩ := info_parts info34
    have hgr := hg.below hb
    obtain ⟨m, hm⟩ := hgr.m
    by_cases hlt : j < n
    · obtain ⟨hL, hR⟩ := hl j hlt
      obtain ⟨first, hcut, hf1, hsp, hcnt⟩ := hL.cut
      have hne : (!(ss j).toList.isEmpty) = true := by rw [Bool.not_eq_true']; exact List.isEmpty_eq_false_iff.2 hL.ne
      have hcutC := Tryd.strings_Cut (ss j) ⟨#[10]⟩ m wr (by have := hL.short; omega) hm
      rw [show (⟨#[10]⟩ : ByteArray).data.toList = [10] from rfl, hcut] at hcutC
      have HRD := Aside0.mk hR
      have HSP := Aside0.mk hsp
      have HCN := Aside0.mk hcnt
      clear hL hcut hl hR hsp hcnt
      go_wp2_with fail
      refine hcutC.mono ?_
      clear hcutC
      rintro e1 W1 ⟨rfl, nd, hW1⟩
      have hb1 : Below wr.heap.size wr W1 := by rw [hW1]; exact pw_below_drewN (Below.refl _ wr) nd
      clear hW1
      have hK1 := hK.below hb1
      have hg1 := hgr.below hb1
      have hm1 := Gl.cell hb1 hm
      have hB1 : Below w.heap.size w W1 := hb.trans (hb1.mono hb.size)
      have hrow1 := pw_own_below hrow hb1
      clear hb1 hK hgr hm hb hrow
      go_wp2_with fail
      refine (Tryd.strings_Split first ⟨#[32]⟩ m W1 (by omega) hm1 (by decide)).mono ?_
      rintro e2 W2' ⟨rfl, rfl⟩
      clear hm1
      rw [HSP.out, HCN.out]
      clear HSP HCN
      generalize hws : wss j = ws at HRD ⊢
      have hR := HRD.out
      clear HRD
      cases hR with
      | lot h s hx =>
        obtain ⟨W2, hW2⟩ : ∃ W2, W1.alloc (.cells #[.string ⟨#[108, 111, 116]⟩, .string h] 9) = W2 := ⟨_, rfl⟩
        have hW2' : W1.alloc (.cells (List.map Value.string [⟨#[108, 111, 116]⟩, h]).toArray 9) = W2 := hW2
        rw [hW2']
        clear hW2'
        have hb2 : Below W1.heap.size W1 W2 := by rw [← hW2]; exact (Below.refl _ W1).alloc (Nat.le_refl _) _
        have hnew : W2.heap[W1.heap.size]? = some (.cells #[.string ⟨#[108, 111, 116]⟩, .string h] 9 (0, 0)) := by rw [← hW2]; exact blk_new W1 _
        clear hW2
        generalize W1.heap.size = g at hnew ⊢
        have x0 : W2.cell? ⟨g, 0, none⟩ = some (.string ⟨#[108, 111, 116]⟩) := (blk_cell hnew 0).trans rfl
        have x1 : W2.cell? ⟨g, 1, none⟩ = some (.string h) := (blk_cell hnew 1).trans rfl
        have hK2 := hK1.below hb2
        have hg2 := hg1.below hb2
        have hB2 : Below w.heap.size w W2 := hB1.trans (hb2.mono hB1.size)
        have hrow2 := pw_own_below hrow1 hb2
        have hlk := look_at hK2 ⟨#[108, 111, 116]⟩ (by decide) _ (at_lot g2 g3 g4 g5 g6)
        have hq := eql_func60
        try unfold clo at hlk
        have hf : script_bytes.f k [h] = some (1, s, 0, [], true) := by
          unfold script_bytes.f
          simp only [List.length_cons, List.length_nil]
          rw [if_pos (by decide), if_pos (by decide)]
          show (script_FromHex.f k h).bind _ = _
          rw [hx]
          rfl
        have hcall := script_bytes.calls k (some ⟨g, 1, none⟩) 1 [h] 1 s 0 [] true W2 (str_C [h] 1 (by simp) (fun i hi => by
          simp only [List.length_cons, List.length_nil] at hi
          obtain rfl : i = 0 := by omega
          exact x1)) (by simp) hf
        clear hnew hK1 hg1 hB1 hrow1 hb2 hg2
        simp only [List.length_cons, List.length_nil, Nat.reduceAdd]
        go_wp2_with fail
        refine hcall.mono ?_
        clear hcall hlk hq
        rintro e3 W3 ⟨v3, rfl, hR3, hb3⟩
        have hK3 := hK2.below hb3
        have hB3 : Below w.heap.size w W3 := hB2.trans (hb3.mono hB2.size)
        have hrow3 := pw_own_below hrow2 hb3
        obtain ⟨A3, c3, rfl⟩ := Kd.R_slice hR3
        clear hR3
        simp only [List.length_nil]
        clear hK2 hB2 hrow2 hb3 x0 x1
        have hrowX := (hrow3.alloc (.cells #[.int .i64 1, .string s, .int .i64 0, .slice A3 0 c3] 34)).alloc (.cells #[.int .i64 1, .string s, .int .i64 0, .slice A3 0 c3] 34)
        have hKX := (hK3.below ((Below.refl _ W3).alloc (Nat.le_refl _) (.cells #[.int .i64 1, .string s, .int .i64 0, .slice A3 0 c3] 34))).below ((Below.refl _ (W3.alloc (.cells #[.int .i64 1, .string s, .int .i64 0, .slice A3 0 c3] 34))).alloc (Nat.le_refl _) (.cells #[.int .i64 1, .string s, .int .i64 0, .slice A3 0 c3] 34))
        have hBX : Below w.heap.size w ((W3.alloc (.cells #[.int .i64 1, .string s, .int .i64 0, .slice A3 0 c3] 34)).alloc (.cells #[.int .i64 1, .string s, .int .i64 0, .slice A3 0 c3] 34)) := (hB3.alloc hB3.size _).alloc (by have := hB3.size; simp; omega) _
        go_wp2_with (at_builtin; refine wpList_append_own _ rfl _ _ 35 rfl w.heap.size 34 i0 (.agg #[.int .i64 0, .string ⟨#[]⟩, .int .i64 0, .slice none 0 0]) 4 56 Tryd.underlying35 hi hz0 hz1 hz2 rfl (by decide) _ _ _ rfl hrowX ⟨W3.heap.size + 1, 0, none⟩ 1 1 [.int .i64 1, .string s, .int .i64 0, .slice A3 0 c3] rfl rfl (fun j u hu => by have h4 := cells_new (W3.alloc (.cells #[.int .i64 1, .string s, .int .i64 0, .slice A3 0 c3] 34)) #[.int .i64 1, .string s, .int .i64 0, .slice A3 0 c3] 34 j; rw [World.size_alloc] at h4; rw [h4]; simpa using hu) (by simp [Value.oneCell']) (by simp only [maxLen]; omega) (by omega) hBX.size ?_; intro v4 W4 hown4 hgr4 _)
        have hK4 := hKX.grown hgr4 (fun q hq => own_typed hrowX q hq)
        have hB4 := hBX.grown hgr4 hBX.size (fun q hq => own_base hrowX q hq)
        clear hKX hBX hrowX hK3 hB3 hrow3
        go_roundw
        case rel => exact ⟨j + 1, by omega, rfl, by push_cast; rfl, ⟨_, hown4⟩, hK4, hB4⟩
        case measure => simp [Lib.intOf]; omega
      | open_ a a2 r1 r2 r3 r4 hx =>
        obtain ⟨W2, hW2⟩ : ∃ W2, W1.alloc (.cells #[.string ⟨#[111, 112, 101, 110]⟩, .string a, .string a2] 9) = W2 := ⟨_, rfl⟩
        have hW2' : W1.alloc (.cells (List.map Value.string [⟨#[111, 112, 101, 110]⟩, a, a2]).toArray 9) = W2 := hW2
        rw [hW2']
        clear hW2'
        have hb2 : Below W1.heap.size W1 W2 := by rw [← hW2]; exact (Below.refl _ W1).alloc (Nat.le_refl _) _
        have hnew : W2.heap[W1.heap.size]? = some (.cells #[.string ⟨#[111, 112, 101, 110]⟩, .string a, .string a2] 9 (0, 0)) := by rw [← hW2]; exact blk_new W1 _
        clear hW2
        generalize W1.heap.size = g at hnew ⊢
        have x0 : W2.cell? ⟨g, 0, none⟩ = some (.string ⟨#[111, 112, 101, 110]⟩) := (blk_cell hnew 0).trans rfl
        have x1 : W2.cell? ⟨g, 1, none⟩ = some (.string a) := (blk_cell hnew 1).trans rfl
        have x2 : W2.cell? ⟨g, 2, none⟩ = some (.string a2) := (blk_cell hnew 2).trans rfl
        have hK2 := hK1.below hb2
        have hg2 := hg1.below hb2
        have hB2 : Below w.heap.size w W2 := hB1.trans (hb2.mono hB1.size)
        have hrow2 := pw_own_below hrow1 hb2
        have hlk := look_at hK2 ⟨#[111, 112, 101, 110]⟩ (by decide) _ (at_open g2 g3 g4 g5 g6)
        have hq := eql_func60
        try unfold clo at hlk
        have hcall := script_several.calls k (some ⟨g, 1, none⟩) 2 [a, a2] r1 r2 r3 r4 true W2 hg2 (str_C [a, a2] 1 (by simp) (fun i hi => by
          simp only [List.length_cons, List.length_nil] at hi
          rcases Nat.lt_or_ge i 1 with h1 | h1
          · obtain rfl : i = 0 := by omega
            exact x1
          · obtain rfl : i = 1 := by omega
            exact x2)) (by simp) hx
        clear hnew hK1 hg1 hB1 hrow1 hb2 hg2
        simp only [List.length_cons, List.length_nil, Nat.reduceAdd]
        go_wp2_with fail
        refine hcall.mono ?_
        clear hcall hlk hq
        rintro e3 W3 ⟨v3, rfl, hR3, hb3⟩
        have hK3 := hK2.below hb3
        have hB3 : Below w.heap.size w W3 := hB2.trans (hb3.mono hB2.size)
        have hrow3 := pw_own_below hrow2 hb3
        obtain ⟨A3, c3, rfl⟩ := Kd.R_slice hR3
        clear hR3
        clear hK2 hB2 hrow2 hb3 x0 x1 x2
        have hrowX := (hrow3.alloc (.cells #[.int .i64 r1, .string r2, .int .i64 r3, .slice A3 r4.length c3] 34)).alloc (.cells #[.int .i64 r1, .string r2, .int .i64 r3, .slice A3 r4.length c3] 34)
        have hKX := (hK3.below ((Below.refl _ W3).alloc (Nat.le_refl _) (.cells #[.int .i64 r1, .string r2, .int .i64 r3, .slice A3 r4.length c3] 34))).below ((Below.refl _ (W3.alloc (.cells #[.int .i64 r1, .string r2, .int .i64 r3, .slice A3 r4.length c3] 34))).alloc (Nat.le_refl _) (.cells #[.int .i64 r1, .string r2, .int .i64 r3, .slice A3 r4.length c3] 34))
        have hBX : Below w.heap.size w ((W3.alloc (.cells #[.int .i64 r1, .string r2, .int .i64 r3, .slice A3 r4.length c3] 34)).alloc (.cells #[.int .i64 r1, .string r2, .int .i64 r3, .slice A3 r4.length c3] 34)) := (hB3.alloc hB3.size _).alloc (by have := hB3.size; simp; omega) _
        go_wp2_with (at_builtin; refine wpList_append_own _ rfl _ _ 35 rfl w.heap.size 34 i0 (.agg #[.int .i64 0, .string ⟨#[]⟩, .int .i64 0, .slice none 0 0]) 4 56 Tryd.underlying35 hi hz0 hz1 hz2 rfl (by decide) _ _ _ rfl hrowX ⟨W3.heap.size + 1, 0, none⟩ 1 1 [.int .i64 r1, .string r2, .int .i64 r3, .slice A3 r4.length c3] rfl rfl (fun j u hu => by have h4 := cells_new (W3.alloc (.cells #[.int .i64 r1, .string r2, .int .i64 r3, .slice A3 r4.length c3] 34)) #[.int .i64 r1, .string r2, .int .i64 r3, .slice A3 r4.length c3] 34 j; rw [World.size_alloc] at h4; rw [h4]; simpa using hu) (by simp [Value.oneCell']) (by simp only [maxLen]; omega) (by omega) hBX.size ?_; intro v4 W4 hown4 hgr4 _)
        have hK4 := hKX.grown hgr4 (fun q hq => own_typed hrowX q hq)
        have hB4 := hBX.grown hgr4 hBX.size (fun q hq => own_base hrowX q hq)
        clear hKX hBX hrowX hK3 hB3 hrow3
        go_roundw
        case rel => exact ⟨j + 1, by omega, rfl, by push_cast; rfl, ⟨_, hown4⟩, hK4, hB4⟩
        case measure => simp [Lib.intOf]; omega
      | tick a nn hx =>
        obtain ⟨W2, hW2⟩ : ∃ W2, W1.alloc (.cells #[.string ⟨#[116, 105, 99, 107]⟩, .string a] 9) = W2 := ⟨_, rfl⟩
        have hW2' : W1.alloc (.cells (List.map Value.string [⟨#[116, 105, 99, 107]⟩, a]).toArray 9) = W2 := hW2
        rw [hW2']
        clear hW2'
        have hb2 : Below W1.heap.size W1 W2 := by rw [← hW2]; exact (Below.refl _ W1).alloc (Nat.le_refl _) _
        have hnew : W2.heap[W1.heap.size]? = some (.cells #[.string ⟨#[116, 105, 99, 107]⟩, .string a] 9 (0, 0)) := by rw [← hW2]; exact blk_new W1 _
        clear hW2
        generalize W1.heap.size = g at hnew ⊢
        have x0 : W2.cell? ⟨g, 0, none⟩ = some (.string ⟨#[116, 105, 99, 107]⟩) := (blk_cell hnew 0).trans rfl
        have x1 : W2.cell? ⟨g, 1, none⟩ = some (.string a) := (blk_cell hnew 1).trans rfl
        have hK2 := hK1.below hb2
        have hg2 := hg1.below hb2
        have hB2 : Below w.heap.size w W2 := hB1.trans (hb2.mono hB1.size)
        have hrow2 := pw_own_below hrow1 hb2
        have hlk := look_at hK2 ⟨#[116, 105, 99, 107]⟩ (by decide) _ (at_tick g2 g3 g4 g5 g6)
        have hq := eql_func60
        try unfold clo at hlk
        have hcall := single1_calls k 2 g2 g 1 1 a nn true W2 hg2 hK2.k2 x1 hx
        clear hnew hK1 hg1 hB1 hrow1 hb2 hg2
        simp only [List.length_cons, List.length_nil, Nat.reduceAdd]
        go_wp2_with fail
        refine hcall.mono ?_
        clear hcall hlk hq
        rintro e3 W3 ⟨rfl, hb3⟩
        have hK3 := hK2.below hb3
        have hB3 : Below w.heap.size w W3 := hB2.trans (hb3.mono hB2.size)
        have hrow3 := pw_own_below hrow2 hb3
        clear hK2 hB2 hrow2 hb3 x0 x1
        have hrowX := (hrow3.alloc (.cells #[.int .i64 2, .string ⟨#[]⟩, .int .i64 nn, .slice none 0 0] 34)).alloc (.cells #[.int .i64 2, .string ⟨#[]⟩, .int .i64 nn, .slice none 0 0] 34)
        have hKX := (hK3.below ((Below.refl _ W3).alloc (Nat.le_refl _) (.cells #[.int .i64 2, .string ⟨#[]⟩, .int .i64 nn, .slice none 0 0] 34))).below ((Below.refl _ (W3.alloc (.cells #[.int .i64 2, .string ⟨#[]⟩, .int .i64 nn, .slice none 0 0] 34))).alloc (Nat.le_refl _) (.cells #[.int .i64 2, .string ⟨#[]⟩, .int .i64 nn, .slice none 0 0] 34))
        have hBX : Below w.heap.size w ((W3.alloc (.cells #[.int .i64 2, .string ⟨#[]⟩, .int .i64 nn, .slice none 0 0] 34)).alloc (.cells #[.int .i64 2, .string ⟨#[]⟩, .int .i64 nn, .slice none 0 0] 34)) := (hB3.alloc hB3.size _).alloc (by have := hB3.size; simp; omega) _
        go_wp2_with (at_builtin; refine wpList_append_own _ rfl _ _ 35 rfl w.heap.size 34 i0 (.agg #[.int .i64 0, .string ⟨#[]⟩, .int .i64 0, .slice none 0 0]) 4 56 Tryd.underlying35 hi hz0 hz1 hz2 rfl (by decide) _ _ _ rfl hrowX ⟨W3.heap.size + 1, 0, none⟩ 1 1 [.int .i64 2, .string ⟨#[]⟩, .int .i64 nn, .slice none 0 0] rfl rfl (fun j u hu => by have h4 := cells_new (W3.alloc (.cells #[.int .i64 2, .string ⟨#[]⟩, .int .i64 nn, .slice none 0 0] 34)) #[.int .i64 2, .string ⟨#[]⟩, .int .i64 nn, .slice none 0 0] 34 j; rw [World.size_alloc] at h4; rw [h4]; simpa using hu) (by simp [Value.oneCell']) (by simp only [maxLen]; omega) (by omega) hBX.size ?_; intro v4 W4 hown4 hgr4 _)
        have hK4 := hKX.grown hgr4 (fun q hq => own_typed hrowX q hq)
        have hB4 := hBX.grown hgr4 hBX.size (fun q hq => own_base hrowX q hq)
        clear hKX hBX hrowX hK3 hB3 hrow3
        go_roundw
        case rel => exact ⟨j + 1, by omega, rfl, by push_cast; rfl, ⟨_, hown4⟩, hK4, hB4⟩
        case measure => simp [Lib.intOf]; omega
      | sync =>
        obtain ⟨W2, hW2⟩ : ∃ W2, W1.alloc (.cells #[.string ⟨#[115, 121, 110, 99]⟩] 9) = W2 := ⟨_, rfl⟩
        have hW2' : W1.alloc (.cells (List.map Value.string [⟨#[115, 121, 110, 99]⟩]).toArray 9) = W2 := hW2
        rw [hW2']
        clear hW2'
        have hb2 : Below W1.heap.size W1 W2 := by rw [← hW2]; exact (Below.refl _ W1).alloc (Nat.le_refl _) _
        have hnew : W2.heap[W1.heap.size]? = some (.cells #[.string ⟨#[115, 121, 110, 99]⟩] 9 (0, 0)) := by rw [← hW2]; exact blk_new W1 _
        clear hW2
        generalize W1.heap.size = g at hnew ⊢
        have x0 : W2.cell? ⟨g, 0, none⟩ = some (.string ⟨#[115, 121, 110, 99]⟩) := (blk_cell hnew 0).trans rfl
        have hK2 := hK1.below hb2
        have hg2 := hg1.below hb2
        have hB2 : Below w.heap.size w W2 := hB1.trans (hb2.mono hB1.size)
        have hrow2 := pw_own_below hrow1 hb2
        have hlk := look_at hK2 ⟨#[115, 121, 110, 99]⟩ (by decide) _ (at_sync g2 g3 g4 g5 g6)
        have hq := eql_func60
        try unfold clo at hlk
        have hcall := plain1_calls 3 g3 (some ⟨g, 0, none⟩) 0 W2 hK2.k3
        clear hnew hK1 hg1 hB1 hrow1 hb2 hg2
        simp only [List.length_cons, List.length_nil, Nat.reduceAdd]
        go_wp2_with fail
        refine hcall.mono ?_
        clear hcall hlk hq
        rintro e3 W3 ⟨rfl, hb3⟩
        have hK3 := hK2.below hb3
        have hB3 : Below w.heap.size w W3 := hB2.trans (hb3.mono hB2.size)
        have hrow3 := pw_own_below hrow2 hb3
        clear hK2 hB2 hrow2 hb3 x0
        have hrowX := (hrow3.alloc (.cells #[.int .i64 3, .string ⟨#[]⟩, .int .i64 0, .slice none 0 0] 34)).alloc (.cells #[.int .i64 3, .string ⟨#[]⟩, .int .i64 0, .slice none 0 0] 34)
        have hKX := (hK3.below ((Below.refl _ W3).alloc (Nat.le_refl _) (.cells #[.int .i64 3, .string ⟨#[]⟩, .int .i64 0, .slice none 0 0] 34))).below ((Below.refl _ (W3.alloc (.cells #[.int .i64 3, .string ⟨#[]⟩, .int .i64 0, .slice none 0 0] 34))).alloc (Nat.le_refl _) (.cells #[.int .i64 3, .string ⟨#[]⟩, .int .i64 0, .slice none 0 0] 34))
        have hBX : Below w.heap.size w ((W3.alloc (.cells #[.int .i64 3, .string ⟨#[]⟩, .int .i64 0, .slice none 0 0] 34)).alloc (.cells #[.int .i64 3, .string ⟨#[]⟩, .int .i64 0, .slice none 0 0] 34)) := (hB3.alloc hB3.size _).alloc (by have := hB3.size; simp; omega) _
        go_wp2_with (at_builtin; refine wpList_append_own _ rfl _ _ 35 rfl w.heap.size 34 i0 (.agg #[.int .i64 0, .string ⟨#[]⟩, .int .i64 0, .slice none 0 0]) 4 56 Tryd.underlying35 hi hz0 hz1 hz2 rfl (by decide) _ _ _ rfl hrowX ⟨W3.heap.size + 1, 0, none⟩ 1 1 [.int .i64 3, .string ⟨#[]⟩, .int .i64 0, .slice none 0 0] rfl rfl (fun j u hu => by have h4 := cells_new (W3.alloc (.cells #[.int .i64 3, .string ⟨#[]⟩, .int .i64 0, .slice none 0 0] 34)) #[.int .i64 3, .string ⟨#[]⟩, .int .i64 0, .slice none 0 0] 34 j; rw [World.size_alloc] at h4; rw [h4]; simpa using hu) (by simp [Value.oneCell']) (by simp only [maxLen]; omega) (by omega) hBX.size ?_; intro v4 W4 hown4 hgr4 _)
        have hK4 := hKX.grown hgr4 (fun q hq => own_typed hrowX q hq)
        have hB4 := hBX.grown hgr4 hBX.size (fun q hq => own_base hrowX q hq)
        clear hKX hBX hrowX hK3 hB3 hrow3
        go_roundw
        case rel => exact ⟨j + 1, by omega, rfl, by push_cast; rfl, ⟨_, hown4⟩, hK4, hB4⟩
        case measure => simp [Lib.intOf]; omega
    · obtain rfl : j = n := by omega
      clear hl hlt
      rcases hend with h0 | ⟨rest, hL⟩
      · have hne : (!(ss j).toList.isEmpty) = false := by rw [h0]; rfl
        go_wp2_with fail
        rw [Exit.noGoto_ret]
        refine bodyPost_ret (results_tmp3 rfl _ _ _) rfl ?_
        exact ⟨⟨fun _ => ⟨oA, oC, rfl⟩, fun h => absurd h0 h⟩, hb⟩
      · obtain ⟨first, hcut, hf1, hsp, hcnt⟩ := hL.cut
        have hne : (!(ss j).toList.isEmpty) = true := by rw [Bool.not_eq_true']; exact List.isEmpty_eq_false_iff.2 hL.ne
        have HNE := Aside0.mk hL.ne
        have hcutC := Tryd.strings_Cut (ss j) ⟨#[10]⟩ m wr (by have := hL.short; omega) hm
        rw [show (⟨#[10]⟩ : ByteArray).data.toList = [10] from rfl, hcut] at hcutC
        have HSP := Aside0.mk hsp
        have HCN := Aside0.mk hcnt
        clear hL hcut hsp hcnt
        go_wp2_with fail
        refine hcutC.mono ?_
        clear hcutC
        rintro e1 W1 ⟨rfl, nd, hW1⟩
        have hb1 : Below wr.heap.size wr W1 := by rw [hW1]; exact pw_below_drewN (Below.refl _ wr) nd
        clear hW1
        have hK1 := hK.below hb1
        have hm1 := Gl.cell hb1 hm
        have hB1 : Below w.heap.size w W1 := hb.trans (hb1.mono hb.size)
        clear hb1 hK hgr hm hb hrow
        go_wp2_with fail
        refine (Tryd.strings_Split first ⟨#[32]⟩ m W1 (by omega) hm1 (by decide)).mono ?_
        rintro e2 W2' ⟨rfl, rfl⟩
        clear hm1
        rw [HSP.out, HCN.out]
        clear HSP HCN
        obtain ⟨W2, hW2⟩ : ∃ W2, W1.alloc (.cells #[.string ⟨#[115, 105, 110, 107]⟩] 9) = W2 := ⟨_, rfl⟩
        have hW2' : W1.alloc (.cells (List.map Value.string [⟨#[115, 105, 110, 107]⟩]).toArray 9) = W2 := hW2
        rw [hW2']
        clear hW2'
        have hb2 : Below W1.heap.size W1 W2 := by rw [← hW2]; exact (Below.refl _ W1).alloc (Nat.le_refl _) _
        have hnew : W2.heap[W1.heap.size]? = some (.cells #[.string ⟨#[115, 105, 110, 107]⟩] 9 (0, 0)) := by rw [← hW2]; exact blk_new W1 _
        clear hW2
        generalize W1.heap.size = g at hnew ⊢
        have x0 : W2.cell? ⟨g, 0, none⟩ = some (.string ⟨#[115, 105, 110, 107]⟩) := (blk_cell hnew 0).trans rfl
        have hK2 := hK1.below hb2
        have hB2 : Below w.heap.size w W2 := hB1.trans (hb2.mono hB1.size)
        have hlk := look_at hK2 ⟨#[115, 105, 110, 107]⟩ (by decide) _ (at_sink g2 g3 g4 g5 g6)
        have hq := eql_nil60
        clear hnew hK1 hB1 hb2 hK2
        simp only [List.length_cons, List.length_nil, Nat.reduceAdd]
        go_wp2_with fail
        rw [Exit.noGoto_ret]
        refine bodyPost_ret (results_tmp3 rfl _ _ _) rfl ?_
        exact ⟨⟨fun h => absurd h HNE.out, fun _ => rfl⟩, hB2⟩
end Go.Proofs.YtlafglenafmhbaaDoor
