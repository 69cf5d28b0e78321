/-
  What is told of none; a new ring, gone over.
-/
import Derived.Test.YthiajgkifoimcaaRa
namespace Go.Proofs.Ythiajgkifoimcaa
open Go.RowKit
set_option linter.unusedVariables false
set_option linter.unusedSimpArgs false

/-- No ring: nil, or one that was not made. -/
def Nil (w : World) (a : Option Addr) : Prop := a = none ∨ ∃ b, a = some ⟨b, 0, none⟩ ∧ b < w.heap.size ∧ w.cell? ⟨b, 3, none⟩ = some (.int .i64 0)
theorem Nil.below {w w' : World} {a : Option Addr} (h : Nil w a) (hb : Below w.heap.size w w') : Nil w' a := by
  rcases h with h | ⟨b, e, hl, hc⟩
  · exact .inl h
  · exact .inr ⟨b, e, Nat.lt_of_lt_of_le hl hb.size, (hb.cell (p := ⟨b, 3, none⟩) hl).trans hc⟩
theorem none_any (a : Option Addr) (w : World) (h : Nil w a) : Calls Try.prog 24 #[.pointer a] w fun e w' => e = .returned (.bool true) ∧ w = w' := by
  rcases h with rfl | ⟨b, rfl, hl, hc⟩
  · exact none_nil w
  · exact none_some b 0 w hc
theorem First_nil (a : Option Addr) (w : World) (h : Nil w a) : Calls Try.prog 14 #[.pointer a] w fun e w' => e = .returned (.int .u64 0) ∧ w = w' := by
  have HN := Lib.hid (none_any a w h)
  clear h
  go_enter Try.func14, Try.ntmps14
  go_wp2_with (go_at_call 24; refine HN.out.mono ?_; rintro e w' ⟨rfl, rfl⟩)
  go_ret
  exact ⟨rfl, rfl⟩
theorem Next_nil (a : Option Addr) (w : World) (h : Nil w a) : Calls Try.prog 11 #[.pointer a] w fun e w' => e = .returned (.int .u64 0) ∧ w = w' := by
  have HN := Lib.hid (none_any a w h)
  clear h
  go_enter Try.func11, Try.ntmps11
  go_wp2_with (go_at_call 24; refine HN.out.mono ?_; rintro e w' ⟨rfl, rfl⟩)
  go_ret
  exact ⟨rfl, rfl⟩
theorem Len_nil (a : Option Addr) (w : World) (h : Nil w a) : Calls Try.prog 13 #[.pointer a] w fun e w' => e = .returned (.int .i64 0) ∧ w = w' := by
  have H1 := Lib.hid (First_nil a w h)
  have H2 := Lib.hid (Next_nil a w h)
  clear h
  go_enter Try.func13, Try.ntmps13
  go_wp2_with (first | (go_at_call 14; refine H1.out.mono ?_; rintro e w' ⟨rfl, rfl⟩) | (go_at_call 11; refine H2.out.mono ?_; rintro e w' ⟨rfl, rfl⟩))
  go_ret
  exact ⟨rfl, rfl⟩
theorem Copy_nil (a : Option Addr) (w : World) (h : Nil w a) : Calls Try.prog 19 #[.pointer a] w fun e w' => e = .returned (.pointer none) ∧ w = w' := by
  have HN := Lib.hid (none_any a w h)
  clear h
  go_enter Try.func19, Try.ntmps19
  go_wp2_with (go_at_call 24; refine HN.out.mono ?_; rintro e w' ⟨rfl, rfl⟩)
  go_ret
  exact ⟨rfl, rfl⟩
theorem told_nil (a : Option Addr) (at' : Int) (f : Value) (w : World) (h : Nil w a) : Calls Try.prog 27 #[.pointer a, .int .u64 at', f] w fun e w' => e = .returned (.tuple #[.int .i64 0, .bool false]) ∧ w = w' := by
  have HN := Lib.hid (none_any a w h)
  clear h
  go_enter Try.func27, Try.ntmps27
  go_wp2_with (go_at_call 24; refine HN.out.mono ?_; rintro e w' ⟨rfl, rfl⟩)
  go_ret2
  exact ⟨rfl, rfl⟩
theorem Drop_nil (a : Option Addr) (w : World) (h : Nil w a) : Calls Try.prog 12 #[.pointer a] w fun e w' => e = .returned (.tuple #[.int .i64 0, .bool false]) ∧ w = w' := by
  have H1 := Lib.hid (First_nil a w h)
  have H2 := Lib.hid (told_nil a 0 (.func (.func 28) #[.pointer a] #[]) w h)
  clear h
  go_enter Try.func12, Try.ntmps12
  go_wp2_with (first | (go_at_call 14; refine H1.out.mono ?_; rintro e w' ⟨rfl, rfl⟩) | (go_at_call 27; refine H2.out.mono ?_; rintro e w' ⟨rfl, rfl⟩))
  go_ret2
  exact ⟨rfl, rfl⟩
theorem Get_nil (a : Option Addr) (at' : Int) (w : World) (h : Nil w a) : Calls Try.prog 15 #[.pointer a, .int .u64 at'] w fun e w' => e = .returned (.tuple #[.int .i64 0, .bool false]) ∧ w = w' := by
  have H2 := Lib.hid (told_nil a at' (.func (.func 28) #[.pointer a] #[]) w h)
  clear h
  go_enter Try.func15, Try.ntmps15
  go_wp2_with (go_at_call 27; refine H2.out.mono ?_; rintro e w' ⟨rfl, rfl⟩)
  go_ret2
  exact ⟨rfl, rfl⟩
theorem Set_nil (a : Option Addr) (at' v : Int) (w : World) (h : Nil w a) : Calls Try.prog 22 #[.pointer a, .int .u64 at', .int .i64 v] w fun e w' => e = .returned (.tuple #[.int .i64 0, .bool false]) ∧ w = w' := by
  have H2 := Lib.hid (told_nil a at' (.func (.func 28) #[.pointer a] #[]) w h)
  clear h
  go_enter Try.func22, Try.ntmps22
  go_wp2_with (go_at_call 27; refine H2.out.mono ?_; rintro e w' ⟨rfl, rfl⟩)
  go_ret2
  exact ⟨rfl, rfl⟩
theorem Put_nil (a : Option Addr) (v : Int) (w : World) (h : Nil w a) : Calls Try.prog 10 #[.pointer a, .int .i64 v] w fun e w' => e = .returned (.tuple #[.int .u64 0, .int .i64 0, .bool false, .int .i64 1]) ∧ w = w' := by
  have HN := Lib.hid (none_any a w h)
  clear h
  go_enter Try.func10, Try.ntmps10
  go_wp2
  refine wp_scope_fwd 0 rfl ?_
  go_wp2_with (go_at_call 24; refine HN.out.mono ?_; rintro e w' ⟨rfl, rfl⟩)
  refine wp_goto ?_
  refine ⟨rfl, ?_⟩
  go_wp2
  try rw [Exit.noGoto_ret]
  refine bodyPost_ret (results_tmp4 rfl _ _ _) rfl ?_
  exact ⟨rfl, rfl⟩
set_option maxHeartbeats 1600000 in
theorem From_nil (a : Option Addr) (at' : Int) (w : World) (h : Nil w a) (h0 : 0 ≤ at') : Calls Try.prog 23 #[.pointer a, .int .u64 at'] w fun e w' =>
    ∃ C, e = .returned (.func (.func 37) #[] #[.pointer (some ⟨w.heap.size, 0, none⟩), .pointer (some ⟨C, 0, none⟩)]) ∧ w'.cell? ⟨w.heap.size, 0, none⟩ = some (.slice none 0 0) ∧ w.heap.size < w'.heap.size ∧ Below w.heap.size w w' := by
  have hb1 := (Below.refl _ w).alloc (Nat.le_refl _) (.cells #[.slice none 0 0] 23)
  have hb2 := hb1.alloc (by simp) (.cells #[.int .u64 at'] 22)
  have hk := alloc_blk (alloc_blk_new w (.cells #[.slice none 0 0] 23)) (.cells #[.int .u64 at'] 22)
  have H1 := Lib.hid (First_nil a _ (h.below hb1))
  have H2 := Lib.hid (Next_nil a _ (h.below hb2))
  have HB := Lib.hid hb2
  have HK := Lib.hid hk
  clear h hb1 hb2 hk
  rcases (show at' = 0 ∨ 0 < at' by omega) with rfl | hp
  · go_enter Try.func23, Try.ntmps23
    go_wp2_with (go_at_call 14; refine H1.out.mono ?_; rintro e w' ⟨rfl, rfl⟩)
    refine wp_loop_rounds 1 ?_
    rw [rounds_succ]
    go_wp2_with (go_at_call 11; refine H2.out.mono ?_; rintro e w' ⟨rfl, rfl⟩)
    go_ret
    exact ⟨_, rfl, cell_blk HK.out 0 _ rfl, by simp; omega, HB.out⟩
  · have hd : decide (at' < 0) = false := by simp; omega
    go_enter Try.func23, Try.ntmps23
    go_wp2_with (go_at_call 14; refine H1.out.mono ?_; rintro e w' ⟨rfl, rfl⟩)
    refine wp_loop_rounds 1 ?_
    rw [rounds_succ]
    go_wp2_with (go_at_call 11; refine H2.out.mono ?_; rintro e w' ⟨rfl, rfl⟩)
    go_ret
    exact ⟨_, rfl, cell_blk HK.out 0 _ rfl, by simp; omega, HB.out⟩
set_option maxHeartbeats 1600000 in
theorem From_new (base p : Nat) (m : Int) (sv : Value) (w : World) (h : Ring w base p 5 m sv []) : Calls Try.prog 23 #[.pointer (some ⟨p, 0, none⟩), .int .u64 0] w fun e w' =>
    ∃ C, e = .returned (.func (.func 37) #[] #[.pointer (some ⟨w.heap.size, 0, none⟩), .pointer (some ⟨C, 0, none⟩)]) ∧ w'.cell? ⟨w.heap.size, 0, none⟩ = some (.slice none 0 0) ∧ w.heap.size < w'.heap.size ∧ Below w.heap.size w w' := by
  have hb1 := (Below.refl _ w).alloc (Nat.le_refl _) (.cells #[.slice none 0 0] 23)
  have hb2 := hb1.alloc (by simp) (.cells #[.int .u64 5] 22)
  have hk := alloc_blk (alloc_blk_new w (.cells #[.slice none 0 0] 23)) (.cells #[.int .u64 5] 22)
  have H1 := Lib.hid (First_ring base p 5 m sv [] _ (h.below hb1))
  have H2 := Lib.hid (Next_ring base p 5 m sv [] _ (h.below hb2))
  have HB := Lib.hid hb2
  have HK := Lib.hid hk
  clear h hb1 hb2 hk
  go_enter Try.func23, Try.ntmps23
  go_wp2_with (go_at_call 14; refine H1.out.mono ?_; rintro e w' ⟨rfl, rfl⟩)
  refine wp_loop_rounds 1 ?_
  rw [rounds_succ]
  go_wp2_with (go_at_call 11; refine H2.out.mono ?_; rintro e w' ⟨rfl, rfl⟩)
  go_ret
  exact ⟨_, rfl, cell_blk HK.out 0 _ rfl, by simp; omega, HB.out⟩
set_option maxHeartbeats 1600000 in
set_option maxRecDepth 100000 in
/-- Same, where the second is none: is the first? -/
theorem Same_none (a c : Option Addr) (b : Bool) (w : World) (h : ∀ W, Below w.heap.size w W → Calls Try.prog 24 #[.pointer a] W fun e w' => e = .returned (.bool b) ∧ W = w') (h2 : Nil w c) : Calls Try.prog 21 #[.pointer a, .pointer c] w fun e w' => e = .returned (.bool b) ∧ Below w.heap.size w w' := by
  have hb1 := (Below.refl _ w).alloc (Nat.le_refl _) (.cells #[.pointer c] 25)
  have hb2 := hb1.alloc (by simp) (.cells #[.bool false] 4)
  have hb3 := hb1.alloc (by simp) (.cells #[.bool b] 4)
  have HB := Lib.hid hb3
  have HA := Lib.hid (h _ hb2)
  have HC := Lib.hid (none_any c _ (h2.below hb2))
  clear h h2 hb1 hb2 hb3
  refine (callsIn_wide (n := 5)).1 ?_
  refine callsIn_of_wp_marks Try.func21 rfl trivial ?_ rfl
  simp only [Try.ntmps21, List.size_toArray, List.length_cons, List.length_nil, Nat.reduceAdd, Nat.reduceSub, Array.replicate_succ, Array.replicate_zero, List.push_toArray, List.append_toArray, List.nil_append, List.cons_append]
  refine wpIn_wide.2 ?_
  cases b with
  | true =>
    go_wp2_with fail
    refine HA.out.mono ?_
    rintro e w' ⟨rfl, rfl⟩
    go_wp2_with fail
    refine HA.out.mono ?_
    rintro e w' ⟨rfl, rfl⟩
    go_wp2_with fail
    refine HC.out.mono ?_
    rintro e w' ⟨rfl, rfl⟩
    go_wp2_with fail
    refine ⟨.bool true, ?_, rfl, HB.out⟩
    simp [results, Try.f21, go_sem]
  | false =>
    go_wp2_with fail
    refine HA.out.mono ?_
    rintro e w' ⟨rfl, rfl⟩
    go_wp2_with fail
    refine HC.out.mono ?_
    rintro e w' ⟨rfl, rfl⟩
    go_wp2_with fail
    refine HA.out.mono ?_
    rintro e w' ⟨rfl, rfl⟩
    go_wp2_with fail
    refine ⟨.bool false, ?_, rfl, HB.out⟩
    simp [results, Try.f21, go_sem]
theorem Same_nil (a : Option Addr) (w : World) (h : Nil w a) : Calls Try.prog 21 #[.pointer a, .pointer none] w fun e w' => e = .returned (.bool true) ∧ Below w.heap.size w w' :=
  Same_none a none true w (fun W hW => none_any a W (h.below hW)) (.inl rfl)
theorem Same_one (base p : Nat) (F m : Int) (sv : Value) (L : List Int) (c : Option Addr) (w : World) (h : Ring w base p F m sv L) (h2 : Nil w c) : Calls Try.prog 21 #[.pointer (some ⟨p, 0, none⟩), .pointer c] w fun e w' => e = .returned (.bool false) ∧ Below w.heap.size w w' :=
  Same_none _ c false w (fun W hW => by
    obtain ⟨vs, hr, hl⟩ := h.below hW
    exact none_ring p m W (by have := hl.m1; simp; omega) hr.c3) h2
end Go.Proofs.Ythiajgkifoimcaa
