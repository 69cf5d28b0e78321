/-
  works() answers true.
-/
import Derived.Test.YtkikdpfhcepeaaaL
import Derived.Lib.SlBytesConst
import Derived.Lib.SmallJoins
namespace Go.Proofs.Ytkikdpfhcepeaaa
open Go.RowKit
set_option linter.unusedVariables false
set_option linter.unusedSimpArgs false

/-- Bytes laid out in a block of their own. -/
theorem arg_blk {T : Nat → Prop} {w : World} {b : Nat} {zs : List Int} {fz : Nat × Nat} {e : TypeId} (h : w.heap[b]? = some (.cells (zs.map (Value.int .u8)).toArray e fz)) (hT : T b) : Arg T w (some ⟨b, 0, none⟩) zs.length zs :=
  ⟨rfl, fun _ => ⟨b, 0, rfl, blk_lt h, hT, fun j hj => cell_blk h _ _ (by simp [List.getD, hj])⟩⟩
theorem parts_two {T : Nat → Prop} {w : World} {b : Nat} {a0 a1 : Option Addr} {c0 c1 : Nat} {z0 z1 : List Int} {e : TypeId} {fz : Nat × Nat} (h : w.heap[b]? = some (.cells #[.slice a0 z0.length c0, .slice a1 z1.length c1] e fz)) (hT : T b)
    (h0 : Arg T w a0 z0.length z0) (h1 : Arg T w a1 z1.length z1) (n0 : a0 = none → z0.length = 0 ∧ c0 = 0) (n1 : a1 = none → z1.length = 0 ∧ c1 = 0) : Parts T w (some ⟨b, 0, none⟩) [z0, z1] := fun _ =>
  ⟨b, 0, rfl, blk_lt h, hT, fun j hj => by
    match j, hj with
    | 0, _ => exact ⟨a0, c0, cell_blk h _ _ rfl, h0, n0⟩
    | 1, _ => exact ⟨a1, c1, cell_blk h _ _ rfl, h1, n1⟩⟩
theorem parts_one {T : Nat → Prop} {w : World} {b : Nat} {a0 : Option Addr} {c0 : Nat} {z0 : List Int} {e : TypeId} {fz : Nat × Nat} (h : w.heap[b]? = some (.cells #[.slice a0 z0.length c0] e fz)) (hT : T b)
    (h0 : Arg T w a0 z0.length z0) (n0 : a0 = none → z0.length = 0 ∧ c0 = 0) : Parts T w (some ⟨b, 0, none⟩) [z0] := fun _ =>
  ⟨b, 0, rfl, blk_lt h, hT, fun j hj => by
    match j, hj with
    | 0, _ => exact ⟨a0, c0, cell_blk h _ _ rfl, h0, n0⟩⟩

theorem Arg.keep {T K : Nat → Prop} {n0 : Nat} {w w' : World} {ao : Option Addr} {n : Nat} {zs : List Int} (h : Arg T w ao n zs) (hm : Mod (fun k => ¬ K k ∧ n0 ≤ k) w w') (ht : ∀ k, T k → K k) : Arg T w' ao n zs :=
  h.mod hm fun k hk e => e.1 (ht k hk)
/-- What is made ahead of a step is none of the step's. -/
theorem Mod.since {K : Nat → Prop} {n0 : Nat} {w w1 w2 : World} (hb : Below w.heap.size w w1) (hm : Mod (fun k => ¬ More K w w1 k ∧ n0 ≤ k) w1 w2) : Mod (fun k => ¬ K k ∧ n0 ≤ k) w w2 :=
  Mod.trans (Mod.of_below hb _) hm fun k hk e => ⟨fun e' => e.1 (.inl e'), e.2⟩

/-- Push("ab", "c"), and Push("de"), laid out. -/
theorem lay_abc {w w1 : World} {K : Nat → Prop} {p : Nat} (h : QS w K p 4 [] w1) : Calls Try.prog 11 #[.pointer (some ⟨p, 0, none⟩), .slice (some ⟨w1.heap.size + 2, 0, none⟩) 2 2] (((w1.alloc (.cells #[.int .u8 97, .int .u8 98] 5 (2, 3))).alloc (.cells #[.int .u8 99] 5 (1, 2))).alloc (.cells #[.slice (some ⟨w1.heap.size, 0, none⟩) 2 2, .slice (some ⟨w1.heap.size + 1, 0, none⟩) 1 1] 29)) fun e w' => e = .returned (.int .i64 0) ∧ QS w K p 4 [97, 98, 99] w' ∧ Mod (fun k => ¬ K k ∧ w.heap.size ≤ k) w1 w' := by
  have b0 := alloc_blk (alloc_blk (alloc_blk_new w1 (.cells #[.int .u8 97, .int .u8 98] 5 (2, 3))) (.cells #[.int .u8 99] 5 (1, 2))) (.cells #[.slice (some ⟨w1.heap.size, 0, none⟩) 2 2, .slice (some ⟨w1.heap.size + 1, 0, none⟩) 1 1] 29)
  have b1 := alloc_blk (alloc_blk_new (w1.alloc (.cells #[.int .u8 97, .int .u8 98] 5 (2, 3))) (.cells #[.int .u8 99] 5 (1, 2))) (.cells #[.slice (some ⟨w1.heap.size, 0, none⟩) 2 2, .slice (some ⟨w1.heap.size + 1, 0, none⟩) 1 1] 29)
  have b2 := alloc_blk_new ((w1.alloc (.cells #[.int .u8 97, .int .u8 98] 5 (2, 3))).alloc (.cells #[.int .u8 99] 5 (1, 2))) (.cells #[.slice (some ⟨w1.heap.size, 0, none⟩) 2 2, .slice (some ⟨w1.heap.size + 1, 0, none⟩) 1 1] 29)
  simp only [World.size_alloc] at b1 b2
  have hb := (((Below.refl _ w1).alloc (Nat.le_refl _) (.cells #[.int .u8 97, .int .u8 98] 5 (2, 3))).alloc (by simp) (.cells #[.int .u8 99] 5 (1, 2))).alloc (by simp; omega) (.cells #[.slice (some ⟨w1.heap.size, 0, none⟩) 2 2, .slice (some ⟨w1.heap.size + 1, 0, none⟩) 1 1] 29)
  refine ((h.grow hb).push_ok _ _ 2 [[97, 98], [99]] rfl (by decide) (by decide) (parts_two b2 (.inr (.inr ⟨by omega, by simp⟩)) (arg_blk (zs := [97, 98]) b0 (.inr (.inr ⟨Nat.le_refl _, by simp; omega⟩))) (arg_blk (zs := [99]) b1 (.inr (.inr ⟨by omega, by simp⟩))) (by simp) (by simp)) (by decide) _ rfl).mono ?_
  rintro e w' ⟨rfl, h1, h2⟩
  exact ⟨rfl, h1.mono fun _ e => .inl e, h2.since hb⟩
theorem lay_de_no {w w1 : World} {K : Nat → Prop} {p : Nat} (h : QS w K p 4 [97, 98, 99] w1) : Calls Try.prog 11 #[.pointer (some ⟨p, 0, none⟩), .slice (some ⟨w1.heap.size + 1, 0, none⟩) 1 1] ((w1.alloc (.cells #[.int .u8 100, .int .u8 101] 5 (2, 3))).alloc (.cells #[.slice (some ⟨w1.heap.size, 0, none⟩) 2 2] 29)) fun e w' => e = .returned (.int .i64 120) ∧ QS w K p 4 [97, 98, 99] w' ∧ Mod (fun k => ¬ K k ∧ w.heap.size ≤ k) w1 w' := by
  have b0 := alloc_blk (alloc_blk_new w1 (.cells #[.int .u8 100, .int .u8 101] 5 (2, 3))) (.cells #[.slice (some ⟨w1.heap.size, 0, none⟩) 2 2] 29)
  have b1 := alloc_blk_new (w1.alloc (.cells #[.int .u8 100, .int .u8 101] 5 (2, 3))) (.cells #[.slice (some ⟨w1.heap.size, 0, none⟩) 2 2] 29)
  simp only [World.size_alloc] at b1
  have hb := ((Below.refl _ w1).alloc (Nat.le_refl _) (.cells #[.int .u8 100, .int .u8 101] 5 (2, 3))).alloc (by simp) (.cells #[.slice (some ⟨w1.heap.size, 0, none⟩) 2 2] 29)
  refine ((h.grow hb).push_no _ _ 1 [[100, 101]] rfl (by decide) (by decide) (parts_one b1 (.inr (.inr ⟨by omega, by simp⟩)) (arg_blk (zs := [100, 101]) b0 (.inr (.inr ⟨Nat.le_refl _, by simp; omega⟩))) (by simp)) (by decide)).mono ?_
  rintro e w' ⟨rfl, h1, h2⟩
  exact ⟨rfl, h1.mono fun _ e => .inl e, h2.since hb⟩
theorem lay_de {w w1 : World} {K : Nat → Prop} {p : Nat} (h : QS w K p 4 [99] w1) : Calls Try.prog 11 #[.pointer (some ⟨p, 0, none⟩), .slice (some ⟨w1.heap.size + 1, 0, none⟩) 1 1] ((w1.alloc (.cells #[.int .u8 100, .int .u8 101] 5 (2, 3))).alloc (.cells #[.slice (some ⟨w1.heap.size, 0, none⟩) 2 2] 29)) fun e w' => e = .returned (.int .i64 0) ∧ QS w K p 4 [99, 100, 101] w' ∧ Mod (fun k => ¬ K k ∧ w.heap.size ≤ k) w1 w' := by
  have b0 := alloc_blk (alloc_blk_new w1 (.cells #[.int .u8 100, .int .u8 101] 5 (2, 3))) (.cells #[.slice (some ⟨w1.heap.size, 0, none⟩) 2 2] 29)
  have b1 := alloc_blk_new (w1.alloc (.cells #[.int .u8 100, .int .u8 101] 5 (2, 3))) (.cells #[.slice (some ⟨w1.heap.size, 0, none⟩) 2 2] 29)
  simp only [World.size_alloc] at b1
  have hb := ((Below.refl _ w1).alloc (Nat.le_refl _) (.cells #[.int .u8 100, .int .u8 101] 5 (2, 3))).alloc (by simp) (.cells #[.slice (some ⟨w1.heap.size, 0, none⟩) 2 2] 29)
  refine ((h.grow hb).push_ok _ _ 1 [[100, 101]] rfl (by decide) (by decide) (parts_one b1 (.inr (.inr ⟨by omega, by simp⟩)) (arg_blk (zs := [100, 101]) b0 (.inr (.inr ⟨Nat.le_refl _, by simp; omega⟩))) (by simp)) (by decide) _ rfl).mono ?_
  rintro e w' ⟨rfl, h1, h2⟩
  exact ⟨rfl, h1.mono fun _ e => .inl e, h2.since hb⟩

set_option maxHeartbeats 3200000 in
set_option maxRecDepth 100000 in
theorem works_true (w : World) : Calls Try.prog 8 #[] w fun e w' => e = .returned (.bool true) ∧ Below w.heap.size w w' := by
  have HNew := Lib.hid (New_qs 4 w w (by decide) (by decide) (Below.refl _ _))
  have HBad := Lib.hid (fun w => calls_swap (New_bad (-1) w (.inl (by decide))))
  have HNum := Lib.hid num_any
  have kc := fun (W : World) (C : Array Value) (n c : Nat) => Lib.run_convert_bytes_const (P := Try.prog) W 29 5 C n c Try.underlying29 Try.underlying5
  go_enter Try.func8, Try.ntmps8
  go_wp2_with fail
  refine HNew.out.mono ?_
  rintro e w1 ⟨p, rfl, hq, hb, hp⟩
  have kc2 := Joins.run_convert_bytes_const_at (P := Try.prog) (w1.alloc (.cells #[.int .u8 97, .int .u8 98] 5 (2, 3))) 29 5 #[.int .u8 99] 1 1 (w1.heap.size + 1) (by simp) Try.underlying29 Try.underlying5
  have Q1 := Lib.hid (hq.mono (L := fun _ => False) (fun k e => e.elim))
  clear hq hb HNew
  go_wp2_with fail
  refine (lay_abc Q1.out).mono ?_
  rintro e w2 ⟨rfl, hq, _⟩
  have Q2 := Lib.hid hq
  clear hq Q1 kc2
  go_wp2_with fail
  refine (lay_de_no Q2.out).mono ?_
  rintro e w3 ⟨rfl, hq, _⟩
  have Q3 := Lib.hid hq
  clear hq Q2
  go_wp2_with fail
  refine (Q3.out.take 2 (by decide) 2 rfl [97, 98] [99] rfl rfl).mono ?_
  rintro e w4 ⟨a4, c4, rfl, hr, hq, _⟩
  obtain ⟨_, hA, hn⟩ := row_arg hr
  obtain ⟨K4, hK4⟩ : ∃ K, K = More (fun _ => False) w3 w4 := ⟨_, rfl⟩
  have R4 := Lib.hid (hA.mono (U := K4) fun k h1 h2 => by rw [hK4]; exact .inr ⟨h2, h1⟩)
  have N4 := Lib.hid hn
  rw [← hK4] at hq
  have Q4 := Lib.hid hq
  clear hr hq Q3 hA hn hK4
  go_wp2_with fail
  refine (lay_de Q4.out).mono ?_
  rintro e w5 ⟨rfl, hq, hm⟩
  have Q5 := Lib.hid hq
  have R5 := Lib.hid (R4.out.keep hm (fun _ e => e))
  clear hq hm Q4 R4
  go_wp2_with fail
  refine (Q5.out.peek 9 (by decide) 3 rfl [99, 100, 101] rfl).mono ?_
  rintro e w6 ⟨a6, c6, rfl, hr, hq, hb⟩
  obtain ⟨_, hA, hn⟩ := row_arg hr
  obtain ⟨K6, hK6⟩ : ∃ K, K = More K4 w5 w6 := ⟨_, rfl⟩
  have R6 := Lib.hid ((R5.out.below hb).mono (U := K6) (fun k h1 h2 => by rw [hK6]; exact .inl h2))
  have S6 := Lib.hid (hA.mono (U := K6) fun k h1 h2 => by rw [hK6]; exact .inr ⟨h2, h1⟩)
  have N6 := Lib.hid hn
  rw [← hK6] at hq
  have Q6 := Lib.hid hq
  clear hr hq hb Q5 R5 hA hn hK6
  go_wp2_with fail
  refine (Q6.out.room).mono ?_
  rintro e w7 ⟨rfl, q7, hw7⟩
  have Q7 : Hid (QS w K6 p 4 [99, 100, 101] w7) := by rw [hw7]; exact Lib.hid (Q6.out.drewN q7)
  have R7 : Hid (Arg K6 w7 a4 2 [97, 98]) := by rw [hw7]; exact Lib.hid (R6.out.drewN q7)
  have S7 : Hid (Arg K6 w7 a6 3 [99, 100, 101]) := by rw [hw7]; exact Lib.hid (S6.out.drewN q7)
  clear hw7 Q6 R6 S6
  go_wp2_with fail
  refine (Q7.out.drop 2 (by decide) 2 rfl [101] rfl).mono ?_
  rintro e w8 ⟨rfl, hq, hm⟩
  have Q8 := Lib.hid hq
  have R8 := Lib.hid (R7.out.keep hm (fun _ e => e))
  have S8 := Lib.hid (S7.out.keep hm (fun _ e => e))
  clear hq hm Q7 R7 S7
  have HD := Lib.hid (calls_swap (Q8.out.drop_bad (-1) (by decide)))
  have cv4 := conv_any c4 R8.out N4.out
  have cv6 := conv_any c6 S8.out N6.out
  simp only [List.length_cons, List.length_nil, Nat.zero_add, Nat.reduceAdd] at cv4 cv6
  rw [show strOfNums [97, 98] = ⟨#[97, 98]⟩ from rfl] at cv4
  rw [show strOfNums [99, 100, 101] = ⟨#[99, 100, 101]⟩ from rfl] at cv6
  have HL := Lib.hid Q8.out.len
  have HB := Lib.hid Q8.out.below
  clear R8 S8 N4 N6
  go_wp2_with (first | (go_at_call 20; refine HD.out.mono ?_; rintro e w' ⟨rfl, rfl⟩) | (go_at_call 9; refine (HBad.out _).mono ?_; rintro e w' ⟨rfl, rfl⟩) | (go_at_call 10; refine (HNum.out _ _).mono ?_; rintro e w' ⟨rfl, rfl⟩) | (go_at_call 13; refine HL.out.mono ?_; rintro e w' ⟨rfl, q9, rfl⟩))
  go_ret
  exact ⟨rfl, HB.out.trans (Below.drewN' _ _ |>.mono HB.out.size)⟩
end Go.Proofs.Ytkikdpfhcepeaaa
