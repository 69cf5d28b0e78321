/-
  The document's first point is the program's.
-/
import Derived.Test.YtfkfooclapogjaaB
namespace Go.Proofs.Ytfkfooclapogjaa
set_option linter.unusedVariables false
set_option linter.unusedSimpArgs false

/-- How many bytes a first one begins, and its bits. -/
def cls (c : Int) : Option (Nat × Int) :=
  if c < 128 then some (1, c) else if 192 ≤ c ∧ c < 224 then some (2, c % 32) else if 224 ≤ c ∧ c < 240 then some (3, c % 16) else if 240 ≤ c ∧ c < 248 then some (4, c % 8) else none
def spanF (zs : List Int) : Nat → Nat → Int → Int → Option (Int × Int)
  | 0, _, l, t => some (l, t)
  | f + 1, k, l, t => if zs.length ≤ k then spanF zs f (k + 1) (64 * l) (64 * t + 63) else if zs.getD k 0 < 128 ∨ 191 < zs.getD k 0 then none else spanF zs f (k + 1) (64 * l + zs.getD k 0 % 64) (64 * t + zs.getD k 0 % 64)
def spanL (zs : List Int) : Option (Nat × Int × Int) :=
  match cls (zs.getD 0 0) with
  | none => none
  | some (m, l) => (spanF zs (m - 1) 1 l l).map fun x => (m, x.1, x.2)
def least (m : Nat) : Int := if m ≤ 1 then 0 else if m = 2 then 128 else if m = 3 then 2048 else 65536
def begL (zs : List Int) : Option Nat :=
  match spanL zs with
  | none => none
  | some (m, l, t) => if m < zs.length then none else if m = 3 ∧ 55296 ≤ max l (least m) ∧ min t 1114111 ≤ 57343 then none else if max l (least m) ≤ min t 1114111 then some m else none
/-- The first point, the document's way. -/
def rf (zs : List Int) : Nat → Nat → Int × Nat × Bool
  | 0, n => (65533, max 1 n, decide (n = 0 ∨ n < zs.length))
  | f + 1, n => if n < zs.length then
      match begL (zs.take (n + 1)) with
      | none => (65533, max 1 n, decide (n = 0 ∨ n < zs.length))
      | some m => if n + 1 = m then (((spanL (zs.take (n + 1))).getD (0, 0, 0)).2.1, n + 1, true) else rf zs f (n + 1)
    else (65533, max 1 n, decide (n = 0 ∨ n < zs.length))

theorem beg_none {b : Int} (hb : 0 ≤ b ∧ b < 256) (h : lead b = none) (r : List Int) : begL [b] = none := by
  have hc : (128 ≤ b ∧ b < 194) ∨ 245 ≤ b := by
    rcases lead_spec b with g | g | g | g | g | g | g | g | g | g
    · unfold lead at g
      repeat' split at g
      all_goals first | omega | simp at g
    all_goals rw [h] at g; simp at g
  unfold begL spanL cls
  simp only [List.getD_cons_zero, List.length_singleton]
  by_cases h1 : b < 192
  · rw [if_neg (by omega), if_neg (by omega), if_neg (by omega), if_neg (by omega)]
  by_cases h2 : b < 224
  · rw [if_neg (by omega), if_pos (by omega)]
    simp [spanF, least]
    omega
  by_cases h3 : b < 248
  · rw [if_neg (by omega), if_neg (by omega), if_neg (by omega), if_pos (by omega)]
    simp [spanF, least]
    omega
  · rw [if_neg (by omega), if_neg (by omega), if_neg (by omega), if_neg (by omega)]
theorem cls_0 {b : Int} (h : 0 ≤ b ∧ b ≤ 127) : cls b = some (1, b) := by
  unfold cls
  rw [if_pos (by omega)]
theorem beg_0_1 {b : Int} (h : 0 ≤ b ∧ b ≤ 127) : begL [b] = some 1 := by
  unfold begL spanL
  simp only [List.getD_cons_zero]
  rw [cls_0 h]
  simp [spanF, least]
  try omega
theorem span_0 {b : Int} (h : 0 ≤ b ∧ b ≤ 127) : spanL [b] = some (1, b, b) := by
  unfold spanL
  simp only [List.getD_cons_zero]
  rw [cls_0 h]
  simp [spanF]
theorem cls_1 {b : Int} (h : 194 ≤ b ∧ b ≤ 223) : cls b = some (2, b % 32) := by
  unfold cls
  rw [if_neg (by omega), if_pos (by omega)]
theorem beg_1_1 {b : Int} (h : 194 ≤ b ∧ b ≤ 223) : begL [b] = some 2 := by
  unfold begL spanL
  simp only [List.getD_cons_zero]
  rw [cls_1 h]
  simp [spanF, least]
  try omega
theorem beg_1_2 {b c : Int} (h : 194 ≤ b ∧ b ≤ 223) : begL [b, c] = if 128 ≤ c ∧ c ≤ 191 then some 2 else none := by
  unfold begL spanL
  simp only [List.getD_cons_zero]
  rw [cls_1 h]
  simp only [spanF, least, Nat.reduceSub, Nat.reduceAdd, Nat.reduceLeDiff, List.length_cons, List.length_nil, List.getD_cons_zero, List.getD_cons_succ, Nat.reduceEqDiff, Nat.reduceLT, if_true, if_false]
  by_cases g1 : c < 128 ∨ 191 < c
  · rw [if_pos g1, if_neg (by omega)]; rfl
  rw [if_neg g1]
  simp only [Option.map_some, least, Nat.reduceLeDiff, Nat.reduceEqDiff, Nat.reduceLT, if_true, if_false, true_and, false_and]
  by_cases g2 : 128 ≤ c ∧ c ≤ 191
  · rw [if_pos g2]
    (repeat' split) <;> first | rfl | (exfalso; omega)
  · rw [if_neg g2]
    (repeat' split) <;> first | rfl | (exfalso; omega)
theorem span_1 {b c : Int} (h : 194 ≤ b ∧ b ≤ 223) (hc : 128 ≤ c ∧ c ≤ 191) : spanL [b, c] = some (2, (64 * (b % 32) + c % 64), (64 * (b % 32) + c % 64)) := by
  unfold spanL
  simp only [List.getD_cons_zero]
  rw [cls_1 h]
  simp only [spanF, Nat.reduceSub, Nat.reduceAdd, Nat.reduceLeDiff, List.length_cons, List.length_nil, List.getD_cons_zero, List.getD_cons_succ, if_false]
  rw [if_neg (show ¬ (c < 128 ∨ 191 < c) by omega)]
  rfl
theorem cls_2 {b : Int} (h : 224 ≤ b ∧ b ≤ 224) : cls b = some (3, b % 16) := by
  unfold cls
  rw [if_neg (by omega), if_neg (by omega), if_pos (by omega)]
theorem beg_2_1 {b : Int} (h : 224 ≤ b ∧ b ≤ 224) : begL [b] = some 3 := by
  unfold begL spanL
  simp only [List.getD_cons_zero]
  rw [cls_2 h]
  simp [spanF, least]
  try omega
theorem beg_2_2 {b c : Int} (h : 224 ≤ b ∧ b ≤ 224) : begL [b, c] = if 160 ≤ c ∧ c ≤ 191 then some 3 else none := by
  unfold begL spanL
  simp only [List.getD_cons_zero]
  rw [cls_2 h]
  simp only [spanF, least, Nat.reduceSub, Nat.reduceAdd, Nat.reduceLeDiff, List.length_cons, List.length_nil, List.getD_cons_zero, List.getD_cons_succ, Nat.reduceEqDiff, Nat.reduceLT, if_true, if_false]
  by_cases g1 : c < 128 ∨ 191 < c
  · rw [if_pos g1, if_neg (by omega)]; rfl
  rw [if_neg g1]
  simp only [Option.map_some, least, Nat.reduceLeDiff, Nat.reduceEqDiff, Nat.reduceLT, if_true, if_false, true_and, false_and]
  by_cases g2 : 160 ≤ c ∧ c ≤ 191
  · rw [if_pos g2]
    (repeat' split) <;> first | rfl | (exfalso; omega)
  · rw [if_neg g2]
    (repeat' split) <;> first | rfl | (exfalso; omega)
theorem beg_2_3 {b c d : Int} (h : 224 ≤ b ∧ b ≤ 224) (hc : 160 ≤ c ∧ c ≤ 191) : begL [b, c, d] = if 128 ≤ d ∧ d ≤ 191 then some 3 else none := by
  unfold begL spanL
  simp only [List.getD_cons_zero]
  rw [cls_2 h]
  simp only [spanF, least, Nat.reduceSub, Nat.reduceAdd, Nat.reduceLeDiff, List.length_cons, List.length_nil, List.getD_cons_zero, List.getD_cons_succ, Nat.reduceEqDiff, Nat.reduceLT, if_true, if_false]
  rw [if_neg (show ¬ (c < 128 ∨ 191 < c) by omega)]
  by_cases g1 : d < 128 ∨ 191 < d
  · rw [if_pos g1, if_neg (by omega)]; rfl
  rw [if_neg g1]
  simp only [Option.map_some, least, Nat.reduceLeDiff, Nat.reduceEqDiff, Nat.reduceLT, if_true, if_false, true_and, false_and]
  by_cases g2 : 128 ≤ d ∧ d ≤ 191
  · rw [if_pos g2]
    (repeat' split) <;> first | rfl | (exfalso; omega)
  · rw [if_neg g2]
    (repeat' split) <;> first | rfl | (exfalso; omega)
theorem span_2 {b c d : Int} (h : 224 ≤ b ∧ b ≤ 224) (hc : 128 ≤ c ∧ c ≤ 191) (hd : 128 ≤ d ∧ d ≤ 191) : spanL [b, c, d] = some (3, (64 * ((64 * (b % 16) + c % 64)) + d % 64), (64 * ((64 * (b % 16) + c % 64)) + d % 64)) := by
  unfold spanL
  simp only [List.getD_cons_zero]
  rw [cls_2 h]
  simp only [spanF, Nat.reduceSub, Nat.reduceAdd, Nat.reduceLeDiff, List.length_cons, List.length_nil, List.getD_cons_zero, List.getD_cons_succ, if_false]
  rw [if_neg (show ¬ (c < 128 ∨ 191 < c) by omega)]
  rw [if_neg (show ¬ (d < 128 ∨ 191 < d) by omega)]
  rfl
theorem cls_3 {b : Int} (h : 225 ≤ b ∧ b ≤ 236) : cls b = some (3, b % 16) := by
  unfold cls
  rw [if_neg (by omega), if_neg (by omega), if_pos (by omega)]
theorem beg_3_1 {b : Int} (h : 225 ≤ b ∧ b ≤ 236) : begL [b] = some 3 := by
  unfold begL spanL
  simp only [List.getD_cons_zero]
  rw [cls_3 h]
  simp [spanF, least]
  try omega
theorem beg_3_2 {b c : Int} (h : 225 ≤ b ∧ b ≤ 236) : begL [b, c] = if 128 ≤ c ∧ c ≤ 191 then some 3 else none := by
  unfold begL spanL
  simp only [List.getD_cons_zero]
  rw [cls_3 h]
  simp only [spanF, least, Nat.reduceSub, Nat.reduceAdd, Nat.reduceLeDiff, List.length_cons, List.length_nil, List.getD_cons_zero, List.getD_cons_succ, Nat.reduceEqDiff, Nat.reduceLT, if_true, if_false]
  by_cases g1 : c < 128 ∨ 191 < c
  · rw [if_pos g1, if_neg (by omega)]; rfl
  rw [if_neg g1]
  simp only [Option.map_some, least, Nat.reduceLeDiff, Nat.reduceEqDiff, Nat.reduceLT, if_true, if_false, true_and, false_and]
  by_cases g2 : 128 ≤ c ∧ c ≤ 191
  · rw [if_pos g2]
    (repeat' split) <;> first | rfl | (exfalso; omega)
  · rw [if_neg g2]
    (repeat' split) <;> first | rfl | (exfalso; omega)
theorem beg_3_3 {b c d : Int} (h : 225 ≤ b ∧ b ≤ 236) (hc : 128 ≤ c ∧ c ≤ 191) : begL [b, c, d] = if 128 ≤ d ∧ d ≤ 191 then some 3 else none := by
  unfold begL spanL
  simp only [List.getD_cons_zero]
  rw [cls_3 h]
  simp only [spanF, least, Nat.reduceSub, Nat.reduceAdd, Nat.reduceLeDiff, List.length_cons, List.length_nil, List.getD_cons_zero, List.getD_cons_succ, Nat.reduceEqDiff, Nat.reduceLT, if_true, if_false]
  rw [if_neg (show ¬ (c < 128 ∨ 191 < c) by omega)]
  by_cases g1 : d < 128 ∨ 191 < d
  · rw [if_pos g1, if_neg (by omega)]; rfl
  rw [if_neg g1]
  simp only [Option.map_some, least, Nat.reduceLeDiff, Nat.reduceEqDiff, Nat.reduceLT, if_true, if_false, true_and, false_and]
  by_cases g2 : 128 ≤ d ∧ d ≤ 191
  · rw [if_pos g2]
    (repeat' split) <;> first | rfl | (exfalso; omega)
  · rw [if_neg g2]
    (repeat' split) <;> first | rfl | (exfalso; omega)
theorem span_3 {b c d : Int} (h : 225 ≤ b ∧ b ≤ 236) (hc : 128 ≤ c ∧ c ≤ 191) (hd : 128 ≤ d ∧ d ≤ 191) : spanL [b, c, d] = some (3, (64 * ((64 * (b % 16) + c % 64)) + d % 64), (64 * ((64 * (b % 16) + c % 64)) + d % 64)) := by
  unfold spanL
  simp only [List.getD_cons_zero]
  rw [cls_3 h]
  simp only [spanF, Nat.reduceSub, Nat.reduceAdd, Nat.reduceLeDiff, List.length_cons, List.length_nil, List.getD_cons_zero, List.getD_cons_succ, if_false]
  rw [if_neg (show ¬ (c < 128 ∨ 191 < c) by omega)]
  rw [if_neg (show ¬ (d < 128 ∨ 191 < d) by omega)]
  rfl
theorem cls_4 {b : Int} (h : 237 ≤ b ∧ b ≤ 237) : cls b = some (3, b % 16) := by
  unfold cls
  rw [if_neg (by omega), if_neg (by omega), if_pos (by omega)]
theorem beg_4_1 {b : Int} (h : 237 ≤ b ∧ b ≤ 237) : begL [b] = some 3 := by
  unfold begL spanL
  simp only [List.getD_cons_zero]
  rw [cls_4 h]
  simp [spanF, least]
  try omega
theorem beg_4_2 {b c : Int} (h : 237 ≤ b ∧ b ≤ 237) : begL [b, c] = if 128 ≤ c ∧ c ≤ 159 then some 3 else none := by
  unfold begL spanL
  simp only [List.getD_cons_zero]
  rw [cls_4 h]
  simp only [spanF, least, Nat.reduceSub, Nat.reduceAdd, Nat.reduceLeDiff, List.length_cons, List.length_nil, List.getD_cons_zero, List.getD_cons_succ, Nat.reduceEqDiff, Nat.reduceLT, if_true, if_false]
  by_cases g1 : c < 128 ∨ 191 < c
  · rw [if_pos g1, if_neg (by omega)]; rfl
  rw [if_neg g1]
  simp only [Option.map_some, least, Nat.reduceLeDiff, Nat.reduceEqDiff, Nat.reduceLT, if_true, if_false, true_and, false_and]
  by_cases g2 : 128 ≤ c ∧ c ≤ 159
  · rw [if_pos g2]
    (repeat' split) <;> first | rfl | (exfalso; omega)
  · rw [if_neg g2]
    (repeat' split) <;> first | rfl | (exfalso; omega)
theorem beg_4_3 {b c d : Int} (h : 237 ≤ b ∧ b ≤ 237) (hc : 128 ≤ c ∧ c ≤ 159) : begL [b, c, d] = if 128 ≤ d ∧ d ≤ 191 then some 3 else none := by
  unfold begL spanL
  simp only [List.getD_cons_zero]
  rw [cls_4 h]
  simp only [spanF, least, Nat.reduceSub, Nat.reduceAdd, Nat.reduceLeDiff, List.length_cons, List.length_nil, List.getD_cons_zero, List.getD_cons_succ, Nat.reduceEqDiff, Nat.reduceLT, if_true, if_false]
  rw [if_neg (show ¬ (c < 128 ∨ 191 < c) by omega)]
  by_cases g1 : d < 128 ∨ 191 < d
  · rw [if_pos g1, if_neg (by omega)]; rfl
  rw [if_neg g1]
  simp only [Option.map_some, least, Nat.reduceLeDiff, Nat.reduceEqDiff, Nat.reduceLT, if_true, if_false, true_and, false_and]
  by_cases g2 : 128 ≤ d ∧ d ≤ 191
  · rw [if_pos g2]
    (repeat' split) <;> first | rfl | (exfalso; omega)
  · rw [if_neg g2]
    (repeat' split) <;> first | rfl | (exfalso; omega)
theorem span_4 {b c d : Int} (h : 237 ≤ b ∧ b ≤ 237) (hc : 128 ≤ c ∧ c ≤ 191) (hd : 128 ≤ d ∧ d ≤ 191) : spanL [b, c, d] = some (3, (64 * ((64 * (b % 16) + c % 64)) + d % 64), (64 * ((64 * (b % 16) + c % 64)) + d % 64)) := by
  unfold spanL
  simp only [List.getD_cons_zero]
  rw [cls_4 h]
  simp only [spanF, Nat.reduceSub, Nat.reduceAdd, Nat.reduceLeDiff, List.length_cons, List.length_nil, List.getD_cons_zero, List.getD_cons_succ, if_false]
  rw [if_neg (show ¬ (c < 128 ∨ 191 < c) by omega)]
  rw [if_neg (show ¬ (d < 128 ∨ 191 < d) by omega)]
  rfl
theorem cls_5 {b : Int} (h : 238 ≤ b ∧ b ≤ 239) : cls b = some (3, b % 16) := by
  unfold cls
  rw [if_neg (by omega), if_neg (by omega), if_pos (by omega)]
theorem beg_5_1 {b : Int} (h : 238 ≤ b ∧ b ≤ 239) : begL [b] = some 3 := by
  unfold begL spanL
  simp only [List.getD_cons_zero]
  rw [cls_5 h]
  simp [spanF, least]
  try omega
theorem beg_5_2 {b c : Int} (h : 238 ≤ b ∧ b ≤ 239) : begL [b, c] = if 128 ≤ c ∧ c ≤ 191 then some 3 else none := by
  unfold begL spanL
  simp only [List.getD_cons_zero]
  rw [cls_5 h]
  simp only [spanF, least, Nat.reduceSub, Nat.reduceAdd, Nat.reduceLeDiff, List.length_cons, List.length_nil, List.getD_cons_zero, List.getD_cons_succ, Nat.reduceEqDiff, Nat.reduceLT, if_true, if_false]
  by_cases g1 : c < 128 ∨ 191 < c
  · rw [if_pos g1, if_neg (by omega)]; rfl
  rw [if_neg g1]
  simp only [Option.map_some, least, Nat.reduceLeDiff, Nat.reduceEqDiff, Nat.reduceLT, if_true, if_false, true_and, false_and]
  by_cases g2 : 128 ≤ c ∧ c ≤ 191
  · rw [if_pos g2]
    (repeat' split) <;> first | rfl | (exfalso; omega)
  · rw [if_neg g2]
    (repeat' split) <;> first | rfl | (exfalso; omega)
theorem beg_5_3 {b c d : Int} (h : 238 ≤ b ∧ b ≤ 239) (hc : 128 ≤ c ∧ c ≤ 191) : begL [b, c, d] = if 128 ≤ d ∧ d ≤ 191 then some 3 else none := by
  unfold begL spanL
  simp only [List.getD_cons_zero]
  rw [cls_5 h]
  simp only [spanF, least, Nat.reduceSub, Nat.reduceAdd, Nat.reduceLeDiff, List.length_cons, List.length_nil, List.getD_cons_zero, List.getD_cons_succ, Nat.reduceEqDiff, Nat.reduceLT, if_true, if_false]
  rw [if_neg (show ¬ (c < 128 ∨ 191 < c) by omega)]
  by_cases g1 : d < 128 ∨ 191 < d
  · rw [if_pos g1, if_neg (by omega)]; rfl
  rw [if_neg g1]
  simp only [Option.map_some, least, Nat.reduceLeDiff, Nat.reduceEqDiff, Nat.reduceLT, if_true, if_false, true_and, false_and]
  by_cases g2 : 128 ≤ d ∧ d ≤ 191
  · rw [if_pos g2]
    (repeat' split) <;> first | rfl | (exfalso; omega)
  · rw [if_neg g2]
    (repeat' split) <;> first | rfl | (exfalso; omega)
theorem span_5 {b c d : Int} (h : 238 ≤ b ∧ b ≤ 239) (hc : 128 ≤ c ∧ c ≤ 191) (hd : 128 ≤ d ∧ d ≤ 191) : spanL [b, c, d] = some (3, (64 * ((64 * (b % 16) + c % 64)) + d % 64), (64 * ((64 * (b % 16) + c % 64)) + d % 64)) := by
  unfold spanL
  simp only [List.getD_cons_zero]
  rw [cls_5 h]
  simp only [spanF, Nat.reduceSub, Nat.reduceAdd, Nat.reduceLeDiff, List.length_cons, List.length_nil, List.getD_cons_zero, List.getD_cons_succ, if_false]
  rw [if_neg (show ¬ (c < 128 ∨ 191 < c) by omega)]
  rw [if_neg (show ¬ (d < 128 ∨ 191 < d) by omega)]
  rfl
theorem cls_6 {b : Int} (h : 240 ≤ b ∧ b ≤ 240) : cls b = some (4, b % 8) := by
  unfold cls
  rw [if_neg (by omega), if_neg (by omega), if_neg (by omega), if_pos (by omega)]
theorem beg_6_1 {b : Int} (h : 240 ≤ b ∧ b ≤ 240) : begL [b] = some 4 := by
  unfold begL spanL
  simp only [List.getD_cons_zero]
  rw [cls_6 h]
  simp [spanF, least]
  try omega
theorem beg_6_2 {b c : Int} (h : 240 ≤ b ∧ b ≤ 240) : begL [b, c] = if 144 ≤ c ∧ c ≤ 191 then some 4 else none := by
  unfold begL spanL
  simp only [List.getD_cons_zero]
  rw [cls_6 h]
  simp only [spanF, least, Nat.reduceSub, Nat.reduceAdd, Nat.reduceLeDiff, List.length_cons, List.length_nil, List.getD_cons_zero, List.getD_cons_succ, Nat.reduceEqDiff, Nat.reduceLT, if_true, if_false]
  by_cases g1 : c < 128 ∨ 191 < c
  · rw [if_pos g1, if_neg (by omega)]; rfl
  rw [if_neg g1]
  simp only [Option.map_some, least, Nat.reduceLeDiff, Nat.reduceEqDiff, Nat.reduceLT, if_true, if_false, true_and, false_and]
  by_cases g2 : 144 ≤ c ∧ c ≤ 191
  · rw [if_pos g2]
    (repeat' split) <;> first | rfl | (exfalso; omega)
  · rw [if_neg g2]
    (repeat' split) <;> first | rfl | (exfalso; omega)
theorem beg_6_3 {b c d : Int} (h : 240 ≤ b ∧ b ≤ 240) (hc : 144 ≤ c ∧ c ≤ 191) : begL [b, c, d] = if 128 ≤ d ∧ d ≤ 191 then some 4 else none := by
  unfold begL spanL
  simp only [List.getD_cons_zero]
  rw [cls_6 h]
  simp only [spanF, least, Nat.reduceSub, Nat.reduceAdd, Nat.reduceLeDiff, List.length_cons, List.length_nil, List.getD_cons_zero, List.getD_cons_succ, Nat.reduceEqDiff, Nat.reduceLT, if_true, if_false]
  rw [if_neg (show ¬ (c < 128 ∨ 191 < c) by omega)]
  by_cases g1 : d < 128 ∨ 191 < d
  · rw [if_pos g1, if_neg (by omega)]; rfl
  rw [if_neg g1]
  simp only [Option.map_some, least, Nat.reduceLeDiff, Nat.reduceEqDiff, Nat.reduceLT, if_true, if_false, true_and, false_and]
  by_cases g2 : 128 ≤ d ∧ d ≤ 191
  · rw [if_pos g2]
    (repeat' split) <;> first | rfl | (exfalso; omega)
  · rw [if_neg g2]
    (repeat' split) <;> first | rfl | (exfalso; omega)
theorem beg_6_4 {b c d e : Int} (h : 240 ≤ b ∧ b ≤ 240) (hc : 144 ≤ c ∧ c ≤ 191) (hd : 128 ≤ d ∧ d ≤ 191) : begL [b, c, d, e] = if 128 ≤ e ∧ e ≤ 191 then some 4 else none := by
  unfold begL spanL
  simp only [List.getD_cons_zero]
  rw [cls_6 h]
  simp only [spanF, least, Nat.reduceSub, Nat.reduceAdd, Nat.reduceLeDiff, List.length_cons, List.length_nil, List.getD_cons_zero, List.getD_cons_succ, Nat.reduceEqDiff, Nat.reduceLT, if_true, if_false]
  rw [if_neg (show ¬ (c < 128 ∨ 191 < c) by omega)]
  rw [if_neg (show ¬ (d < 128 ∨ 191 < d) by omega)]
  by_cases g1 : e < 128 ∨ 191 < e
  · rw [if_pos g1, if_neg (by omega)]; rfl
  rw [if_neg g1]
  simp only [Option.map_some, least, Nat.reduceLeDiff, Nat.reduceEqDiff, Nat.reduceLT, if_true, if_false, true_and, false_and]
  by_cases g2 : 128 ≤ e ∧ e ≤ 191
  · rw [if_pos g2]
    (repeat' split) <;> first | rfl | (exfalso; omega)
  · rw [if_neg g2]
    (repeat' split) <;> first | rfl | (exfalso; omega)
theorem span_6 {b c d e : Int} (h : 240 ≤ b ∧ b ≤ 240) (hc : 128 ≤ c ∧ c ≤ 191) (hd : 128 ≤ d ∧ d ≤ 191) (he : 128 ≤ e ∧ e ≤ 191) : spanL [b, c, d, e] = some (4, (64 * ((64 * ((64 * (b % 8) + c % 64)) + d % 64)) + e % 64), (64 * ((64 * ((64 * (b % 8) + c % 64)) + d % 64)) + e % 64)) := by
  unfold spanL
  simp only [List.getD_cons_zero]
  rw [cls_6 h]
  simp only [spanF, Nat.reduceSub, Nat.reduceAdd, Nat.reduceLeDiff, List.length_cons, List.length_nil, List.getD_cons_zero, List.getD_cons_succ, if_false]
  rw [if_neg (show ¬ (c < 128 ∨ 191 < c) by omega)]
  rw [if_neg (show ¬ (d < 128 ∨ 191 < d) by omega)]
  rw [if_neg (show ¬ (e < 128 ∨ 191 < e) by omega)]
  rfl
theorem cls_7 {b : Int} (h : 241 ≤ b ∧ b ≤ 243) : cls b = some (4, b % 8) := by
  unfold cls
  rw [if_neg (by omega), if_neg (by omega), if_neg (by omega), if_pos (by omega)]
theorem beg_7_1 {b : Int} (h : 241 ≤ b ∧ b ≤ 243) : begL [b] = some 4 := by
  unfold begL spanL
  simp only [List.getD_cons_zero]
  rw [cls_7 h]
  simp [spanF, least]
  try omega
theorem beg_7_2 {b c : Int} (h : 241 ≤ b ∧ b ≤ 243) : begL [b, c] = if 128 ≤ c ∧ c ≤ 191 then some 4 else none := by
  unfold begL spanL
  simp only [List.getD_cons_zero]
  rw [cls_7 h]
  simp only [spanF, least, Nat.reduceSub, Nat.reduceAdd, Nat.reduceLeDiff, List.length_cons, List.length_nil, List.getD_cons_zero, List.getD_cons_succ, Nat.reduceEqDiff, Nat.reduceLT, if_true, if_false]
  by_cases g1 : c < 128 ∨ 191 < c
  · rw [if_pos g1, if_neg (by omega)]; rfl
  rw [if_neg g1]
  simp only [Option.map_some, least, Nat.reduceLeDiff, Nat.reduceEqDiff, Nat.reduceLT, if_true, if_false, true_and, false_and]
  by_cases g2 : 128 ≤ c ∧ c ≤ 191
  · rw [if_pos g2]
    (repeat' split) <;> first | rfl | (exfalso; omega)
  · rw [if_neg g2]
    (repeat' split) <;> first | rfl | (exfalso; omega)
theorem beg_7_3 {b c d : Int} (h : 241 ≤ b ∧ b ≤ 243) (hc : 128 ≤ c ∧ c ≤ 191) : begL [b, c, d] = if 128 ≤ d ∧ d ≤ 191 then some 4 else none := by
  unfold begL spanL
  simp only [List.getD_cons_zero]
  rw [cls_7 h]
  simp only [spanF, least, Nat.reduceSub, Nat.reduceAdd, Nat.reduceLeDiff, List.length_cons, List.length_nil, List.getD_cons_zero, List.getD_cons_succ, Nat.reduceEqDiff, Nat.reduceLT, if_true, if_false]
  rw [if_neg (show ¬ (c < 128 ∨ 191 < c) by omega)]
  by_cases g1 : d < 128 ∨ 191 < d
  · rw [if_pos g1, if_neg (by omega)]; rfl
  rw [if_neg g1]
  simp only [Option.map_some, least, Nat.reduceLeDiff, Nat.reduceEqDiff, Nat.reduceLT, if_true, if_false, true_and, false_and]
  by_cases g2 : 128 ≤ d ∧ d ≤ 191
  · rw [if_pos g2]
    (repeat' split) <;> first | rfl | (exfalso; omega)
  · rw [if_neg g2]
    (repeat' split) <;> first | rfl | (exfalso; omega)
theorem beg_7_4 {b c d e : Int} (h : 241 ≤ b ∧ b ≤ 243) (hc : 128 ≤ c ∧ c ≤ 191) (hd : 128 ≤ d ∧ d ≤ 191) : begL [b, c, d, e] = if 128 ≤ e ∧ e ≤ 191 then some 4 else none := by
  unfold begL spanL
  simp only [List.getD_cons_zero]
  rw [cls_7 h]
  simp only [spanF, least, Nat.reduceSub, Nat.reduceAdd, Nat.reduceLeDiff, List.length_cons, List.length_nil, List.getD_cons_zero, List.getD_cons_succ, Nat.reduceEqDiff, Nat.reduceLT, if_true, if_false]
  rw [if_neg (show ¬ (c < 128 ∨ 191 < c) by omega)]
  rw [if_neg (show ¬ (d < 128 ∨ 191 < d) by omega)]
  by_cases g1 : e < 128 ∨ 191 < e
  · rw [if_pos g1, if_neg (by omega)]; rfl
  rw [if_neg g1]
  simp only [Option.map_some, least, Nat.reduceLeDiff, Nat.reduceEqDiff, Nat.reduceLT, if_true, if_false, true_and, false_and]
  by_cases g2 : 128 ≤ e ∧ e ≤ 191
  · rw [if_pos g2]
    (repeat' split) <;> first | rfl | (exfalso; omega)
  · rw [if_neg g2]
    (repeat' split) <;> first | rfl | (exfalso; omega)
theorem span_7 {b c d e : Int} (h : 241 ≤ b ∧ b ≤ 243) (hc : 128 ≤ c ∧ c ≤ 191) (hd : 128 ≤ d ∧ d ≤ 191) (he : 128 ≤ e ∧ e ≤ 191) : spanL [b, c, d, e] = some (4, (64 * ((64 * ((64 * (b % 8) + c % 64)) + d % 64)) + e % 64), (64 * ((64 * ((64 * (b % 8) + c % 64)) + d % 64)) + e % 64)) := by
  unfold spanL
  simp only [List.getD_cons_zero]
  rw [cls_7 h]
  simp only [spanF, Nat.reduceSub, Nat.reduceAdd, Nat.reduceLeDiff, List.length_cons, List.length_nil, List.getD_cons_zero, List.getD_cons_succ, if_false]
  rw [if_neg (show ¬ (c < 128 ∨ 191 < c) by omega)]
  rw [if_neg (show ¬ (d < 128 ∨ 191 < d) by omega)]
  rw [if_neg (show ¬ (e < 128 ∨ 191 < e) by omega)]
  rfl
theorem cls_8 {b : Int} (h : 244 ≤ b ∧ b ≤ 244) : cls b = some (4, b % 8) := by
  unfold cls
  rw [if_neg (by omega), if_neg (by omega), if_neg (by omega), if_pos (by omega)]
theorem beg_8_1 {b : Int} (h : 244 ≤ b ∧ b ≤ 244) : begL [b] = some 4 := by
  unfold begL spanL
  simp only [List.getD_cons_zero]
  rw [cls_8 h]
  simp [spanF, least]
  try omega
theorem beg_8_2 {b c : Int} (h : 244 ≤ b ∧ b ≤ 244) : begL [b, c] = if 128 ≤ c ∧ c ≤ 143 then some 4 else none := by
  unfold begL spanL
  simp only [List.getD_cons_zero]
  rw [cls_8 h]
  simp only [spanF, least, Nat.reduceSub, Nat.reduceAdd, Nat.reduceLeDiff, List.length_cons, List.length_nil, List.getD_cons_zero, List.getD_cons_succ, Nat.reduceEqDiff, Nat.reduceLT, if_true, if_false]
  by_cases g1 : c < 128 ∨ 191 < c
  · rw [if_pos g1, if_neg (by omega)]; rfl
  rw [if_neg g1]
  simp only [Option.map_some, least, Nat.reduceLeDiff, Nat.reduceEqDiff, Nat.reduceLT, if_true, if_false, true_and, false_and]
  by_cases g2 : 128 ≤ c ∧ c ≤ 143
  · rw [if_pos g2]
    (repeat' split) <;> first | rfl | (exfalso; omega)
  · rw [if_neg g2]
    (repeat' split) <;> first | rfl | (exfalso; omega)
theorem beg_8_3 {b c d : Int} (h : 244 ≤ b ∧ b ≤ 244) (hc : 128 ≤ c ∧ c ≤ 143) : begL [b, c, d] = if 128 ≤ d ∧ d ≤ 191 then some 4 else none := by
  unfold begL spanL
  simp only [List.getD_cons_zero]
  rw [cls_8 h]
  simp only [spanF, least, Nat.reduceSub, Nat.reduceAdd, Nat.reduceLeDiff, List.length_cons, List.length_nil, List.getD_cons_zero, List.getD_cons_succ, Nat.reduceEqDiff, Nat.reduceLT, if_true, if_false]
  rw [if_neg (show ¬ (c < 128 ∨ 191 < c) by omega)]
  by_cases g1 : d < 128 ∨ 191 < d
  · rw [if_pos g1, if_neg (by omega)]; rfl
  rw [if_neg g1]
  simp only [Option.map_some, least, Nat.reduceLeDiff, Nat.reduceEqDiff, Nat.reduceLT, if_true, if_false, true_and, false_and]
  by_cases g2 : 128 ≤ d ∧ d ≤ 191
  · rw [if_pos g2]
    (repeat' split) <;> first | rfl | (exfalso; omega)
  · rw [if_neg g2]
    (repeat' split) <;> first | rfl | (exfalso; omega)
theorem beg_8_4 {b c d e : Int} (h : 244 ≤ b ∧ b ≤ 244) (hc : 128 ≤ c ∧ c ≤ 143) (hd : 128 ≤ d ∧ d ≤ 191) : begL [b, c, d, e] = if 128 ≤ e ∧ e ≤ 191 then some 4 else none := by
  unfold begL spanL
  simp only [List.getD_cons_zero]
  rw [cls_8 h]
  simp only [spanF, least, Nat.reduceSub, Nat.reduceAdd, Nat.reduceLeDiff, List.length_cons, List.length_nil, List.getD_cons_zero, List.getD_cons_succ, Nat.reduceEqDiff, Nat.reduceLT, if_true, if_false]
  rw [if_neg (show ¬ (c < 128 ∨ 191 < c) by omega)]
  rw [if_neg (show ¬ (d < 128 ∨ 191 < d) by omega)]
  by_cases g1 : e < 128 ∨ 191 < e
  · rw [if_pos g1, if_neg (by omega)]; rfl
  rw [if_neg g1]
  simp only [Option.map_some, least, Nat.reduceLeDiff, Nat.reduceEqDiff, Nat.reduceLT, if_true, if_false, true_and, false_and]
  by_cases g2 : 128 ≤ e ∧ e ≤ 191
  · rw [if_pos g2]
    (repeat' split) <;> first | rfl | (exfalso; omega)
  · rw [if_neg g2]
    (repeat' split) <;> first | rfl | (exfalso; omega)
theorem span_8 {b c d e : Int} (h : 244 ≤ b ∧ b ≤ 244) (hc : 128 ≤ c ∧ c ≤ 191) (hd : 128 ≤ d ∧ d ≤ 191) (he : 128 ≤ e ∧ e ≤ 191) : spanL [b, c, d, e] = some (4, (64 * ((64 * ((64 * (b % 8) + c % 64)) + d % 64)) + e % 64), (64 * ((64 * ((64 * (b % 8) + c % 64)) + d % 64)) + e % 64)) := by
  unfold spanL
  simp only [List.getD_cons_zero]
  rw [cls_8 h]
  simp only [spanF, Nat.reduceSub, Nat.reduceAdd, Nat.reduceLeDiff, List.length_cons, List.length_nil, List.getD_cons_zero, List.getD_cons_succ, if_false]
  rw [if_neg (show ¬ (c < 128 ∨ 191 < c) by omega)]
  rw [if_neg (show ¬ (d < 128 ∨ 191 < d) by omega)]
  rw [if_neg (show ¬ (e < 128 ∨ 191 < e) by omega)]
  rfl
theorem rf_F_none (zs : List Int) (hb : Byt zs) (h0 : 0 < zs.length) (hl : lead (zs.getD 0 0) = none) : rf zs 4 0 = F zs := by
  match zs, h0 with
  | b :: r, _ =>
    have hh := (Byt.cons.1 hb).1
    simp only [List.getD_cons_zero] at hl
    simp [rf, F, beg_none hh hl [], hl]
theorem lead_0 {b : Int} (h : 0 ≤ b ∧ b ≤ 127) : lead b = some (1, 0, 0) := by
  unfold lead
  (repeat' split) <;> first | rfl | (exfalso; omega)
theorem rf_F_0 (b : Int) (r : List Int) (hb : Byt (b :: r)) (h : 0 ≤ b ∧ b ≤ 127) : rf (b :: r) 4 0 = F (b :: r) := by
  simp [rf, F, fl, top, lead_0 h, beg_0_1 h, span_0 h]
theorem lead_1 {b : Int} (h : 194 ≤ b ∧ b ≤ 223) : lead b = some (2, 128, 191) := by
  unfold lead
  (repeat' split) <;> first | rfl | (exfalso; omega)
theorem rf_F_1 (b : Int) (r : List Int) (hb : Byt (b :: r)) (h : 194 ≤ b ∧ b ≤ 223) : rf (b :: r) 4 0 = F (b :: r) := by
  rcases r with _ | ⟨c, r1⟩
  · simp [rf, F, fl, top, lead_1 h, beg_1_1 h]
  by_cases g1 : 128 ≤ c ∧ c ≤ 191
  case neg =>
    have e1 : (c < 128 ∨ 191 < c) = True := by simp; omega
    have i1 := beg_1_2 (b := b) (c := c) h
    rw [if_neg g1] at i1
    simp [rf, F, fl, top, lead_1 h, beg_1_1 h, i1, e1]
  have e1 : (c < 128 ∨ 191 < c) = False := by simp; omega
  have i1 := beg_1_2 (b := b) (c := c) h
  rw [if_pos g1] at i1
  have hc := g1
  have sp := span_1 (b := b) (c := c) h (by omega)
  simp [rf, F, fl, top, lead_1 h, beg_1_1 h, i1, e1, sp]
  try omega
theorem lead_2 {b : Int} (h : 224 ≤ b ∧ b ≤ 224) : lead b = some (3, 160, 191) := by
  unfold lead
  (repeat' split) <;> first | rfl | (exfalso; omega)
theorem rf_F_2 (b : Int) (r : List Int) (hb : Byt (b :: r)) (h : 224 ≤ b ∧ b ≤ 224) : rf (b :: r) 4 0 = F (b :: r) := by
  rcases r with _ | ⟨c, r1⟩
  · simp [rf, F, fl, top, lead_2 h, beg_2_1 h]
  by_cases g1 : 160 ≤ c ∧ c ≤ 191
  case neg =>
    have e1 : (c < 160 ∨ 191 < c) = True := by simp; omega
    have i1 := beg_2_2 (b := b) (c := c) h
    rw [if_neg g1] at i1
    simp [rf, F, fl, top, lead_2 h, beg_2_1 h, i1, e1]
  have e1 : (c < 160 ∨ 191 < c) = False := by simp; omega
  have i1 := beg_2_2 (b := b) (c := c) h
  rw [if_pos g1] at i1
  have hc := g1
  rcases r1 with _ | ⟨d, r2⟩
  · simp [rf, F, fl, top, lead_2 h, beg_2_1 h, i1, e1]
  by_cases g2 : 128 ≤ d ∧ d ≤ 191
  case neg =>
    have e2 : (d < 128 ∨ 191 < d) = True := by simp; omega
    have i2 := beg_2_3 (b := b) (c := c) (d := d) h hc
    rw [if_neg g2] at i2
    simp [rf, F, fl, top, lead_2 h, beg_2_1 h, i1, e1, i2, e2]
  have e2 : (d < 128 ∨ 191 < d) = False := by simp; omega
  have i2 := beg_2_3 (b := b) (c := c) (d := d) h hc
  rw [if_pos g2] at i2
  have hd := g2
  have sp := span_2 (b := b) (c := c) (d := d) h (by omega) (by omega)
  simp [rf, F, fl, top, lead_2 h, beg_2_1 h, i1, e1, i2, e2, sp]
  try omega
theorem lead_3 {b : Int} (h : 225 ≤ b ∧ b ≤ 236) : lead b = some (3, 128, 191) := by
  unfold lead
  (repeat' split) <;> first | rfl | (exfalso; omega)
theorem rf_F_3 (b : Int) (r : List Int) (hb : Byt (b :: r)) (h : 225 ≤ b ∧ b ≤ 236) : rf (b :: r) 4 0 = F (b :: r) := by
  rcases r with _ | ⟨c, r1⟩
  · simp [rf, F, fl, top, lead_3 h, beg_3_1 h]
  by_cases g1 : 128 ≤ c ∧ c ≤ 191
  case neg =>
    have e1 : (c < 128 ∨ 191 < c) = True := by simp; omega
    have i1 := beg_3_2 (b := b) (c := c) h
    rw [if_neg g1] at i1
    simp [rf, F, fl, top, lead_3 h, beg_3_1 h, i1, e1]
  have e1 : (c < 128 ∨ 191 < c) = False := by simp; omega
  have i1 := beg_3_2 (b := b) (c := c) h
  rw [if_pos g1] at i1
  have hc := g1
  rcases r1 with _ | ⟨d, r2⟩
  · simp [rf, F, fl, top, lead_3 h, beg_3_1 h, i1, e1]
  by_cases g2 : 128 ≤ d ∧ d ≤ 191
  case neg =>
    have e2 : (d < 128 ∨ 191 < d) = True := by simp; omega
    have i2 := beg_3_3 (b := b) (c := c) (d := d) h hc
    rw [if_neg g2] at i2
    simp [rf, F, fl, top, lead_3 h, beg_3_1 h, i1, e1, i2, e2]
  have e2 : (d < 128 ∨ 191 < d) = False := by simp; omega
  have i2 := beg_3_3 (b := b) (c := c) (d := d) h hc
  rw [if_pos g2] at i2
  have hd := g2
  have sp := span_3 (b := b) (c := c) (d := d) h (by omega) (by omega)
  simp [rf, F, fl, top, lead_3 h, beg_3_1 h, i1, e1, i2, e2, sp]
  try omega
theorem lead_4 {b : Int} (h : 237 ≤ b ∧ b ≤ 237) : lead b = some (3, 128, 159) := by
  unfold lead
  (repeat' split) <;> first | rfl | (exfalso; omega)
theorem rf_F_4 (b : Int) (r : List Int) (hb : Byt (b :: r)) (h : 237 ≤ b ∧ b ≤ 237) : rf (b :: r) 4 0 = F (b :: r) := by
  rcases r with _ | ⟨c, r1⟩
  · simp [rf, F, fl, top, lead_4 h, beg_4_1 h]
  by_cases g1 : 128 ≤ c ∧ c ≤ 159
  case neg =>
    have e1 : (c < 128 ∨ 159 < c) = True := by simp; omega
    have i1 := beg_4_2 (b := b) (c := c) h
    rw [if_neg g1] at i1
    simp [rf, F, fl, top, lead_4 h, beg_4_1 h, i1, e1]
  have e1 : (c < 128 ∨ 159 < c) = False := by simp; omega
  have i1 := beg_4_2 (b := b) (c := c) h
  rw [if_pos g1] at i1
  have hc := g1
  rcases r1 with _ | ⟨d, r2⟩
  · simp [rf, F, fl, top, lead_4 h, beg_4_1 h, i1, e1]
  by_cases g2 : 128 ≤ d ∧ d ≤ 191
  case neg =>
    have e2 : (d < 128 ∨ 191 < d) = True := by simp; omega
    have i2 := beg_4_3 (b := b) (c := c) (d := d) h hc
    rw [if_neg g2] at i2
    simp [rf, F, fl, top, lead_4 h, beg_4_1 h, i1, e1, i2, e2]
  have e2 : (d < 128 ∨ 191 < d) = False := by simp; omega
  have i2 := beg_4_3 (b := b) (c := c) (d := d) h hc
  rw [if_pos g2] at i2
  have hd := g2
  have sp := span_4 (b := b) (c := c) (d := d) h (by omega) (by omega)
  simp [rf, F, fl, top, lead_4 h, beg_4_1 h, i1, e1, i2, e2, sp]
  try omega
theorem lead_5 {b : Int} (h : 238 ≤ b ∧ b ≤ 239) : lead b = some (3, 128, 191) := by
  unfold lead
  (repeat' split) <;> first | rfl | (exfalso; omega)
theorem rf_F_5 (b : Int) (r : List Int) (hb : Byt (b :: r)) (h : 238 ≤ b ∧ b ≤ 239) : rf (b :: r) 4 0 = F (b :: r) := by
  rcases r with _ | ⟨c, r1⟩
  · simp [rf, F, fl, top, lead_5 h, beg_5_1 h]
  by_cases g1 : 128 ≤ c ∧ c ≤ 191
  case neg =>
    have e1 : (c < 128 ∨ 191 < c) = True := by simp; omega
    have i1 := beg_5_2 (b := b) (c := c) h
    rw [if_neg g1] at i1
    simp [rf, F, fl, top, lead_5 h, beg_5_1 h, i1, e1]
  have e1 : (c < 128 ∨ 191 < c) = False := by simp; omega
  have i1 := beg_5_2 (b := b) (c := c) h
  rw [if_pos g1] at i1
  have hc := g1
  rcases r1 with _ | ⟨d, r2⟩
  · simp [rf, F, fl, top, lead_5 h, beg_5_1 h, i1, e1]
  by_cases g2 : 128 ≤ d ∧ d ≤ 191
  case neg =>
    have e2 : (d < 128 ∨ 191 < d) = True := by simp; omega
    have i2 := beg_5_3 (b := b) (c := c) (d := d) h hc
    rw [if_neg g2] at i2
    simp [rf, F, fl, top, lead_5 h, beg_5_1 h, i1, e1, i2, e2]
  have e2 : (d < 128 ∨ 191 < d) = False := by simp; omega
  have i2 := beg_5_3 (b := b) (c := c) (d := d) h hc
  rw [if_pos g2] at i2
  have hd := g2
  have sp := span_5 (b := b) (c := c) (d := d) h (by omega) (by omega)
  simp [rf, F, fl, top, lead_5 h, beg_5_1 h, i1, e1, i2, e2, sp]
  try omega
theorem lead_6 {b : Int} (h : 240 ≤ b ∧ b ≤ 240) : lead b = some (4, 144, 191) := by
  unfold lead
  (repeat' split) <;> first | rfl | (exfalso; omega)
theorem rf_F_6 (b : Int) (r : List Int) (hb : Byt (b :: r)) (h : 240 ≤ b ∧ b ≤ 240) : rf (b :: r) 4 0 = F (b :: r) := by
  rcases r with _ | ⟨c, r1⟩
  · simp [rf, F, fl, top, lead_6 h, beg_6_1 h]
  by_cases g1 : 144 ≤ c ∧ c ≤ 191
  case neg =>
    have e1 : (c < 144 ∨ 191 < c) = True := by simp; omega
    have i1 := beg_6_2 (b := b) (c := c) h
    rw [if_neg g1] at i1
    simp [rf, F, fl, top, lead_6 h, beg_6_1 h, i1, e1]
  have e1 : (c < 144 ∨ 191 < c) = False := by simp; omega
  have i1 := beg_6_2 (b := b) (c := c) h
  rw [if_pos g1] at i1
  have hc := g1
  rcases r1 with _ | ⟨d, r2⟩
  · simp [rf, F, fl, top, lead_6 h, beg_6_1 h, i1, e1]
  by_cases g2 : 128 ≤ d ∧ d ≤ 191
  case neg =>
    have e2 : (d < 128 ∨ 191 < d) = True := by simp; omega
    have i2 := beg_6_3 (b := b) (c := c) (d := d) h hc
    rw [if_neg g2] at i2
    simp [rf, F, fl, top, lead_6 h, beg_6_1 h, i1, e1, i2, e2]
  have e2 : (d < 128 ∨ 191 < d) = False := by simp; omega
  have i2 := beg_6_3 (b := b) (c := c) (d := d) h hc
  rw [if_pos g2] at i2
  have hd := g2
  rcases r2 with _ | ⟨e, r3⟩
  · simp [rf, F, fl, top, lead_6 h, beg_6_1 h, i1, e1, i2, e2]
  by_cases g3 : 128 ≤ e ∧ e ≤ 191
  case neg =>
    have e3 : (e < 128 ∨ 191 < e) = True := by simp; omega
    have i3 := beg_6_4 (b := b) (c := c) (d := d) (e := e) h hc hd
    rw [if_neg g3] at i3
    simp [rf, F, fl, top, lead_6 h, beg_6_1 h, i1, e1, i2, e2, i3, e3]
  have e3 : (e < 128 ∨ 191 < e) = False := by simp; omega
  have i3 := beg_6_4 (b := b) (c := c) (d := d) (e := e) h hc hd
  rw [if_pos g3] at i3
  have he := g3
  have sp := span_6 (b := b) (c := c) (d := d) (e := e) h (by omega) (by omega) (by omega)
  simp [rf, F, fl, top, lead_6 h, beg_6_1 h, i1, e1, i2, e2, i3, e3, sp]
  try omega
theorem lead_7 {b : Int} (h : 241 ≤ b ∧ b ≤ 243) : lead b = some (4, 128, 191) := by
  unfold lead
  (repeat' split) <;> first | rfl | (exfalso; omega)
theorem rf_F_7 (b : Int) (r : List Int) (hb : Byt (b :: r)) (h : 241 ≤ b ∧ b ≤ 243) : rf (b :: r) 4 0 = F (b :: r) := by
  rcases r with _ | ⟨c, r1⟩
  · simp [rf, F, fl, top, lead_7 h, beg_7_1 h]
  by_cases g1 : 128 ≤ c ∧ c ≤ 191
  case neg =>
    have e1 : (c < 128 ∨ 191 < c) = True := by simp; omega
    have i1 := beg_7_2 (b := b) (c := c) h
    rw [if_neg g1] at i1
    simp [rf, F, fl, top, lead_7 h, beg_7_1 h, i1, e1]
  have e1 : (c < 128 ∨ 191 < c) = False := by simp; omega
  have i1 := beg_7_2 (b := b) (c := c) h
  rw [if_pos g1] at i1
  have hc := g1
  rcases r1 with _ | ⟨d, r2⟩
  · simp [rf, F, fl, top, lead_7 h, beg_7_1 h, i1, e1]
  by_cases g2 : 128 ≤ d ∧ d ≤ 191
  case neg =>
    have e2 : (d < 128 ∨ 191 < d) = True := by simp; omega
    have i2 := beg_7_3 (b := b) (c := c) (d := d) h hc
    rw [if_neg g2] at i2
    simp [rf, F, fl, top, lead_7 h, beg_7_1 h, i1, e1, i2, e2]
  have e2 : (d < 128 ∨ 191 < d) = False := by simp; omega
  have i2 := beg_7_3 (b := b) (c := c) (d := d) h hc
  rw [if_pos g2] at i2
  have hd := g2
  rcases r2 with _ | ⟨e, r3⟩
  · simp [rf, F, fl, top, lead_7 h, beg_7_1 h, i1, e1, i2, e2]
  by_cases g3 : 128 ≤ e ∧ e ≤ 191
  case neg =>
    have e3 : (e < 128 ∨ 191 < e) = True := by simp; omega
    have i3 := beg_7_4 (b := b) (c := c) (d := d) (e := e) h hc hd
    rw [if_neg g3] at i3
    simp [rf, F, fl, top, lead_7 h, beg_7_1 h, i1, e1, i2, e2, i3, e3]
  have e3 : (e < 128 ∨ 191 < e) = False := by simp; omega
  have i3 := beg_7_4 (b := b) (c := c) (d := d) (e := e) h hc hd
  rw [if_pos g3] at i3
  have he := g3
  have sp := span_7 (b := b) (c := c) (d := d) (e := e) h (by omega) (by omega) (by omega)
  simp [rf, F, fl, top, lead_7 h, beg_7_1 h, i1, e1, i2, e2, i3, e3, sp]
  try omega
theorem lead_8 {b : Int} (h : 244 ≤ b ∧ b ≤ 244) : lead b = some (4, 128, 143) := by
  unfold lead
  (repeat' split) <;> first | rfl | (exfalso; omega)
theorem rf_F_8 (b : Int) (r : List Int) (hb : Byt (b :: r)) (h : 244 ≤ b ∧ b ≤ 244) : rf (b :: r) 4 0 = F (b :: r) := by
  rcases r with _ | ⟨c, r1⟩
  · simp [rf, F, fl, top, lead_8 h, beg_8_1 h]
  by_cases g1 : 128 ≤ c ∧ c ≤ 143
  case neg =>
    have e1 : (c < 128 ∨ 143 < c) = True := by simp; omega
    have i1 := beg_8_2 (b := b) (c := c) h
    rw [if_neg g1] at i1
    simp [rf, F, fl, top, lead_8 h, beg_8_1 h, i1, e1]
  have e1 : (c < 128 ∨ 143 < c) = False := by simp; omega
  have i1 := beg_8_2 (b := b) (c := c) h
  rw [if_pos g1] at i1
  have hc := g1
  rcases r1 with _ | ⟨d, r2⟩
  · simp [rf, F, fl, top, lead_8 h, beg_8_1 h, i1, e1]
  by_cases g2 : 128 ≤ d ∧ d ≤ 191
  case neg =>
    have e2 : (d < 128 ∨ 191 < d) = True := by simp; omega
    have i2 := beg_8_3 (b := b) (c := c) (d := d) h hc
    rw [if_neg g2] at i2
    simp [rf, F, fl, top, lead_8 h, beg_8_1 h, i1, e1, i2, e2]
  have e2 : (d < 128 ∨ 191 < d) = False := by simp; omega
  have i2 := beg_8_3 (b := b) (c := c) (d := d) h hc
  rw [if_pos g2] at i2
  have hd := g2
  rcases r2 with _ | ⟨e, r3⟩
  · simp [rf, F, fl, top, lead_8 h, beg_8_1 h, i1, e1, i2, e2]
  by_cases g3 : 128 ≤ e ∧ e ≤ 191
  case neg =>
    have e3 : (e < 128 ∨ 191 < e) = True := by simp; omega
    have i3 := beg_8_4 (b := b) (c := c) (d := d) (e := e) h hc hd
    rw [if_neg g3] at i3
    simp [rf, F, fl, top, lead_8 h, beg_8_1 h, i1, e1, i2, e2, i3, e3]
  have e3 : (e < 128 ∨ 191 < e) = False := by simp; omega
  have i3 := beg_8_4 (b := b) (c := c) (d := d) (e := e) h hc hd
  rw [if_pos g3] at i3
  have he := g3
  have sp := span_8 (b := b) (c := c) (d := d) (e := e) h (by omega) (by omega) (by omega)
  simp [rf, F, fl, top, lead_8 h, beg_8_1 h, i1, e1, i2, e2, i3, e3, sp]
  try omega
theorem rf_F (zs : List Int) (hb : Byt zs) (h0 : 0 < zs.length) : rf zs 4 0 = F zs := by
  match zs, h0 with
  | b :: r, _ =>
    have hh := (Byt.cons.1 hb).1
    rcases lead_spec b with h | ⟨h, g⟩ | ⟨h, g⟩ | ⟨h, g⟩ | ⟨h, g⟩ | ⟨h, g⟩ | ⟨h, g⟩ | ⟨h, g⟩ | ⟨h, g⟩ | ⟨h, g⟩
    · exact rf_F_none _ hb (by simp) (by simpa using h)
    · exact rf_F_0 b r hb (by omega)
    · exact rf_F_1 b r hb (by omega)
    · exact rf_F_2 b r hb (by omega)
    · exact rf_F_3 b r hb (by omega)
    · exact rf_F_4 b r hb (by omega)
    · exact rf_F_5 b r hb (by omega)
    · exact rf_F_6 b r hb (by omega)
    · exact rf_F_7 b r hb (by omega)
    · exact rf_F_8 b r hb (by omega)
end Go.Proofs.Ytfkfooclapogjaa
