/-
  The document's Set.
-/
import Derived.Test.YtnmbhcekcdicnaaYb
import Derived.Test.YtnmbhcekcdicnaaWc
namespace Go.Proofs.Ytnmbhcekcdicnaa
open Go.RowKit
set_option linter.unusedVariables false
set_option linter.unusedSimpArgs false

theorem any_false {a : List Rw} {r : Rw} (h : a.any (lt r) = false) : ∀ y ∈ a, lt r y = false := by
  intro y hy
  rw [List.any_eq_false] at h
  simpa using h y hy
theorem ins_none {a : List Rw} {r x : Rw} (h : a.any (lt r) = false) (hx : lt r x = true) : ins (a ++ [x]) r = a ++ [r] ++ [x] := by
  have h' := any_false h
  clear h
  induction a with
  | nil => simp [ins, hx]
  | cons y t ih =>
    simp only [List.cons_append]
    unfold ins
    rw [h' y (by simp), ih fun z hz => h' z (by simp [hz])]
    simp
theorem ins_some {a : List Rw} {r : Rw} (x : Rw) (h : a.any (lt r) = true) : ins (a ++ [x]) r = ins a r ++ [x] := by
  induction a with
  | nil => simp at h
  | cons y t ih =>
    simp only [List.cons_append]
    unfold ins
    cases hy : lt r y with
    | true => simp
    | false =>
      simp [hy] at h
      rw [ih (by simpa using h)]
      simp
/-- What stands in the document's new list when j rows are over. -/
def insT (q : List Rw) (r : Rw) (j : Nat) : List Rw := if (q.take j).any (lt r) = true then ins (q.take j) r else q.take j
theorem insT_len (q : List Rw) (r : Rw) (j : Nat) : (insT q r j).length ≤ q.length + 1 := by
  unfold insT
  split
  · rw [ins_length, List.length_take]; omega
  · rw [List.length_take]; omega
/-- The row of its own, ahead of the next. -/
def insU (q : List Rw) (r : Rw) (j : Nat) : List Rw := if (!((q.take j).any (lt r)) && lt r (rAt q j)) = true then insT q r j ++ [r] else insT q r j
theorem insT_succ {q : List Rw} {j : Nat} (h : j < q.length) (r : Rw) : insT q r (j + 1) = insU q r j ++ [rAt q j] := by
  unfold insU insT
  rw [take_succ_rAt h]
  cases h1 : (q.take j).any (lt r) with
  | true =>
    rw [List.any_append, h1]
    simp only [Bool.true_or, if_true, Bool.not_true, Bool.false_and, if_neg Bool.false_ne_true]
    exact ins_some _ h1
  | false =>
    rw [List.any_append, h1]
    cases h2 : lt r (rAt q j) with
    | true =>
      simp only [List.any_cons, List.any_nil, h2, Bool.or_false, Bool.false_or, if_true, Bool.not_false, Bool.and_self, if_neg Bool.false_ne_true]
      exact ins_none h1 h2
    | false =>
      simp [h2]
theorem insT_all (q : List Rw) (r : Rw) {n : Nat} (h : n = q.length) : ins q r = if (q.take n).any (lt r) = true then insT q r n else insT q r n ++ [r] := by
  have e : q.take n = q := List.take_of_length_le (by omega)
  unfold insT
  rw [e]
  cases h1 : q.any (lt r) with
  | true => simp
  | false =>
    simp only [if_neg Bool.false_ne_true]
    exact ins_last (any_false h1)
section
variable {A : Nat → Prop} {w : World} {bo : Option Addr} {m bc : Nat} {l : List Rw}
set_option maxHeartbeats 6400000
set_option maxRecDepth 100000
theorem refSet_kind (h : DR A w bo m bc l) (hm : m ≤ 10000) (most k i d : Int) (hk : isKind k = false) :
    Calls Try.prog 26 #[.agg #[.slice bo m bc, .int .i64 most], tmV k i, .int .u64 d] w fun e w' => e = .returned (.tuple #[.agg #[.slice bo m bc, .int .i64 most], .int .u64 0, .bool false, .int .i64 2]) ∧ Below w.heap.size w w' := by
  obtain ⟨X, hX⟩ : ∃ X, X = w.heap.size := ⟨_, rfl⟩
  obtain ⟨u1, hu1⟩ : ∃ W, W = w.alloc (.cells #[.slice bo m bc, .int .i64 most] 36) := ⟨_, rfl⟩
  obtain ⟨u2, hu2⟩ : ∃ W, W = u1.alloc (.cells #[.int .i64 k, .int .u64 i] 26) := ⟨_, rfl⟩
  obtain ⟨u, hu⟩ : ∃ W, W = u2.alloc (.cells #[.slice none 0 0, .int .i64 0] 36) := ⟨_, rfl⟩
  have hz1 : u1.heap.size = X + 1 := by rw [hu1, hX]; simp
  have hz2 : u2.heap.size = X + 2 := by rw [hu2]; simp [hz1]
  have hz : u.heap.size = X + 3 := by rw [hu]; simp [hz2]
  have c1 : Below w.heap.size w u1 := by rw [hu1]; exact (Below.refl _ w).alloc (Nat.le_refl _) _
  have c2 : Below w.heap.size w u2 := by rw [hu2]; exact c1.alloc (by omega) _
  have b1 : Below w.heap.size w u := by rw [hu]; exact c2.alloc (by omega) _
  have k1 : u.heap[X]? = some (.cells #[.slice bo m bc, .int .i64 most] 36 (0, 0)) := by rw [hu]; exact alloc_blk (by rw [hu2]; exact alloc_blk (by rw [hu1, hX]; exact alloc_blk_new _ _) _) _
  have k2 : u.heap[X + 1]? = some (.cells #[.int .i64 k, .int .u64 i] 26 (0, 0)) := by rw [hu]; exact alloc_blk (by rw [hu2, ← hz1]; exact alloc_blk_new _ _) _
  have k3 : u.heap[X + 2]? = some (.cells #[.slice none 0 0, .int .i64 0] 36 (0, 0)) := by rw [hu, ← hz2]; exact alloc_blk_new _ _
  have HUU : Hid (u = ((w.alloc (.cells #[.slice bo m bc, .int .i64 most] 36)).alloc (.cells #[.int .i64 k, .int .u64 i] 26)).alloc (.cells #[.slice none 0 0, .int .i64 0] 36)) := Lib.hid (by rw [hu, hu2, hu1])
  have EX := Lib.hid hX
  have HZ := Lib.hid hz
  have H := Lib.hid (h.below b1)
  have HL := Lib.hid h.len
  have K1 := Lib.hid k1
  have K2 := Lib.hid k2
  have K3 := Lib.hid k3
  have B1 := Lib.hid b1
  have HRK0 := refKind25 k
  rw [hk] at HRK0
  have HRK := Lib.hid HRK0
  have q0 := cell_blk k1 0 _ rfl
  have q1 := cell_blk k1 1 _ rfl
  have q2 := cell_blk k2 0 _ rfl
  have q3 := cell_blk k2 1 _ rfl
  have q4 := cell_blk k3 0 _ rfl
  have q5 := cell_blk k3 1 _ rfl
  have q6 := frozen_blk k3 0
  have q7 := frozen_blk k3 1
  have q8 := blk_lt k1
  have q9 := blk_lt k2
  have q10 := blk_lt k3
  unfold tmV
  clear hu hu1 hu2 hX hz1 hz2 hz b1 c1 c2 k1 k2 k3 h HRK0 hk
  go_enter Try.func26, Try.ntmps26
  go_wp2_with (go_at_call 25; fail)
  rw [← HUU.out]
  try rw [← EX.out]
  refine (HRK.out _).mono ?_
  rintro e w' ⟨rfl, rfl⟩
  go_wp2
  have hk6 := setCell_blk (setCell_blk K3.out 0 (.slice bo m bc)) 1 (.int .i64 most)
  have z0 := cell_blk hk6 0 (.slice bo m bc) rfl
  have z1 := cell_blk hk6 1 (.int .i64 most) rfl
  have hXw := EX.out
  refine bodyPost_ret (v := .tuple #[.agg #[.slice bo m bc, .int .i64 most], .int .u64 0, .bool false, .int .i64 2]) (by simp [results, Try.f26, go_sem, z0, z1]) rfl ⟨rfl, ?_⟩
  exact (B1.out.setCell (p := ⟨X + 2, 0, none⟩) (by show w.heap.size ≤ X + 2; omega) _).setCell (p := ⟨X + 2, 1, none⟩) (by show w.heap.size ≤ X + 2; omega) _
theorem refSet_long (h : DR A w bo m bc l) (hm : m ≤ 10000) (most k i d : Int) (hk : isKind k = true) (hd : dueOf l k i = none ∧ most ≤ (l.length : Int)) :
    Calls Try.prog 26 #[.agg #[.slice bo m bc, .int .i64 most], tmV k i, .int .u64 d] w fun e w' => e = .returned (.tuple #[.agg #[.slice bo m bc, .int .i64 most], .int .u64 0, .bool false, .int .i64 3]) ∧ Below w.heap.size w w' := by
  have d1 : decide (most ≤ (m : Int)) = true := by have := h.len; have := hd.2; simp; omega
  obtain ⟨X, hX⟩ : ∃ X, X = w.heap.size := ⟨_, rfl⟩
  obtain ⟨u1, hu1⟩ : ∃ W, W = w.alloc (.cells #[.slice bo m bc, .int .i64 most] 36) := ⟨_, rfl⟩
  obtain ⟨u2, hu2⟩ : ∃ W, W = u1.alloc (.cells #[.int .i64 k, .int .u64 i] 26) := ⟨_, rfl⟩
  obtain ⟨u, hu⟩ : ∃ W, W = u2.alloc (.cells #[.slice none 0 0, .int .i64 0] 36) := ⟨_, rfl⟩
  have hz1 : u1.heap.size = X + 1 := by rw [hu1, hX]; simp
  have hz2 : u2.heap.size = X + 2 := by rw [hu2]; simp [hz1]
  have hz : u.heap.size = X + 3 := by rw [hu]; simp [hz2]
  have c1 : Below w.heap.size w u1 := by rw [hu1]; exact (Below.refl _ w).alloc (Nat.le_refl _) _
  have c2 : Below w.heap.size w u2 := by rw [hu2]; exact c1.alloc (by omega) _
  have b1 : Below w.heap.size w u := by rw [hu]; exact c2.alloc (by omega) _
  have k1 : u.heap[X]? = some (.cells #[.slice bo m bc, .int .i64 most] 36 (0, 0)) := by rw [hu]; exact alloc_blk (by rw [hu2]; exact alloc_blk (by rw [hu1, hX]; exact alloc_blk_new _ _) _) _
  have k2 : u.heap[X + 1]? = some (.cells #[.int .i64 k, .int .u64 i] 26 (0, 0)) := by rw [hu]; exact alloc_blk (by rw [hu2, ← hz1]; exact alloc_blk_new _ _) _
  have k3 : u.heap[X + 2]? = some (.cells #[.slice none 0 0, .int .i64 0] 36 (0, 0)) := by rw [hu, ← hz2]; exact alloc_blk_new _ _
  have HUU : Hid (u = ((w.alloc (.cells #[.slice bo m bc, .int .i64 most] 36)).alloc (.cells #[.int .i64 k, .int .u64 i] 26)).alloc (.cells #[.slice none 0 0, .int .i64 0] 36)) := Lib.hid (by rw [hu, hu2, hu1])
  have EX := Lib.hid hX
  have HZ := Lib.hid hz
  have H := Lib.hid (h.below b1)
  have HL := Lib.hid h.len
  have K1 := Lib.hid k1
  have K2 := Lib.hid k2
  have K3 := Lib.hid k3
  have B1 := Lib.hid b1
  have HRK0 := refKind25 k
  rw [hk] at HRK0
  have HRK := Lib.hid HRK0
  have q0 := cell_blk k1 0 _ rfl
  have q1 := cell_blk k1 1 _ rfl
  have q2 := cell_blk k2 0 _ rfl
  have q3 := cell_blk k2 1 _ rfl
  have q4 := cell_blk k3 0 _ rfl
  have q5 := cell_blk k3 1 _ rfl
  have q6 := frozen_blk k3 0
  have q7 := frozen_blk k3 1
  have q8 := blk_lt k1
  have q9 := blk_lt k2
  have q10 := blk_lt k3
  obtain ⟨was, hwas⟩ : ∃ x, x = (dueOf l k i).getD 0 := ⟨_, rfl⟩
  obtain ⟨had, hhad⟩ : ∃ x, x = (dueOf l k i).isSome := ⟨_, rfl⟩
  have HWas := Lib.hid hwas
  have HHad := Lib.hid hhad
  have HD := Lib.hid hd
  unfold tmV
  clear hu hu1 hu2 hX hz1 hz2 hz b1 c1 c2 k1 k2 k3 h HRK0 hk hwas hhad hd
  go_enter Try.func26, Try.ntmps26
  go_wp2_with (go_at_call 25; fail)
  rw [← HUU.out]
  try rw [← EX.out]
  refine (HRK.out _).mono ?_
  rintro e w' ⟨rfl, rfl⟩
  go_wp2_with (go_at_call 27; fail)
  have hdue := refDue27 H.out (by omega) most k i
  rw [← HWas.out, ← HHad.out] at hdue
  unfold tmV at hdue
  refine hdue.mono ?_
  rintro e v1 ⟨rfl, hb⟩
  have HB1 := Lib.hid hb
  have q0 := cell_blk ((hb.block _ (blk_lt K1.out)).trans K1.out) 0 _ rfl
  have q1 := cell_blk ((hb.block _ (blk_lt K1.out)).trans K1.out) 1 _ rfl
  have q2 := cell_blk ((hb.block _ (blk_lt K2.out)).trans K2.out) 0 _ rfl
  have q3 := cell_blk ((hb.block _ (blk_lt K2.out)).trans K2.out) 1 _ rfl
  have k3 := (hb.block _ (blk_lt K3.out)).trans K3.out
  have q4 := cell_blk k3 0 _ rfl
  have q5 := cell_blk k3 1 _ rfl
  have q6 := frozen_blk k3 0
  have q7 := frozen_blk k3 1
  have q8 := Nat.lt_of_lt_of_le (blk_lt K1.out) hb.size
  have q9 := Nat.lt_of_lt_of_le (blk_lt K2.out) hb.size
  have q10 := blk_lt k3
  have K3b := Lib.hid k3
  clear hb hdue k3
  obtain rfl : had = false := by rw [HHad.out, HD.out.1]; rfl
  go_wp2
  have hk6 := setCell_blk (setCell_blk K3b.out 0 (.slice bo m bc)) 1 (.int .i64 most)
  have z0 := cell_blk hk6 0 (.slice bo m bc) rfl
  have z1 := cell_blk hk6 1 (.int .i64 most) rfl
  have hXw := EX.out
  refine bodyPost_ret (v := .tuple #[.agg #[.slice bo m bc, .int .i64 most], .int .u64 0, .bool false, .int .i64 3]) (by simp [results, Try.f26, go_sem, z0, z1]) rfl ⟨rfl, ?_⟩
  exact ((B1.out.trans (HB1.out.mono B1.out.size)).setCell (p := ⟨X + 2, 0, none⟩) (by show w.heap.size ≤ X + 2; omega) _).setCell (p := ⟨X + 2, 1, none⟩) (by show w.heap.size ≤ X + 2; omega) _
/-- Between two rounds of the document's Set. -/
structure SetI (u : World) (Y : Nat) (most : Int) (out : List Rw) (v : Value) (W : World) : Prop where
  own : W.ownsRow u.heap.size 46 3 v out.length (encR out)
  bx : W.heap[Y]? = some (.cells #[v, .int .i64 most] 36 (0, 0))
  mod : Mod (fun q => q = Y) u W
theorem refSet_ok (h : DR A w bo m bc l) (hm : m ≤ 10000) (most k i d : Int) (hk : isKind k = true) (hd : dueOf l k i = none → (l.length : Int) < most) :
    Calls Try.prog 26 #[.agg #[.slice bo m bc, .int .i64 most], tmV k i, .int .u64 d] w fun e w' => ∃ bo' m' bc', e = .returned (.tuple #[.agg #[.slice bo' m' bc', .int .i64 most], .int .u64 ((dueOf l k i).getD 0), .bool (dueOf l k i).isSome, .int .i64 0]) ∧ DR (fun q => w.heap.size ≤ q) w' bo' m' bc' (ins (wo l k i) ⟨k, i, d⟩) ∧ Below w.heap.size w w' := by
  have d1 : dueOf l k i = none → decide (most ≤ (m : Int)) = false := by intro e; have := h.len; have := hd e; simp; omega
  have HD1 := Lib.hid d1
  clear d1
  obtain ⟨X, hX⟩ : ∃ X, X = w.heap.size := ⟨_, rfl⟩
  obtain ⟨u1, hu1⟩ : ∃ W, W = w.alloc (.cells #[.slice bo m bc, .int .i64 most] 36) := ⟨_, rfl⟩
  obtain ⟨u2, hu2⟩ : ∃ W, W = u1.alloc (.cells #[.int .i64 k, .int .u64 i] 26) := ⟨_, rfl⟩
  obtain ⟨u, hu⟩ : ∃ W, W = u2.alloc (.cells #[.slice none 0 0, .int .i64 0] 36) := ⟨_, rfl⟩
  have hz1 : u1.heap.size = X + 1 := by rw [hu1, hX]; simp
  have hz2 : u2.heap.size = X + 2 := by rw [hu2]; simp [hz1]
  have hz : u.heap.size = X + 3 := by rw [hu]; simp [hz2]
  have c1 : Below w.heap.size w u1 := by rw [hu1]; exact (Below.refl _ w).alloc (Nat.le_refl _) _
  have c2 : Below w.heap.size w u2 := by rw [hu2]; exact c1.alloc (by omega) _
  have b1 : Below w.heap.size w u := by rw [hu]; exact c2.alloc (by omega) _
  have k1 : u.heap[X]? = some (.cells #[.slice bo m bc, .int .i64 most] 36 (0, 0)) := by rw [hu]; exact alloc_blk (by rw [hu2]; exact alloc_blk (by rw [hu1, hX]; exact alloc_blk_new _ _) _) _
  have k2 : u.heap[X + 1]? = some (.cells #[.int .i64 k, .int .u64 i] 26 (0, 0)) := by rw [hu]; exact alloc_blk (by rw [hu2, ← hz1]; exact alloc_blk_new _ _) _
  have k3 : u.heap[X + 2]? = some (.cells #[.slice none 0 0, .int .i64 0] 36 (0, 0)) := by rw [hu, ← hz2]; exact alloc_blk_new _ _
  have HUU : Hid (u = ((w.alloc (.cells #[.slice bo m bc, .int .i64 most] 36)).alloc (.cells #[.int .i64 k, .int .u64 i] 26)).alloc (.cells #[.slice none 0 0, .int .i64 0] 36)) := Lib.hid (by rw [hu, hu2, hu1])
  have EX := Lib.hid hX
  have HZ := Lib.hid hz
  have H := Lib.hid (h.below b1)
  have HL := Lib.hid h.len
  have K1 := Lib.hid k1
  have K2 := Lib.hid k2
  have K3 := Lib.hid k3
  have B1 := Lib.hid b1
  have HRK0 := refKind25 k
  rw [hk] at HRK0
  have HRK := Lib.hid HRK0
  have q0 := cell_blk k1 0 _ rfl
  have q1 := cell_blk k1 1 _ rfl
  have q2 := cell_blk k2 0 _ rfl
  have q3 := cell_blk k2 1 _ rfl
  have q4 := cell_blk k3 0 _ rfl
  have q5 := cell_blk k3 1 _ rfl
  have q6 := frozen_blk k3 0
  have q7 := frozen_blk k3 1
  have q8 := blk_lt k1
  have q9 := blk_lt k2
  have q10 := blk_lt k3
  obtain ⟨was, hwas⟩ : ∃ x, x = (dueOf l k i).getD 0 := ⟨_, rfl⟩
  obtain ⟨had, hhad⟩ : ∃ x, x = (dueOf l k i).isSome := ⟨_, rfl⟩
  have HWas := Lib.hid hwas
  have HHad := Lib.hid hhad
  have HD := Lib.hid hd
  rw [← hwas, ← hhad]
  unfold tmV
  clear hu hu1 hu2 hX hz1 hz2 hz b1 c1 c2 k1 k2 k3 h HRK0 hk hwas hhad hd
  go_enter Try.func26, Try.ntmps26
  go_wp2_with (go_at_call 25; fail)
  rw [← HUU.out]
  try rw [← EX.out]
  refine (HRK.out _).mono ?_
  rintro e w' ⟨rfl, rfl⟩
  go_wp2_with (go_at_call 27; fail)
  have hdue := refDue27 H.out (by omega) most k i
  rw [← HWas.out, ← HHad.out] at hdue
  unfold tmV at hdue
  refine hdue.mono ?_
  rintro e v1 ⟨rfl, hb⟩
  have HB1 := Lib.hid hb
  have q0 := cell_blk ((hb.block _ (blk_lt K1.out)).trans K1.out) 0 _ rfl
  have q1 := cell_blk ((hb.block _ (blk_lt K1.out)).trans K1.out) 1 _ rfl
  have q2 := cell_blk ((hb.block _ (blk_lt K2.out)).trans K2.out) 0 _ rfl
  have q3 := cell_blk ((hb.block _ (blk_lt K2.out)).trans K2.out) 1 _ rfl
  have k3 := (hb.block _ (blk_lt K3.out)).trans K3.out
  have q4 := cell_blk k3 0 _ rfl
  have q5 := cell_blk k3 1 _ rfl
  have q6 := frozen_blk k3 0
  have q7 := frozen_blk k3 1
  have q8 := Nat.lt_of_lt_of_le (blk_lt K1.out) hb.size
  have q9 := Nat.lt_of_lt_of_le (blk_lt K2.out) hb.size
  have q10 := blk_lt k3
  have K3b := Lib.hid k3
  clear hb hdue k3
  have hgate : had = true ∨ (had = false ∧ decide (most ≤ (m : Int)) = false) := by
    rw [HHad.out]
    cases hq : dueOf l k i with
    | none => exact .inr ⟨rfl, HD1.out hq⟩
    | some x => exact .inl rfl
  obtain ⟨Y, hY⟩ : ∃ Y, Y = v1.heap.size := ⟨_, rfl⟩
  obtain ⟨v2, hv2⟩ : ∃ Z, Z = v1.alloc (.cells #[.int .i64 k, .int .u64 i, .int .u64 d] 46) := ⟨_, rfl⟩
  have hb2 : Below v1.heap.size v1 v2 := by rw [hv2]; exact (Below.refl _ v1).alloc (Nat.le_refl _) _
  have hy2 : v2.heap[Y]? = some (.cells #[.int .i64 k, .int .u64 i, .int .u64 d] 46 (0, 0)) := by rw [hv2, hY]; exact alloc_blk_new _ _
  have HV2 : Hid (v2 = v1.alloc (.cells #[.int .i64 k, .int .u64 i, .int .u64 d] 46)) := Lib.hid hv2
  have HY := Lib.hid hY
  have HY2 := Lib.hid hy2
  have HB2 := Lib.hid (HB1.out.trans (hb2.mono HB1.out.size))
  clear hY hv2 hb2 hy2
  go_upto_region 4 with fail
  go_cut [37] (fun s wx => s = .bool false ∧ wx = v1)
  case first =>
    rcases hgate with rfl | ⟨rfl, d1⟩
    · go_wp2
      go_meet
      exact ⟨rfl, rfl⟩
    · go_wp2
      go_meet
      exact ⟨rfl, rfl⟩
  case rest =>
    obtain ⟨rfl, hwc⟩ := hcut
    obtain rfl : v1 = wc := hwc.symm
    clear hgate
    go_wp2_with (go_at_call 28; fail)
    rw [← HV2.out, ← HY.out]
    have hwo := refWo28 (H.out.below HB2.out) (by omega) most k i
    unfold tmV at hwo
    refine hwo.mono ?_
    rintro e v3 ⟨bo', n, bc', rfl, hdr, hb3⟩
    obtain ⟨q, hq⟩ : ∃ q, q = wo l k i := ⟨_, rfl⟩
    rw [← hq] at hdr
    have HQ := Lib.hid hq
    have HNq := Lib.hid hdr.len
    have hn : n ≤ 10000 := by have := hdr.len; have := wo_le l k i; have := HL.out; rw [hq] at *; omega
    obtain ⟨Z, hZ⟩ : ∃ Z, Z = v3.heap.size := ⟨_, rfl⟩
    obtain ⟨u3, hu3⟩ : ∃ V, V = v3.alloc (.cells #[.slice none 0 0, .int .i64 most] 36) := ⟨_, rfl⟩
    have hbz : Below v3.heap.size v3 u3 := by rw [hu3]; exact (Below.refl _ v3).alloc (Nat.le_refl _) _
    have hkz : u3.heap[Z]? = some (.cells #[.slice none 0 0, .int .i64 most] 36 (0, 0)) := by rw [hu3, hZ]; exact alloc_blk_new _ _
    have q0 := cell_blk ((hb3.block _ (Nat.lt_of_lt_of_le (blk_lt K1.out) HB2.out.size)).trans ((HB2.out.block _ (blk_lt K1.out)).trans K1.out)) 1 _ rfl
    have q8 := Nat.lt_of_lt_of_le (Nat.lt_of_lt_of_le (blk_lt K1.out) HB2.out.size) hb3.size
    have HU3 := Lib.hid hu3
    have HZZ := Lib.hid hZ
    have HKZ := Lib.hid hkz
    have HD3 := Lib.hid (hdr.below hbz)
    have HB3 := Lib.hid (hb3.trans (hbz.mono hb3.size))
    have HZ3 : Hid (Z < u3.heap.size ∧ v2.heap.size ≤ Z) := Lib.hid ⟨blk_lt hkz, by rw [hZ]; exact hb3.size⟩
    have HDl : Hid (∀ b off, bo' = some ⟨b, off, none⟩ → 0 < n → b < Z) := Lib.hid (fun b off e hp => by
      obtain ⟨b2, off2, e2, _, hl, _⟩ := hdr.at_ hp
      rw [e] at e2
      cases e2
      rw [hZ]; exact hl)
    have hfd : ∀ W : World, (Instr.field 36 (.agg #[.slice bo' n bc', .int .i64 most]) 0).run Try.prog W = .ok (.slice bo' n bc') W := fun _ => by kernel_rfl
    clear hwo hdr hb3 hq hZ hu3 hbz hkz
    go_wp2_with fail
    rw [← HU3.out]
    try rw [← HZZ.out]
    go_loopg [15, 16] n (fun gk v15 v16 wr => ∃ (j : Nat) (v : Value), v15 = .bool ((q.take j).any (lt ⟨k, i, d⟩)) ∧ v16 = .int .i64 j ∧ j ≤ n ∧ gk = n - j ∧ SetI u3 Z most (insT q ⟨k, i, d⟩ j) v wr)
    case atStart => exact ⟨0, .slice none 0 0, by simp, rfl, by omega, rfl, ⟨⟨by simp [insT, encR], .inl ⟨by simp [insT], rfl⟩⟩, HKZ.out, Mod.refl _ _⟩⟩
    case round =>
      obtain ⟨j, v, rfl, rfl, hj, hgk, hI⟩ := hrel
      have HG := Lib.hid hgk
      have HI := Lib.hid hI
      obtain ⟨pb, hpb⟩ : ∃ b, b = (q.take j).any (lt ⟨k, i, d⟩) := ⟨_, rfl⟩
      rw [← hpb]
      have HPB := Lib.hid hpb
      have ky := (hI.mod.block Y (Nat.lt_of_lt_of_le (blk_lt HY2.out) HB3.out.size) (by have := blk_lt HY2.out; have := HZ3.out.2; omega)).trans ((HB3.out.block _ (blk_lt HY2.out)).trans HY2.out)
      have c0 := cell_blk ky 0 _ rfl
      have c1 := cell_blk ky 1 _ rfl
      have c2 := cell_blk ky 2 _ rfl
      have l1 := blk_lt ky
      have HKY := Lib.hid ky
      have kz := hI.bx
      have c3 := cell_blk kz 0 _ rfl
      have l3 := blk_lt kz
      clear hgk hI hpb ky
      by_cases hlt : j < n
      · have e1 : decide ((j : Int) < n) = true := by simp; omega
        have hjl : j < q.length := by have := HNq.out; omega
        obtain ⟨b, off, rfl, hbA, hbl, hc⟩ := HD3.out.at_ (by omega)
        have HBZ := Lib.hid (HDl.out b off rfl (by omega))
        have hbk : wr.heap[b]? = u3.heap[b]? := HI.out.mod.block b hbl (by have := HBZ.out; omega)
        obtain ⟨y0, y1, y2⟩ := hc j hlt
        have y0 := (World.cell?_of_block (w := u3) (a := ⟨b, off + j * 3, none⟩) hbk).trans y0
        have y1 := (World.cell?_of_block (w := u3) (a := ⟨b, off + j * 3 + 1, none⟩) hbk).trans y1
        have y2 := (World.cell?_of_block (w := u3) (a := ⟨b, off + j * 3 + 2, none⟩) hbk).trans y2
        have hbw : b < wr.heap.size := Nat.lt_of_lt_of_le hbl HI.out.mod.size
        obtain ⟨xk, hxk⟩ : ∃ x, x = (rAt q j).k := ⟨_, rfl⟩
        obtain ⟨xi, hxi⟩ : ∃ x, x = (rAt q j).i := ⟨_, rfl⟩
        obtain ⟨xd, hxd⟩ : ∃ x, x = (rAt q j).d := ⟨_, rfl⟩
        rw [← hxk] at y0
        rw [← hxi] at y1
        rw [← hxd] at y2
        have hxx : (⟨xk, xi, xd⟩ : Rw) = rAt q j := by rw [hxk, hxi, hxd]
        obtain ⟨lb, hlb⟩ : ∃ b, b = lt ⟨k, i, d⟩ ⟨xk, xi, xd⟩ := ⟨_, rfl⟩
        have hah := fun W => refAhead40 ⟨k, i, d⟩ ⟨xk, xi, xd⟩ W
        rw [← hlb] at hah
        unfold rwV at hah
        have HAH := Lib.hid hah
        have HXX := Lib.hid hxx
        have HLB := Lib.hid hlb
        have hjm : (j : Int) < n := by omega
        have hw1 : IntKind.i64.wrap ((j : Int) + 1) = (j : Int) + 1 := by rw [IntKind.wrap_i64]; omega
        have HCP : Hid (∀ W', Below wr.heap.size wr W' → (W'.cell? ⟨Y, 0, none⟩ = some (.int .i64 k) ∧ W'.cell? ⟨Y, 1, none⟩ = some (.int .u64 i) ∧ W'.cell? ⟨Y, 2, none⟩ = some (.int .u64 d)) ∧ (W'.cell? ⟨b, off + j * 3, none⟩ = some (.int .i64 xk) ∧ W'.cell? ⟨b, off + j * 3 + 1, none⟩ = some (.int .u64 xi) ∧ W'.cell? ⟨b, off + j * 3 + 2, none⟩ = some (.int .u64 xd)) ∧ Y < W'.heap.size ∧ b < W'.heap.size) := Lib.hid fun W' hW =>
          ⟨⟨(hW.cell (p := ⟨Y, 0, none⟩) (blk_lt HKY.out)).trans c0, (hW.cell (p := ⟨Y, 1, none⟩) (blk_lt HKY.out)).trans c1, (hW.cell (p := ⟨Y, 2, none⟩) (blk_lt HKY.out)).trans c2⟩, ⟨(hW.cell (p := ⟨b, off + j * 3, none⟩) hbw).trans y0, (hW.cell (p := ⟨b, off + j * 3 + 1, none⟩) hbw).trans y1, (hW.cell (p := ⟨b, off + j * 3 + 2, none⟩) hbw).trans y2⟩, Nat.lt_of_lt_of_le (blk_lt HKY.out) hW.size, Nat.lt_of_lt_of_le hbw hW.size⟩
        have HY3 := Lib.hid (hc j hlt)
        clear hc hxk hxi hxd hxx hlb hah hbk
        go_upto_region 13 with fail
        go_cut [64] (fun s wx => s = .bool (!pb && lb) ∧ Below wr.heap.size wr wx)
        case first =>
          cases pb with
          | true =>
            go_wp2_with fail
            go_quiet (fail)
            go_wp2
            go_meet
            exact ⟨by first | rfl | simp, Below.drewN' _ _⟩
          | false =>
            refine wp_region_held_drew (S := fun W => Below wr.heap.size wr W) (by kernel_rfl) (Below.drewN' wr 1) (fun hHeld => ?_)
            generalize wr.drew = wd at hHeld ⊢
            refine' wpAnyH_take (i := 0) (oi := { dst := some 55, op := Op.move (Operand.tmp 15), type := 4, pos := "ref.go:82", after := #[], guard := none }) (v := ?v1101001) rfl (by kernel_rfl) (by kernel_rfl) (by kernel_rfl) (fun _ _ _ h => h) (.inl ⟨by first | rfl | simp [Region.wanted, yielded], ?hy1101001⟩) (by assumption) ?rest1101001
            case hy1101001 => (intro W hW; obtain ⟨⟨f1, f2, f3⟩, ⟨f4, f5, f6⟩, f7, f8⟩ := HCP.out _ hW; go_simp; try with_reducible rfl)
            simp only [Act.put, List.setIfInBounds_toArray, List.set_cons_zero, List.set_cons_succ]
            refine' wpAnyH_take (i := 1) (oi := { dst := some 56, op := Op.unOp UnOp.not 4 (Operand.tmp 55), type := 4, pos := "ref.go:82", after := #[{ on := 0, ground := Ground.data }], guard := none }) (v := ?v1101002) rfl (by kernel_rfl) (by kernel_rfl) (by kernel_rfl) (fun _ _ _ h => h) (.inl ⟨by first | rfl | simp [Region.wanted, yielded], ?hy1101002⟩) (by assumption) ?rest1101002
            case hy1101002 => (intro W hW; obtain ⟨⟨f1, f2, f3⟩, ⟨f4, f5, f6⟩, f7, f8⟩ := HCP.out _ hW; go_simp; try with_reducible rfl)
            simp only [Act.put, List.setIfInBounds_toArray, List.set_cons_zero, List.set_cons_succ]
            refine' wpAnyH_take (i := 2) (oi := { dst := some 57, op := Op.move (Operand.tmp 56), type := 4, pos := "ref.go:82", after := #[{ on := 1, ground := Ground.data }], guard := none }) (v := ?v1101003) rfl (by kernel_rfl) (by kernel_rfl) (by kernel_rfl) (fun _ _ _ h => h) (.inl ⟨by first | rfl | simp [Region.wanted, yielded], ?hy1101003⟩) (by assumption) ?rest1101003
            case hy1101003 => (intro W hW; obtain ⟨⟨f1, f2, f3⟩, ⟨f4, f5, f6⟩, f7, f8⟩ := HCP.out _ hW; go_simp; try with_reducible rfl)
            simp only [Act.put, List.setIfInBounds_toArray, List.set_cons_zero, List.set_cons_succ]
            refine' wpAnyH_take (i := 3) (oi := { dst := some 58, op := Op.load 46 (Operand.tmp 12), type := 46, pos := "ref.go:82", after := #[{ on := 2, ground := Ground.guard }], guard := some (2, true) }) (v := ?v1101004) rfl (by kernel_rfl) (by kernel_rfl) (by kernel_rfl) (fun _ _ _ h => h) (.inl ⟨by first | rfl | simp [Region.wanted, yielded], ?hy1101004⟩) (by assumption) ?rest1101004
            case hy1101004 => (intro W hW; obtain ⟨⟨f1, f2, f3⟩, ⟨f4, f5, f6⟩, f7, f8⟩ := HCP.out _ hW; go_simp; try with_reducible rfl)
            simp only [Act.put, List.setIfInBounds_toArray, List.set_cons_zero, List.set_cons_succ]
            refine' wpAnyH_take (i := 4) (oi := { dst := some 59, op := Op.move (Operand.tmp 13), type := 34, pos := "ref.go:82", after := #[{ on := 2, ground := Ground.guard }], guard := some (2, true) }) (v := ?v1101005) rfl (by kernel_rfl) (by kernel_rfl) (by kernel_rfl) (fun _ _ _ h => h) (.inl ⟨by first | rfl | simp [Region.wanted, yielded], ?hy1101005⟩) (by assumption) ?rest1101005
            case hy1101005 => (intro W hW; obtain ⟨⟨f1, f2, f3⟩, ⟨f4, f5, f6⟩, f7, f8⟩ := HCP.out _ hW; go_simp; try with_reducible rfl)
            simp only [Act.put, List.setIfInBounds_toArray, List.set_cons_zero, List.set_cons_succ]
            refine' wpAnyH_take (i := 5) (oi := { dst := some 60, op := Op.move (Operand.tmp 16), type := 3, pos := "ref.go:82", after := #[{ on := 2, ground := Ground.guard }], guard := some (2, true) }) (v := ?v1101006) rfl (by kernel_rfl) (by kernel_rfl) (by kernel_rfl) (fun _ _ _ h => h) (.inl ⟨by first | rfl | simp [Region.wanted, yielded], ?hy1101006⟩) (by assumption) ?rest1101006
            case hy1101006 => (intro W hW; obtain ⟨⟨f1, f2, f3⟩, ⟨f4, f5, f6⟩, f7, f8⟩ := HCP.out _ hW; go_simp; try with_reducible rfl)
            simp only [Act.put, List.setIfInBounds_toArray, List.set_cons_zero, List.set_cons_succ]
            refine' wpAnyH_take (i := 6) (oi := { dst := some 61, op := Op.indexAddr 34 (Operand.tmp 59) (Operand.tmp 60), type := 0, pos := "ref.go:82", after := #[{ on := 4, ground := Ground.data }, { on := 5, ground := Ground.data }, { on := 2, ground := Ground.guard }], guard := some (2, true) }) (v := ?v1101007) rfl (by kernel_rfl) (by kernel_rfl) (by kernel_rfl) (fun _ _ _ h => h) (.inl ⟨by first | rfl | simp [Region.wanted, yielded], ?hy1101007⟩) (by assumption) ?rest1101007
            case hy1101007 => (intro W hW; obtain ⟨⟨f1, f2, f3⟩, ⟨f4, f5, f6⟩, f7, f8⟩ := HCP.out _ hW; go_simp; try with_reducible rfl)
            simp only [Act.put, List.setIfInBounds_toArray, List.set_cons_zero, List.set_cons_succ]
            refine' wpAnyH_take (i := 7) (oi := { dst := some 62, op := Op.load 46 (Operand.tmp 61), type := 46, pos := "ref.go:82", after := #[{ on := 6, ground := Ground.data }, { on := 2, ground := Ground.guard }], guard := some (2, true) }) (v := ?v1101008) rfl (by kernel_rfl) (by kernel_rfl) (by kernel_rfl) (fun _ _ _ h => h) (.inl ⟨by first | rfl | simp [Region.wanted, yielded], ?hy1101008⟩) (by assumption) ?rest1101008
            case hy1101008 => (intro W hW; obtain ⟨⟨f1, f2, f3⟩, ⟨f4, f5, f6⟩, f7, f8⟩ := HCP.out _ hW; go_simp; try with_reducible rfl)
            simp only [Act.put, List.setIfInBounds_toArray, List.set_cons_zero, List.set_cons_succ]
            refine wpAnyH_ready (rs := [8]) (by kernel_rfl) (by simp) ?_
            refine AllReadyH.cons (o := { dst := some 63, op := Op.call { callee := Callee.value (Operand.func 40), args := #[Operand.tmp 58, Operand.tmp 62], argTypes := #[46, 46] }, type := 4, pos := "ref.go:82", after := #[{ on := 3, ground := Ground.data }, { on := 7, ground := Ground.data }, { on := 2, ground := Ground.chain }, { on := 2, ground := Ground.guard }], guard := some (2, true) }) rfl (fun K hK => ?_) (AllReadyH.nil)
            try simp only [List.getElem_toArray, List.getElem_cons_succ, List.getElem_cons_zero]
            go_simp
            refine (HAH.out _).mono ?_
            rintro e z0 ⟨rfl, hz⟩
            have HB1 := hHeld.trans (hz.mono hHeld.size)
            clear hz hHeld
            refine hK.out _ _ HB1 (fun hHeld => ?_)
            clear hK K
            try simp only [Act.put, List.setIfInBounds_toArray, List.set_cons_zero, List.set_cons_succ]
            refine' wpAnyH_take (i := 9) (oi := { dst := some 64, op := Op.pick (Operand.tmp 57) (Operand.tmp 63) (Operand.const (Value.bool false)), type := 4, pos := "ref.go:82", after := #[{ on := 2, ground := Ground.data }, { on := 8, ground := Ground.data }], guard := none }) (v := ?v1101009) rfl (by kernel_rfl) (by kernel_rfl) (by kernel_rfl) (fun _ _ _ h => h) (.inl ⟨by first | rfl | simp [Region.wanted, yielded], ?hy1101009⟩) (by assumption) ?rest1101009
            case hy1101009 => (intro W hW; obtain ⟨⟨f1, f2, f3⟩, ⟨f4, f5, f6⟩, f7, f8⟩ := HCP.out _ hW; go_simp; try with_reducible rfl)
            simp only [Act.put, List.setIfInBounds_toArray, List.set_cons_zero, List.set_cons_succ]
            refine wpAnyH_done (by kernel_rfl) ?_ _
            go_wp2
            go_meet
            exact ⟨by first | rfl | simp, hHeld⟩
        case rest =>
          obtain ⟨rfl, hbc⟩ := hcut
          obtain ⟨⟨z0, z1, z2⟩, ⟨y0, y1, y2⟩, l1, hbw⟩ := HCP.out _ hbc
          have hmc : Mod (fun q => q = Z) u3 wc := HI.out.mod.trans (Mod.of_below hbc _) fun _ _ e => e
          have hoc : wc.ownsRow u3.heap.size 46 3 v (insT q ⟨k, i, d⟩ j).length (encR (insT q ⟨k, i, d⟩ j)) := (Mod.of_below (S := fun _ => False) hbc).row HI.out.own fun _ _ e => e
          have kz := (hbc.block _ (blk_lt HI.out.bx)).trans HI.out.bx
          have HMC := Lib.hid hmc
          have HOC := Lib.hid hoc
          have HKC := Lib.hid kz
          have hol : (insT q ⟨k, i, d⟩ j).length ≤ 20000 := by have := insT_len q ⟨k, i, d⟩ j; have := HNq.out; omega
          have HOL := Lib.hid hol
          clear c0 c1 c2 c3 l3 HI hbc hmc hoc kz hol HCP
          go_upto_if 64 with fail
          go_cut [15] (fun s wx => s = .bool (pb || lb) ∧ ∃ v', SetI u3 Z most (insU q ⟨k, i, d⟩ j) v' wx)
          case first =>
            have hU : insU q ⟨k, i, d⟩ j = if (!pb && lb) = true then insT q ⟨k, i, d⟩ j ++ [⟨k, i, d⟩] else insT q ⟨k, i, d⟩ j := by
              unfold insU
              rw [← HPB.out, ← HXX.out, ← HLB.out]
            obtain ⟨tb, htb⟩ : ∃ b, b = (!pb && lb) := ⟨_, rfl⟩
            have hpl : (pb || lb) = (pb || tb) := by rw [htb]; cases pb <;> cases lb <;> rfl
            rw [← htb] at hU ⊢
            have HUq := Lib.hid hU
            have HPl := Lib.hid hpl
            clear htb hU hpl
            cases tb with
            | false =>
              go_wp2
              go_meet
              exact ⟨by rw [HPl.out]; simp, v, by rw [HUq.out]; exact ⟨HOC.out, HKC.out, HMC.out⟩⟩
            | true =>
              obtain ⟨V, hV⟩ : ∃ V, V = wc.heap.size := ⟨_, rfl⟩
              obtain ⟨w4, hw4⟩ : ∃ X, X = wc.alloc (.cells #[.int .i64 k, .int .u64 i, .int .u64 d] 46) := ⟨_, rfl⟩
              have hb4 : Below wc.heap.size wc w4 := by rw [hw4]; exact (Below.refl _ wc).alloc (Nat.le_refl _) _
              have hv4 : w4.heap[V]? = some (.cells #[.int .i64 k, .int .u64 i, .int .u64 d] 46 (0, 0)) := by rw [hw4, hV]; exact alloc_blk_new _ _
              have hm4 : Mod (fun q => q = Z) u3 w4 := HMC.out.trans (Mod.of_below hb4 _) fun _ _ e => e
              have ho4 := (Mod.of_below (S := fun _ => False) hb4).row HOC.out fun _ _ e => e
              obtain ⟨v5, w5, hrun, hown5, hgr, hfr⟩ := own_append ho4 hm4.size (by have := HOL.out; omega) hv4 34
              obtain ⟨ao5, cap5, rfl⟩ := row_slice hown5
              have kz5 := (hgr.block Z (by have := hb4.size; have := blk_lt HKC.out; omega) (fun e => by have := row_own ho4 e.symm; have := HZ3.out.1; omega)).trans ((hb4.block _ (blk_lt HKC.out)).trans HKC.out)
              have hm5 : Mod (fun q => q = Z) u3 w5 := hm4.grown hgr fun q e => .inr (row_own ho4 e)
              have kz0 := cell_blk HKC.out 0 _ rfl
              have lz0 := blk_lt HKC.out
              have c5 := cell_blk kz5 0 _ rfl
              have f5 := frozen_blk kz5 0
              have l5 := blk_lt kz5
              have HW4 := Lib.hid hw4
              have HVV := Lib.hid hV
              have HM5 := Lib.hid hm5
              have HK5 := Lib.hid kz5
              have HO5 := Lib.hid hown5
              rw [hw4, hV] at hrun
              clear hw4 hV hb4 hv4 hm4 ho4 hown5 hgr hfr kz5 hm5
              go_wp2_with (at_builtin; refine Lib.wpList_append_run _ rfl _ _ _ _ rfl _ _ rfl rfl _ _ hrun ?_)
              go_meet
              refine ⟨by rw [HPl.out]; simp, (.slice ao5 ((insT q ⟨k, i, d⟩ j).length + 1) cap5), ?_⟩
              rw [HUq.out, if_pos trivial]
              exact ⟨by
                rw [List.length_append, List.length_singleton]
                exact (show Mod (fun q => q = Z) w5 (w5.setCell ⟨Z, 0, none⟩ (.slice ao5 ((insT q ⟨k, i, d⟩ j).length + 1) cap5)) from (Mod.refl (fun q => q = Z) w5).setCell ⟨Z, 0, none⟩ (.inl rfl) _).row HO5.out fun q e he => by
                  have := row_own HO5.out e
                  have := HZ3.out.1
                  omega, by rw [setCell_blk HK5.out]; rfl, HM5.out.setCell _ (.inl rfl) _⟩
          case rest =>
            obtain ⟨rfl, v', hI'⟩ := hcut
            obtain ⟨Q, hQq⟩ : ∃ Q, Q = insU q ⟨k, i, d⟩ j := ⟨_, rfl⟩
            obtain ⟨nq, hnq⟩ : ∃ n, n = Q.length := ⟨_, rfl⟩
            have hnq1 : nq ≤ 100000 := by
              rw [hnq, hQq]
              unfold insU
              have := HOL.out
              split
              · rw [List.length_append, List.length_singleton]; omega
              · omega
            have hbk : wc.heap[b]? = u3.heap[b]? := hI'.mod.block b hbl (by have := HBZ.out; omega)
            obtain ⟨y0, y1, y2⟩ := HY3.out
            rw [← HXX.out] at y0 y1 y2
            simp only at y0 y1 y2
            have y0 := (World.cell?_of_block (w := u3) (a := ⟨b, off + j * 3, none⟩) hbk).trans y0
            have y1 := (World.cell?_of_block (w := u3) (a := ⟨b, off + j * 3 + 1, none⟩) hbk).trans y1
            have y2 := (World.cell?_of_block (w := u3) (a := ⟨b, off + j * 3 + 2, none⟩) hbk).trans y2
            have hbw : b < wc.heap.size := Nat.lt_of_lt_of_le hbl hI'.mod.size
            have hown := hI'.own
            rw [← hQq, ← hnq] at hown
            have q2 := hI'.bx
            have HOo := Lib.hid hown
            have HMm := Lib.hid hI'.mod
            have HQq := Lib.hid hQq
            have HNn := Lib.hid hnq
            clear hQq hnq hbk hown hI' HMC HOC HKC
            go_upto_region 16 with fail
            refine wp_region_K 9 (fun W => W.heap[Z]? = some (.cells #[v', .int .i64 most] 36 (0, 0)) ∧ (W.cell? ⟨b, off + j * 3, none⟩ = some (.int .i64 xk) ∧ W.cell? ⟨b, off + j * 3 + 1, none⟩ = some (.int .u64 xi) ∧ W.cell? ⟨b, off + j * 3 + 2, none⟩ = some (.int .u64 xd)) ∧ b < W.heap.size) (by kernel_rfl) ?_
            obtain ⟨wd, hwd⟩ : ∃ W, W = (wc).drew := ⟨_, rfl⟩
            have HBd : Hid (Below (wc).heap.size (wc) wd) := Lib.hid (by rw [hwd]; exact Below.drewN' (wc) 1)
            have hS0 : (fun W : World => W.heap[Z]? = some (.cells #[v', .int .i64 most] 36 (0, 0)) ∧ (W.cell? ⟨b, off + j * 3, none⟩ = some (.int .i64 xk) ∧ W.cell? ⟨b, off + j * 3 + 1, none⟩ = some (.int .u64 xi) ∧ W.cell? ⟨b, off + j * 3 + 2, none⟩ = some (.int .u64 xd)) ∧ b < W.heap.size) wd := by rw [hwd]; exact ⟨q2, ⟨y0, y1, y2⟩, hbw⟩
            rw [← hwd]
            have hmd : Mod (fun q => q = Z) u3 wd := HMm.out.trans (Mod.of_below HBd.out _) fun _ _ e => e
            have hod : wd.ownsRow u3.heap.size 46 3 v' nq (encR Q) := (Mod.of_below (S := fun _ => False) HBd.out).row HOo.out fun _ _ e => e
            have HMd := Lib.hid hmd
            have HOd := Lib.hid hod
            clear hmd hod
            clear hwd
            refine' wpAnyK_take (i := 0) (oi := { dst := some 71, op := Op.fieldAddr 36 (Operand.tmp 14) 0, type := 0, pos := "ref.go:86", after := #[], guard := none }) (v := ?v81001) rfl (by kernel_rfl) (by kernel_rfl) (by kernel_rfl) [] (by kernel_rfl) (by decide) (by kernel_rfl) (by kernel_rfl) (fun _ _ _ h => h) hS0 (.inl ⟨by first | rfl | simp [Region.wanted, yielded], ?hy81001⟩) ?rest81001
            case hy81001 => (intro W hW; obtain ⟨g2, ⟨f1, f2, f3⟩, f4⟩ := hW; have f6 := cell_blk g2 0 _ rfl; have f8 := blk_lt g2; go_simp; try with_reducible rfl)
            simp only [Act.put, List.setIfInBounds_toArray, List.set_cons_zero, List.set_cons_succ]
            refine' wpAnyK_take (i := 1) (oi := { dst := some 72, op := Op.load 34 (Operand.tmp 71), type := 34, pos := "ref.go:86", after := #[{ on := 0, ground := Ground.data }], guard := none }) (v := ?v81002) rfl (by kernel_rfl) (by kernel_rfl) (by kernel_rfl) [] (by kernel_rfl) (by decide) (by kernel_rfl) (by kernel_rfl) (fun _ _ _ h => h) hS0 (.inl ⟨by first | rfl | simp [Region.wanted, yielded], ?hy81002⟩) ?rest81002
            case hy81002 => (intro W hW; obtain ⟨g2, ⟨f1, f2, f3⟩, f4⟩ := hW; have f6 := cell_blk g2 0 _ rfl; have f8 := blk_lt g2; go_simp; try with_reducible rfl)
            simp only [Act.put, List.setIfInBounds_toArray, List.set_cons_zero, List.set_cons_succ]
            refine' wpAnyK_take (i := 2) (oi := { dst := some 73, op := Op.move (Operand.tmp 13), type := 34, pos := "ref.go:86", after := #[], guard := none }) (v := ?v81003) rfl (by kernel_rfl) (by kernel_rfl) (by kernel_rfl) [] (by kernel_rfl) (by decide) (by kernel_rfl) (by kernel_rfl) (fun _ _ _ h => h) hS0 (.inl ⟨by first | rfl | simp [Region.wanted, yielded], ?hy81003⟩) ?rest81003
            case hy81003 => (intro W hW; obtain ⟨g2, ⟨f1, f2, f3⟩, f4⟩ := hW; have f6 := cell_blk g2 0 _ rfl; have f8 := blk_lt g2; go_simp; try with_reducible rfl)
            simp only [Act.put, List.setIfInBounds_toArray, List.set_cons_zero, List.set_cons_succ]
            refine' wpAnyK_take (i := 3) (oi := { dst := some 74, op := Op.move (Operand.tmp 16), type := 3, pos := "ref.go:86", after := #[], guard := none }) (v := ?v81004) rfl (by kernel_rfl) (by kernel_rfl) (by kernel_rfl) [] (by kernel_rfl) (by decide) (by kernel_rfl) (by kernel_rfl) (fun _ _ _ h => h) hS0 (.inl ⟨by first | rfl | simp [Region.wanted, yielded], ?hy81004⟩) ?rest81004
            case hy81004 => (intro W hW; obtain ⟨g2, ⟨f1, f2, f3⟩, f4⟩ := hW; have f6 := cell_blk g2 0 _ rfl; have f8 := blk_lt g2; go_simp; try with_reducible rfl)
            simp only [Act.put, List.setIfInBounds_toArray, List.set_cons_zero, List.set_cons_succ]
            refine' wpAnyK_take (i := 4) (oi := { dst := some 75, op := Op.indexAddr 34 (Operand.tmp 73) (Operand.tmp 74), type := 0, pos := "ref.go:86", after := #[{ on := 2, ground := Ground.data }, { on := 3, ground := Ground.data }], guard := none }) (v := ?v81005) rfl (by kernel_rfl) (by kernel_rfl) (by kernel_rfl) [] (by kernel_rfl) (by decide) (by kernel_rfl) (by kernel_rfl) (fun _ _ _ h => h) hS0 (.inl ⟨by first | rfl | simp [Region.wanted, yielded], ?hy81005⟩) ?rest81005
            case hy81005 => (intro W hW; obtain ⟨g2, ⟨f1, f2, f3⟩, f4⟩ := hW; have f6 := cell_blk g2 0 _ rfl; have f8 := blk_lt g2; go_simp; try with_reducible rfl)
            simp only [Act.put, List.setIfInBounds_toArray, List.set_cons_zero, List.set_cons_succ]
            refine' wpAnyK_take (i := 5) (oi := { dst := some 76, op := Op.load 46 (Operand.tmp 75), type := 46, pos := "ref.go:86", after := #[{ on := 4, ground := Ground.data }], guard := none }) (v := ?v81006) rfl (by kernel_rfl) (by kernel_rfl) (by kernel_rfl) [] (by kernel_rfl) (by decide) (by kernel_rfl) (by kernel_rfl) (fun _ _ _ h => h) hS0 (.inl ⟨by first | rfl | simp [Region.wanted, yielded], ?hy81006⟩) ?rest81006
            case hy81006 => (intro W hW; obtain ⟨g2, ⟨f1, f2, f3⟩, f4⟩ := hW; have f6 := cell_blk g2 0 _ rfl; have f8 := blk_lt g2; go_simp; try with_reducible rfl)
            simp only [Act.put, List.setIfInBounds_toArray, List.set_cons_zero, List.set_cons_succ]
            refine wpAnyK_ready (rs := [6]) (by kernel_rfl) (by simp) ?_
            refine AllReadyK.cons (o := { dst := some 77, op := Op.buildSlice 34 1 #[(0, Operand.tmp 76)], type := 34, pos := "ref.go:86", after := #[{ on := 5, ground := Ground.data }], guard := none }) rfl (fun KK hK => ?_) (AllReadyK.nil)
            try simp only [List.getElem_toArray, List.getElem_cons_succ, List.getElem_cons_zero]
            go_simp
            obtain ⟨w4, hw4⟩ : ∃ Y, Y = wd.alloc (.cells #[.int .i64 xk, .int .u64 xi, .int .u64 xd] 46) := ⟨_, rfl⟩
            obtain ⟨V, hV⟩ : ∃ V, V = wd.heap.size := ⟨_, rfl⟩
            rw [← hw4, ← hV]
            have hB4 : Below wd.heap.size wd w4 := by rw [hw4]; exact (Below.refl _ wd).alloc (Nat.le_refl _) _
            have hV4 : w4.heap[V]? = some (.cells #[.int .i64 xk, .int .u64 xi, .int .u64 xd] 46 (0, 0)) := by rw [hw4, hV]; exact alloc_blk_new _ _
            have hS1 : (fun W : World => W.heap[Z]? = some (.cells #[v', .int .i64 most] 36 (0, 0)) ∧ (W.cell? ⟨b, off + j * 3, none⟩ = some (.int .i64 xk) ∧ W.cell? ⟨b, off + j * 3 + 1, none⟩ = some (.int .u64 xi) ∧ W.cell? ⟨b, off + j * 3 + 2, none⟩ = some (.int .u64 xd)) ∧ b < W.heap.size) w4 := by
              obtain ⟨g2, ⟨f1, f2, f3⟩, f4⟩ := hS0
              exact ⟨(hB4.block _ (blk_lt g2)).trans g2, ⟨(hB4.cell (p := ⟨b, off + j * 3, none⟩) f4).trans f1, (hB4.cell (p := ⟨b, off + j * 3 + 1, none⟩) f4).trans f2, (hB4.cell (p := ⟨b, off + j * 3 + 2, none⟩) f4).trans f3⟩, Nat.lt_of_lt_of_le f4 hB4.size⟩
            have HM4 : Hid (Mod (fun q => q = Z) u3 w4) := Lib.hid (HMd.out.trans (Mod.of_below hB4 _) fun _ _ e => e)
            have hO4 : w4.ownsRow u3.heap.size 46 3 v' nq (encR Q) := (Mod.of_below (S := fun _ => False) hB4).row HOd.out fun _ _ e => e
            have HV4 := Lib.hid hV4
            have HO4 := Lib.hid hO4
            clear hw4 hV hB4 hV4 hS0 hO4
            refine hK.out _ _ (fun _ => hS1) ?_
            clear hK KK
            try simp only [Act.put, List.setIfInBounds_toArray, List.set_cons_zero, List.set_cons_succ]
            obtain ⟨v5, w5, hrun, hown5, hgr, hfr⟩ := own_append HO4.out HM4.out.size hnq1 HV4.out 34
            obtain ⟨ao5, cap5, rfl⟩ := row_slice hown5
            refine wpAnyK_ready (rs := [7]) (by kernel_rfl) (by simp) ?_
            refine AllReadyK.cons (o := { dst := some 78, op := Op.call { callee := Callee.builtin Builtin.append, args := #[Operand.tmp 72, Operand.tmp 77], argTypes := #[34, 34] }, type := 34, pos := "ref.go:86", after := #[{ on := 1, ground := Ground.data }, { on := 6, ground := Ground.data }], guard := none }) rfl (fun KK hK => ?_) (AllReadyK.nil)
            refine step_append_run rfl _ _ 34 34 rfl v' (.slice (some ⟨V, 0, none⟩) 1 1) (by simp [Act.eval, Act.put]) (by simp [Act.eval, Act.put]) hrun ?_
            have hS2 : (fun W : World => W.heap[Z]? = some (.cells #[v', .int .i64 most] 36 (0, 0)) ∧ (W.cell? ⟨b, off + j * 3, none⟩ = some (.int .i64 xk) ∧ W.cell? ⟨b, off + j * 3 + 1, none⟩ = some (.int .u64 xi) ∧ W.cell? ⟨b, off + j * 3 + 2, none⟩ = some (.int .u64 xd)) ∧ b < W.heap.size) w5 := by
              obtain ⟨g2, ⟨f1, f2, f3⟩, f4⟩ := hS1
              have hn : ∀ q, q < u3.heap.size → some q ≠ v'.ownBlock := fun q hq e => by
                rcases row_own HO4.out e.symm with h
                omega
              have hbk : w5.heap[b]? = w4.heap[b]? := hgr.block b f4 (hn b (Nat.lt_trans HBZ.out HZ3.out.1))
              exact ⟨(hgr.block _ (blk_lt g2) (hn Z HZ3.out.1)).trans g2, ⟨(World.cell?_of_block (w := w4) (a := ⟨b, off + j * 3, none⟩) hbk).trans f1, (World.cell?_of_block (w := w4) (a := ⟨b, off + j * 3 + 1, none⟩) hbk).trans f2, (World.cell?_of_block (w := w4) (a := ⟨b, off + j * 3 + 2, none⟩) hbk).trans f3⟩, Nat.lt_of_lt_of_le f4 hgr.size⟩
            have HM5 : Hid (Mod (fun q => q = Z) u3 w5) := Lib.hid (HM4.out.grown hgr fun q e => .inr (row_own HO4.out e))
            have HO5 := Lib.hid hown5
            have e0 := cell_blk hS2.1 0 _ rfl
            have e1 := frozen_blk hS2.1 0
            have e2 := blk_lt hS2.1
            clear hrun hgr hown5 hS1
            refine hK.out _ _ (fun _ => hS2) ?_
            clear hK KK
            try simp only [Act.put, List.setIfInBounds_toArray, List.set_cons_zero, List.set_cons_succ]
            refine' wpAnyK_take (i := 8) (oi := { dst := some 79, op := Op.fieldAddr 36 (Operand.tmp 14) 0, type := 0, pos := "ref.go:86", after := #[{ on := 0, ground := Ground.phase }, { on := 1, ground := Ground.phase }, { on := 2, ground := Ground.phase }, { on := 3, ground := Ground.phase }, { on := 4, ground := Ground.phase }, { on := 5, ground := Ground.phase }, { on := 6, ground := Ground.phase }, { on := 7, ground := Ground.phase }], guard := none }) (v := ?v81007) rfl (by kernel_rfl) (by kernel_rfl) (by kernel_rfl) [] (by kernel_rfl) (by decide) (by kernel_rfl) (by kernel_rfl) (fun _ _ _ h => h) hS2 (.inl ⟨by first | rfl | simp [Region.wanted, yielded], ?hy81007⟩) ?rest81007
            case hy81007 => (intro W hW; obtain ⟨g2, ⟨f1, f2, f3⟩, f4⟩ := hW; have f6 := cell_blk g2 0 _ rfl; have f8 := blk_lt g2; go_simp; try with_reducible rfl)
            simp only [Act.put, List.setIfInBounds_toArray, List.set_cons_zero, List.set_cons_succ]
            refine wpAnyK_ready (rs := [9]) (by kernel_rfl) (by simp) ?_
            refine AllReadyK.cons (o := { dst := none, op := Op.store 34 (Operand.tmp 79) (Operand.tmp 78), type := 0, pos := "ref.go:86", after := #[{ on := 8, ground := Ground.data }, { on := 7, ground := Ground.data }, { on := 7, ground := Ground.chain }, { on := 0, ground := Ground.phase }, { on := 1, ground := Ground.phase }, { on := 2, ground := Ground.phase }, { on := 3, ground := Ground.phase }, { on := 4, ground := Ground.phase }, { on := 5, ground := Ground.phase }, { on := 6, ground := Ground.phase }, { on := 7, ground := Ground.phase }], guard := none }) rfl (fun KK hK => ?_) (AllReadyK.nil)
            try simp only [List.getElem_toArray, List.getElem_cons_succ, List.getElem_cons_zero]
            go_simp
            refine hK.out _ _ (fun h => absurd (show true = false from h) (by decide)) ?_
            clear hK KK
            try simp only [Act.put, List.setIfInBounds_toArray, List.set_cons_zero, List.set_cons_succ]
            refine wpAnyK_done (by kernel_rfl) ?_ _
            obtain ⟨w6, hw6⟩ : ∃ Y, Y = w5.setCell ⟨Z, 0, none⟩ (.slice ao5 (nq + 1) cap5) := ⟨_, rfl⟩
            rw [← hw6]
            have HK6 : Hid (w6.heap[Z]? = some (.cells #[(.slice ao5 (nq + 1) cap5), .int .i64 most] 36 (0, 0))) := Lib.hid (by
              rw [hw6, setCell_blk hS2.1]
              rfl)
            have HM6 : Hid (Mod (fun q => q = Z) u3 w6) := Lib.hid (by rw [hw6]; exact HM5.out.setCell _ (.inl rfl) _)
            have HO6 : Hid (w6.ownsRow u3.heap.size 46 3 (.slice ao5 (nq + 1) cap5) (nq + 1) (encR (Q ++ [⟨xk, xi, xd⟩]))) := Lib.hid ((show Mod (fun q => q = Z) w5 w6 by rw [hw6]; exact (Mod.refl (fun q => q = Z) w5).setCell ⟨Z, 0, none⟩ (.inl rfl) _).row HO5.out fun q e he => by
              have := row_own HO5.out e
              have := HZ3.out.1
              omega)
            clear e0 e1 e2 hw6 hS2
            go_wp2_with fail
            go_roundg (n - (j + 1))
            case measure => have := HG.out; omega
            case rel => exact ⟨j + 1, (.slice ao5 (nq + 1) cap5), by
              rw [take_succ_rAt hjl, List.any_append, ← HPB.out, ← HXX.out]
              simp [← HLB.out], by go_num, by omega, rfl, ⟨by
              rw [insT_succ hjl, ← HQq.out, ← HXX.out, List.length_append, ← HNn.out]
              exact HO6.out, HK6.out, HM6.out⟩⟩
      · have hjm : j = n := by omega
        subst hjm
        have e1 : decide ((j : Int) < j) = false := by simp
        go_upto_if 81 with fail
        go_cut [15] (fun s wx => s = .bool pb ∧ ∃ v', SetI u3 Z most (ins q ⟨k, i, d⟩) v' wx)
        case first =>
          have hall := insT_all q ⟨k, i, d⟩ HNq.out
          rw [← HPB.out] at hall
          cases pb with
          | true =>
            go_wp2
            go_meet
            exact ⟨rfl, v, by rw [hall]; simpa using HI.out⟩
          | false =>
            rw [if_neg Bool.false_ne_true] at hall
            have HUq := Lib.hid hall
            have HOC := Lib.hid HI.out.own
            have HKC := Lib.hid HI.out.bx
            have HMC := Lib.hid HI.out.mod
            have HOL : Hid ((insT q ⟨k, i, d⟩ j).length ≤ 20000) := Lib.hid (by have := insT_len q ⟨k, i, d⟩ j; have := HNq.out; omega)
            clear hall
            obtain ⟨V, hV⟩ : ∃ V, V = wr.heap.size := ⟨_, rfl⟩
            obtain ⟨w4, hw4⟩ : ∃ X, X = wr.alloc (.cells #[.int .i64 k, .int .u64 i, .int .u64 d] 46) := ⟨_, rfl⟩
            have hb4 : Below wr.heap.size wr w4 := by rw [hw4]; exact (Below.refl _ wr).alloc (Nat.le_refl _) _
            have hv4 : w4.heap[V]? = some (.cells #[.int .i64 k, .int .u64 i, .int .u64 d] 46 (0, 0)) := by rw [hw4, hV]; exact alloc_blk_new _ _
            have hm4 : Mod (fun q => q = Z) u3 w4 := HMC.out.trans (Mod.of_below hb4 _) fun _ _ e => e
            have ho4 := (Mod.of_below (S := fun _ => False) hb4).row HOC.out fun _ _ e => e
            obtain ⟨v5, w5, hrun, hown5, hgr, hfr⟩ := own_append ho4 hm4.size (by have := HOL.out; omega) hv4 34
            obtain ⟨ao5, cap5, rfl⟩ := row_slice hown5
            have kz5 := (hgr.block Z (by have := hb4.size; have := blk_lt HKC.out; omega) (fun e => by have := row_own ho4 e.symm; have := HZ3.out.1; omega)).trans ((hb4.block _ (blk_lt HKC.out)).trans HKC.out)
            have hm5 : Mod (fun q => q = Z) u3 w5 := hm4.grown hgr fun q e => .inr (row_own ho4 e)
            have kz0 := cell_blk HKC.out 0 _ rfl
            have lz0 := blk_lt HKC.out
            have c5 := cell_blk kz5 0 _ rfl
            have f5 := frozen_blk kz5 0
            have l5 := blk_lt kz5
            have HW4 := Lib.hid hw4
            have HVV := Lib.hid hV
            have HM5 := Lib.hid hm5
            have HK5 := Lib.hid kz5
            have HO5 := Lib.hid hown5
            rw [hw4, hV] at hrun
            clear hw4 hV hb4 hv4 hm4 ho4 hown5 hgr hfr kz5 hm5
            go_wp2_with (at_builtin; refine Lib.wpList_append_run _ rfl _ _ _ _ rfl _ _ rfl rfl _ _ hrun ?_)
            go_meet
            refine ⟨rfl, (.slice ao5 ((insT q ⟨k, i, d⟩ j).length + 1) cap5), ?_⟩
            rw [HUq.out]
            exact ⟨by
              rw [List.length_append, List.length_singleton]
              exact (show Mod (fun q => q = Z) w5 (w5.setCell ⟨Z, 0, none⟩ (.slice ao5 ((insT q ⟨k, i, d⟩ j).length + 1) cap5)) from (Mod.refl (fun q => q = Z) w5).setCell ⟨Z, 0, none⟩ (.inl rfl) _).row HO5.out fun q e he => by
                have := row_own HO5.out e
                have := HZ3.out.1
                omega, by rw [setCell_blk HK5.out]; rfl, HM5.out.setCell _ (.inl rfl) _⟩
        case rest =>
          obtain ⟨rfl, v', hI'⟩ := hcut
          obtain ⟨bo2, bc2, rfl, hdr2⟩ := DR.own (A := fun x => u3.heap.size ≤ x) hI'.own rfl (fun x hx _ => hx)
          obtain ⟨N, hN⟩ : ∃ N, N = (ins q ⟨k, i, d⟩).length := ⟨_, rfl⟩
          rw [← hN] at hdr2
          have k2 := hI'.bx
          rw [← hN] at k2
          have hX2 : X + 2 < v2.heap.size := by have := blk_lt K3.out; have := HB2.out.size; omega
          have k4 := (hI'.mod.block (X + 2) (Nat.lt_of_lt_of_le hX2 HB3.out.size) (by have := HZ3.out.2; omega)).trans ((HB3.out.block _ hX2).trans ((HB2.out.block _ (blk_lt K3.out)).trans K3.out))
          have c0 := cell_blk k2 0 _ rfl
          have c1 := cell_blk k2 1 _ rfl
          have c4 := cell_blk k4 0 _ rfl
          have c5 := cell_blk k4 1 _ rfl
          have f4 := frozen_blk k4 0
          have f5 := frozen_blk k4 1
          have l2 := blk_lt k2
          have l4 := blk_lt k4
          have HDR := Lib.hid hdr2
          have HM := Lib.hid hI'.mod
          have HK4 := Lib.hid k4
          clear hI' hdr2 hN k2 k4 HI c2 c3 l1 l3 kz
          go_wp2
          have hk6 := setCell_blk (setCell_blk HK4.out 0 (.slice bo2 N bc2)) 1 (.int .i64 most)
          have z0 := cell_blk hk6 0 (.slice bo2 N bc2) rfl
          have z1 := cell_blk hk6 1 (.int .i64 most) rfl
          have hXw := EX.out
          have hZz := HZ.out
          have hbw3 : Below w.heap.size w u3 := (B1.out.trans (HB2.out.mono B1.out.size)).trans (HB3.out.mono (Nat.le_trans B1.out.size HB2.out.size))
          have hZw : w.heap.size ≤ Z := by have := HZ3.out.2; have := B1.out.size; have := HB2.out.size; omega
          refine bodyPost_ret (v := .tuple #[.agg #[.slice bo2 N bc2, .int .i64 most], .int .u64 was, .bool had, .int .i64 0]) (by simp [results, Try.f26, go_sem, z0, z1]) rfl ⟨bo2, N, bc2, rfl, ?_, ?_⟩
          · rw [← HQ.out]
            refine HDR.out.keep (by simp [World.setCell]) (fun q hq _ => Nat.le_trans hbw3.size hq) (fun q hq _ => ?_)
            have hqX : q ≠ X + 1 + 1 := by have := HB3.out.size; omega
            exact (setCell_blk_ne hqX _).trans (setCell_blk_ne hqX _)
          · exact ((hbw3.trans ⟨HM.out.os, HM.out.tape, HM.out.output, HM.out.size, fun q hq => HM.out.block q (Nat.lt_of_lt_of_le hq hbw3.size) (by omega)⟩).setCell (p := ⟨X + 1 + 1, 0, none⟩) (by show w.heap.size ≤ X + 1 + 1; omega) _).setCell (p := ⟨X + 1 + 1, 1, none⟩) (by show w.heap.size ≤ X + 1 + 1; omega) _
end
end Go.Proofs.Ytnmbhcekcdicnaa
