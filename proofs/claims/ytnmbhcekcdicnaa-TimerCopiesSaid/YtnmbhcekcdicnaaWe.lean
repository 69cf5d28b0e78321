/-
  Timers that are set one behind the other, plainly.
-/
import Derived.Test.YtnmbhcekcdicnaaWb
namespace Go.Proofs.Ytnmbhcekcdicnaa
open Go.RowKit
set_option linter.unusedVariables false
set_option linter.unusedSimpArgs false

/-- One that is set; what may not be is left out. -/
def stepL (l : List Rw) (k i d : Int) : List Rw := if isKind k = true then ins (wo l k i) ⟨k, i, d⟩ else l
/-- So many are set. -/
def afterL (z : Nat → Int × Int) (dd : Nat → Int) : Nat → List Rw
  | 0 => []
  | j + 1 => stepL (afterL z dd j) (z j).1 (z j).2 (dd j)
theorem wo_le (l : List Rw) (k i : Int) : (wo l k i).length ≤ l.length := List.length_filter_le _ _
theorem stepL_le (l : List Rw) (k i d : Int) : (stepL l k i d).length ≤ l.length + 1 := by
  unfold stepL
  split
  · rw [ins_length]
    have := wo_le l k i
    omega
  · omega
theorem afterL_le (z : Nat → Int × Int) (dd : Nat → Int) (j : Nat) : (afterL z dd j).length ≤ j := by
  induction j with
  | zero => simp [afterL]
  | succ j ih =>
    have := stepL_le (afterL z dd j) (z j).1 (z j).2 (dd j)
    unfold afterL
    omega
/-- What runs was set last as it runs. -/
theorem afterL_last (z : Nat → Int × Int) (dd : Nat → Int) (j : Nat) : ∀ r ∈ afterL z dd j, isKind r.k = true ∧ ∃ j0, j0 < j ∧ z j0 = (r.k, r.i) ∧ dd j0 = r.d ∧ ∀ x, j0 < x → x < j → z x ≠ (r.k, r.i) := by
  induction j with
  | zero => intro r hr; simp [afterL] at hr
  | succ j ih =>
    intro r hr
    unfold afterL stepL at hr
    split at hr
    · rename_i hk
      rcases (ins_mem _ _ _).1 hr with e | e
      · subst e
        exact ⟨hk, j, by omega, rfl, rfl, fun x h1 h2 => by omega⟩
      · have hm := (List.mem_filter.1 e).1
        have hn := wo_not _ _ _ r e
        obtain ⟨g1, j0, g2, g3, g4, g5⟩ := ih r hm
        refine ⟨g1, j0, by omega, g3, g4, fun x h1 h2 e' => ?_⟩
        by_cases hx : x = j
        · subst hx
          rw [Bool.eq_false_iff] at hn
          exact hn ((Rw.is_iff _ _ _).2 ⟨by rw [e'], by rw [e']⟩)
        · exact g5 x h1 (by omega) e'
    · rename_i hk
      obtain ⟨g1, j0, g2, g3, g4, g5⟩ := ih r hr
      refine ⟨g1, j0, by omega, g3, g4, fun x h1 h2 e' => ?_⟩
      by_cases hx : x = j
      · subst hx
        rw [e'] at hk
        exact hk g1
      · exact g5 x h1 (by omega) e'
section
variable {K : Nat → Prop} {w0 W W' : World} {p : Nat} {most : Int} {l l' : List Rw} {B : List (Nat × Int × Int)}
/-- Had it run? -/
def hadL (l : List Rw) (k i : Int) : Bool := isKind k && (dueOf l k i).isSome
def wasL (l : List Rw) (k i : Int) : Int := if isKind k = true then (dueOf l k i).getD 0 else 0
theorem stepL_len {l : List Rw} (h : Srt l) (k i d : Int) : (stepL l k i d).length = l.length + (if isKind k = true ∧ hadL l k i = false then 1 else 0) := by
  unfold stepL hadL
  cases hk : isKind k with
  | false => simp
  | true =>
    rw [if_pos rfl]
    cases hq : dueOf l k i with
    | none => rw [wo_none hq, ins_length]; simp
    | some d' =>
      obtain ⟨q1, _, q3⟩ := wo_at h hq
      rw [ins_length, q3, List.length_append, List.length_take, List.length_drop]
      simp
      omega
/-- Set, whatever it is handed, where there is room. -/
theorem TS.set_any (h : TS K p most l W) (k : Int) {i d : Int} (i0 : 0 ≤ i) (i1 : i ≤ 18446744073709551615) (d0 : 0 ≤ d) (d1 : d ≤ 18446744073709551615) (hd : (l.length : Int) < most) :
    Calls Try.prog 18 #[.pointer (some ⟨p, 0, none⟩), tmV k i, .int .u64 d] W fun e w' => e = .returned (.tuple #[.int .u64 (wasL l k i), .bool (hadL l k i), .int .i64 (if isKind k = true then 0 else 2)]) ∧ Turned K p most (stepL l k i d) W w' := by
  unfold wasL hadL stepL
  cases hk : isKind k with
  | true => exact h.set_ok (k := k) (i := i) (d := d) hk i0 i1 d0 d1 (fun _ => hd)
  | false =>
    refine (h.set_kind (k := k) (i := i) (d := d) hk).mono ?_
    rintro e w' ⟨rfl, hb⟩
    exact ⟨rfl, h.turned hb⟩
/-- None is due. -/
theorem TS.pop_no (h : TS K p most l W) (now : Int) (hn : ∀ r t, l = r :: t → now < r.d) :
    Calls Try.prog 21 #[.pointer (some ⟨p, 0, none⟩), .int .u64 now] W fun e w' => e = .returned (.tuple #[.agg #[.int .i64 0, .int .u64 0], .int .u64 0, .bool false]) ∧ Below W.heap.size W w' := by
  cases l with
  | nil => exact h.pop_empty now
  | cons r t =>
    obtain ⟨k, i, d⟩ := r
    exact h.pop_early now (hn _ _ rfl)
/-- A box is written over. -/
theorem TB.setbox {X : Nat} {a b : Int} (h : TB w0 p most l ((X, a, b) :: B) W) (hX : w0.heap.size ≤ X) (hB : ∀ x ∈ B, x.1 ≠ X) (a' b' : Int) : TB w0 p most l ((X, a', b') :: B) ((W.setCell ⟨X, 0, none⟩ (.int .i64 a')).setCell ⟨X, 1, none⟩ (.int .u64 b')) := by
  obtain ⟨K, h1, h2, h3⟩ := h.ex
  have hx := (h3 (X, a, b) (by simp)).1
  simp only at hx
  have hk : ∀ q, q ≠ X → ((W.setCell ⟨X, 0, none⟩ (.int .i64 a')).setCell ⟨X, 1, none⟩ (.int .u64 b')).heap[q]? = W.heap[q]? := fun q hn => (setCell_blk_ne hn _).trans (setCell_blk_ne hn _)
  refine ⟨⟨K, h1.skip hx (by decide) (by decide) fun q _ hn => hk q hn, h2, fun x hx' => ?_⟩, (h.bel.setCell (p := ⟨X, 0, none⟩) hX _).setCell (p := ⟨X, 1, none⟩) hX _⟩
  rcases List.mem_cons.1 hx' with e | e
  · subst e
    exact ⟨setCell_blk (setCell_blk hx 0 _) 1 _, (h3 (X, a, b) (by simp)).2⟩
  · obtain ⟨g1, g2⟩ := h3 x (by simp [e])
    exact ⟨(hk x.1 (hB x e)).trans g1, g2⟩
end
/-- Timers that came in. -/
def PArg (w : World) (ao : Option Addr) (n : Nat) (z : Nat → Int × Int) : Prop :=
  0 < n → ∃ b off, ao = some ⟨b, off, none⟩ ∧ b < w.heap.size ∧ ∀ j, j < n → w.cell? ⟨b, off + j * 2, none⟩ = some (.int .i64 (z j).1) ∧ w.cell? ⟨b, off + j * 2 + 1, none⟩ = some (.int .u64 (z j).2) ∧ 0 ≤ (z j).2 ∧ (z j).2 ≤ 18446744073709551615
/-- Numbers that came in. -/
def UArg (w : World) (ao : Option Addr) (n : Nat) (z : Nat → Int) : Prop :=
  0 < n → ∃ b off, ao = some ⟨b, off, none⟩ ∧ b < w.heap.size ∧ ∀ j, j < n → w.cell? ⟨b, off + j, none⟩ = some (.int .u64 (z j)) ∧ 0 ≤ z j ∧ z j ≤ 18446744073709551615
theorem PArg.below {w w' : World} {ao : Option Addr} {n : Nat} {z : Nat → Int × Int} (h : PArg w ao n z) (hb : Below w.heap.size w w') : PArg w' ao n z := fun hp => by
  obtain ⟨b, off, e, hl, hc⟩ := h hp
  exact ⟨b, off, e, Nat.lt_of_lt_of_le hl hb.size, fun j hj => ⟨(hb.cell (p := ⟨b, off + j * 2, none⟩) hl).trans (hc j hj).1, (hb.cell (p := ⟨b, off + j * 2 + 1, none⟩) hl).trans (hc j hj).2.1, (hc j hj).2.2⟩⟩
theorem UArg.below {w w' : World} {ao : Option Addr} {n : Nat} {z : Nat → Int} (h : UArg w ao n z) (hb : Below w.heap.size w w') : UArg w' ao n z := fun hp => by
  obtain ⟨b, off, e, hl, hc⟩ := h hp
  exact ⟨b, off, e, Nat.lt_of_lt_of_le hl hb.size, fun j hj => ⟨(hb.cell (p := ⟨b, off + j, none⟩) hl).trans (hc j hj).1, (hc j hj).2⟩⟩
end Go.Proofs.Ytnmbhcekcdicnaa
