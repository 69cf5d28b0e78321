/-
  Timers in memory; what only reads them.
-/
import Derived.Test.YtnmbhcekcdicnaaE
import Derived.Test.YtnmbhcekcdicnaaM
import Derived.BigQuiet
namespace Go.Proofs.Ytnmbhcekcdicnaa
open Go.RowKit
set_option linter.unusedVariables false
set_option linter.unusedSimpArgs false

theorem eql54 (r : Option Nat) (w : World) : (binOp .eql 54 (.map r) (.map none)).run Try.prog w = .ok (.bool r.isNone) w := by
  have h : ∀ d : Nat, (Op.equalIn (d + 1) 54 (.map r) (.map none)).run Try.prog w = .ok r.isNone w := fun d => by
    cases r <;> simp [Op.equalIn, run_underlying Try.underlying54]
  simp only [binOp]
  simp [Op.equal, Op.maxDepth, h 9999]
/-- Rows that a Timers owns. -/
structure RowsIn (K : Nat → Prop) (W : World) (ao : Option Addr) (n c : Nat) (l : List Rw) : Prop where
  len : n = l.length
  cap : n ≤ c
  none_ : ao = none → c = 0
  big : c ≤ maxLen
  some_ : ∀ a, ao = some a → ∃ b cur, a = ⟨b, 0, none⟩ ∧ K b ∧ W.heap[b]? = some (.cells cur 80 (0, 0)) ∧ c * 3 ≤ cur.size ∧
    ∀ j, j < n → cur[j * 3]? = some (.int .i64 (rAt l j).k) ∧ cur[j * 3 + 1]? = some (.int .u64 (rAt l j).i) ∧ cur[j * 3 + 2]? = some (.int .u64 (rAt l j).d)
theorem RowsIn.ahead {K : Nat → Prop} {W : World} {ao : Option Addr} {n c : Nat} {l : List Rw} (h : RowsIn K W ao n c l) : RAhead W.heap.size W ao n l :=
  ⟨h.len.symm, fun hp => by
    cases ao with
    | none => have := h.none_ rfl; have := h.cap; omega
    | some a =>
      obtain ⟨b, cur, rfl, _, hb, hs, hc⟩ := h.some_ a rfl
      exact ⟨b, 0, rfl, blk_lt hb, fun j hj => by
        obtain ⟨c1, c2, c3⟩ := hc j hj
        rw [Nat.zero_add]
        exact ⟨cell_blk hb _ _ c1, cell_blk hb _ _ c2, cell_blk hb _ _ c3⟩⟩⟩
theorem RowsIn.keep {K K' : Nat → Prop} {W W' : World} {ao : Option Addr} {n c : Nat} {l : List Rw} (h : RowsIn K W ao n c l) (hk : ∀ b, K b → K' b) (hb : ∀ b, K b → b < W.heap.size → W'.heap[b]? = W.heap[b]?) : RowsIn K' W' ao n c l :=
  ⟨h.len, h.cap, h.none_, h.big, fun a e => by
    obtain ⟨b, cur, e1, e2, e3, e4⟩ := h.some_ a e
    exact ⟨b, cur, e1, hk b e2, (hb b e2 (blk_lt e3)).trans e3, e4⟩⟩
/-- Timers at p, all of whose blocks are in K. -/
structure TAt (K : Nat → Prop) (p : Nat) (most : Int) (l : List Rw) (ao : Option Addr) (n c mb : Nat) (W : World) : Prop where
  blk : W.heap[p]? = some (.cells #[.slice ao n c, .map (some mb), .int .i64 most] 56 (0, 0))
  map : MapAt W mb l
  rows : RowsIn K W ao n c l
  kp : K p
  km : K mb
  srt : Srt l
  m0 : 1 ≤ most
  m1 : most ≤ 8192
  le : (n : Int) ≤ most
section
variable {K K' : Nat → Prop} {p n c mb : Nat} {most : Int} {l : List Rw} {ao : Option Addr} {W W' : World}
theorem TAt.keep (h : TAt K p most l ao n c mb W) (hk : ∀ b, K b → K' b) (hb : ∀ b, K b → b < W.heap.size → W'.heap[b]? = W.heap[b]?) : TAt K' p most l ao n c mb W' :=
  ⟨(hb p h.kp (blk_lt h.blk)).trans h.blk, h.map.of_block (hb mb h.km h.map.lt), h.rows.keep hk hb, hk p h.kp, hk mb h.km, h.srt, h.m0, h.m1, h.le⟩
theorem TAt.below (h : TAt K p most l ao n c mb W) (hb : Below W.heap.size W W') : TAt K p most l ao n c mb W' :=
  h.keep (fun _ e => e) fun b _ hl => hb.block b hl
attribute [local go_sem] eql54
theorem TAt.isT (h : TAt K p most l ao n c mb W) : Calls Try.prog 30 #[.pointer (some ⟨p, 0, none⟩)] W fun e w' => e = .returned (.bool false) ∧ W = w' := by
  have c0 := cell_blk h.blk 0 _ rfl
  have c1 := cell_blk h.blk 1 _ rfl
  have c2 := cell_blk h.blk 2 _ rfl
  have lp := blk_lt h.blk
  clear h
  go_enter Try.func30, Try.ntmps30
  go_wp2
  go_ret
  exact ⟨rfl, rfl⟩
theorem none_nil (W : World) : Calls Try.prog 30 #[.pointer none] W fun e w' => e = .returned (.bool true) ∧ W = w' := by
  go_enter Try.func30, Try.ntmps30
  go_wp2
  go_ret
  exact ⟨rfl, rfl⟩
theorem TAt.length (h : TAt K p most l ao n c mb W) : Calls Try.prog 23 #[.pointer (some ⟨p, 0, none⟩)] W fun e w' => e = .returned (.int .i64 n) ∧ W = w' := by
  have HN := Lib.hid h.isT
  have c0 := cell_blk h.blk 0 _ rfl
  have lp := blk_lt h.blk
  clear h
  go_enter Try.func23, Try.ntmps23
  go_wp2_with (go_at_call 30; refine HN.out.mono ?_; rintro e w' ⟨rfl, rfl⟩)
  go_ret
  exact ⟨rfl, rfl⟩
theorem TAt.due (h : TAt K p most l ao n c mb W) {k i : Int} (k0 : -9223372036854775808 ≤ k) (k1 : k ≤ 9223372036854775807) (i0 : 0 ≤ i) (i1 : i ≤ 18446744073709551615) :
    Calls Try.prog 20 #[.pointer (some ⟨p, 0, none⟩), tmV k i] W fun e w' => e = .returned (.tuple #[.int .u64 ((dueOf l k i).getD 0), .bool (dueOf l k i).isSome]) ∧ Below W.heap.size W w' := by
  obtain ⟨D, hD⟩ : ∃ D, D = (dueOf l k i).getD 0 := ⟨_, rfl⟩
  obtain ⟨F, hF⟩ : ∃ F, F = (dueOf l k i).isSome := ⟨_, rfl⟩
  rw [← hD, ← hF]
  obtain ⟨u, hu⟩ : ∃ X, X = W.alloc (.cells #[.int .i64 k, .int .u64 i] 26) := ⟨_, rfl⟩
  obtain ⟨X, hX⟩ : ∃ X, X = W.heap.size := ⟨_, rfl⟩
  have b1 : Below W.heap.size W u := by rw [hu]; exact (Below.refl _ W).alloc (Nat.le_refl _) _
  have kk : u.heap[X]? = some (.cells #[.int .i64 k, .int .u64 i] 26 (0, 0)) := by rw [hu, hX]; exact alloc_blk_new _ _
  have h2 := h.below b1
  have HN := Lib.hid h2.isT
  have hlk : ∀ q, (Instr.lookup 54 (.map (some mb)) (.agg #[.int .i64 k, .int .u64 i]) true).run Try.prog (u.drewN q) = .ok (.tuple #[.int .u64 D, .bool F]) (u.drewN q) := fun q => by
    rw [hD, hF]
    exact (h2.below (Below.drewN' u q)).map.look h.srt k0 k1 i0 i1
  have x0 := cell_blk kk 0 _ rfl
  have x1 := cell_blk kk 1 _ rfl
  have lx := blk_lt kk
  have c1 := cell_blk h2.blk 1 _ rfl
  have lp := blk_lt h2.blk
  have EU := Lib.hid hu
  have EX := Lib.hid hX
  have B1 := Lib.hid b1
  unfold tmV
  clear h h2 hu hX b1 kk hD hF
  go_enter Try.func20, Try.ntmps20
  go_wp2_with (go_at_call 30; fail)
  rw [← EU.out, ← EX.out]
  refine HN.out.mono ?_
  rintro e w' ⟨rfl, rfl⟩
  go_wp2_with fail
  go_quiet (fail)
  go_wp2
  go_ret2
  exact ⟨rfl, B1.out.trans ((Below.drewN' _ _).mono B1.out.size)⟩
end
end Go.Proofs.Ytnmbhcekcdicnaa
