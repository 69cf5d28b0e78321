/-
  The window's methods.
-/
import Derived.Test.YtagdenhcbafblaaCom
namespace Go.Proofs.Ytagdenhcbafblaa
open Go.RowKit
set_option linter.unusedVariables false
set_option linter.unusedSimpArgs false

/-- A window in memory. -/
structure Wi (w : World) (p : Nat) (left gone : Int) (shut : Bool) : Prop where
  blk : w.heap[p]? = some (.cells #[.int .u64 left, .int .u64 gone, .bool shut, .bool true] 58 (0, 0))
  l0 : 0 ≤ left
  l1 : left ≤ 1099511627776
  g0 : 0 ≤ gone
  g1 : gone ≤ 18446744073709551615
theorem Wi.lt {w : World} {p : Nat} {l g : Int} {s : Bool} (h : Wi w p l g s) : p < w.heap.size := blk_lt h.blk
theorem Wi.c {w : World} {p : Nat} {l g : Int} {s : Bool} (h : Wi w p l g s) : w.cell? ⟨p, 0, none⟩ = some (.int .u64 l) ∧ w.cell? ⟨p, 1, none⟩ = some (.int .u64 g) ∧ w.cell? ⟨p, 2, none⟩ = some (.bool s) ∧ w.cell? ⟨p, 3, none⟩ = some (.bool true) :=
  ⟨cell_blk h.blk 0 _ rfl, cell_blk h.blk 1 _ rfl, cell_blk h.blk 2 _ rfl, cell_blk h.blk 3 _ rfl⟩
theorem Wi.f {w : World} {p : Nat} {l g : Int} {s : Bool} (h : Wi w p l g s) (j : Nat) : w.frozen? ⟨p, j, none⟩ = false := frozen_blk h.blk j
theorem Wi.mod {w w' : World} {S : Nat → Prop} {p : Nat} {l g : Int} {s : Bool} (h : Wi w p l g s) (hm : Mod S w w') (hn : ¬ S p) : Wi w' p l g s :=
  ⟨(hm.block p h.lt hn).trans h.blk, h.l0, h.l1, h.g0, h.g1⟩
theorem Wi.below {w w' : World} {p : Nat} {l g : Int} {s : Bool} (h : Wi w p l g s) (hb : Below w.heap.size w w') : Wi w' p l g s := h.mod (Mod.of_below hb (fun _ => False)) (fun h => h)
theorem Wi.drewN {w : World} {p : Nat} {l g : Int} {s : Bool} (h : Wi w p l g s) (n : Nat) : Wi (w.drewN n) p l g s := ⟨h.blk, h.l0, h.l1, h.g0, h.g1⟩
theorem Wi.setL {w : World} {p : Nat} {l g : Int} {s : Bool} (h : Wi w p l g s) (x : Int) (h0 : 0 ≤ x) (h1 : x ≤ 1099511627776) : Wi (w.setCell ⟨p, 0, none⟩ (.int .u64 x)) p x g s ∧ Mod (fun q => q = p) w (w.setCell ⟨p, 0, none⟩ (.int .u64 x)) :=
  ⟨⟨by rw [setCell_blk h.blk]; rfl, h0, h1, h.g0, h.g1⟩, Mod.setCell (S := fun q => q = p) (Mod.refl _ _) ⟨p, 0, none⟩ (.inl rfl) _⟩
theorem Wi.setG {w : World} {p : Nat} {l g : Int} {s : Bool} (h : Wi w p l g s) (x : Int) (h0 : 0 ≤ x) (h1 : x ≤ 18446744073709551615) : Wi (w.setCell ⟨p, 1, none⟩ (.int .u64 x)) p l x s ∧ Mod (fun q => q = p) w (w.setCell ⟨p, 1, none⟩ (.int .u64 x)) :=
  ⟨⟨by rw [setCell_blk h.blk]; rfl, h.l0, h.l1, h0, h1⟩, Mod.setCell (S := fun q => q = p) (Mod.refl _ _) ⟨p, 1, none⟩ (.inl rfl) _⟩
theorem Wi.setS {w : World} {p : Nat} {l g : Int} {s : Bool} (h : Wi w p l g s) (x : Bool) : Wi (w.setCell ⟨p, 2, none⟩ (.bool x)) p l g x ∧ Mod (fun q => q = p) w (w.setCell ⟨p, 2, none⟩ (.bool x)) :=
  ⟨⟨by rw [setCell_blk h.blk]; rfl, h.l0, h.l1, h.g0, h.g1⟩, Mod.setCell (S := fun q => q = p) (Mod.refl _ _) ⟨p, 2, none⟩ (.inl rfl) _⟩
theorem ret_tup {k k' : IntKind} {a b c : Int} (h : a = b) : Ending.returned (.tuple #[.int k a, .int k' c]) = .returned (.tuple #[.int k b, .int k' c]) := by rw [h]
theorem ret_one {k : IntKind} {a b : Int} (h : a = b) : Ending.returned (.int k a) = .returned (.int k b) := by rw [h]

theorem num_any (a : Int) (w : World) : Calls Try.prog 10 #[.int .i64 a] w fun e w' => e = .returned (.int .i64 a) ∧ w = w' := by
  go_enter Try.func10, Try.ntmps10
  go_wp2
  go_ret
  exact ⟨rfl, rfl⟩
theorem none_nil (w : World) : Calls Try.prog 24 #[.pointer none] w fun e w' => e = .returned (.bool true) ∧ w = w' := by
  go_enter Try.func24, Try.ntmps24
  go_wp2
  go_ret
  exact ⟨rfl, rfl⟩
theorem none_at (p : Nat) (m : Bool) (w : World) (h3 : w.cell? ⟨p, 3, none⟩ = some (.bool m)) : Calls Try.prog 24 #[.pointer (some ⟨p, 0, none⟩)] w fun e w' => e = .returned (.bool (!m)) ∧ w = w' := by
  go_enter Try.func24, Try.ntmps24
  go_wp2
  go_ret
  exact ⟨rfl, rfl⟩
theorem none_wi (p : Nat) (l g : Int) (s : Bool) (w : World) (h : Wi w p l g s) : Calls Try.prog 24 #[.pointer (some ⟨p, 0, none⟩)] w fun e w' => e = .returned (.bool false) ∧ w = w' := none_at p true w h.c.2.2.2
theorem left_wi (p : Nat) (l g : Int) (s : Bool) (w : World) (h : Wi w p l g s) : Calls Try.prog 25 #[.pointer (some ⟨p, 0, none⟩)] w fun e w' => e = .returned (.int .u64 l) ∧ w = w' := by
  have c0 := h.c.1
  clear h
  go_enter Try.func25, Try.ntmps25
  go_wp2
  go_ret
  exact ⟨rfl, rfl⟩
theorem gone_wi (p : Nat) (l g : Int) (s : Bool) (w : World) (h : Wi w p l g s) : Calls Try.prog 27 #[.pointer (some ⟨p, 0, none⟩)] w fun e w' => e = .returned (.int .u64 g) ∧ w = w' := by
  have c0 := h.c.2.1
  clear h
  go_enter Try.func27, Try.ntmps27
  go_wp2
  go_ret
  exact ⟨rfl, rfl⟩
theorem add_ok (a b : Int) (w : World) (h0 : 0 ≤ a) (h1 : 0 ≤ b) (h : a + b ≤ 18446744073709551615) : Calls Try.prog 36 #[.int .u64 a, .int .u64 b] w fun e w' => e = .returned (.tuple #[.int .u64 (a + b), .int .i64 0]) ∧ w = w' := by
  go_enter Try.func36, Try.ntmps36
  go_wp2
  go_ret2
  exact ⟨rfl, rfl⟩
theorem add_no (a b : Int) (w : World) (h1 : 0 ≤ b) (h0 : 0 ≤ a) (ha : a ≤ 18446744073709551615) (hb : b ≤ 18446744073709551615) (h : 18446744073709551615 < a + b) : Calls Try.prog 36 #[.int .u64 a, .int .u64 b] w fun e w' => e = .returned (.tuple #[.int .u64 0, .int .i64 111]) ∧ w = w' := by
  obtain ⟨x, hx⟩ : ∃ x, IntKind.u64.wrap (a + b) = x ∧ x < a := ⟨_, rfl, by rw [IntKind.wrap_u64]; omega⟩
  obtain ⟨hx, hx2⟩ := hx
  clear h
  go_enter Try.func36, Try.ntmps36
  go_wp2
  go_ret2
  exact ⟨rfl, rfl⟩
theorem New_wi (w : World) : Calls Try.prog 8 #[] w fun e w' => e = .returned (.pointer (some ⟨w.heap.size, 0, none⟩)) ∧ Wi w' w.heap.size 0 0 false ∧ Below w.heap.size w w' := by
  go_enter Try.func8, Try.ntmps8
  go_wp2
  go_ret
  exact ⟨rfl, ⟨alloc_blk_new _ _, by omega, by omega, by omega, by omega⟩, (Below.refl _ _).alloc (Nat.le_refl _) _⟩
set_option maxHeartbeats 800000 in
theorem Left_wi (p : Nat) (l g : Int) (s : Bool) (w : World) (h : Wi w p l g s) : Calls Try.prog 13 #[.pointer (some ⟨p, 0, none⟩)] w fun e w' => e = .returned (.int .u64 l) ∧ w = w' := by
  have HN := Lib.hid (none_wi p l g s w h)
  have HL := Lib.hid (left_wi p l g s w h)
  clear h
  go_enter Try.func13, Try.ntmps13
  go_wp2_with (first | (go_at_call 24; refine HN.out.mono ?_; rintro e w' ⟨rfl, rfl⟩) | (go_at_call 25; refine HL.out.mono ?_; rintro e w' ⟨rfl, rfl⟩))
  go_ret
  exact ⟨rfl, rfl⟩
set_option maxHeartbeats 800000 in
theorem Gone_wi (p : Nat) (l g : Int) (s : Bool) (w : World) (h : Wi w p l g s) : Calls Try.prog 12 #[.pointer (some ⟨p, 0, none⟩)] w fun e w' => e = .returned (.int .u64 g) ∧ w = w' := by
  have HN := Lib.hid (none_wi p l g s w h)
  have HL := Lib.hid (gone_wi p l g s w h)
  clear h
  go_enter Try.func12, Try.ntmps12
  go_wp2_with (first | (go_at_call 24; refine HN.out.mono ?_; rintro e w' ⟨rfl, rfl⟩) | (go_at_call 27; refine HL.out.mono ?_; rintro e w' ⟨rfl, rfl⟩))
  go_ret
  exact ⟨rfl, rfl⟩
set_option maxHeartbeats 800000 in
theorem Open_wi (p : Nat) (l g : Int) (s : Bool) (w : World) (h : Wi w p l g s) : Calls Try.prog 22 #[.pointer (some ⟨p, 0, none⟩)] w fun e w' => e = .returned (.bool (!s)) ∧ w = w' := by
  have HN := Lib.hid (none_wi p l g s w h)
  have c2 := h.c.2.2.1
  clear h
  go_enter Try.func22, Try.ntmps22
  go_wp2_with (go_at_call 24; refine HN.out.mono ?_; rintro e w' ⟨rfl, rfl⟩)
  go_ret
  exact ⟨rfl, rfl⟩
set_option maxHeartbeats 800000 in
theorem Shut_wi (p : Nat) (l g : Int) (s : Bool) (w : World) (h : Wi w p l g s) : Calls Try.prog 21 #[.pointer (some ⟨p, 0, none⟩)] w fun e w' => e = .returned (.int .u64 l) ∧ Wi w' p 0 g true ∧ Mod (fun q => q = p) w w' := by
  have HN := Lib.hid (none_wi p l g s w h)
  have HL := Lib.hid (Left_wi p l g s w h)
  have c0 := h.c.1
  have c2 := h.c.2.2.1
  have f0 := h.f 0
  have f2 := h.f 2
  have h1 := h.setL 0 (by omega) (by omega)
  have h2 := h1.1.setS true
  have H2 := Lib.hid (And.intro h2.1 (h1.2.trans h2.2 (fun _ _ e => e)))
  clear h h1 h2
  go_enter Try.func21, Try.ntmps21
  go_wp2_with (first | (go_at_call 24; refine HN.out.mono ?_; rintro e w' ⟨rfl, rfl⟩) | (go_at_call 13; refine HL.out.mono ?_; rintro e w' ⟨rfl, rfl⟩))
  go_ret
  exact ⟨rfl, H2.out⟩

end Go.Proofs.Ytagdenhcbafblaa
