/-
  Stop.
-/
import Derived.Test.YtnmbhcekcdicnaaP
namespace Go.Proofs.Ytnmbhcekcdicnaa
open Go.RowKit
set_option linter.unusedVariables false
set_option linter.unusedSimpArgs false

section
variable {K K' : Nat → Prop} {p n c mb : Nat} {most : Int} {l : List Rw} {ao : Option Addr} {W W' : World}
theorem TAt.stop_no (h : TAt K p most l ao n c mb W) {k i : Int} (k0 : -9223372036854775808 ≤ k) (k1 : k ≤ 9223372036854775807) (i0 : 0 ≤ i) (i1 : i ≤ 18446744073709551615) (hd : dueOf l k i = none) :
    Calls Try.prog 19 #[.pointer (some ⟨p, 0, none⟩), tmV k i] W fun e w' => e = .returned (.tuple #[.int .u64 0, .bool false]) ∧ Below W.heap.size W w' := by
  obtain ⟨u, hu⟩ : ∃ X, X = W.alloc (.cells #[.int .i64 k, .int .u64 i] 26) := ⟨_, rfl⟩
  obtain ⟨X, hX⟩ : ∃ X, X = W.heap.size := ⟨_, rfl⟩
  have b1 : Below W.heap.size W u := by rw [hu]; exact (Below.refl _ W).alloc (Nat.le_refl _) _
  have kk : u.heap[X]? = some (.cells #[.int .i64 k, .int .u64 i] 26 (0, 0)) := by rw [hu, hX]; exact alloc_blk_new _ _
  have HD0 := (h.below b1).due k0 k1 i0 i1
  rw [hd] at HD0
  unfold tmV at HD0 ⊢
  have HD := Lib.hid HD0
  have x0 := cell_blk kk 0 _ rfl
  have x1 := cell_blk kk 1 _ rfl
  have lx := blk_lt kk
  have EU := Lib.hid hu
  have EX := Lib.hid hX
  have B1 := Lib.hid b1
  clear h HD0 hu hX b1 kk hd
  go_enter Try.func19, Try.ntmps19
  go_wp2_with (go_at_call 20; fail)
  rw [← EU.out, ← EX.out]
  refine HD.out.mono ?_
  rintro e w2 ⟨rfl, hb2⟩
  have HB := Lib.hid (B1.out.trans (hb2.mono B1.out.size))
  clear hb2
  go_wp2
  go_ret2
  exact ⟨rfl, HB.out⟩
end
end Go.Proofs.Ytnmbhcekcdicnaa
