/-
  A decoder: End, Waits, Copy; what is told of none.
-/
import Derived.Test.YtfkfooclapogjaaO
namespace Go.Proofs.Ytfkfooclapogjaa
open Go.RowKit
set_option linter.unusedVariables false
set_option linter.unusedSimpArgs false

set_option maxHeartbeats 1600000 in
set_option maxRecDepth 100000 in
theorem DS.end_ {w wr : World} {K : Nat → Prop} {D : Nat} {zs : List Int} (h : DS w K D zs wr) :
    Calls Try.prog 29 #[.pointer (some ⟨D, 0, none⟩)] wr fun e w' => e = .returned (.tuple #[.string (strOfNums (if zs = [] then [] else bytesL 65533)), .int .i64 0]) ∧ DS w K D [] w' ∧ Mod (fun k => k = D) wr w' := by
  obtain ⟨ao, n, cap, hwb⟩ := h.wb
  have hzl := hwb.arg.1
  have hl3 := h.l3
  have c0 := hwb.c0
  have f0 := hwb.fz
  have hD := hwb.lt
  have HN := Lib.hid (none_d D wr h.c1)
  obtain ⟨w1, hw1⟩ : ∃ W, W = wr.setCell ⟨D, 0, none⟩ (.slice none 0 0) := ⟨_, rfl⟩
  have hM : Mod (fun k => k = D) wr w1 := by rw [hw1]; exact (Mod.refl (fun k => k = D) wr).setCell ⟨D, 0, none⟩ (.inl rfl) _
  have g0 : w1.cell? ⟨D, 0, none⟩ = some (.slice none 0 0) := by rw [hw1]; exact World.cell?_setCell_same' _ _ _ (by rw [c0]; rfl)
  have g1 : w1.cell? ⟨D, 1, none⟩ = some (.bool true) := by rw [hw1]; exact (cell1_set wr D _).trans h.c1
  have gf : w1.frozen? ⟨D, 0, none⟩ = false := by rw [hw1, World.frozen?_setCell]; exact f0
  have hfin : ∀ w2, Below w1.heap.size w1 w2 → DS w K D [] w2 ∧ Mod (fun k => k = D) wr w2 := fun w2 hb => by
    have hM2 := hM.trans (Mod.of_below hb (fun k => k = D)) (fun _ _ e => e)
    have hD1 := Nat.lt_of_lt_of_le hD hM.size
    have hlo := h.lo
    exact ⟨⟨(Mod.trans (S := fun k => w.heap.size ≤ k) (Mod.of_below h.below _) hM2 (fun k _ e => by omega)).below (fun k hk => by omega), h.lo, h.nk, fun k hk => Nat.lt_of_lt_of_le (h.klt k hk) hM2.size, ⟨none, 0, 0, ⟨(hb.cell (p := ⟨D, 0, none⟩) hD1).trans g0, (hb.frozen (p := ⟨D, 0, none⟩) hD1).trans gf, Nat.lt_of_lt_of_le hD1 hb.size, ⟨rfl, fun h => by omega⟩, fun _ => ⟨rfl, rfl⟩, by simp, by omega, by simp [maxLen]⟩⟩, (hb.cell (p := ⟨D, 1, none⟩) hD1).trans g1, Byt.nil, by simp⟩, hM2⟩
  have HFin := Lib.hid hfin
  obtain ⟨w2, hw2⟩ : ∃ W, W = w1.alloc (.cells #[.int .i64 65533] 3) := ⟨_, rfl⟩
  have b2 : Below w1.heap.size w1 w2 := by rw [hw2]; exact (Below.refl _ w1).alloc (Nat.le_refl _) _
  have k2 : w2.heap[w1.heap.size]? = some (.cells #[.int .i64 65533] 3 (0, 0)) := by rw [hw2]; exact alloc_blk_new _ _
  have HJ := Lib.hid (joined_any (some ⟨w1.heap.size, 0, none⟩) 1 1 [65533] w2 ⟨rfl, fun _ => ⟨_, 0, rfl, blk_lt k2, fun j hj => by
    obtain rfl : j = 0 := by omega
    exact cell_blk k2 0 _ rfl⟩⟩ (fun p hp => by simp at hp; subst hp; exact Pt.bad) (by omega))
  rw [show enc [65533] = bytesL 65533 by simp [enc]] at HJ
  have E1 := Lib.hid hw1
  have E2 := Lib.hid hw2
  have B2 := Lib.hid b2
  have hs1 : w1.heap.size = wr.heap.size := by rw [hw1]; simp [World.setCell]
  have HS1 := Lib.hid hs1
  clear hfin hM g0 g1 gf b2 k2 hwb h hw1 hw2 hs1
  by_cases hz : n = 0
  · subst hz
    obtain rfl : zs = [] := List.eq_nil_of_length_eq_zero hzl
    go_enter Try.func29, Try.ntmps29
    go_wp2_with (first | (go_at_call 37; refine HN.out.mono ?_; rintro e w' ⟨rfl, rfl⟩))
    go_ret2
    rw [← E1.out]
    obtain ⟨h1, h2⟩ := HFin.out w1 (Below.refl _ _)
    exact ⟨rfl, h1, h2⟩
  · have hne : (n == 0) = false := by simpa using hz
    have hne2 : ((n : Int) == 0) = false := by simp; omega
    have hzz : ¬ zs = [] := fun e => by subst e; simp at hzl; omega
    have HZ : Hid ((if zs = [] then [] else bytesL 65533) = bytesL 65533) := Lib.hid (if_neg hzz)
    rw [HZ.out]
    have hn3 : n ≤ 3 := by omega
    clear hz hzz hzl HZ
    go_enter Try.func29, Try.ntmps29
    go_wp2_with (first | (go_at_call 37; refine HN.out.mono ?_; rintro e w' ⟨rfl, rfl⟩) | (go_at_call 40; fail))
    rw [← E1.out]
    rw [← HS1.out]
    rw [← E2.out]
    refine HJ.out.mono ?_
    rintro e w3 ⟨rfl, hb3⟩
    obtain ⟨h1, h2⟩ := HFin.out w3 (B2.out.trans (hb3.mono B2.out.size))
    have H12 := Lib.hid (And.intro h1 h2)
    clear h1 h2 hb3
    go_wp2
    go_ret2
    exact ⟨rfl, H12.out.1, H12.out.2⟩

set_option maxHeartbeats 1600000 in
theorem DS.waits {w wr : World} {K : Nat → Prop} {D : Nat} {zs : List Int} (h : DS w K D zs wr) :
    Calls Try.prog 49 #[.pointer (some ⟨D, 0, none⟩)] wr fun e w' => ∃ a c, e = .returned (.slice a zs.length c) ∧ w'.ownsRow wr.heap.size 5 1 (.slice a zs.length c) zs.length (zs.map (.int .u8)) ∧ Below wr.heap.size wr w' := by
  obtain ⟨ao, n, cap, hwb⟩ := h.wb
  obtain rfl : n = zs.length := hwb.arg.1.symm
  have hl3 := h.l3
  have c0 := hwb.c0
  have hD := hwb.lt
  have HN := Lib.hid (none_d D wr h.c1)
  have HC := Lib.hid (Clone_any _ ao zs.length cap zs wr hwb.arg hwb.none_ (by omega))
  clear hwb h
  go_enter Try.func49, Try.ntmps49
  go_wp2_with (first | (go_at_call 37; refine HN.out.mono ?_; rintro e w' ⟨rfl, rfl⟩) | (go_at_call 31; refine HC.out.mono ?_; rintro e w' ⟨v, rfl, hr, hb, _⟩))
  go_ret
  obtain ⟨a, c, rfl⟩ := row_slice hr
  exact ⟨a, c, rfl, hr, hb⟩

set_option maxHeartbeats 1600000 in
set_option maxRecDepth 100000 in
theorem DS.copy {w wr : World} {K : Nat → Prop} {D : Nat} {zs : List Int} (h : DS w K D zs wr) :
    Calls Try.prog 30 #[.pointer (some ⟨D, 0, none⟩)] wr fun e w' => ∃ D2, e = .returned (.pointer (some ⟨D2, 0, none⟩)) ∧ DS w (fun k => w.heap.size ≤ k ∧ k < wr.heap.size) D2 zs w' ∧ Below wr.heap.size wr w' := by
  obtain ⟨ao, n, cap, hwb⟩ := h.wb
  have c0 := hwb.c0
  have c1 := h.c1
  have hD := hwb.lt
  have HN := Lib.hid (none_d D wr h.c1)
  obtain ⟨w1, hw1⟩ : ∃ W, W = wr.alloc (.cells #[.slice ao n cap, .bool true] 84) := ⟨_, rfl⟩
  have b1 : Below wr.heap.size wr w1 := by rw [hw1]; exact (Below.refl _ wr).alloc (Nat.le_refl _) _
  have k1 : w1.heap[wr.heap.size]? = some (.cells #[.slice ao n cap, .bool true] 84 (0, 0)) := by rw [hw1]; exact alloc_blk_new _ _
  have HW := Lib.hid (h.grow b1).waits
  have E1 := Lib.hid hw1
  have B1 := Lib.hid b1
  have K1 := Lib.hid k1
  have HH := Lib.hid h
  have hs1 := blk_lt k1
  clear b1 k1 hw1 hwb h
  go_enter Try.func30, Try.ntmps30
  go_wp2_with (first | (go_at_call 37; refine HN.out.mono ?_; rintro e w' ⟨rfl, rfl⟩) | (go_at_call 49; fail))
  rw [← E1.out]
  refine HW.out.mono ?_
  rintro e w2 ⟨a, c, rfl, hr, hb⟩
  have k2 := (hb.block _ hs1).trans K1.out
  have HK2 := Lib.hid k2
  have HR := Lib.hid hr
  have HB2 := Lib.hid (B1.out.trans (hb.mono B1.out.size))
  have HBB := Lib.hid hb
  have l0 := cell_blk k2 0 _ rfl
  have f2 := frozen_blk k2 0
  have hl2 := blk_lt k2
  clear k2 hr hb
  go_wp2
  go_ret
  have hM : Mod (fun k => k = wr.heap.size) w2 (w2.setCell ⟨wr.heap.size, 0, none⟩ (.slice a zs.length c)) := (Mod.refl (fun k => k = wr.heap.size) w2).setCell ⟨wr.heap.size, 0, none⟩ (.inl rfl) _
  have hk3 := setCell_blk HK2.out 0 (.slice a zs.length c)
  have hsB := HH.out.below.size
  have hs2 := HB2.out.size
  obtain ⟨_, hA, hnn⟩ := row_arg HR.out
  have hb3 : Below wr.heap.size wr (w2.setCell ⟨wr.heap.size, 0, none⟩ (.slice a zs.length c)) := HB2.out.setCell (p := ⟨wr.heap.size, 0, none⟩) (Nat.le_refl _) _
  have hnc : zs.length ≤ c ∧ c ≤ maxLen ∧ ∀ ad, a = some ad → ad.spot = none := by
    rcases HR.out.2 with ⟨e, h0⟩ | ⟨g, cap', cur, e, _, _, e1, e2, _⟩
    · injection e with e1 e2 e3
      subst e1; subst e3
      exact ⟨by omega, by unfold maxLen; omega, by simp⟩
    · injection e with e3 e4 e5
      subst e3; subst e5
      exact ⟨e1, e2, fun ad e => by cases e; rfl⟩
  refine ⟨wr.heap.size, rfl, ⟨HH.out.below.trans (hb3.mono hsB), hsB, fun e => by omega, fun k hk => by have := hM.size; omega, ⟨a, zs.length, c, ⟨cell_blk hk3 0 _ rfl, frozen_blk hk3 0, blk_lt hk3, ?_, hnn, hnc.2.2, hnc.1, hnc.2.1⟩⟩, cell_blk hk3 1 _ rfl, HH.out.by_, HH.out.l3⟩, hb3⟩
  have hA1 : Arg (fun k => wr.heap.size < k) w2 a zs.length zs := hA.mono fun k _ hk => by have h2 : w1.heap.size ≤ k := hk; omega
  exact (hA1.mod hM (fun k hk e => by omega)).mono fun k _ hk => ⟨by omega, fun e => by omega, by omega⟩
end Go.Proofs.Ytfkfooclapogjaa
