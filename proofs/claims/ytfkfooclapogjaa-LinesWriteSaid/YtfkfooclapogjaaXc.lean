/-
  A splitter: Reset, Copy; what is told of none.
-/
import Derived.Test.YtfkfooclapogjaaWm
namespace Go.Proofs.Ytfkfooclapogjaa
open Go.RowKit
set_option linter.unusedVariables false
set_option linter.unusedSimpArgs false

/-- No splitter: none, or one that New has not made. -/
def NoS (w : World) (v : Value) : Prop := v = .pointer none ∨ ∃ p, v = .pointer (some ⟨p, 0, none⟩) ∧ w.cell? ⟨p, 1, none⟩ = some (.int .i64 0) ∧ p < w.heap.size
theorem NoS.no {w : World} {v : Value} (h : NoS w v) : Calls Try.prog 23 #[v] w fun e w' => e = .returned (.bool true) ∧ w = w' := by
  rcases h with rfl | ⟨p, rfl, h, hl⟩
  · exact none_snil w
  · exact none_szero p w h
theorem NoS.below {w w' : World} {v : Value} (h : NoS w v) (hb : Below w.heap.size w w') : NoS w' v := by
  rcases h with rfl | ⟨p, rfl, h, hl⟩
  · exact .inl rfl
  · exact .inr ⟨p, rfl, (hb.cell (p := ⟨p, 1, none⟩) hl).trans h, Nat.lt_of_lt_of_le hl hb.size⟩
theorem Reset_no (v : Value) (w : World) (h : NoS w v) : Calls Try.prog 16 #[v] w fun e w' => e = .returned (.int .i64 1) ∧ w = w' := by
  have HN := Lib.hid h.no
  clear h
  go_enter Try.func16, Try.ntmps16
  go_wp2_with (go_at_call 23; refine HN.out.mono ?_; rintro e w' ⟨rfl, rfl⟩)
  go_ret
  exact ⟨rfl, rfl⟩
theorem Copy_no (v : Value) (w : World) (h : NoS w v) : Calls Try.prog 17 #[v] w fun e w' => e = .returned (.pointer none) ∧ w = w' := by
  have HN := Lib.hid h.no
  clear h
  go_enter Try.func17, Try.ntmps17
  go_wp2_with (go_at_call 23; refine HN.out.mono ?_; rintro e w' ⟨rfl, rfl⟩)
  go_ret
  exact ⟨rfl, rfl⟩
theorem Write_no (v b : Value) (w : World) (h : NoS w v) : Calls Try.prog 8 #[v, b] w fun e w' => e = .returned (.tuple #[.slice none 0 0, .int .i64 1]) ∧ w = w' := by
  have HN := Lib.hid h.no
  clear h
  go_enter Try.func8, Try.ntmps8
  go_wp2_with (go_at_call 23; refine HN.out.mono ?_; rintro e w' ⟨rfl, rfl⟩)
  go_ret2
  exact ⟨rfl, rfl⟩

set_option maxHeartbeats 1600000 in
theorem Reset_ls {w wr : World} {K : Nat → Prop} {p D most : Nat} {zs : List Int} {s : Ss} (h : LS w K p D most zs s wr) :
    Calls Try.prog 16 #[.pointer (some ⟨p, 0, none⟩)] wr fun e w' => e = .returned (.int .i64 0) ∧ LS w K p D most [] ([], false, false) w' ∧ Mod (fun k => k = p ∨ k = D) wr w' := by
  obtain ⟨a, n, c0, hd, hsp, hln⟩ := h.at_
  obtain ⟨g0, g1, _, _, _, _, lp⟩ := hsp.cells
  have HNo := Lib.hid (none_s p most wr (by have := h.m0; omega) g1)
  obtain ⟨ES, hES⟩ : ∃ x, x = strOfNums (if zs = [] then [] else bytesL 65533) := ⟨_, rfl⟩
  have he := hd.end_
  rw [← hES] at he
  have HE := Lib.hid he
  have HH := Lib.hid h
  have HSP := Lib.hid hsp
  clear h hd hsp hln he hES
  go_enter Try.func16, Try.ntmps16
  go_wp2_with (first | (go_at_call 23; refine HNo.out.mono ?_; rintro e w' ⟨rfl, rfl⟩) | (go_at_call 29; fail))
  refine HE.out.mono ?_
  rintro e w1 ⟨rfl, hd1, hm1⟩
  have hDp : D ≠ p := fun e => hd1.nk (.inr e)
  have hsp1 := HSP.out.mod hm1 (fun e => hDp e.symm)
  obtain ⟨_, _, s2, s3, s4, sf, sl⟩ := hsp1.cells
  have sf2 := sf 2
  have sf3 := sf 3
  have sf4 := sf 4
  have HD1 := Lib.hid hd1
  have HM1 := Lib.hid hm1
  have HSP1 := Lib.hid hsp1
  have HDP := Lib.hid hDp
  clear hd1 hm1 hsp1 hDp g0 g1 sf HE HNo
  go_wp2
  go_ret
  have hm : Mod (fun k => k = p) w1 (((w1.setCell ⟨p, 2, none⟩ (.slice none 0 0)).setCell ⟨p, 3, none⟩ (.bool false)).setCell ⟨p, 4, none⟩ (.bool false)) := (((Mod.refl (fun k => k = p) w1).setCell ⟨p, 2, none⟩ (.inl rfl) _).setCell ⟨p, 3, none⟩ (.inl rfl) _).setCell ⟨p, 4, none⟩ (.inl rfl) _
  have hd2 := HD1.out.turnS hm (fun k e => ⟨.inr e, by subst e; exact HH.out.lo⟩)
  refine ⟨rfl, ⟨HH.out.kp, HH.out.lo, HH.out.m0, HH.out.m1, fun _ => rfl, none, 0, 0, hd2.mono (fun k e => .inl e), ((HSP1.out.set_line none 0 0).set_bg false).set_cr false, Ln.nil _ _⟩, ?_⟩
  exact (HM1.out.mono (T := fun k => k = p ∨ k = D) (fun k _ e => .inr e)).trans (hm.mono (T := fun k => k = p ∨ k = D) (fun k _ e => .inl e)) (fun k _ e => e)

theorem row_ln {w : World} {base : Nat} {n : Nat} {v : Value} {zs : List Int} (h : w.ownsRow base 5 1 v n (zs.map (.int .u8))) : ∃ a c, v = .slice a n c ∧ Ln (fun k => base ≤ k) w a n c zs := by
  obtain ⟨a, c, rfl⟩ := row_slice h
  obtain ⟨hlen, hA, hna⟩ := row_arg h
  rw [hlen] at hA
  refine ⟨a, c, rfl, ?_⟩
  rcases h.2 with ⟨h2, h1⟩ | ⟨g, c', cur, h1, h3, h4, h5, h6, _⟩
  · injection h2 with e1 e2 e3
    subst e1 e3
    exact ⟨hA, fun _ => ⟨h1, rfl⟩, (fun ad e => by cases e), by omega, by unfold maxLen; omega⟩
  · injection h1 with e1 e2 e3
    subst e1 e3
    exact ⟨hA, (fun e => by cases e), (fun ad e => by cases e; rfl), h5, h6⟩

set_option maxHeartbeats 3200000 in
theorem Copy_ls {w wr : World} {K : Nat → Prop} {p D most : Nat} {zs : List Int} {s : Ss} (h : LS w K p D most zs s wr) :
    Calls Try.prog 17 #[.pointer (some ⟨p, 0, none⟩)] wr fun e w' => ∃ p2 D2, e = .returned (.pointer (some ⟨p2, 0, none⟩)) ∧ LS w (fun k => w.heap.size ≤ k ∧ k < wr.heap.size) p2 D2 most zs s w' ∧ Below wr.heap.size wr w' ∧ wr.heap.size ≤ p2 ∧ wr.heap.size ≤ D2 := by
  have hm1 := h.m1
  obtain ⟨a, n, c0, hd, hsp, hln⟩ := h.at_
  obtain ⟨g0, g1, g2, g3, g4, _, lp⟩ := hsp.cells
  have hn6 : n ≤ 70000 := by
    have := hln.at_.1
    rw [List.length_take] at this
    omega
  have HNo := Lib.hid (none_s p most wr (by have := h.m0; omega) g1)
  obtain ⟨X, hX⟩ : ∃ X, X = wr.heap.size := ⟨_, rfl⟩
  obtain ⟨w1, hw1⟩ : ∃ W, W = wr.alloc (.cells #[.pointer (some ⟨D, 0, none⟩), .int .i64 most, .slice a n c0, .bool s.2.1, .bool s.2.2] 60) := ⟨_, rfl⟩
  have b1 : Below wr.heap.size wr w1 := by rw [hw1]; exact (Below.refl _ wr).alloc (Nat.le_refl _) _
  have k1 : w1.heap[X]? = some (.cells #[.pointer (some ⟨D, 0, none⟩), .int .i64 most, .slice a n c0, .bool s.2.1, .bool s.2.2] 60 (0, 0)) := by rw [hw1, hX]; exact alloc_blk_new _ _
  have z1 : w1.heap.size = X + 1 := by rw [hw1, hX]; simp
  have hd1 := hd.grow b1
  have HC := Lib.hid hd1.copy
  have HH := Lib.hid h
  have HSP := Lib.hid hsp
  have HLN := Lib.hid hln
  have E1 := Lib.hid hw1
  have EX := Lib.hid hX
  have B1 := Lib.hid b1
  have K1 := Lib.hid k1
  have Z1 := Lib.hid z1
  have gD1 := (b1.cell (p := ⟨p, 0, none⟩) lp).trans g0
  have lp1 := Nat.lt_of_lt_of_le lp b1.size
  obtain ⟨bg, hbg⟩ : ∃ b, b = s.2.1 := ⟨_, rfl⟩
  obtain ⟨cr, hcr⟩ : ∃ b, b = s.2.2 := ⟨_, rfl⟩
  rw [← hbg] at g3 E1 K1
  rw [← hcr] at g4 E1 K1
  have HBC := Lib.hid (And.intro hbg hcr)
  clear h hd hsp hln hw1 hX b1 k1 z1 hd1 hm1 hbg hcr
  go_enter Try.func17, Try.ntmps17
  go_wp2_with (first | (go_at_call 23; refine HNo.out.mono ?_; rintro e w' ⟨rfl, rfl⟩) | (go_at_call 30; fail))
  rw [← E1.out, ← EX.out]
  refine HC.out.mono ?_
  rintro e w2 ⟨D2, rfl, hd2, hb2⟩
  have k2 := (hb2.block X (blk_lt K1.out)).trans K1.out
  have lx2 := blk_lt k2
  have x0 : w2.cell? ⟨X, 0, none⟩ = some (.pointer (some ⟨D, 0, none⟩)) := cell_blk k2 0 _ rfl
  have x1 : w2.frozen? ⟨X, 0, none⟩ = false := frozen_blk k2 0
  have hb02 := B1.out.trans (hb2.mono B1.out.size)
  obtain ⟨w3, hw3⟩ : ∃ W, W = w2.setCell ⟨X, 0, none⟩ (.pointer (some ⟨D2, 0, none⟩)) := ⟨_, rfl⟩
  have hb03 : Below wr.heap.size wr w3 := by rw [hw3]; exact hb02.setCell (p := ⟨X, 0, none⟩) (Nat.le_of_eq EX.out.symm) _
  have k3 : w3.heap[X]? = some (.cells #[.pointer (some ⟨D2, 0, none⟩), .int .i64 most, .slice a n c0, .bool bg, .bool cr] 60 (0, 0)) := by rw [hw3]; exact setCell_blk k2 0 _
  have y2 := (hb02.cell (p := ⟨p, 2, none⟩) lp).trans g2
  have lp2 := Nat.lt_of_lt_of_le lp hb02.size
  have hXp : X ≠ p := by have := EX.out; omega
  have hpX : p ≠ X := by have := EX.out; omega
  have lp3 := Nat.lt_of_lt_of_le lp hb03.size
  have HCl := Lib.hid (Clone_any _ a n c0 _ w3 (HLN.out.at_.below hb03) (HLN.out.na) (by omega))
  have HD2 := Lib.hid hd2
  have HB2 := Lib.hid hb2
  have HB03 := Lib.hid hb03
  have K3 := Lib.hid k3
  have E3 := Lib.hid hw3
  clear hd2 hb2 k2 hb02 hw3 hb03 k3 HC gD1 lp1
  go_wp2_with (go_at_call 31; fail)
  rw [← E3.out]
  refine HCl.out.mono ?_
  rintro e w4 ⟨v, rfl, hrow, hb4, _⟩
  obtain ⟨a4, c4, rfl, hln4⟩ := row_ln hrow
  have k4 := (hb4.block X (blk_lt K3.out)).trans K3.out
  have lx4 := blk_lt k4
  have z2 : w4.cell? ⟨X, 2, none⟩ = some (.slice a n c0) := cell_blk k4 2 _ rfl
  have zf : w4.frozen? ⟨X, 2, none⟩ = false := frozen_blk k4 2
  have HL4 := Lib.hid hln4
  have HB4 := Lib.hid hb4
  have K4 := Lib.hid k4
  clear hrow hln4 hb4 k4 HCl
  go_wp2
  go_ret
  have hX := EX.out
  have hZ := Z1.out
  have hb12 := HB2.out.size
  have hD2 := HD2.out
  have hlo := HH.out.lo
  have hbl := HH.out.below.size
  -- the decoder behind the stores and the clone
  have hm3 : Mod (fun k => k = X) w2 w3 := by rw [E3.out]; exact (Mod.refl (fun k => k = X) w2).setCell ⟨X, 0, none⟩ (.inl rfl) _
  have hd3 := hD2.turnS hm3 (fun k e => ⟨by subst e; exact ⟨by omega, by omega⟩, by subst e; omega⟩)
  have hd4 := hd3.grow HB4.out
  have hm5 : Mod (fun k => k = X) w4 (w4.setCell ⟨X, 2, none⟩ (.slice a4 n c4)) := (Mod.refl (fun k => k = X) w4).setCell ⟨X, 2, none⟩ (.inl rfl) _
  have hd5 := hd4.turnS hm5 (fun k e => ⟨by subst e; exact .inl (.inl ⟨by omega, by omega⟩), by subst e; omega⟩)
  have hs3 := hm3.size
  have hs4 := HB4.out.size
  have hnk := hD2.nk
  have hDlt := hD2.lt
  have hDlo := hD2.lo
  have hDX : wr.heap.size ≤ D2 ∧ X ≠ D2 := by
    rcases Nat.lt_or_ge D2 w1.heap.size with h | h
    · exact absurd ⟨hDlo, h⟩ hnk
    · exact ⟨by omega, by omega⟩
  refine ⟨X, D2, rfl, ⟨by omega, by omega, HH.out.m0, HH.out.m1, HH.out.bc, a4, n, c4, hd5.mono (fun k hk => ?_), ⟨?_⟩, ?_⟩, ?_, by omega, hDX.1⟩
  · refine .inl (.inl (.inl ?_))
    rcases hk with hk | hk
    · exact ⟨hk.1, by omega⟩
    · exact ⟨by omega, by omega⟩
  · have := setCell_blk K4.out 2 (.slice a4 n c4)
    rw [← HBC.out.1, ← HBC.out.2]
    exact this
  · exact (HL4.out.mono (U := fun k => w3.heap.size ≤ k ∧ k < w4.heap.size) (fun k h1 h2 => ⟨h2, h1⟩)).mod hm5 (fun k hk e => by subst e; omega) |>.mono (fun k _ hk => ⟨by omega, by omega, by omega, by omega⟩)
  · exact (HB03.out.trans (HB4.out.mono HB03.out.size)).setCell (p := ⟨X, 2, none⟩) (Nat.le_of_eq hX.symm) _
end Go.Proofs.Ytfkfooclapogjaa
