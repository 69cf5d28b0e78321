import Derived.Test.YtkoppmnofloefaaC
namespace Go.Proofs.Ytkoppmnofloefaa
open Go.RowKit
set_option linter.unusedVariables false
set_option linter.unusedSimpArgs false

theorem Bo.setBase {w : World} {p : Nat} {L M J base : Int} {k : Nat} (h : Bo w p L M J base k) (b' : Int) (h1 : L ≤ b') (h2 : b' ≤ M) : Bo (w.setCell ⟨p, 3, none⟩ (.int .u64 b')) p L M J b' k ∧ Mod (fun q => q = p) w (w.setCell ⟨p, 3, none⟩ (.int .u64 b')) :=
  ⟨⟨by unfold BoAt; rw [setCell_blk h.at_]; rfl, h.l1, h.lm, h.m2, h.j0, h.j2, h1, h2, h.k2⟩, Mod.setCell (S := fun q => q = p) (Mod.refl _ _) ⟨p, 3, none⟩ (.inl rfl) _⟩
theorem Bo.setTries {w : World} {p : Nat} {L M J base : Int} {k : Nat} (h : Bo w p L M J base k) (k' : Nat) (h1 : k' ≤ 64) : Bo (w.setCell ⟨p, 4, none⟩ (.int .i64 k')) p L M J base k' ∧ Mod (fun q => q = p) w (w.setCell ⟨p, 4, none⟩ (.int .i64 k')) :=
  ⟨⟨by unfold BoAt; rw [setCell_blk h.at_]; rfl, h.l1, h.lm, h.m2, h.j0, h.j2, h.bl, h.bm, h1⟩, Mod.setCell (S := fun q => q = p) (Mod.refl _ _) ⟨p, 4, none⟩ (.inl rfl) _⟩

theorem Bo.c {w : World} {p : Nat} {L M J base : Int} {k : Nat} (h : Bo w p L M J base k) :
    w.cell? ⟨p, 0, none⟩ = some (.int .u64 L) ∧ w.cell? ⟨p, 1, none⟩ = some (.int .u64 M) ∧ w.cell? ⟨p, 2, none⟩ = some (.int .u64 J) ∧ w.cell? ⟨p, 3, none⟩ = some (.int .u64 base) ∧ w.cell? ⟨p, 4, none⟩ = some (.int .i64 k) ∧ w.cell? ⟨p, 5, none⟩ = some (.bool true) :=
  ⟨cell_blk h.at_ 0 _ rfl, cell_blk h.at_ 1 _ rfl, cell_blk h.at_ 2 _ rfl, cell_blk h.at_ 3 _ rfl, cell_blk h.at_ 4 _ rfl, cell_blk h.at_ 5 _ rfl⟩
theorem Bo.f {w : World} {p : Nat} {L M J base : Int} {k : Nat} (h : Bo w p L M J base k) (j : Nat) : w.frozen? ⟨p, j, none⟩ = false := frozen_blk h.at_ j

theorem none_of (p : Nat) (L M J base : Int) (k : Nat) (w : World) (h : Bo w p L M J base k) :
    Calls Try.prog 26 #[.pointer (some ⟨p, 0, none⟩)] w fun e w' => e = .returned (.bool false) ∧ w = w' := none_bo p w true h.c.2.2.2.2.2

set_option maxHeartbeats 400000 in
theorem Peek_bo (p : Nat) (L M J base draw : Int) (k : Nat) (w : World) (h : Bo w p L M J base k) (hd : 0 ≤ draw) :
    Calls Try.prog 12 #[.pointer (some ⟨p, 0, none⟩), .int .u64 draw] w fun e w' => e = .returned (.tuple #[.int .u64 (delayOf M J base k draw), .int .i64 0]) ∧ ∃ n, w' = w.drewN n := by
  have HN := Lib.hid (none_of p L M J base k w h)
  have HD := Lib.hid (delay_bo p L M J base draw k 0 w h (by omega) hd)
  clear h
  go_enter Try.func12, Try.ntmps12
  go_wp2
  refine wp_scope_straight ?_
  go_wp2_with (first | (go_at_call 26; refine HN.out.mono ?_; rintro e w' ⟨rfl, rfl⟩) | (go_at_call 28; refine HD.out.mono ?_; rintro e w' ⟨rfl, n, rfl⟩))
  try rw [Exit.noGoto_ret]
  go_ret2
  exact ⟨rfl, n, rfl⟩

set_option maxHeartbeats 400000 in
theorem Next_bo (p : Nat) (L M J base draw : Int) (k : Nat) (w : World) (h : Bo w p L M J base k) (hd : 0 ≤ draw) :
    Calls Try.prog 13 #[.pointer (some ⟨p, 0, none⟩), .int .u64 draw] w fun e w' => e = .returned (.tuple #[.int .u64 (delayOf M J base k draw), .int .i64 0]) ∧ Bo w' p L M J base (min (k + 1) 64) ∧ Mod (fun q => q = p) w w' := by
  have HP := Lib.hid (Peek_bo p L M J base draw k w h hd)
  have H := Lib.hid h
  have c4 := h.c.2.2.2.2.1
  have f4 := h.f 4
  have hk := h.k2
  clear h
  by_cases hk2 : (k : Int) + 1 ≤ 64
  · obtain ⟨k1, hk1⟩ : ∃ k1 : Nat, k1 = min (k + 1) 64 := ⟨_, rfl⟩
    obtain ⟨g1, g2⟩ := H.out.setTries k1 (by omega)
    rw [show (k1 : Int) = k + 1 by omega] at g1 g2
    rw [← hk1]
    have HG := Lib.hid g1
    have HM := Lib.hid g2
    clear g1 g2 hk1
    go_enter Try.func13, Try.ntmps13
    go_wp2_with (go_at_call 12; refine HP.out.mono ?_; rintro e w' ⟨rfl, n, rfl⟩)
    go_ret2
    exact ⟨rfl, HG.out.drewN n, HM.out.drewN n⟩
  · obtain ⟨k1, hk1⟩ : ∃ k1 : Nat, k1 = min (k + 1) 64 := ⟨_, rfl⟩
    obtain ⟨g1, g2⟩ := H.out.setTries k1 (by omega)
    rw [show (k1 : Int) = 64 by omega] at g1 g2
    rw [← hk1]
    have HG := Lib.hid g1
    have HM := Lib.hid g2
    clear g1 g2 hk1
    go_enter Try.func13, Try.ntmps13
    go_wp2_with (go_at_call 12; refine HP.out.mono ?_; rintro e w' ⟨rfl, n, rfl⟩)
    go_ret2
    exact ⟨rfl, HG.out.drewN n, HM.out.drewN n⟩

set_option maxHeartbeats 400000 in
theorem Tries_bo (p : Nat) (L M J base : Int) (k : Nat) (w : World) (h : Bo w p L M J base k) :
    Calls Try.prog 23 #[.pointer (some ⟨p, 0, none⟩)] w fun e w' => e = .returned (.int .i64 k) ∧ w = w' := by
  have HN := Lib.hid (none_of p L M J base k w h)
  have c4 := h.c.2.2.2.2.1
  clear h
  go_enter Try.func23, Try.ntmps23
  go_wp2_with (go_at_call 26; refine HN.out.mono ?_; rintro e w' ⟨rfl, rfl⟩)
  go_ret
  exact ⟨rfl, rfl⟩

set_option maxHeartbeats 400000 in
theorem Base_bo (p : Nat) (L M J base : Int) (k : Nat) (w : World) (h : Bo w p L M J base k) :
    Calls Try.prog 24 #[.pointer (some ⟨p, 0, none⟩)] w fun e w' => e = .returned (.int .u64 base) ∧ w = w' := by
  have HN := Lib.hid (none_of p L M J base k w h)
  have c3 := h.c.2.2.2.1
  clear h
  go_enter Try.func24, Try.ntmps24
  go_wp2_with (go_at_call 26; refine HN.out.mono ?_; rintro e w' ⟨rfl, rfl⟩)
  go_ret
  exact ⟨rfl, rfl⟩

set_option maxHeartbeats 400000 in
theorem Reset_bo (p : Nat) (L M J base : Int) (k : Nat) (w : World) (h : Bo w p L M J base k) :
    Calls Try.prog 22 #[.pointer (some ⟨p, 0, none⟩)] w fun e w' => e = .returned (.int .i64 0) ∧ Bo w' p L M J base 0 ∧ Mod (fun q => q = p) w w' := by
  have HN := Lib.hid (none_of p L M J base k w h)
  have c4 := h.c.2.2.2.2.1
  have f4 := h.f 4
  have HS := Lib.hid (h.setTries 0 (by omega))
  clear h
  go_enter Try.func22, Try.ntmps22
  go_wp2_with (go_at_call 26; refine HN.out.mono ?_; rintro e w' ⟨rfl, rfl⟩)
  go_ret
  exact ⟨rfl, HS.out.1, HS.out.2⟩

set_option maxHeartbeats 800000 in
theorem Set_bo (p : Nat) (L M J base b : Int) (k : Nat) (w : World) (h : Bo w p L M J base k) :
    Calls Try.prog 10 #[.pointer (some ⟨p, 0, none⟩), .int .u64 b] w fun e w' => e = .returned (.tuple #[.int .u64 (max L (min M b)), .int .i64 0]) ∧ Bo w' p L M J (max L (min M b)) k ∧ Mod (fun q => q = p) w w' := by
  have HN := Lib.hid (none_of p L M J base k w h)
  have c0 := h.c.1
  have c1 := h.c.2.1
  have c3 := h.c.2.2.2.1
  have f3 := h.f 3
  have hlm := h.lm
  obtain ⟨b', hb'⟩ : ∃ b', b' = max L (min M b) := ⟨_, rfl⟩
  have HC := Lib.hid (fun (W : World) => clamp_any b L M W hlm)
  rw [← hb'] at HC ⊢
  have HS := Lib.hid (h.setBase b' (by omega) (by omega))
  clear h hlm hb'
  go_enter Try.func10, Try.ntmps10
  go_wp2_with (go_at_call 26; refine HN.out.mono ?_; rintro e w' ⟨rfl, rfl⟩)
  go_region_with (go_at_call 27; refine (HC.out _).mono ?_; rintro e w' ⟨rfl, rfl⟩)
  all_goals go_wp2
  all_goals go_ret2
  all_goals exact ⟨rfl, HS.out.1.drewN 1, HS.out.2.drewN 1⟩
end Go.Proofs.Ytkoppmnofloefaa
