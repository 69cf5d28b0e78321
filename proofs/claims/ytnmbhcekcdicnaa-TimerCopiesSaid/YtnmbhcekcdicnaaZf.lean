/-
  act: Stop.
-/
import Derived.Test.YtnmbhcekcdicnaaZa
namespace Go.Proofs.Ytnmbhcekcdicnaa
open Go.RowKit
set_option linter.unusedVariables false
set_option linter.unusedSimpArgs false

attribute [local go_sem high] eql26 neq26
section
variable {K : Nat → Prop} {p : Nat} {most : Int} {l : List Rw} {bo : Option Addr} {m bc : Nat} {w : World}
set_option maxHeartbeats 6400000
set_option maxRecDepth 100000
theorem act_stop (h : AS K p most l bo m bc w) (what k i n : Int) (k0 : -9223372036854775808 ≤ k) (k1 : k ≤ 9223372036854775807) (i0 : 0 ≤ i) (i1 : i ≤ 18446744073709551615) (n0 : 0 ≤ n) (n1 : n ≤ 18446744073709551615) (hw : what = 4) :
    Calls Try.prog 11 #[.pointer (some ⟨p, 0, none⟩), .agg #[.slice bo m bc, .int .i64 most], .agg #[.int .i64 what, .int .i64 k, .int .u64 i, .int .u64 n]] w fun e w' => ∃ p' bo' m' bc', e = .returned (.tuple #[.pointer (some ⟨p', 0, none⟩), .agg #[.slice bo' m' bc', .int .i64 most], .bool true]) ∧ Acted K p' most (wo l k i) bo' m' bc' w w' := by
  have hm := h.m
  obtain ⟨u, hu⟩ : ∃ W, W = ((w.alloc (.cells #[.slice bo m bc, .int .i64 most] 36)).alloc (.cells #[.int .i64 what, .int .i64 k, .int .u64 i, .int .u64 n] 28)).alloc (.cells #[.slice none 0 0, .int .i64 0] 36) := ⟨_, rfl⟩
  obtain ⟨X, hX⟩ : ∃ X, X = w.heap.size := ⟨_, rfl⟩
  obtain ⟨hab, b1, hz⟩ := AB.start w (.slice bo m bc) most what k i n
  rw [← hu, ← hX] at hab
  rw [← hu] at b1 hz
  rw [← hX] at hz
  obtain ⟨K0, hK0⟩ : ∃ K0 : Nat → Prop, K0 = fun q => K q ∧ q < w.heap.size := ⟨_, rfl⟩
  have hts : TS K0 p most l u := by rw [hK0]; exact h.ts.old.below b1
  have hdr : DR (fun q => ¬ K0 q ∧ q < w.heap.size) u bo m bc l := by
    rw [hK0]
    exact (h.dr.keep (Nat.le_refl _) (fun q e hq => ⟨fun g => e g.1, hq⟩) fun _ _ _ => rfl : DR (fun q => ¬ (K q ∧ q < w.heap.size) ∧ q < w.heap.size) w bo m bc l).below b1
  have HKk : Hid (∀ q, K0 q → K q ∧ q < w.heap.size) := Lib.hid (by rw [hK0]; exact fun q e => e)
  have HUU := Lib.hid hu
  have EX := Lib.hid hX
  have HZ := Lib.hid hz
  have HAB := Lib.hid hab
  have B1 := Lib.hid b1
  have HTS := Lib.hid hts
  have HDR := Lib.hid hdr
  have HR := Lib.hid (And.intro (And.intro i0 i1) (And.intro n0 n1))
  have HRk := Lib.hid (And.intro k0 k1)
  obtain ⟨⟨c0, c1⟩, ⟨c2, c3, c4, c5⟩, c6, c7, c8⟩ := hab.cells
  have t0 : ((what : Int) == 0) = false := by simp [hw]
  have s0 : decide ((what : Int) = 0) = false := by simp [hw]
  have t1 : ((what : Int) == 1) = false := by simp [hw]
  have s1 : decide ((what : Int) = 1) = false := by simp [hw]
  have t2 : ((what : Int) == 2) = false := by simp [hw]
  have s2 : decide ((what : Int) = 2) = false := by simp [hw]
  have t3 : ((what : Int) == 3) = false := by simp [hw]
  have s3 : decide ((what : Int) = 3) = false := by simp [hw]
  have t4 : ((what : Int) == 4) = true := by simp [hw]
  have s4 : decide ((what : Int) = 4) = true := by simp [hw]
  clear hw
  clear hu hX hab b1 hz hts hdr hK0 h i0 i1 n0 n1 k0 k1
  go_enter Try.func11, Try.ntmps11
  go_upto_region 1 with fail
  rw [← HUU.out]
  try rw [← EX.out]
  go_wp2_with (go_at_call 27; fail)
  obtain ⟨sw, hsw⟩ : ∃ x, x = (dueOf l k i).getD 0 := ⟨_, rfl⟩
  obtain ⟨sh, hsh⟩ : ∃ x, x = (dueOf l k i).isSome := ⟨_, rfl⟩
  have hdue := refDue27 HDR.out (by omega) most k i
  rw [← hsw, ← hsh] at hdue
  unfold tmV at hdue
  refine hdue.mono ?_
  rintro e v1 ⟨rfl, hb1⟩
  have HSW := Lib.hid hsw
  have HSH := Lib.hid hsh
  have HB1 := Lib.hid hb1
  have HAB1 := Lib.hid (HAB.out.below hb1)
  clear hdue hb1 hsw hsh c0 c1 c2 c3 c4 c5 c6 c7 c8
  obtain ⟨⟨c0, c1⟩, ⟨c2, c3, c4, c5⟩, c6, c7, c8⟩ := HAB1.out.cells
  go_wp2_with (go_at_call 19; fail)
  have hst := (HTS.out.below HB1.out).stop (k := k) (i := i) HRk.out.1 HRk.out.2 HR.out.1.1 HR.out.1.2
  rw [← HSW.out, ← HSH.out] at hst
  unfold tmV at hst
  refine hst.mono ?_
  rintro e v2 ⟨rfl, hT⟩
  have HT := Lib.hid hT
  have HAB2 := Lib.hid (HAB1.out.mod hT.mod fun q e => .inl (HKk.out q e).2)
  have HD2 : Hid (DR (fun q => ¬ K0 q ∧ q < w.heap.size) v2 bo m bc l) := Lib.hid ((HDR.out.below HB1.out).keep hT.mod.size (fun q e _ => e) fun q e hq => hT.mod.block q hq e.1)
  clear hst hT c0 c1 c2 c3 c4 c5 c6 c7 c8
  obtain ⟨⟨c0, c1⟩, ⟨c2, c3, c4, c5⟩, c6, c7, c8⟩ := HAB2.out.cells
  go_wp2_with (go_at_call 28; fail)
  have hwo := refWo28 HD2.out (by omega) most k i
  unfold tmV at hwo
  refine hwo.mono ?_
  rintro e v3 ⟨bo', m', bc', rfl, hd3, hb3⟩
  have HAB3 := Lib.hid (HAB2.out.below hb3)
  have HFIN : Hid (∀ z, Mod (fun q => q = X + 2) v3 z → Acted K p most (wo l k i) bo' m' bc' w z) := Lib.hid fun z hz => by
    have hwX := EX.out
    have hwz := HZ.out
    have hs1 := HB1.out.size
    have hs2 := HT.out.mod.size
    refine Acted.fin (T := X + 2) (by omega) (HT.out.st.below hb3) (fun q e => ?_) ?_ ?_ HAB3.out.b7 hz
    · rcases e with e | e
      · exact .inl (HKk.out q e).1
      · exact .inr ⟨by omega, Nat.lt_of_lt_of_le e.2 hb3.size⟩
    · refine hd3.keep (Nat.le_refl _) (fun q e hq => ⟨fun g => ?_, by omega⟩) (fun _ _ _ => rfl)
      rcases g with g | g
      · have := (HKk.out q g).2; omega
      · omega
    · exact ((Mod.of_below (B1.out.trans (HB1.out.mono B1.out.size)) K).trans HT.out.mod fun q _ e => (HKk.out q e).1).trans (Mod.of_below hb3 K) fun _ _ e => e
  have hk7 := HAB3.out.b7
  have HB7 := Lib.hid hk7
  have q0 := cell_blk hk7 0 _ rfl
  have q1 := cell_blk hk7 1 _ rfl
  have q2 := frozen_blk hk7 0
  have q3 := frozen_blk hk7 1
  clear hwo hd3 hb3 hk7 c0 c1 c2 c3 c4 c5 c6 c7 c8
  obtain ⟨⟨c0, c1⟩, ⟨c2, c3, c4, c5⟩, c6, c7, c8⟩ := HAB3.out.cells
  have r1 : (sw == sw) = true := by simp
  have r2 : (sh == sh) = true := by simp
  go_wp2
  have hk6 := setCell_blk (setCell_blk HB7.out 0 (.slice bo' m' bc')) 1 (.int .i64 most)
  have z0 := cell_blk hk6 0 _ rfl
  have z1 := cell_blk hk6 1 _ rfl
  refine bodyPost_ret (v := .tuple #[.pointer (some ⟨p, 0, none⟩), .agg #[.slice bo' m' bc', .int .i64 most], .bool true]) (by simp [results, Try.f11, go_sem, z0, z1]) rfl ⟨p, bo', m', bc', rfl, ?_⟩
  exact HFIN.out _ (((Mod.refl (fun q => q = X + 2) v3).setCell ⟨X + 2, 0, none⟩ (.inl rfl) _).setCell ⟨X + 2, 1, none⟩ (.inl rfl) _)
end
end Go.Proofs.Ytnmbhcekcdicnaa
