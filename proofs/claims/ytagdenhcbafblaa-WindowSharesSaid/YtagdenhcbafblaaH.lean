/-
  works is true.
-/
import Derived.Test.YtagdenhcbafblaaG
namespace Go.Proofs.Ytagdenhcbafblaa
open Go.RowKit
set_option linter.unusedVariables false
set_option linter.unusedSimpArgs false

theorem Arg.drewN {w : World} {ao : Option Addr} {n : Nat} {zs : List Int} (h : Arg w ao n zs) (m : Nat) : Arg (w.drewN m) ao n zs := h
/-- A row that was written out. -/
theorem Arg.lit (w : World) (cs : Array Value) (n : Nat) (zs : List Int) (hz : n ≤ zs.length) (hc : ∀ j, j < n → cs[j]? = some (.int .i64 (zs.getD j 0))) : Arg (w.alloc (.cells cs 3)) (some ⟨w.heap.size, 0, none⟩) n zs :=
  ⟨hz, fun _ => ⟨_, 0, rfl, by simp, fun j hj => by rw [Nat.zero_add]; exact cell_blk (alloc_blk_new _ _) j _ (hc j hj)⟩⟩
/-- A row that is owned. -/
theorem Arg.row {w : World} {base : Nat} {ao : Option Addr} {n cap : Nat} {zs : List Int} (h : w.ownsRow base 3 1 (.slice ao n cap) n (zs.map (.int .i64))) : Arg w ao n zs := by
  have hl : zs.length = n := by have := h.1; simpa using this
  refine ⟨by omega, fun hn => ?_⟩
  obtain ⟨g, cap', cur, e, hb, hg, hnc, hcm, hcs, htk⟩ := row_some h hn
  injection e with e1 e2 e3
  subst e1 e3
  refine ⟨g, 0, rfl, blk_lt hg, fun j hj => ?_⟩
  rw [Nat.zero_add]
  refine cell_blk hg j _ ?_
  have h2 : (cur.toList.take (n * 1))[j]? = (zs.map (Value.int .i64))[j]? := by rw [htk]
  rw [List.getElem?_take_of_lt (by omega)] at h2
  rw [← Array.getElem?_toList, h2]
  simp [List.getD, show j < zs.length by omega]
theorem Wi.bel {w0 w w' : World} {p : Nat} (h : Mod (fun q => q = p) w w') (hb : Below w0.heap.size w0 w) (hp : w0.heap.size ≤ p) : Below w0.heap.size w0 w' :=
  hb.trans ⟨h.os, h.tape, h.output, h.size, fun k hk => h.block k (Nat.lt_of_lt_of_le hk hb.size) (fun e => by omega)⟩
theorem Below.drN {B : Nat} {a w : World} (h : Below B a w) (n : Nat) : Below B a (w.drewN n) := ⟨h.os, h.tape, h.output, h.size, h.block⟩

set_option maxHeartbeats 800000 in
theorem Ints_same (a1 a2 : Option Addr) (n c1 c2 : Nat) (zs : List Int) (w : World) (h1 : Arg w a1 n zs) (h2 : Arg w a2 n zs) (hn : n ≤ 1000) :
    Calls Try.prog 19 #[.slice a1 n c1, .slice a2 n c2] w fun e w' => e = .returned (.bool true) ∧ ∃ m, w' = w.drewN m := by
  have H1 := Lib.hid h1
  have H2 := Lib.hid h2
  clear h1 h2
  go_enter Try.func19, Try.ntmps19
  go_wp2
  go_loopg [5] n (fun gk v5 wr => ∃ i : Nat, v5 = .int .i64 i ∧ i ≤ n ∧ gk = n - i ∧ ∃ m, wr = w.drewN m)
  case atStart => exact ⟨0, rfl, by omega, rfl, 0, rfl⟩
  case round =>
    obtain ⟨i, rfl, hi, hgk, m, rfl⟩ := hrel
    have HG := Lib.hid hgk
    clear hgk
    by_cases hlt : i < n
    · obtain ⟨b, off, rfl, hb, hc⟩ := (H1.out.drewN m).2 (by omega)
      obtain ⟨b', off', rfl, hb', hc'⟩ := (H2.out.drewN m).2 (by omega)
      obtain ⟨z, hz⟩ : ∃ z, z = zs.getD i 0 := ⟨_, rfl⟩
      have hci := hc i hlt
      have hci' := hc' i hlt
      rw [← hz] at hci hci'
      have hzz : (z != z) = false := by simp
      obtain ⟨W, hW⟩ : ∃ W, W = w.drewN m := ⟨_, rfl⟩
      rw [← hW] at hci hci' ⊢
      have HW := Lib.hid hW
      clear hz hc hc' hb hb' hW
      go_wp2
      go_quiet (fail)
      go_wp2
      go_roundg (n - (i + 1))
      case measure => have := HG.out; omega
      case rel => exact ⟨i + 1, by go_num, by omega, rfl, _, by rw [HW.out]; exact World.drewN_drewN _ _ _⟩
    · go_wp2
      go_ret
      exact ⟨rfl, m, rfl⟩

set_option maxHeartbeats 3200000 in
set_option maxRecDepth 100000 in
theorem works_true (w : World) : Calls Try.prog 7 #[] w fun e w' => e = .returned (.bool true) ∧ Below w.heap.size w w' := by
  have HNum := Lib.hid num_any
  go_enter Try.func7, Try.ntmps7
  go_wp2_with fail
  refine (New_wi w).mono ?_
  rintro e w0 ⟨rfl, hr, hb⟩
  obtain ⟨p, hp⟩ : ∃ p, p = w.heap.size := ⟨_, rfl⟩
  rw [← hp] at hr ⊢
  have hp2 : w.heap.size ≤ p := by omega
  have R0 := Lib.hid hr
  have B0 := Lib.hid hb
  clear hr hb hp
  have hN := Grant_open p 0 0 10 w0 R0.out (by omega)
  rw [show granted 0 10 false = 10 by decide] at hN
  have HN := Lib.hid hN
  clear hN
  go_wp2_with fail
  refine HN.out.mono ?_
  rintro e w1 ⟨rfl, hr, hm⟩
  have R1 := Lib.hid hr
  have B1 := Lib.hid (Wi.bel hm B0.out hp2)
  clear hr hm R0 B0 HN
  have hN := Take_wi p 10 0 4 false w1 R1.out (by omega) (by omega)
  rw [show min (4:Int) 10 = 4 by decide, show min (0 + 4 : Int) 18446744073709551615 = 4 by decide, show (10 - 4 : Int) = 6 by decide] at hN
  have HN := Lib.hid hN
  clear hN
  go_wp2_with fail
  refine HN.out.mono ?_
  rintro e w2 ⟨rfl, hr, hm⟩
  have R2 := Lib.hid hr
  have B2 := Lib.hid (Wi.bel hm B1.out hp2)
  clear hr hm R1 B1 HN
  have hN := Take_wi p 6 4 9 false w2 R2.out (by omega) (by omega)
  rw [show min (9:Int) 6 = 6 by decide, show min (4 + 6 : Int) 18446744073709551615 = 10 by decide, show (6 - 6 : Int) = 0 by decide] at hN
  have HN := Lib.hid hN
  clear hN
  go_wp2_with fail
  refine HN.out.mono ?_
  rintro e w3 ⟨rfl, hr, hm⟩
  have R3 := Lib.hid hr
  have B3 := Lib.hid (Wi.bel hm B2.out hp2)
  clear hr hm R2 B2 HN
  have hN := Take_wi p 0 10 1 false w3 R3.out (by omega) (by omega)
  rw [show min (1:Int) 0 = 0 by decide, show min (10 + 0 : Int) 18446744073709551615 = 10 by decide, show (0 - 0 : Int) = 0 by decide] at hN
  have HN := Lib.hid hN
  clear hN
  go_wp2_with fail
  refine HN.out.mono ?_
  rintro e w4 ⟨rfl, hr, hm⟩
  have R4 := Lib.hid hr
  have B4 := Lib.hid (Wi.bel hm B3.out hp2)
  clear hr hm R3 B3 HN
  have hN := Gone_wi p 0 10 false w4 R4.out
  have HN := Lib.hid hN
  clear hN
  go_wp2_with fail
  refine HN.out.mono ?_
  rintro e w' ⟨rfl, rfl⟩
  clear HN
  have hN := Grant_open p 0 10 5 w4 R4.out (by omega)
  rw [show granted 0 5 false = 5 by decide] at hN
  have HN := Lib.hid hN
  clear hN
  go_wp2_with fail
  refine HN.out.mono ?_
  rintro e w5 ⟨rfl, hr, hm⟩
  have R5 := Lib.hid hr
  have B5 := Lib.hid (Wi.bel hm B4.out hp2)
  clear hr hm R4 B4 HN
  have RA := Lib.hid (R5.out.below ((Below.refl _ w5).alloc (Nat.le_refl _) (.cells #[.int .i64 2, .int .i64 0, .int .i64 9, .int .i64 1] 3)))
  have BA := Lib.hid (B5.out.alloc B5.out.size (.cells #[.int .i64 2, .int .i64 0, .int .i64 9, .int .i64 1] 3))
  have hN := Share_ok p 5 10 false (some ⟨w5.heap.size, 0, none⟩) 4 4 [2, 0, 9, 1] (w5.alloc (.cells #[.int .i64 2, .int .i64 0, .int .i64 9, .int .i64 1] 3)) RA.out (Arg.lit w5 _ 4 _ (by decide) (fun j hj => by
    match j, hj with
    | 0, _ => rfl
    | 1, _ => rfl
    | 2, _ => rfl
    | 3, _ => rfl)) (by omega) (fun j hj => by
    match j, hj with
    | 0, _ => decide
    | 1, _ => decide
    | 2, _ => decide
    | 3, _ => decide)
  rw [show shareOf 5 (List.take 4 [2, 0, 9, 1]) = [2, 0, 3, 0] by decide] at hN
  have HN := Lib.hid hN
  clear hN R5 B5
  go_wp2_with fail
  refine HN.out.mono ?_
  rintro e w6 ⟨v, rfl, hown, hb⟩
  obtain ⟨ao, cap, rfl⟩ := row_slice hown
  have hsz : p < (w5.alloc (.cells #[.int .i64 2, .int .i64 0, .int .i64 9, .int .i64 1] 3)).heap.size := RA.out.lt
  have V6 := Lib.hid hown
  have VB := Lib.hid (show ∀ k, (Value.slice ao 4 cap).ownBlock = some k → ¬ k = p from fun k hk e => by have := (hown.lt k hk).1; omega)
  clear hsz
  have R6 := Lib.hid (RA.out.below hb)
  have B6 := Lib.hid (BA.out.trans (hb.mono BA.out.size))
  clear hown hb HN RA BA
  have hbA := (Below.refl _ w6).alloc (Nat.le_refl _) (.cells #[.int .i64 (-1)] 3)
  have RA := Lib.hid (R6.out.below hbA)
  have VA := Lib.hid (Mod.row (Mod.alloc (Mod.refl (fun q => q = p) w6) (.cells #[.int .i64 (-1)] 3)) V6.out VB.out)
  have BA := Lib.hid (B6.out.alloc B6.out.size (.cells #[.int .i64 (-1)] 3))
  have HN := Lib.hid (Share_bad p 5 10 false (some ⟨w6.heap.size, 0, none⟩) 1 1 [-1] (w6.alloc (.cells #[.int .i64 (-1)] 3)) RA.out (Arg.lit w6 _ 1 _ (by decide) (fun j hj => by
    match j, hj with
    | 0, _ => rfl)) (by omega) ⟨0, by omega, by decide⟩)
  clear hbA R6 V6 B6
  go_wp2_with fail
  refine HN.out.mono ?_
  rintro e w7 ⟨rfl, rfl⟩
  obtain ⟨w7, hw⟩ : ∃ w7, w7 = (w6.alloc (.cells #[.int .i64 (-1)] 3)) := ⟨_, rfl⟩
  rw [← hw] at RA VA BA ⊢
  have R7 := RA
  have V7 := VA
  have B7 := BA
  clear hw HN RA VA BA
  have HN := Lib.hid (Shut_wi p 5 10 false w7 R7.out)
  go_wp2_with fail
  refine HN.out.mono ?_
  rintro e w8 ⟨rfl, hr, hm⟩
  have R8 := Lib.hid hr
  have V8 := Lib.hid (Mod.row hm V7.out VB.out)
  have B8 := Lib.hid (Wi.bel hm B7.out hp2)
  clear hr hm HN R7 B7 V7
  have hN := Grant_shut p 0 10 7 w8 R8.out
  have HN := Lib.hid hN
  clear hN
  go_wp2_with fail
  refine HN.out.mono ?_
  rintro e w' ⟨rfl, rfl⟩
  clear HN
  have hbA := (Below.refl _ w8).alloc (Nat.le_refl _) (.cells #[.int .i64 2, .int .i64 0, .int .i64 3, .int .i64 0] 3)
  have HO := Lib.hid (fun (m : Nat) => Open_wi p 0 10 true ((w8.alloc (.cells #[.int .i64 2, .int .i64 0, .int .i64 3, .int .i64 0] 3)).drewN m) ((R8.out.below hbA).drewN m))
  have HI := Lib.hid (Ints_same ao (some ⟨w8.heap.size, 0, none⟩) 4 cap 4 [2, 0, 3, 0] (w8.alloc (.cells #[.int .i64 2, .int .i64 0, .int .i64 3, .int .i64 0] 3)) ((Arg.row (zs := [2, 0, 3, 0]) V8.out).below hbA) (Arg.lit w8 _ 4 _ (by decide) (fun j hj => by
    match j, hj with
    | 0, _ => rfl
    | 1, _ => rfl
    | 2, _ => rfl
    | 3, _ => rfl)) (by omega))
  have BZ := Lib.hid (B8.out.alloc B8.out.size (.cells #[.int .i64 2, .int .i64 0, .int .i64 3, .int .i64 0] 3))
  clear hbA V8 R8 B8
  go_wp2_with (first | (go_at_call 10; refine (HNum.out _ _).mono ?_; rintro e w' ⟨rfl, rfl⟩) | (go_at_call 19; refine HI.out.mono ?_; rintro e w' ⟨rfl, m, rfl⟩) | (go_at_call 22; refine (HO.out _).mono ?_; rintro e w' ⟨rfl, rfl⟩))
  go_ret
  exact ⟨rfl, Below.drN BZ.out _⟩
end Go.Proofs.Ytagdenhcbafblaa
