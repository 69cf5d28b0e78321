/-
  Sharing among pieces: each, and Share.
-/
import Derived.Test.YtagdenhcbafblaaE
namespace Go.Proofs.Ytagdenhcbafblaa
open Go.RowKit
set_option linter.unusedVariables false
set_option linter.unusedSimpArgs false

theorem take_snoc (zs : List Int) (i : Nat) (h : i < zs.length) : zs.take (i + 1) = zs.take i ++ [zs.getD i 0] := by
  rw [List.take_succ_eq_append_getElem h]; simp [List.getD, h]

/-- One piece more. -/
theorem each_step {w wr w1 : World} {B i : Nat} {lf z : Int} {P : List Int} {v4 v' : Value} {x : Obj} (hP : P.length = i) (hB : B < w.heap.size)
    (hown : wr.ownsRow w.heap.size 3 1 v4 i ((shareOf lf P).map (.int .i64))) (hbox : wr.heap[B]? = some (.cells #[.int .u64 (restOf lf P)] 26 (0, 0))) (hm : Mod (fun q => q = B) w wr)
    (hown' : w1.ownsRow w.heap.size 3 1 v' (i + 1) ((shareOf lf P).map (.int .i64) ++ [.int .i64 (min z (restOf lf P))]))
    (hg : ((wr.setCell ⟨B, 0, none⟩ (.int .u64 (restOf lf P - min z (restOf lf P)))).alloc x).grownBy w1 v4.ownBlock) :
    w1.ownsRow w.heap.size 3 1 v' (i + 1) ((shareOf lf (P ++ [z])).map (.int .i64)) ∧ w1.heap[B]? = some (.cells #[.int .u64 (restOf lf (P ++ [z]))] 26 (0, 0)) ∧ Mod (fun q => q = B) w w1 := by
  obtain ⟨e1, e2⟩ := shareOf_snoc z P lf
  have hs := hm.size
  refine ⟨by rw [e1]; simpa using hown', ?_, ?_⟩
  · rw [hg.block B (by simp [World.setCell]; omega) (fun e => by have := (hown.lt B e.symm).1; omega)]
    rw [alloc_blk (setCell_blk hbox 0 _), e2]; rfl
  · refine Mod.grown (Mod.alloc (Mod.setCell hm ⟨B, 0, none⟩ (.inl rfl) _) x) hg (fun k hk => .inr (hown.lt k hk).1)

set_option maxHeartbeats 1600000 in
set_option maxRecDepth 100000 in
theorem each_any (B : Nat) (lf : Int) (ao : Option Addr) (n cap : Nat) (zs : List Int) (w : World) (h : Arg w ao n zs) (hAB : 0 < n → ∀ b off, ao = some ⟨b, off, none⟩ → b ≠ B) (hbox : w.heap[B]? = some (.cells #[.int .u64 lf] 26 (0, 0)))
    (hn : n ≤ 1000) (hp : ∀ j, j < n → 0 ≤ zs.getD j 0 ∧ zs.getD j 0 ≤ 9223372036854775807) (h0 : 0 ≤ lf) (h1 : lf ≤ 1099511627776) :
    Calls Try.prog 30 #[.func (.func 31) #[] #[.pointer (some ⟨B, 0, none⟩)], .slice ao n cap] w fun e w' => ∃ v, e = .returned v ∧ w'.ownsRow w.heap.size 3 1 v n ((shareOf lf (zs.take n)).map (.int .i64)) ∧ Mod (fun q => q = B) w w' := by
  obtain ⟨i0, hi0, hz0, hz1, hz2⟩ := info_parts Try.info3
  have HA := Lib.hid h
  have HP := Lib.hid hp
  have HX := Lib.hid hAB
  have HBX := Lib.hid hbox
  have hBw := blk_lt hbox
  clear h hp hAB hbox
  go_enter Try.func30, Try.ntmps30
  go_wp2
  go_loopg [4, 9] n (fun gk v4 v9 wr => ∃ i : Nat, v9 = .int .i64 i ∧ i ≤ n ∧ gk = n - i ∧ wr.ownsRow w.heap.size 3 1 v4 i ((shareOf lf (zs.take i)).map (.int .i64)) ∧ wr.heap[B]? = some (.cells #[.int .u64 (restOf lf (zs.take i))] 26 (0, 0)) ∧ Mod (fun q => q = B) w wr)
  case atStart => exact ⟨0, rfl, by omega, rfl, World.ownsRow_nil _ _ _ _, HBX.out, Mod.refl _ _⟩
  case round =>
    obtain ⟨i, rfl, hi, hgk, hown, hbox, hm⟩ := hrel
    obtain ⟨P, hPz⟩ : ∃ P, P = zs.take i := ⟨_, rfl⟩
    rw [← hPz] at hown hbox
    have HG := Lib.hid hgk
    have HO := Lib.hid hown
    have HB := Lib.hid hbox
    have HM := Lib.hid hm
    have HPZ := Lib.hid hPz
    obtain ⟨ao4, cap4, rfl⟩ := row_slice hown
    clear hgk hown hbox hm hPz
    by_cases hlt : i < n
    · obtain ⟨b, off, rfl, hb, hc⟩ := HA.out.2 (by omega)
      obtain ⟨z, hz⟩ : ∃ z, z = zs.getD i 0 := ⟨_, rfl⟩
      have hzb : 0 ≤ z ∧ z ≤ 9223372036854775807 := by rw [hz]; exact HP.out i hlt
      have hci := (HM.out.cell (p := ⟨b, off + i, none⟩) hb (HX.out (by omega) b off rfl)).trans (hc i hlt)
      rw [← hz] at hci
      have hPl : P.length = i := by rw [HPZ.out]; have := HA.out.1; simp; omega
      have hrest : 0 ≤ restOf lf P ∧ restOf lf P ≤ 1099511627776 := restOf_le _ P lf (fun y hy => by
        rw [HPZ.out] at hy
        obtain ⟨j, hj, rfl⟩ := List.mem_iff_getElem.1 hy
        have hj2 : j < i := by simp at hj; omega
        have := (HP.out j (by omega)).1
        simpa [List.getD, show j < zs.length by have := HA.out.1; omega] using this) h0 h1
      obtain ⟨rs, hrs⟩ : ∃ rs, rs = restOf lf P := ⟨_, rfl⟩
      obtain ⟨y, hy⟩ : ∃ y, y = min z rs := ⟨_, rfl⟩
      have hB2 := HB.out
      rw [← hrs] at hB2 hrest
      have HPC := piece_any B z rs wr hB2 hzb.1 hzb.2 hrest.1 hrest.2
      rw [← hy] at HPC
      have HPC := Lib.hid HPC
      have HY := Lib.hid hy
      have HRS := Lib.hid hrs
      have HZ := Lib.hid hz
      have HL := Lib.hid hPl
      have hMs := HM.out.size
      have HOA : Hid ((wr.setCell ⟨B, 0, none⟩ (.int .u64 (rs - y))).ownsRow w.heap.size 3 1 (.slice ao4 i cap4) i ((shareOf lf P).map (.int .i64))) :=
        Lib.hid (Mod.row (Mod.setCell (S := fun q => q = B) (Mod.refl _ wr) ⟨B, 0, none⟩ (.inl rfl) _) HO.out (fun k hk e => by have := (HO.out.lt k hk).1; omega))
      clear hc hz hy hrs hPl hB2
      go_wp2_with fail
      refine HPC.out.mono ?_
      rintro e w2 ⟨rfl, hw2⟩
      have HO2 : Hid (w2.ownsRow w.heap.size 3 1 (.slice ao4 i cap4) i ((shareOf lf P).map (.int .i64))) := by rw [← hw2]; exact HOA
      have hs2 : wr.heap.size = w2.heap.size := by rw [← hw2]; simp [World.setCell]
      have hs3 : w.heap.size ≤ w2.heap.size := by omega
      have HW2 := Lib.hid hw2
      clear hw2 HOA hci hs2
      go_wp2_with (at_builtin; refine wpList_append_f _ rfl (.tmp 13) (.tmp 17) 22 rfl w.heap.size 3 i0 (.int .i64 0) 1 8 Try.underlying22 hi0 hz0 hz1 hz2 rfl (by decide) _ _ _ rfl (HO2.out.alloc _) (some ⟨w2.heap.size, 0, none⟩) 1 1 [.int .i64 y] rfl rfl (fun h => by cases h) ?c1 ?c2 ?c3 ?c4 ?c5 ?_)
      case c1 => rintro ad h j u hj; cases h; exact cell_one_new _ _ _ j u hj
      case c2 => intro u hu; simp at hu; subst hu; rfl
      case c3 => unfold maxLen; omega
      case c4 => omega
      case c5 => simp; omega
      intro v' w3 hown hg hf _
      have hst := each_step (lf := lf) (z := z) (P := P) (v4 := .slice ao4 i cap4) (v' := v') (x := .cells #[.int .i64 y] 3) (w := w) (wr := wr) (w1 := w3) HL.out hBw HO.out HB.out HM.out (by rw [← HRS.out, ← HY.out]; simpa using hown) (by rw [← HRS.out, ← HY.out, HW2.out]; exact hg)
      have htk : zs.take (i + 1) = P ++ [z] := by rw [take_snoc zs i (by have := HA.out.1; omega), ← HPZ.out, ← HZ.out]
      rw [← htk] at hst
      have HST := Lib.hid hst
      clear hst htk hown hg hf
      go_wp2
      go_roundg (n - (i + 1))
      case measure => have := HG.out; omega
      case rel => exact ⟨i + 1, by go_num, by omega, rfl, HST.out.1, HST.out.2.1, HST.out.2.2⟩
    · obtain rfl : i = n := by omega
      go_wp2
      go_ret
      exact ⟨_, rfl, by rw [← HPZ.out]; exact HO.out, HM.out⟩
end Go.Proofs.Ytagdenhcbafblaa
