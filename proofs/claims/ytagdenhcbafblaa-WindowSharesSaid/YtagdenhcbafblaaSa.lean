/-
  The document's sharing.
-/
import Derived.Test.YtagdenhcbafblaaRb
import Derived.Test.YtagdenhcbafblaaG
namespace Go.Proofs.Ytagdenhcbafblaa
open Go.RowKit
set_option linter.unusedVariables false
set_option linter.unusedSimpArgs false

/-- What the document's sharing tells. -/
def Shared (w : World) (l : Int) (zs : List Int) (n st : Nat) (e : Ending) (w' : World) : Prop := Below w.heap.size w w' ∧
  (st = n → ∃ v, e = .returned (.tuple #[v, .int .i64 0]) ∧ w'.ownsRow w.heap.size 3 1 v n ((shareOf l (zs.take n)).map (.int .i64))) ∧ (st < n → e = .returned (.tuple #[.slice none 0 0, .int .i64 2]))

set_option maxHeartbeats 3200000 in
set_option maxRecDepth 100000 in
theorem refShare (l g : Int) (s : Bool) (ao : Option Addr) (n cap : Nat) (zs : List Int) (st : Nat) (w : World) (h : Arg w ao n zs) (hn : n ≤ 1000) (hst : st ≤ n) (hp : ∀ j, j < st → 0 ≤ zs.getD j 0 ∧ zs.getD j 0 ≤ 9223372036854775807) (hneg : st < n → zs.getD st 0 < 0) (h0 : 0 ≤ l) (h1 : l ≤ 1099511627776) :
    Calls Try.prog 17 #[.agg #[.int .u64 l, .int .u64 g, .bool s], .slice ao n cap] w (Shared w l zs n st) := by
  obtain ⟨i0, hi0, hz0, hz1, hz2⟩ := info_parts Try.info3
  have HA := Lib.hid h
  have HP := Lib.hid hp
  have HNg := Lib.hid hneg
  have HB0 := Lib.hid ((Below.refl _ w).alloc (Nat.le_refl _) (.cells #[.int .u64 l, .int .u64 g, .bool s] 39))
  clear h hp hneg
  go_enter Try.func17, Try.ntmps17
  go_wp2
  go_loopg [6, 7, 8] n (fun gk v6 v7 v8 wr => ∃ i : Nat, v7 = .int .u64 (restOf l (zs.take i)) ∧ v8 = .int .i64 i ∧ i ≤ st ∧ gk = n - i ∧ wr.ownsRow w.heap.size 3 1 v6 i ((shareOf l (zs.take i)).map (.int .i64)) ∧ Below w.heap.size w wr)
  case atStart => exact ⟨0, rfl, rfl, by omega, rfl, World.ownsRow_nil _ _ _ _, HB0.out⟩
  case round =>
    obtain ⟨i, rfl, rfl, hi, hgk, hown, hbel⟩ := hrel
    obtain ⟨P, hPz⟩ : ∃ P, P = zs.take i := ⟨_, rfl⟩
    rw [← hPz] at hown ⊢
    have HG := Lib.hid hgk
    have HO := Lib.hid hown
    have HM := Lib.hid hbel
    have HPZ := Lib.hid hPz
    obtain ⟨ao4, cap4, rfl⟩ := row_slice hown
    have hrest : 0 ≤ restOf l P ∧ restOf l P ≤ 1099511627776 := restOf_le _ P l (fun y hy => by
      rw [HPZ.out] at hy
      obtain ⟨j, hj, rfl⟩ := List.mem_iff_getElem.1 hy
      have hj2 : j < i := by simp at hj; omega
      have := (HP.out j (by omega)).1
      simpa [List.getD, show j < zs.length by have := HA.out.1; omega] using this) h0 h1
    obtain ⟨rs, hrs⟩ : ∃ rs, rs = restOf l P := ⟨_, rfl⟩
    rw [← hrs] at hrest ⊢
    have HRS := Lib.hid hrs
    obtain ⟨r0, r1⟩ := hrest
    clear hgk hown hbel hPz hrs
    by_cases hlt : i < n
    · obtain ⟨b, off, rfl, hb, hc⟩ := HA.out.2 (by omega)
      obtain ⟨z, hz⟩ : ∃ z, z = zs.getD i 0 := ⟨_, rfl⟩
      have hci := (HM.out.cell (p := ⟨b, off + i, none⟩) hb).trans (hc i hlt)
      rw [← hz] at hci
      have HZ := Lib.hid hz
      have hlt2 : (i : Int) < n := by omega
      clear hc
      by_cases hlast : i = st
      · subst hlast
        have hzn : z < 0 := by rw [hz]; exact HNg.out (by omega)
        have hd : decide (z < 0) = true := by simpa using hzn
        clear hz
        go_wp2
        go_ret2
        exact ⟨HM.out, fun e => by omega, fun _ => rfl⟩
      · have hzb : 0 ≤ z ∧ z ≤ 9223372036854775807 := by rw [hz]; exact HP.out i (by omega)
        obtain ⟨zb0, zb1⟩ := hzb
        have hd : decide (z < 0) = false := by simp; omega
        obtain ⟨y, hy⟩ : ∃ y, y = min z rs := ⟨_, rfl⟩
        obtain ⟨t, ht⟩ : ∃ t, t = rs - y := ⟨_, rfl⟩
        have HY := Lib.hid hy
        have HT := Lib.hid ht
        have hts : rs - y = t := ht.symm
        have ht0 : 0 ≤ t := by omega
        have ht1 : t ≤ 1099511627776 := by omega
        have hy0 : 0 ≤ y := by omega
        have hy1 : y ≤ 1099511627776 := by omega
        have key : (z < rs ∧ y = z) ∨ (rs < z ∧ y = rs ∧ t = 0) ∨ (z = rs ∧ y = z) := by omega
        have hMs := HM.out.size
        have hPl : P.length = i := by rw [HPZ.out]; have := HA.out.1; simp; omega
        have HL := Lib.hid hPl
        clear hz hy ht hPl
        have step : ∀ (wx : World), wx = wr → ∀ (v' : Value) (w3 : World), w3.ownsRow w.heap.size 3 1 v' (i + 1) ((shareOf l P).map (.int .i64) ++ [.int .i64 y]) → (wx.alloc (.cells #[.int .i64 y] 3)).grownBy w3 (Value.slice ao4 i cap4).ownBlock →
            w3.ownsRow w.heap.size 3 1 v' (i + 1) ((shareOf l (zs.take (i + 1))).map (.int .i64)) ∧ t = restOf l (zs.take (i + 1)) ∧ Below w.heap.size w w3 := by
          rintro wx rfl v' w3 hown hg
          have htk : zs.take (i + 1) = P ++ [z] := by rw [take_snoc zs i (by have := HA.out.1; omega), ← HPZ.out, ← HZ.out]
          obtain ⟨e1, e2⟩ := shareOf_snoc z P l
          rw [htk, e1, e2, ← HRS.out, ← HY.out, ← HT.out]
          exact ⟨by simpa using hown, rfl, (HM.out.alloc hMs _).grown hg (by simp; omega) (fun k hk => (HO.out.lt k hk).1)⟩
        have STEP := Lib.hid step
        clear step
        rcases key with ⟨a, rfl⟩ | ⟨a, rfl, rfl⟩ | ⟨rfl, rfl⟩
        all_goals
          go_wp2_with (at_builtin; refine wpList_append_f _ rfl (.tmp 40) (.tmp 43) 22 rfl w.heap.size 3 i0 (.int .i64 0) 1 8 Try.underlying22 hi0 hz0 hz1 hz2 rfl (by decide) _ _ _ rfl (HO.out.alloc _) (some ⟨wr.heap.size, 0, none⟩) 1 1 [.int .i64 y] rfl rfl (fun h => by cases h) ?c1 ?c2 ?c3 ?c4 ?c5 ?_)
          case c1 => rintro ad h j u hj; cases h; exact cell_one_new _ _ _ j u hj
          case c2 => intro u hu; simp at hu; subst hu; rfl
          case c3 => unfold maxLen; omega
          case c4 => omega
          case c5 => simp; omega
          intro v' w3 hown hg hf _
          obtain ⟨s1, s2, s3⟩ := STEP.out wr rfl v' w3 hown hg
          have S1 := Lib.hid s1
          have S2 := Lib.hid s2
          have S3 := Lib.hid s3
          clear hown hg hf s1 s2 s3
          go_wp2
          go_roundg (n - (i + 1))
          case measure => have := HG.out; omega
          case rel => exact ⟨i + 1, by rw [← S2.out], by go_num, by omega, rfl, S1.out, S3.out⟩
    · obtain rfl : i = n := by omega
      obtain rfl : st = i := by omega
      go_wp2
      go_ret2
      exact ⟨HM.out, fun _ => ⟨_, rfl, by rw [← HPZ.out]; exact HO.out⟩, fun e => by omega⟩
end Go.Proofs.Ytagdenhcbafblaa
