/-
  The document's delays to come.
-/
import Derived.Test.YtkoppmnofloefaaRe
import Derived.Test.YtkoppmnofloefaaT
import Derived.Deep.RegionHeld3
namespace Go.Proofs.Ytkoppmnofloefaa
open Go.RowKit
set_option linter.unusedVariables false
set_option linter.unusedSimpArgs false

theorem delayOf_sat (M J base d : Int) (t : Nat) (h1 : 1 ≤ base) (hM : M ≤ 1099511627776) : delayOf M J base (min t 64) d = delayOf M J base t d := by
  by_cases h : t ≤ 64
  · rw [show min t 64 = t by omega]
  · have e1 : ∀ s : Nat, 63 ≤ s → min (base * 2 ^ s) M = M := by
      intro s hs
      have hp2 := two_pow_le hs
      have h9 : (1 : Int) * 2 ^ s ≤ base * 2 ^ s := Int.mul_le_mul_of_nonneg_right (by omega) (by omega)
      omega
    unfold delayOf
    rw [e1 _ (by omega), e1 _ (by omega)]

theorem row_mono {w : World} {b c : Nat} {e : TypeId} {size : Nat} {v : Value} {n : Nat} {xs : List Value} (h : w.ownsRow b e size v n xs) (hc : c ≤ b) : w.ownsRow c e size v n xs := by
  refine ⟨h.1, ?_⟩
  rcases h.2 with h' | ⟨g, cap, cur, rfl, hb, rest⟩
  · exact .inl h'
  · exact .inr ⟨g, cap, cur, rfl, Nat.le_trans hc hb, rest⟩
theorem below_set5 {a W : World} {n₀ r : Nat} (h : Below n₀ a W) (hr : n₀ ≤ r) (a0 a1 a2 a3 a4 : Value) : Below n₀ a (((((W.setCell ⟨r, 0, none⟩ a0).setCell ⟨r, 1, none⟩ a1).setCell ⟨r, 2, none⟩ a2).setCell ⟨r, 3, none⟩ a3).setCell ⟨r, 4, none⟩ a4) :=
  ((((h.setCell (p := ⟨r, 0, none⟩) hr a0).setCell (p := ⟨r, 1, none⟩) hr a1).setCell (p := ⟨r, 2, none⟩) hr a2).setCell (p := ⟨r, 3, none⟩) hr a3).setCell (p := ⟨r, 4, none⟩) hr a4

set_option maxHeartbeats 3200000 in
set_option maxRecDepth 100000 in
theorem refDelays (L M J base : Int) (k : Nat) (ao : Option Addr) (n cap : Nat) (zs : List Int) (w : World) (h1 : 1 ≤ base) (hM : base ≤ M) (hM2 : M ≤ 1099511627776) (hJ : 0 ≤ J) (hJ2 : J ≤ 1099511627776) (hk : k ≤ 64) (h : Drs w ao n zs) (hn : n ≤ 70) :
    Calls Try.prog 21 #[.agg #[.int .u64 L, .int .u64 M, .int .u64 J, .int .u64 base, .int .i64 k], .slice ao n cap] w fun e w' => ∃ v, e = .returned v ∧ w'.ownsRow w.heap.size 22 1 v n (dlys M J base k zs n) ∧ Below w.heap.size w w' := by
  obtain ⟨i0, hi0, hz0, hz1, hz2⟩ := info_parts Try.info22
  have HA := Lib.hid h
  have hB := (Below.refl _ w).alloc (Nat.le_refl _) (.cells #[.int .u64 L, .int .u64 M, .int .u64 J, .int .u64 base, .int .i64 k] 37)
  have hK := alloc_blk_new w (.cells #[.int .u64 L, .int .u64 M, .int .u64 J, .int .u64 base, .int .i64 k] 37)
  have e0 : k = min (k + 0) 64 := by omega
  have HB0 := Lib.hid hB
  have HK0 : Hid ((w.alloc (.cells #[.int .u64 L, .int .u64 M, .int .u64 J, .int .u64 base, .int .i64 k] 37)).heap[w.heap.size]? = some (.cells #[.int .u64 L, .int .u64 M, .int .u64 J, .int .u64 base, .int .i64 (min (k + 0) 64 : Nat)] 37 (0, 0))) := Lib.hid (by rw [← e0]; exact hK)
  clear h hB hK e0
  go_enter Try.func21, Try.ntmps21
  go_wp2
  go_loopg [5, 6] n (fun gk v5 v6 wr => ∃ i : Nat, v6 = .int .i64 i ∧ i ≤ n ∧ gk = n - i ∧ wr.ownsRow (w.heap.size + 1) 22 1 v5 i (dlys M J base k zs i) ∧ wr.heap[w.heap.size]? = some (.cells #[.int .u64 L, .int .u64 M, .int .u64 J, .int .u64 base, .int .i64 (min (k + i) 64 : Nat)] 37 (0, 0)) ∧ Below w.heap.size w wr)
  case atStart => exact ⟨0, rfl, by omega, rfl, World.ownsRow_nil _ _ _ _, HK0.out, HB0.out⟩
  case round =>
    obtain ⟨i, rfl, hi, hgk, hown, hbox, hbel⟩ := hrel
    have HG := Lib.hid hgk
    have HO := Lib.hid hown
    have HM := Lib.hid hbel
    obtain ⟨ao4, cap4, rfl⟩ := row_slice hown
    by_cases hlt : i < n
    · obtain ⟨b, off, rfl, hbl, hc⟩ := HA.out.2 (by omega)
      obtain ⟨z, hz⟩ : ∃ z, z = zs.getD i 0 := ⟨_, rfl⟩
      obtain ⟨ki, hki⟩ : ∃ ki, ki = min (k + i) 64 := ⟨_, rfl⟩
      rw [← hki] at hbox
      have HBX := Lib.hid hbox
      have hki64 : ki ≤ 64 := by omega
      have hz0' : 0 ≤ z := by rw [hz]; exact (hc i hlt).2
      have hci := (HM.out.cell (p := ⟨b, off + i, none⟩) hbl).trans (hc i hlt).1
      rw [← hz] at hci
      have HD := fun (W : World) => refNext L M J base z ki W h1 hM hM2 hJ hJ2 hz0' hki64
      obtain ⟨y, hy⟩ : ∃ y, y = delayOf M J base ki z := ⟨_, rfl⟩
      obtain ⟨kj, hkj⟩ : ∃ kj, kj = min (ki + 1) 64 := ⟨_, rfl⟩
      rw [← hy, ← hkj] at HD
      have HD := Lib.hid HD
      have HZ := Lib.hid (show dly M J base k zs i = y by rw [hy, hz, hki, delayOf_sat M J base _ _ h1 hM2]; rfl)
      have HKJ := Lib.hid (show kj = min (k + (i + 1)) 64 by omega)
      have hMs := HM.out.size
      have hlw := blk_lt hbox
      have hbr : b < wr.heap.size := by omega
      have HCI := Lib.hid hci
      have HB1 := Lib.hid (show Below wr.heap.size wr wr.drew from ⟨rfl, rfl, rfl, Nat.le_refl _, fun _ _ => rfl⟩)
      clear hc hz hy hki hkj hgk hown hbox hbel hci
      go_upto_region 5 with fail
      go_cut [7, 8] (fun v7 v8 wx => ∃ r : Nat, v7 = .pointer (some ⟨r, 0, none⟩) ∧ v8 = .int .u64 y ∧ wr.heap.size ≤ r ∧ wx.heap[r]? = some (.cells #[.int .u64 L, .int .u64 M, .int .u64 J, .int .u64 base, .int .i64 kj] 37 (0, 0)) ∧ Below wr.heap.size wr wx)
      case first =>
        obtain ⟨l0, l1, l2, l3, l4, f0, f1, f2, f3, f4⟩ := five HBX.out
        have hci := HCI.out
        go_region_with (go_at_call 29; refine (HD.out _).mono ?_; rintro e w5 ⟨rfl, hb5⟩; have hS5 : Below wr.heap.size wr w5 := (by first | exact HB1.out.trans hb5 | exact (HB1.out.alloc (Nat.le_refl _) _).trans (hb5.mono (by simp))); have hs5 := hS5.size; have HS5 := Lib.hid hS5; clear hS5; (first | (have tt := (hb5.block wr.heap.size (by simp)).trans (alloc_blk_new wr.drew _); have TT := Lib.hid tt; have htt := blk_lt tt; obtain ⟨m0, m1, m2, m3, m4, n0, n1, n2, n3, n4⟩ := five tt; clear tt) | skip); clear hb5)
        all_goals
          go_wp2
          go_meet
          first
            | exact ⟨_, rfl, rfl, Nat.le_refl _, (set5 TT.out _ _ _ _ _).1, below_set5 HS5.out (Nat.le_refl _) _ _ _ _ _⟩
            | exact ⟨_, rfl, rfl, hs5, alloc_blk_new _ _, HS5.out.alloc hs5 _⟩
      case rest =>
        obtain ⟨r, rfl, rfl, hr, hrk, hbx⟩ := hcut
        obtain ⟨m0, m1, m2, m3, m4, n0, n1, n2, n3, n4⟩ := five hrk
        have hk2 := (hbx.block _ hlw).trans HBX.out
        obtain ⟨l0, l1, l2, l3, l4, f0, f1, f2, f3, f4⟩ := five hk2
        have hrl := blk_lt hrk
        have hlw2 := blk_lt hk2
        have HK2 := Lib.hid hk2
        have HBC := Lib.hid hbx
        have HOC : Hid (wc.ownsRow (w.heap.size + 1) 22 1 (.slice ao4 i cap4) i (dlys M J base k zs i)) := Lib.hid (Mod.row (Mod.of_below hbx (fun _ => False)) HO.out (fun _ _ h => h))
        clear hk2 hrk hbx HB1 HD HBX HCI
        go_upto_region 7 with fail
        obtain ⟨w6, hw6⟩ : ∃ W, W = (((((wc.setCell ⟨w.heap.size, 0, none⟩ (.int .u64 L)).setCell ⟨w.heap.size, 1, none⟩ (.int .u64 M)).setCell ⟨w.heap.size, 2, none⟩ (.int .u64 J)).setCell ⟨w.heap.size, 3, none⟩ (.int .u64 base)).setCell ⟨w.heap.size, 4, none⟩ (.int .i64 kj)) := ⟨_, rfl⟩
        rw [← hw6]
        obtain ⟨q1, q2⟩ := set5 HK2.out (.int .u64 L) (.int .u64 M) (.int .u64 J) (.int .u64 base) (.int .i64 kj)
        rw [← hw6] at q1 q2
        have HO6 : Hid (w6.ownsRow (w.heap.size + 1) 22 1 (.slice ao4 i cap4) i (dlys M J base k zs i)) := Lib.hid (Mod.row q2 HOC.out (fun k hk e => by have := (HOC.out.lt k hk).1; omega))
        have hs6 := q2.size
        have hs7 := HBC.out.size
        have HM6 : Hid (Below w.heap.size w w6) := Lib.hid (by
          have h8 := HM.out.trans (HBC.out.mono hMs)
          exact ⟨q2.os.trans h8.os, q2.tape.trans h8.tape, q2.output.trans h8.output, by omega, fun x hx => (q2.block x (by omega) (by show ¬ x = w.heap.size; omega)).trans (h8.block x hx)⟩)
        have HQ1 := Lib.hid q1
        have hs8 : w.heap.size + 1 ≤ w6.heap.size := by omega
        clear q1 q2 hw6 HK2 HBC HOC HO HM m0 m1 m2 m3 m4 n0 n1 n2 n3 n4 l0 l1 l2 l3 l4 f0 f1 f2 f3 f4
        go_wp2_with (at_builtin; refine wpList_append_f _ rfl (.tmp 25) (.tmp 27) 25 rfl (w.heap.size + 1) 22 i0 (.int .u64 0) 1 8 Try.underlying25 hi0 hz0 hz1 hz2 rfl (by decide) _ _ _ rfl (HO6.out.alloc _) (some ⟨w6.heap.size, 0, none⟩) 1 1 [.int .u64 y] rfl rfl (fun h => by cases h) ?c1 ?c2 ?c3 ?c4 ?c5 ?_)
        case c1 => rintro ad h j u hj; cases h; exact cell_one_new _ _ _ j u hj
        case c2 => intro u hu; simp at hu; subst hu; rfl
        case c3 => unfold maxLen; omega
        case c4 => omega
        case c5 => simp; omega
        intro v' w3 hown hg hf _
        have hbel : Below w.heap.size w w3 := (HM6.out.alloc (by omega) (.cells #[.int .u64 y] 22)).grown hg (by simp; omega) (fun k hk => by have := (HO6.out.lt k hk).1; omega)
        have HO3 : Hid (w3.ownsRow (w.heap.size + 1) 22 1 v' (i + 1) (dlys M J base k zs (i + 1))) := Lib.hid (by rw [dlys_succ, HZ.out]; exact hown)
        have HM3 := Lib.hid hbel
        have HK3 : Hid (w3.heap[w.heap.size]? = some (.cells #[.int .u64 L, .int .u64 M, .int .u64 J, .int .u64 base, .int .i64 (min (k + (i + 1)) 64 : Nat)] 37 (0, 0))) := Lib.hid (by
          rw [← HKJ.out]
          exact (hg.block _ (by simp; omega) (fun e => by have := (HO6.out.lt _ e.symm).1; omega)).trans (alloc_blk HQ1.out _))
        clear hown hg hf hbel
        go_wp2
        go_roundg (n - (i + 1))
        case measure => have := HG.out; omega
        case rel => exact ⟨i + 1, by go_num, by omega, rfl, HO3.out, HK3.out, HM3.out⟩
    · obtain rfl : i = n := by omega
      clear hgk hown hbox hbel
      go_wp2
      go_ret
      exact ⟨_, rfl, row_mono HO.out (by omega), HM.out⟩
end Go.Proofs.Ytkoppmnofloefaa
