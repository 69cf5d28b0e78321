/-
  first, walked.
-/
import Derived.Test.YtfkfooclapogjaaG
import Derived.Laws.BitsLemmas
namespace Go.Proofs.Ytfkfooclapogjaa
open Go.RowKit
set_option linter.unusedVariables false
set_option linter.unusedSimpArgs false

theorem wraps_i64 (n : Int) (h₀ : 0 ≤ n) (h₁ : n < 2 ^ 62) : IntKind.i64.wrap n = n := by rw [IntKind.wrap_i64]; omega
theorem i64_and31 (x : Int) (h₀ : 0 ≤ x) (h₁ : x < 256) : bits .and .i64 x 31 = x % 32 := bits_mask .i64 62 (by decide) wraps_i64 5 (by decide) x h₀ (by omega)
theorem i64_and15 (x : Int) (h₀ : 0 ≤ x) (h₁ : x < 256) : bits .and .i64 x 15 = x % 16 := bits_mask .i64 62 (by decide) wraps_i64 4 (by decide) x h₀ (by omega)
theorem i64_and7 (x : Int) (h₀ : 0 ≤ x) (h₁ : x < 256) : bits .and .i64 x 7 = x % 8 := bits_mask .i64 62 (by decide) wraps_i64 3 (by decide) x h₀ (by omega)
theorem i64_and63 (x : Int) (h₀ : 0 ≤ x) (h₁ : x < 2 ^ 62) : bits .and .i64 x 63 = x % 64 := bits_mask .i64 62 (by decide) wraps_i64 6 (by decide) x h₀ h₁
theorem i64_or6 (x y : Int) (hx₀ : 0 ≤ x) (hx : x % 64 = 0) (hx₁ : x < 2 ^ 62) (h₀ : 0 ≤ y) (h₁ : y < 64) : bits .or .i64 x y = x + y :=
  bits_join .i64 62 (by decide) wraps_i64 6 x y hx₀ hx hx₁ h₀ h₁ (by omega)

theorem F_lead {zs : List Int} {b0 : Int} {m : Nat} {lo hi : Int} (hb : zs.getD 0 0 = b0) (h : lead b0 = some (m, lo, hi)) : F zs = fl zs (m - 1) (top m b0) lo hi 1 := by
  unfold F; rw [hb, h]
theorem F_none {zs : List Int} {b0 : Int} (hb : zs.getD 0 0 = b0) (h : lead b0 = none) : F zs = (65533, 1, true) := by
  unfold F; rw [hb, h]
theorem MN_bounds (k : Nat) (hk : k < 9) : 1 ≤ MNs.getD k 0 ∧ MNs.getD k 0 ≤ 4 := by
  unfold MNs
  match k, hk with
  | 0, _ | 1, _ | 2, _ | 3, _ | 4, _ | 5, _ | 6, _ | 7, _ | 8, _ => decide

set_option maxHeartbeats 3200000 in
set_option maxRecDepth 100000 in
theorem first_any (T : Nat → Prop) (ao : Option Addr) (n cap : Nat) (zs : List Int) (w : World) (h : Arg T w ao n zs) (hn : 0 < n) (hby : Byt zs) :
    Calls Try.prog 51 #[.slice ao n cap] w fun e w' => e = .returned (.tuple #[.int .i64 (F zs).1, .int .i64 ((F zs).2.1 : Nat), .bool (F zs).2.2]) ∧ Below w.heap.size w w' := by
  obtain ⟨b, off, rfl, hbl, _, hc⟩ := h.2 hn
  have hzl := h.1
  have hbb := byt_getD hby (by omega : 0 < zs.length)
  obtain ⟨b0, hb0⟩ : ∃ x, x = zs.getD 0 0 := ⟨_, rfl⟩
  have hcb := hc 0 hn
  rw [Nat.add_zero, ← hb0] at hcb
  rw [← hb0] at hbb
  obtain ⟨w1, hw1⟩ : ∃ W, W = w.alloc (.cells #[.slice (some ⟨b, off, none⟩) n cap] 22) := ⟨_, rfl⟩
  have b1 : Below w.heap.size w w1 := by rw [hw1]; exact (Below.refl _ w).alloc (Nat.le_refl _) _
  have k1 : w1.heap[w.heap.size]? = some (.cells #[.slice (some ⟨b, off, none⟩) n cap] 22 (0, 0)) := by rw [hw1]; exact alloc_blk_new _ _
  have E1 := Lib.hid hw1
  have B1 := Lib.hid b1
  have K1 := Lib.hid k1
  have HC := Lib.hid (fun W (hb : Below w.heap.size w W) j hj => (hb.cell (p := ⟨b, off + j, none⟩) hbl).trans (hc j hj))
  have HCB := Lib.hid (fun W (hb : Below w.heap.size w W) => (hb.cell (p := ⟨b, off, none⟩) hbl).trans hcb)
  have HB0 := Lib.hid hb0
  have HZL := Lib.hid hzl
  have HBY := Lib.hid hby
  obtain ⟨R, hR⟩ : ∃ R, R = F zs := ⟨_, rfl⟩
  rw [← hR]
  have HR := Lib.hid hR
  clear h hc hzl hcb hb0 hw1 b1 k1 hby hR
  go_enter Try.func51, Try.ntmps51
  go_wp2_with (go_at_call 57; fail)
  rw [← E1.out]
  refine (leads_any w1).mono ?_
  rintro e w2 ⟨rfl, hb2⟩
  have B2 := Lib.hid (B1.out.trans (hb2.mono B1.out.size))
  have K2 := Lib.hid ((hb2.block _ (blk_lt K1.out)).trans K1.out)
  obtain ⟨w3, hw3⟩ : ∃ W, W = w2.alloc (.cells Leads 111) := ⟨_, rfl⟩
  have b3 : Below w2.heap.size w2 w3 := by rw [hw3]; exact (Below.refl _ w2).alloc (Nat.le_refl _) _
  have L3 : Hid (w3.heap[w2.heap.size]? = some (.cells Leads 111 (0, 0))) := Lib.hid (by rw [hw3]; exact alloc_blk_new _ _)
  have B3 := Lib.hid (B2.out.trans (b3.mono B2.out.size))
  have K3 := Lib.hid ((b3.block _ (blk_lt K2.out)).trans K2.out)
  have E3 := Lib.hid hw3
  clear hb2 b3 hw3
  go_wp2_with (first | (refine wpList_store_new w2 rfl 111 (.tmp 5) (.tmp 11) rfl Zs Leads rfl rfl size78 rfl one_leads ?_; rw [← E3.out]) | (go_at_call 58; fail))
  obtain ⟨C, hC⟩ : ∃ C, C = w2.heap.size := ⟨_, rfl⟩
  rw [← hC] at L3 ⊢
  have hCw : w.heap.size < C := by rw [hC]; exact blk_lt K2.out
  clear hC
  have k3 := cell_blk K3.out 0 _ rfl
  have hl3 := blk_lt K3.out
  have hb3 : b < w3.heap.size := Nat.lt_of_lt_of_le hbl B3.out.size
  have HI := Lib.hid (IndexFunc_any w.heap.size C b0 b off n cap hn w3 L3.out k3 (HCB.out _ B3.out) hl3 hb3)
  clear k3
  refine HI.out.mono ?_
  rintro e w4 ⟨⟨k, hk, hin, rfl⟩ | ⟨hno, rfl⟩, hb4⟩
  · have hL4 := (hb4.block _ (blk_lt L3.out)).trans L3.out
    obtain ⟨g0, g1, g2, g3, g4⟩ := lead_cells hL4 k hk
    have hld := lead_at hk hin
    have hmb := MN_bounds k hk
    have B4 := Lib.hid (B3.out.trans (hb4.mono B3.out.size))
    have k4 := cell_blk ((hb4.block _ (blk_lt K3.out)).trans K3.out) 0 (.slice (some ⟨b, off, none⟩) n cap) rfl
    have hcb4 := HCB.out w4 B4.out
    have hC4 := blk_lt hL4
    have hw4 : w.heap.size < w4.heap.size := by omega
    have hb4l : b < w4.heap.size := by omega
    obtain ⟨lo, hlo⟩ : ∃ x, x = LOs.getD k 0 := ⟨_, rfl⟩
    obtain ⟨hi', hhi⟩ : ∃ x, x = HIs.getD k 0 := ⟨_, rfl⟩
    obtain ⟨mm, hmm⟩ : ∃ x, x = MNs.getD k 0 := ⟨_, rfl⟩
    obtain ⟨lw, hlw⟩ : ∃ x, x = LWs.getD k 0 := ⟨_, rfl⟩
    obtain ⟨hg, hhg⟩ : ∃ x, x = HGs.getD k 0 := ⟨_, rfl⟩
    rw [← hlo] at g0
    rw [← hhi] at g1
    rw [← hmm] at g2 hmb
    rw [← hlw] at g3
    rw [← hhg] at g4
    rw [← hmm, ← hlw, ← hhg] at hld
    have hF : R = fl zs (mm - 1) (top mm b0) lw hg 1 := by rw [HR.out]; exact F_lead HB0.out.symm hld
    have HF := Lib.hid hF
    have HWG : Hid ((0 ≤ lw ∧ lw < 256) ∧ (0 ≤ hg ∧ hg < 256)) := Lib.hid (by
      rw [hlw, hhg]; unfold LWs HGs
      match k, hk with
      | 0, _ | 1, _ | 2, _ | 3, _ | 4, _ | 5, _ | 6, _ | 7, _ | 8, _ => decide)
    clear hlo hhi hmm hlw hhg hld hF hin hb4 hL4 HI L3 K3 K2 K1 B3 B2 B1 E3 E1
    obtain ⟨hm1, hm4⟩ := hmb
    have hmc : mm = 1 ∨ mm = 2 ∨ mm = 3 ∨ mm = 4 := by omega
    clear hm1 hm4
    go_upto_if 26 with fail
    obtain ⟨w5, hw5⟩ : ∃ W, W = w4.alloc (.cells #[.int .u8 lo, .int .u8 hi', .int .i64 mm, .int .u8 lw, .int .u8 hg] 110) := ⟨_, rfl⟩
    obtain ⟨X, hX⟩ : ∃ X, X = w4.heap.size := ⟨_, rfl⟩
    have hb5 : Below w4.heap.size w4 w5 := by rw [hw5]; exact (Below.refl _ w4).alloc (Nat.le_refl _) _
    have k5 : w5.heap[X]? = some (.cells #[.int .u8 lo, .int .u8 hi', .int .i64 mm, .int .u8 lw, .int .u8 hg] 110 (0, 0)) := by rw [hw5, hX]; exact alloc_blk_new _ _
    have hX5 := blk_lt k5
    have B5 := Lib.hid (B4.out.trans (hb5.mono B4.out.size))
    have K5 := Lib.hid ((hb5.cell (p := ⟨w.heap.size, 0, none⟩) hw4).trans k4)
    have x2 := cell_blk k5 2 (.int .i64 mm) rfl
    have x3 := cell_blk k5 3 (.int .u8 lw) rfl
    have x4 := cell_blk k5 4 (.int .u8 hg) rfl
    have hw5l : w.heap.size < w5.heap.size := Nat.lt_of_lt_of_le hw4 hb5.size
    have hb5l : b < w5.heap.size := Nat.lt_of_lt_of_le hb4l hb5.size
    rw [← hw5, ← hX]
    clear hw5 hX hb5 k5 g0 g1 g2 g3 g4 k4 hcb4 hC4 hw4 hb4l B4 hl3 hb3 hk
    go_cut [2] from 27 to 32 (fun s wx => s = .int .i64 (top mm b0) ∧ wx = w5)
    case first =>
      rcases hmc with rfl | rfl | rfl | rfl
      · go_wp2
        go_meet
        exact ⟨rfl, rfl⟩
      · have hx := i64_and31 b0 hbb.1 hbb.2
        go_wp2
        go_meet
        exact ⟨rfl, rfl⟩
      · have hx := i64_and15 b0 hbb.1 hbb.2
        go_wp2
        go_meet
        exact ⟨rfl, rfl⟩
      · have hx := i64_and7 b0 hbb.1 hbb.2
        go_wp2
        go_meet
        exact ⟨rfl, rfl⟩
    case rest =>
      obtain ⟨rfl, hwc⟩ := hcut
      obtain rfl : w5 = wc := hwc.symm
      have hmm4 : 1 ≤ mm ∧ mm ≤ 4 := by omega
      have htop : 0 ≤ top mm b0 ∧ top mm b0 < 256 := by unfold top; (repeat' split) <;> omega
      obtain ⟨p0, hp0⟩ : ∃ x, x = top mm b0 := ⟨_, rfl⟩
      rw [← hp0] at HF htop ⊢
      clear hp0 hmc
      go_upto_region 9 with fail
      go_quiet (fail)
      obtain ⟨w6, hw6⟩ : ∃ W, W = w5.drewN nq := ⟨_, rfl⟩
      rw [← hw6]
      have B6 : Hid (Below w.heap.size w w6) := Lib.hid (by rw [hw6]; exact B5.out.trans ((Below.drewN' w5 nq).mono B5.out.size))
      have K6 : w6.cell? ⟨w.heap.size, 0, none⟩ = some (.slice (some ⟨b, off, none⟩) n cap) := by rw [hw6]; exact K5.out
      replace x2 : w6.cell? ⟨X, 2, none⟩ = some (.int .i64 mm) := by rw [hw6]; exact x2
      have hX6 : X < w6.heap.size := by rw [hw6]; exact hX5
      have hw6l : w.heap.size < w6.heap.size := by rw [hw6]; exact hw5l
      have hb6l : b < w6.heap.size := by rw [hw6]; exact hb5l
      clear hw6 x3 x4 hX5 hw5l hb5l B5 K5
      have hnn : 1 ≤ n := hn
      go_wp2_with fail
      go_loopg [2, 3, 8, 9] (mm - 1) (fun gk v2 v3 v8 v9 wr => ∃ (pt lo' hi2 : Int) (q : Nat), v2 = .int .i64 pt ∧ v3 = .int .i64 q ∧ v8 = .int .u8 lo' ∧ v9 = .int .u8 hi2 ∧ 1 ≤ q ∧ q ≤ mm ∧ q ≤ n ∧ gk = mm - q ∧ wr = w6 ∧
        (0 ≤ pt ∧ (q = 1 → pt < 256) ∧ (q = 2 → pt < 16384) ∧ (q = 3 → pt < 1048576) ∧ (q = 4 → pt < 67108864)) ∧ R = fl zs (mm - q) pt lo' hi2 q)
      case atStart => exact ⟨p0, lw, hg, 1, rfl, rfl, rfl, rfl, by omega, by omega, by omega, rfl, rfl, by omega, HF.out⟩
      case round =>
        obtain ⟨pt, lo', hi2, q, rfl, rfl, rfl, rfl, hq1, hqm, hqn, hgk, hwr, hpt, hR⟩ := hrel
        obtain rfl : w6 = wr := hwr.symm
        have HG := Lib.hid hgk
        have HPT := Lib.hid hpt
        have HRR := Lib.hid hR
        clear hgk hpt hR hwr
        by_cases hlt : q < mm
        · have d1 : decide (q < mm) = true := by simpa using hlt
          obtain ⟨f, hf⟩ : ∃ f, mm - q = f + 1 := ⟨mm - q - 1, by omega⟩
          have hR := HRR.out
          rw [hf] at hR
          simp only [fl] at hR
          have hqc : q ≤ 4 := by omega
          have HFF : Hid (f = mm - (q + 1)) := Lib.hid (by omega)
          by_cases he : q = n
          · have d2 : (q == n) = true := by simpa using he
            have d3 : ((q : Int) == n) = true := by simp; omega
            rw [if_pos (by have := HZL.out; omega)] at hR
            have HR2 := Lib.hid hR
            clear hR he hf HRR
            go_wp2
            go_ret3
            exact ⟨by rw [HR2.out]; rfl, B6.out⟩
          · have d2 : (q == n) = false := by simpa using he
            have d3 : ((q : Int) == n) = false := by simp; omega
            have hqn2 : q < n := by omega
            rw [if_neg (by have := HZL.out; omega)] at hR
            have hc := HC.out w6 B6.out q hqn2
            have hcb := byt_getD HBY.out (by have := HZL.out; omega : q < zs.length)
            obtain ⟨c, hcc⟩ : ∃ c, c = zs.getD q 0 := ⟨_, rfl⟩
            rw [← hcc] at hc hcb hR
            have hx := u8_and63 c hcb.1 hcb.2
            clear hcc he hf HRR
            by_cases h1 : c < lo'
            · have d4 : decide (c < lo') = true := by simpa using h1
              rw [if_pos (.inl h1)] at hR
              have HR2 := Lib.hid hR
              clear hR h1
              go_wp2
              go_ret3
              exact ⟨by rw [HR2.out]; rfl, B6.out⟩
            · have d4 : decide (c < lo') = false := by simpa using h1
              by_cases h2 : hi2 < c
              · have d5 : decide (hi2 < c) = true := by simpa using h2
                rw [if_pos (.inr h2)] at hR
                have HR2 := Lib.hid hR
                clear hR h1 h2
                go_wp2
                go_ret3
                exact ⟨by rw [HR2.out]; rfl, B6.out⟩
              · have d5 : decide (hi2 < c) = false := by simpa using h2
                rw [if_neg (by omega)] at hR
                have HR2 := Lib.hid hR
                have hj := i64_or6 (pt * 64) (c % 64) (by have := HPT.out; omega) (by omega) (by have := HPT.out; omega) (by omega) (by omega)
                have hpt0 := HPT.out.1
                have hpt1 : pt ≤ 1048576 := by have := HPT.out; omega
                clear hR h1 h2
                go_wp2
                go_roundg (mm - (q + 1))
                case measure => have := HG.out; omega
                case rel => exact ⟨pt * 64 + c % 64, 128, 191, q + 1, rfl, by go_num, rfl, rfl, by omega, by omega, by omega, rfl, rfl, by have := HPT.out; omega, by rw [HR2.out, HFF.out]⟩
        · obtain rfl : q = mm := by omega
          have hR := HRR.out
          rw [Nat.sub_self] at hR
          simp only [fl] at hR
          have HR2 := Lib.hid hR
          clear hR HRR
          go_wp2
          go_ret3
          exact ⟨by rw [HR2.out]; rfl, B6.out⟩
  · have hl := lead_no hbb.1 hno
    have HF : Hid (R = (65533, 1, true)) := Lib.hid (by rw [HR.out]; exact F_none HB0.out.symm hl)
    have B4 := Lib.hid (B3.out.trans (hb4.mono B3.out.size))
    clear hb4 hno hl
    go_wp2
    go_ret3
    exact ⟨by rw [HF.out]; rfl, B4.out⟩
end Go.Proofs.Ytfkfooclapogjaa
