/-
  RingPlays, walked.
-/
import Derived.Test.YthiajgkifoimcaaTi
import Derived.Test.YthiajgkifoimcaaTg
import Derived.Test.YthiajgkifoimcaaK
namespace Go.Proofs.Ythiajgkifoimcaa
open Go.RowKit
set_option linter.unusedVariables false
set_option linter.unusedSimpArgs false

/-- Calls that came in. -/
def Acts (w : World) (ao : Option Addr) (n : Nat) (zs : List (Int × Int × Int)) : Prop :=
  n ≤ zs.length ∧ (0 < n → ∃ b off, ao = some ⟨b, off, none⟩ ∧ b < w.heap.size ∧ ∀ j, j < n → w.cell? ⟨b, off + j * 3, none⟩ = some (.int .i64 (zs.getD j (0, 0, 0)).1) ∧ w.cell? ⟨b, off + j * 3 + 1, none⟩ = some (.int .i64 (zs.getD j (0, 0, 0)).2.1) ∧
    w.cell? ⟨b, off + j * 3 + 2, none⟩ = some (.int .u64 (zs.getD j (0, 0, 0)).2.2) ∧ 0 ≤ (zs.getD j (0, 0, 0)).2.2 ∧ (zs.getD j (0, 0, 0)).2.2 ≤ 18446744073709551615)

theorem set3 {w : World} {b : Nat} {z0 z1 z2 : Value} {t : TypeId} (h : w.heap[b]? = some (.cells #[z0, z1, z2] t (0, 0))) (a0 a1 a2 : Value) :
    (((w.setCell ⟨b, 0, none⟩ a0).setCell ⟨b, 1, none⟩ a1).setCell ⟨b, 2, none⟩ a2).heap[b]? = some (.cells #[a0, a1, a2] t (0, 0)) ∧
    Mod (fun q => q = b) w (((w.setCell ⟨b, 0, none⟩ a0).setCell ⟨b, 1, none⟩ a1).setCell ⟨b, 2, none⟩ a2) := by
  refine ⟨?_, (((Mod.refl (fun q => q = b) w).setCell ⟨b, 0, none⟩ (.inl rfl) a0).setCell ⟨b, 1, none⟩ (.inl rfl) a1).setCell ⟨b, 2, none⟩ (.inl rfl) a2⟩
  have e0 := setCell_blk h 0 a0
  have e1 := setCell_blk e0 1 a1
  have e2 := setCell_blk e1 2 a2
  exact e2

/-- The ring and the document's, under way. -/
structure Both (w0 : World) (p : Nat) (sv : Value) (F m : Int) (L : List Int) (ao : Option Addr) (n cap : Nat) (W : World) : Prop where
  ring : Ring W w0.heap.size p F m sv L
  rl : RL W w0.heap.size ao n cap L
  ap : Apart p sv ao n
  below : Below w0.heap.size w0 W
/-- A block that is neither's. -/
def Off (p : Nat) (sv : Value) (ao : Option Addr) (n q : Nat) : Prop := ¬ FP p sv q ∧ ∀ off, 0 < n → ao ≠ some ⟨q, off, none⟩
section
variable {w0 W W' : World} {p q : Nat} {sv : Value} {F m : Int} {L : List Int} {ao : Option Addr} {n cap : Nat}
theorem Both.bel (h : Both w0 p sv F m L ao n cap W) (hb : Below W.heap.size W W') : Both w0 p sv F m L ao n cap W' :=
  ⟨h.ring.below hb, h.rl.below hb, h.ap, h.below.trans (hb.mono h.below.size)⟩
theorem Both.drewN (h : Both w0 p sv F m L ao n cap W) (k : Nat) : Both w0 p sv F m L ao n cap (W.drewN k) := ⟨h.ring.drewN k, h.rl.drewN k, h.ap, ⟨h.below.os, h.below.tape, h.below.output, h.below.size, h.below.block⟩⟩
theorem Both.other {S : Nat → Prop} (h : Both w0 p sv F m L ao n cap W) (hm : Mod S W W') (hS : ∀ k, S k → k = q) (ho : Off p sv ao n q) (hq : w0.heap.size ≤ q) : Both w0 p sv F m L ao n cap W' :=
  ⟨h.ring.mod hm (fun k hk e => ho.1 (hS k e ▸ hk)), h.rl.mod hm (fun b off hp e hb => ho.2 off hp (by rw [← hS b hb]; exact e)), h.ap,
    ⟨hm.os.trans h.below.os, hm.tape.trans h.below.tape, hm.output.trans h.below.output, Nat.le_trans h.below.size hm.size, fun k hk => (hm.block k (by have := h.below.size; omega) (fun e => by have := hS k e; omega)).trans (h.below.block k hk)⟩⟩
theorem Both.off (h : Both w0 p sv F m L ao n cap W) (hq : W.heap.size ≤ q) : Off p sv ao n q :=
  ⟨fun hk => by have := (h.ring.fplt hk).2; omega, fun off hp e => by
    obtain ⟨b, off', e', _, hb, _⟩ := h.rl.at_ hp
    rw [e] at e'; cases e'; omega⟩
/-- An act is one more step. -/
theorem Both.act {e : Ending} (h : Both w0 p sv F m L ao n cap W) (ha : Acted W w0.heap.size w0.heap.size p sv m ao n e W') :
    ∃ p' sv' F' L' ao' n' cap', e = .returned (.tuple #[.pointer (some ⟨p', 0, none⟩), ragg ao' n' cap' F' m, .bool true]) ∧ Both w0 p' sv' F' m L' ao' n' cap' W' ∧ Mod (FP p sv) W W' ∧
      (∀ q, q < W.heap.size → Off p sv ao n q → Off p' sv' ao' n' q) := by
  obtain ⟨p', sv', F', L', ao', n', cap', he, hr, hl, hm, hfp, hfr, hap⟩ := ha
  refine ⟨p', sv', F', L', ao', n', cap', he, ⟨hr, hl, hap, ⟨hm.os.trans h.below.os, hm.tape.trans h.below.tape, hm.output.trans h.below.output, Nat.le_trans h.below.size hm.size, fun k hk => (hm.block k (by have := h.below.size; omega) (fun e => by have := (h.ring.fplt e).1; omega)).trans (h.below.block k hk)⟩⟩, hm, fun q hq ho => ⟨fun hk => ?_, fun off hp e => ?_⟩⟩
  · rcases hfp q hk with h' | h'
    · exact ho.1 h'
    · omega
  · rcases hfr q off hp e with ⟨h0, off0, e0⟩ | h1
    · exact ho.2 off0 h0 e0
    · omega
end

set_option maxHeartbeats 1600000 in
set_option maxRecDepth 100000 in
theorem plays_out (m x : Int) (ao : Option Addr) (n cap : Nat) (w : World) (h : 50 < n ∨ (n ≤ 50 ∧ (m < 1 ∨ 4096 < m))) (hn : n ≤ maxLen) :
    Calls Try.prog 4 #[.int .i64 m, .int .u64 x, .slice ao n cap] w (Yes w) := by
  unfold maxLen at hn
  have HW := Lib.hid works_true
  rcases h with h | ⟨h, h2⟩
  · have hd1 : decide (50 < n) = true := by simpa using h
    go_enter Try.func4, Try.ntmps4
    go_wp2_with (go_at_call 7; refine (HW.out _).mono ?_; rintro e w' ⟨rfl, hb⟩)
    go_ret
    exact ⟨rfl, hb⟩
  · have hd1 : decide (50 < n) = false := by simp; omega
    have HN := Lib.hid (new_bad m x w h2)
    have HQ := Lib.hid (refNew_bad m x w h2)
    have HNum := Lib.hid num_any
    unfold ragg at HQ
    clear h2
    go_enter Try.func4, Try.ntmps4
    go_wp2_with (first | (go_at_call 8; refine HN.out.mono ?_; rintro e w' ⟨rfl, rfl⟩) | (go_at_call 16; refine HQ.out.mono ?_; rintro e w1 ⟨rfl, hb1⟩; have HB1 := Lib.hid hb1; clear hb1) | (go_at_call 9; refine (HNum.out _ _).mono ?_; rintro e w' ⟨rfl, rfl⟩) | (go_at_call 7; refine (HW.out _).mono ?_; rintro e w' ⟨rfl, hb⟩))
    go_ret
    have hb2 := (HB1.out.alloc HB1.out.size (.cells #[.slice none 0 0, .int .u64 0, .int .i64 0] 40))
    exact ⟨rfl, hb2.trans (hb.mono hb2.size)⟩
set_option maxHeartbeats 6400000 in
set_option maxRecDepth 100000 in
theorem plays_in (m x : Int) (bo : Option Addr) (k bcap : Nat) (zs : List (Int × Int × Int)) (w : World) (hk : k ≤ 50) (h1 : 1 ≤ m) (h2 : m ≤ 4096) (hx0 : 0 ≤ x) (hx1 : x ≤ 18446744073709551615) (ha : Acts w bo k zs) :
    Calls Try.prog 4 #[.int .i64 m, .int .u64 x, .slice bo k bcap] w (Yes w) := by
  have HW := Lib.hid works_true
  have HNum := Lib.hid num_any
  have HA := Lib.hid ha
  have HN := Lib.hid (New_ring w.heap.size m x w (Nat.le_refl _) h1 h2 hx0 hx1)
  have HQ := Lib.hid (fun W => refNew_ok m x W h1 h2)
  have hd1 : decide (50 < k) = false := by simp; omega
  unfold ragg at HQ
  clear ha
  go_enter Try.func4, Try.ntmps4
  go_wp2_with fail
  refine HN.out.mono ?_
  rintro e w1 ⟨rfl, hr, hb⟩
  have B1 := Lib.hid (show Both w w.heap.size (.slice none 0 0) x m [] none 0 0 w1 from ⟨hr, RL.nil _ _, fun b off hp => by omega, hb⟩)
  obtain ⟨p, hp⟩ : ∃ p, p = w.heap.size := ⟨_, rfl⟩
  have HP := Lib.hid hp
  rw [← HP.out]
  have hpw : w.heap.size ≤ p := by omega
  have B1 : Hid (Both w p (.slice none 0 0) x m [] none 0 0 w1) := Lib.hid (by rw [hp]; exact B1.out)
  clear hr hb HN hp
  go_wp2_with (go_at_call 16; fail)
  refine (HQ.out w1).mono ?_
  rintro e w2 ⟨rfl, hb⟩
  have B2 := Lib.hid (B1.out.bel hb)
  clear hb HQ B1
  have hbA := (Below.refl _ w2).alloc (Nat.le_refl _) (.cells #[.slice none 0 0, .int .u64 x, .int .i64 m] 40)
  have B3 := Lib.hid (B2.out.bel hbA)
  have K3 := Lib.hid (alloc_blk_new w2 (.cells #[.slice none 0 0, .int .u64 x, .int .i64 m] 40))
  obtain ⟨q, hq⟩ : ∃ q, q = w2.heap.size := ⟨_, rfl⟩
  have HQq := Lib.hid hq
  have hqw : w.heap.size ≤ q := by have := B2.out.below.size; omega
  have O3 := Lib.hid (B2.out.off (q := q) (by omega))
  clear hbA hq B2
  go_wp2_with (go_at_call 9; refine (HNum.out _ _).mono ?_; rintro e w' ⟨rfl, rfl⟩)
  rw [← HQq.out] at K3 ⊢
  go_loopg [7, 11] k (fun gk v7 v11 wr => ∃ i : Nat, ∃ pi sv F L ao n cap, v7 = .pointer (some ⟨pi, 0, none⟩) ∧ v11 = .int .i64 i ∧ i ≤ k ∧ gk = k - i ∧ Both w pi sv F m L ao n cap wr ∧ Off pi sv ao n q ∧ wr.heap[q]? = some (.cells #[.slice ao n cap, .int .u64 F, .int .i64 m] 40 (0, 0)))
  case atStart => exact ⟨0, p, _, x, [], none, 0, 0, rfl, rfl, by omega, rfl, B3.out, O3.out, K3.out⟩
  case round =>
    obtain ⟨i, pi, sv, F, L, ao, n, cap, rfl, rfl, hin, hgk, hB, hO, hK⟩ := hrel
    have HG := Lib.hid hgk
    have B := Lib.hid hB
    have O := Lib.hid hO
    have K := Lib.hid hK
    clear hgk hB hO hK B3 K3 O3
    by_cases hlt : i < k
    · obtain ⟨b, off, rfl, hbw, hcz⟩ := HA.out.2 (by omega)
      obtain ⟨what, hwhat⟩ : ∃ x, x = (zs.getD i (0, 0, 0)).1 := ⟨_, rfl⟩
      obtain ⟨val, hval⟩ : ∃ x, x = (zs.getD i (0, 0, 0)).2.1 := ⟨_, rfl⟩
      obtain ⟨far, hfar⟩ : ∃ x, x = (zs.getD i (0, 0, 0)).2.2 := ⟨_, rfl⟩
      obtain ⟨z1, z2, z3, z4, z5⟩ := hcz i hlt
      rw [← hwhat] at z1
      rw [← hval] at z2
      rw [← hfar] at z3 z4 z5
      have y1 := (B.out.below.cell (p := ⟨b, off + i * 3, none⟩) hbw).trans z1
      have y2 := (B.out.below.cell (p := ⟨b, off + i * 3 + 1, none⟩) hbw).trans z2
      have y3 := (B.out.below.cell (p := ⟨b, off + i * 3 + 2, none⟩) hbw).trans z3
      have HZ := Lib.hid (And.intro z1 (And.intro z2 z3))
      have HF := Lib.hid (And.intro z4 z5)
      have HBW := Lib.hid hbw
      obtain ⟨l0, l1, l2, f0, f1, f2⟩ := three K.out
      have hlq := blk_lt K.out
      have hsz := B.out.below.size
      have hbr : b < wr.heap.size := by omega
      have HAct : Hid (∀ W, Below wr.heap.size wr W → Calls Try.prog 17 #[.pointer (some ⟨pi, 0, none⟩), ragg ao n cap F m, .agg #[.int .i64 what, .int .i64 val, .int .u64 far]] W (Acted W w.heap.size w.heap.size pi sv m ao n)) :=
        Lib.hid (fun W hW => by
          have hB := B.out.bel hW
          have := hB.below.size
          exact act_any w.heap.size w.heap.size pi F m what val far sv L ao n cap W hB.ring hB.rl hB.ap this this z4 z5)
      unfold ragg at HAct
      have hW1 : Below wr.heap.size wr wr.drew := (Below.refl _ wr).drew
      have hW2 : Below wr.heap.size wr (wr.drew.alloc (.cells #[.slice none 0 0, .int .u64 0, .int .i64 0] 40)) := hW1.alloc (Nat.le_refl _) _
      clear hcz z1 z2 z3 z4 z5 hwhat hval hfar
      have far3 : ∀ (W : World) (i j : Nat) (v : Value), (W.setCell ⟨wr.heap.size, i, none⟩ v).cell? ⟨q, j, none⟩ = W.cell? ⟨q, j, none⟩ := fun W i j v => World.cell?_setCell_far _ _ _ _ (by show wr.heap.size ≠ q; omega)
      have far4 : ∀ (W : World) (i j : Nat) (v : Value), (W.setCell ⟨wr.heap.size, i, none⟩ v).cell? ⟨b, j, none⟩ = W.cell? ⟨b, j, none⟩ := fun W i j v => World.cell?_setCell_far _ _ _ _ (by show wr.heap.size ≠ b; omega)
      have FAR := Lib.hid (And.intro far3 far4)
      clear far3 far4
      go_upto_region 12 with fail
      go_cut [12, 13, 14] (fun v12 v13 v14 wx => ∃ p' sv' F' L' ao' n' cap' r, v12 = .pointer (some ⟨p', 0, none⟩) ∧ v13 = .pointer (some ⟨r, 0, none⟩) ∧ v14 = .bool true ∧ Both w p' sv' F' m L' ao' n' cap' wx ∧ Off p' sv' ao' n' q ∧ Off p' sv' ao' n' r ∧ q ≠ r ∧ w.heap.size ≤ r ∧
        wx.heap[q]? = some (.cells #[.slice ao n cap, .int .u64 F, .int .i64 m] 40 (0, 0)) ∧ wx.heap[r]? = some (.cells #[.slice ao' n' cap', .int .u64 F', .int .i64 m] 40 (0, 0)))
      case first =>
        go_region_held3 (fun W => W.cell? ⟨q, 0, none⟩ = some (.slice ao n cap) ∧ W.cell? ⟨q, 1, none⟩ = some (.int .u64 F) ∧ W.cell? ⟨q, 2, none⟩ = some (.int .i64 m) ∧ W.cell? ⟨b, off + i * 3, none⟩ = some (.int .i64 what) ∧ W.cell? ⟨b, off + i * 3 + 1, none⟩ = some (.int .i64 val) ∧ W.cell? ⟨b, off + i * 3 + 2, none⟩ = some (.int .u64 far)) (first | assumption | (simp only [FAR.out.1, FAR.out.2]; assumption) | go_keep)
          (first
            | (go_at_call 17; refine (HAct.out _ hW1).mono ?_; rintro e w5 hact; obtain ⟨p', sv', F', L', ao', n', cap', rfl, hb5, hm5, ho5⟩ := (B.out.bel hW1).act hact; unfold ragg; have hk5 := (hm5.block q hlq O.out.1).trans K.out; obtain ⟨l0, l1, l2, f0, f1, f2⟩ := three hk5; have y1 := (hb5.below.cell (p := ⟨b, off + i * 3, none⟩) HBW.out).trans HZ.out.1; have y2 := (hb5.below.cell (p := ⟨b, off + i * 3 + 1, none⟩) HBW.out).trans HZ.out.2.1; have y3 := (hb5.below.cell (p := ⟨b, off + i * 3 + 2, none⟩) HBW.out).trans HZ.out.2.2; have hS5 := And.intro l0 (And.intro l1 (And.intro l2 (And.intro y1 (And.intro y2 y3)))); have HB5 := Lib.hid hb5; have HO5 := Lib.hid (ho5 q hlq O.out); have HK5 := Lib.hid hk5; have hl5 : wr.heap.size ≤ w5.heap.size := hm5.size; clear hb5 hm5 ho5 hk5 hact)
            | (go_at_call 17; refine (HAct.out _ hW2).mono ?_; rintro e w5 hact; obtain ⟨p', sv', F', L', ao', n', cap', rfl, hb5, hm5, ho5⟩ := (B.out.bel hW2).act hact; unfold ragg; have hk5 := (hm5.block q (by simp; omega) O.out.1).trans (alloc_blk (w := wr.drew) K.out _); obtain ⟨l0, l1, l2, f0, f1, f2⟩ := three hk5; have y1 := (hb5.below.cell (p := ⟨b, off + i * 3, none⟩) HBW.out).trans HZ.out.1; have y2 := (hb5.below.cell (p := ⟨b, off + i * 3 + 1, none⟩) HBW.out).trans HZ.out.2.1; have y3 := (hb5.below.cell (p := ⟨b, off + i * 3 + 2, none⟩) HBW.out).trans HZ.out.2.2; have hS5 := And.intro l0 (And.intro l1 (And.intro l2 (And.intro y1 (And.intro y2 y3)))); have HB5 := Lib.hid hb5; have HO5 := Lib.hid (ho5 q (by simp; omega) O.out); have HK5 := Lib.hid hk5; have hr5 := (hm5.block wr.heap.size (by simp) (B.out.off (Nat.le_refl _)).1).trans (alloc_blk_new wr.drew _); have HOr := Lib.hid (ho5 wr.heap.size (by simp) (B.out.off (Nat.le_refl _))); have HR5 := Lib.hid hr5; obtain ⟨g0, g1, g2, j0, j1, j2⟩ := three hr5; have hl5 : wr.heap.size < w5.heap.size := blk_lt hr5; clear hb5 hm5 ho5 hk5 hact hr5))
        all_goals
          go_wp2
          go_meet
          first
            | exact ⟨p', sv', F', L', ao', n', cap', w5.heap.size, rfl, rfl, rfl, HB5.out.bel ((Below.refl _ _).alloc (Nat.le_refl _) _), HO5.out, HB5.out.off (Nat.le_refl _), by omega, by have := HB5.out.below.size; omega, alloc_blk HK5.out _, alloc_blk_new _ _⟩
            | (obtain ⟨s1, s2⟩ := set3 HR5.out (.slice ao' n' cap') (.int .u64 F') (.int .i64 m); exact ⟨p', sv', F', L', ao', n', cap', wr.heap.size, rfl, rfl, rfl, HB5.out.other s2 (fun k h => h) HOr.out (by omega), HO5.out, HOr.out, by omega, by omega, (s2.block q (by omega) (by show ¬ q = wr.heap.size; omega)).trans HK5.out, s1⟩)
      case rest =>
        obtain ⟨p', sv', F', L', ao', n', cap', r, rfl, rfl, rfl, hB2, hO2, hO2r, hqr, hrw, hKq, hKr⟩ := hcut
        have B2 := Lib.hid hB2
        have O2 := Lib.hid hO2
        have KQ := Lib.hid hKq
        clear l0 l1 l2 f0 f1 f2 y1 y2 y3 HAct hW1 hW2 FAR
        obtain ⟨l0, l1, l2, f0, f1, f2⟩ := three hKq
        obtain ⟨g0, g1, g2, _⟩ := three hKr
        have hlq2 := blk_lt hKq
        have hlr2 := blk_lt hKr
        clear hB2 hO2 hO2r hKq hKr
        go_upto_region 13 with fail
        go_cut [7] (fun v7 wx => v7 = .pointer (some ⟨p', 0, none⟩) ∧ Both w p' sv' F' m L' ao' n' cap' wx ∧ wx.heap[q]? = some (.cells #[.slice ao' n' cap', .int .u64 F', .int .i64 m] 40 (0, 0)))
        case first =>
          go_region
          all_goals
            go_wp2
            go_meet
            obtain ⟨s1, s2⟩ := set3 KQ.out (.slice ao' n' cap') (.int .u64 F') (.int .i64 m)
            exact ⟨rfl, B2.out.other s2.drew (fun k h => h) O2.out hqw, s1⟩
        case rest =>
          obtain ⟨rfl, hB3, hK3⟩ := hcut
          have B3 := Lib.hid hB3
          have K3 := Lib.hid hK3
          clear B2 KQ l0 l1 l2 f0 f1 f2 g0 g1 g2 hlq2 hlr2 hqr
          obtain ⟨l0, l1, l2, f0, f1, f2⟩ := three hK3
          have y3 := (hB3.below.cell (p := ⟨b, off + i * 3 + 2, none⟩) HBW.out).trans HZ.out.2.2
          have hfb := HF.out
          have hFb := hB3.ring.b
          have hF0 := hFb.1
          have hF1 : F' ≤ 18446744073709551615 := by omega
          obtain ⟨hf0, hf1⟩ := hfb
          clear hB3 hK3 hFb
          obtain ⟨wf, rfl⟩ : ∃ W : World, W = wc := ⟨_, rfl⟩
          go_upto_region 15 with fail
          go_cut [77] from 67 to 77 (fun v77 wx => ∃ bq : Bool, v77 = .bool bq ∧ (bq = true → far < 60 ∧ F' < 9223372036854775808) ∧ wx = wf)
          case first =>
            by_cases c1 : far < 60
            · have d1 : decide (far < 60) = true := by simpa using c1
              by_cases c2 : F' < 9223372036854775808
              · have d2 : decide (F' < 9223372036854775808) = true := by simpa using c2
                go_wp2
                go_meet
                exact ⟨true, rfl, fun _ => ⟨c1, c2⟩, rfl⟩
              · have d2 : decide (F' < 9223372036854775808) = false := by simpa using c2
                go_wp2
                go_meet
                exact ⟨false, rfl, (fun h => by cases h), rfl⟩
            · have d1 : decide (far < 60) = false := by simpa using c1
              go_wp2
              go_meet
              exact ⟨false, rfl, (fun h => by cases h), rfl⟩
          case rest =>
            obtain ⟨bq, rfl, hbq, hwc⟩ := hcut
            obtain rfl : wf = wc := hwc.symm
            have HBQ := Lib.hid hbq
            clear hbq
            go_upto_if 77 with fail
            go_cut [15] (fun v15 wx => ∃ at' : Int, v15 = .int .u64 at' ∧ 0 ≤ at' ∧ at' ≤ 18446744073709551615 ∧ ∃ t, wx = wf.drewN t)
            case first =>
              cases bq with
              | false =>
                go_wp2
                go_meet
                exact ⟨F', rfl, hF0, hF1, 0, rfl⟩
              | true =>
                obtain ⟨c1, c2⟩ := HBQ.out rfl
                have g1 : F' + far ≤ 18446744073709551615 := by omega
                go_wp2
                go_quiet (fail)
                go_wp2
                go_meet
                exact ⟨F' + far, rfl, by omega, g1, nq, rfl⟩
            case rest =>
              obtain ⟨at', rfl, ha0, ha1, tq, hwq⟩ := hcut
              have B4 : Hid (Both w p' sv' F' m L' ao' n' cap' wc) := Lib.hid (by rw [hwq]; exact B3.out.drewN tq)
              have K4 : Hid (wc.heap[q]? = some (.cells #[.slice ao' n' cap', .int .u64 F', .int .i64 m] 40 (0, 0))) := Lib.hid (by rw [hwq]; exact K3.out)
              clear hwq B3 K3 l0 l1 l2 f0 f1 f2 y3
              obtain ⟨l0, l1, l2, f0, f1, f2⟩ := three K4.out
              have HIs : Hid (∀ many, Calls Try.prog 18 #[.pointer (some ⟨p', 0, none⟩), ragg ao' n' cap' F' m, .int .u64 at', .int .i64 many] wc (Yes wc)) := Lib.hid (fun many => is_ring w.heap.size p' w.heap.size F' m at' many sv' L' ao' n' cap' wc B4.out.ring B4.out.rl ha0 ha1)
              unfold ragg at HIs
              go_wp2_with (go_at_call 18; refine (HIs.out _).mono ?_; rintro e w6 ⟨rfl, hb6⟩)
              go_roundg (k - (i + 1))
              case measure => have := HG.out; omega
              case rel => exact ⟨i + 1, p', sv', F', L', ao', n', cap', rfl, by go_num, by omega, rfl, B4.out.bel hb6, O2.out, (hb6.block q (blk_lt K4.out)).trans K4.out⟩
    · obtain rfl : k = i := by omega
      obtain ⟨l0, l1, l2, f0, f1, f2⟩ := three K.out
      have HIs : Hid (∀ many, Calls Try.prog 18 #[.pointer (some ⟨pi, 0, none⟩), ragg ao n cap F m, .int .u64 0, .int .i64 many] wr (Yes wr)) := Lib.hid (fun many => is_ring w.heap.size pi w.heap.size F m 0 many sv L ao n cap wr B.out.ring B.out.rl (by omega) (by omega))
      unfold ragg at HIs
      go_wp2_with (first | (go_at_call 18; refine (HIs.out _).mono ?_; rintro e w6 ⟨rfl, hb6⟩; have B6 := Lib.hid hb6; clear hb6) | (go_at_call 7; refine (HW.out _).mono ?_; rintro e w7 ⟨rfl, hb7⟩; have B7 := Lib.hid hb7; clear hb7))
      go_ret
      have b6 := B.out.below.trans (B6.out.mono B.out.below.size)
      exact ⟨rfl, b6.trans (B7.out.mono b6.size)⟩
end Go.Proofs.Ythiajgkifoimcaa
