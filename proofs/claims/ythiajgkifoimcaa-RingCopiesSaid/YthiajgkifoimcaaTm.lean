/-
  RingCopies, walked.
-/
import Derived.Test.YthiajgkifoimcaaTl
import Derived.Test.YthiajgkifoimcaaTj
namespace Go.Proofs.Ythiajgkifoimcaa
open Go.RowKit
set_option linter.unusedVariables false
set_option linter.unusedSimpArgs false

theorem eqR_symm (F m : Int) (L : List Int) (F' m' : Int) (L' : List Int) : eqR F m L F' m' L' = eqR F' m' L' F m L := by
  unfold eqR
  congr 1
  apply propext
  constructor
  · rintro ⟨a, b, c⟩
    exact ⟨a.symm, b.symm, c.symm⟩
  · rintro ⟨a, b, c⟩
    exact ⟨a.symm, b.symm, c.symm⟩

section
variable {w0 W W' : World} {p q : Nat} {sv : Value} {F m : Int} {L : List Int} {ao : Option Addr} {n cap : Nat}
theorem Both.mod {S : Nat → Prop} (h : Both w0 p sv F m L ao n cap W) (hm : Mod S W W') (h1 : ∀ k, FP p sv k → ¬ S k) (h2 : ∀ b off, 0 < n → ao = some ⟨b, off, none⟩ → ¬ S b) (h3 : ∀ k, k < w0.heap.size → ¬ S k) : Both w0 p sv F m L ao n cap W' :=
  ⟨h.ring.mod hm h1, h.rl.mod hm h2, h.ap,
    ⟨hm.os.trans h.below.os, hm.tape.trans h.below.tape, hm.output.trans h.below.output, Nat.le_trans h.below.size hm.size, fun k hk => (hm.block k (by have := h.below.size; omega) (h3 k hk)).trans (h.below.block k hk)⟩⟩
/-- An act, and what it leaves to another ring over the same list. -/
theorem Both.act2 {e : Ending} {pc : Nat} {svc : Value} (h : Both w0 p sv F m L ao n cap W) (hc : Both w0 pc svc F m L ao n cap W) (hd : ∀ k, FP p sv k → ¬ FP pc svc k) (ha : Acted W w0.heap.size w0.heap.size p sv m ao n e W') :
    ∃ p' sv' F' L' ao' n' cap', e = .returned (.tuple #[.pointer (some ⟨p', 0, none⟩), ragg ao' n' cap' F' m, .bool true]) ∧ Both w0 p' sv' F' m L' ao' n' cap' W' ∧ Mod (FP p sv) W W' ∧
      (∀ q, q < W.heap.size → Off p sv ao n q → Off p' sv' ao' n' q) ∧ Both w0 pc svc F m L ao n cap W' ∧ (∀ k, FP p' sv' k → ¬ FP pc svc k) ∧ (∀ b off, 0 < n' → ao' = some ⟨b, off, none⟩ → ¬ FP pc svc b) := by
  obtain ⟨p', sv', F', L', ao', n', cap', he, hr, hl, hm, hfp, hfr, hap⟩ := ha
  have hbs := h.below.size
  have hlo : ∀ k, k < w0.heap.size → ¬ FP p sv k := fun k hk e => by have := (h.ring.fplt e).1; omega
  refine ⟨p', sv', F', L', ao', n', cap', he, ⟨hr, hl, hap, ⟨hm.os.trans h.below.os, hm.tape.trans h.below.tape, hm.output.trans h.below.output, Nat.le_trans h.below.size hm.size, fun k hk => (hm.block k (by omega) (hlo k hk)).trans (h.below.block k hk)⟩⟩, hm, fun q hq ho => ⟨fun hk => ?_, fun off hp e => ?_⟩,
    hc.mod hm (fun k hk e => hd k e hk) (fun b off hp e hk => h.ap b off hp e hk) hlo, fun k hk hk2 => ?_, fun b off hp e hk2 => ?_⟩
  · rcases hfp q hk with h' | h'
    · exact ho.1 h'
    · omega
  · rcases hfr q off hp e with ⟨h0, off0, e0⟩ | h1
    · exact ho.2 off0 h0 e0
    · omega
  · rcases hfp k hk with h' | h'
    · exact hd k h' hk2
    · have := (hc.ring.fplt hk2).2; omega
  · rcases hfr b off hp e with ⟨h0, off0, e0⟩ | h1
    · exact hc.ap b off0 h0 e0 hk2
    · have := (hc.ring.fplt hk2).2; omega
end

set_option maxHeartbeats 1600000 in
set_option maxRecDepth 100000 in
theorem copies_out (m x : Int) (ao : Option Addr) (n cap : Nat) (c0 c1 c2 c3 c4 c5 : Int) (w : World) (h : 30 < n ∨ (n ≤ 30 ∧ (m < 1 ∨ 4096 < m))) (hn : n ≤ maxLen) :
    Calls Try.prog 5 #[.int .i64 m, .int .u64 x, .slice ao n cap, .agg #[.int .i64 c0, .int .i64 c1, .int .u64 c2, .int .i64 c3, .int .i64 c4, .int .u64 c5]] w (Yes w) := by
  unfold maxLen at hn
  have HW := Lib.hid works_true
  have hb0 := (Below.refl _ w).alloc (Nat.le_refl _) (.cells #[.int .i64 c0, .int .i64 c1, .int .u64 c2, .int .i64 c3, .int .i64 c4, .int .u64 c5] 49)
  have HB0 := Lib.hid hb0
  rcases h with h | ⟨h, h2⟩
  · have hd1 : decide (30 < n) = true := by simpa using h
    clear hb0
    go_enter Try.func5, Try.ntmps5
    go_wp2_with (go_at_call 7; refine (HW.out _).mono ?_; rintro e w' ⟨rfl, hb⟩)
    go_ret
    exact ⟨rfl, HB0.out.trans (hb.mono HB0.out.size)⟩
  · have hd1 : decide (30 < n) = false := by simp; omega
    have HN := Lib.hid (fun W => new_bad m x W h2)
    have HQ := Lib.hid (fun W => refNew_bad m x W h2)
    have HNum := Lib.hid num_any
    unfold ragg at HQ
    clear h2 hb0
    go_enter Try.func5, Try.ntmps5
    go_wp2_with (first | (go_at_call 8; refine (HN.out _).mono ?_; rintro e w' ⟨rfl, rfl⟩) | (go_at_call 16; refine (HQ.out _).mono ?_; rintro e w1 ⟨rfl, hb1⟩; have HB1 := Lib.hid hb1; clear hb1) | (go_at_call 9; refine (HNum.out _ _).mono ?_; rintro e w' ⟨rfl, rfl⟩) | (go_at_call 7; refine (HW.out _).mono ?_; rintro e w' ⟨rfl, hb⟩))
    go_ret
    have hb1 := HB0.out.trans (HB1.out.mono HB0.out.size)
    have hb2 := hb1.alloc hb1.size (.cells #[.slice none 0 0, .int .u64 0, .int .i64 0] 40)
    exact ⟨rfl, hb2.trans (hb.mono hb2.size)⟩

theorem six {w : World} {b : Nat} {a0 a1 a2 a3 a4 a5 : Value} {t : TypeId} (h : w.heap[b]? = some (.cells #[a0, a1, a2, a3, a4, a5] t (0, 0))) :
    w.cell? ⟨b, 0, none⟩ = some a0 ∧ w.cell? ⟨b, 1, none⟩ = some a1 ∧ w.cell? ⟨b, 2, none⟩ = some a2 ∧ w.cell? ⟨b, 3, none⟩ = some a3 ∧ w.cell? ⟨b, 4, none⟩ = some a4 ∧ w.cell? ⟨b, 5, none⟩ = some a5 :=
  ⟨cell_blk h 0 _ rfl, cell_blk h 1 _ rfl, cell_blk h 2 _ rfl, cell_blk h 3 _ rfl, cell_blk h 4 _ rfl, cell_blk h 5 _ rfl⟩

set_option maxHeartbeats 6400000 in
set_option maxRecDepth 100000 in
theorem copies_in (m x : Int) (bo : Option Addr) (k bcap : Nat) (zs : List (Int × Int × Int)) (c0 c1 c2 c3 c4 c5 : Int) (w : World) (hk : k ≤ 30) (h1 : 1 ≤ m) (h2 : m ≤ 4096) (hx0 : 0 ≤ x) (hx1 : x ≤ 18446744073709551615) (ha : Acts w bo k zs) (k2 : 0 ≤ c2 ∧ c2 ≤ 18446744073709551615) (k5 : 0 ≤ c5 ∧ c5 ≤ 18446744073709551615) :
    Calls Try.prog 5 #[.int .i64 m, .int .u64 x, .slice bo k bcap, .agg #[.int .i64 c0, .int .i64 c1, .int .u64 c2, .int .i64 c3, .int .i64 c4, .int .u64 c5]] w (Yes w) := by
  have HW := Lib.hid works_true
  have HNum := Lib.hid num_any
  have hb0 := (Below.refl _ w).alloc (Nat.le_refl _) (.cells #[.int .i64 c0, .int .i64 c1, .int .u64 c2, .int .i64 c3, .int .i64 c4, .int .u64 c5] 49)
  have hkt := alloc_blk_new w (.cells #[.int .i64 c0, .int .i64 c1, .int .u64 c2, .int .i64 c3, .int .i64 c4, .int .u64 c5] 49)
  obtain ⟨w0, hw0⟩ : ∃ W, W = w.alloc (.cells #[.int .i64 c0, .int .i64 c1, .int .u64 c2, .int .i64 c3, .int .i64 c4, .int .u64 c5] 49) := ⟨_, rfl⟩
  have hs0 : w0.heap.size = w.heap.size + 1 := by rw [hw0]; simp
  rw [← hw0] at hb0 hkt
  have HB0 := Lib.hid hb0
  have HW0 := Lib.hid hw0
  have HS0 := Lib.hid hs0
  have KT0 := Lib.hid hkt
  have HA : Hid (Acts w0 bo k zs) := Lib.hid ⟨ha.1, fun hp => by
    obtain ⟨b, off, e, hb, hc⟩ := ha.2 hp
    refine ⟨b, off, e, by omega, fun j hj => ?_⟩
    obtain ⟨z1, z2, z3, z4⟩ := hc j hj
    exact ⟨(hb0.cell (p := ⟨b, off + j * 3, none⟩) hb).trans z1, (hb0.cell (p := ⟨b, off + j * 3 + 1, none⟩) hb).trans z2, (hb0.cell (p := ⟨b, off + j * 3 + 2, none⟩) hb).trans z3, z4⟩⟩
  have HN := Lib.hid (New_ring w0.heap.size m x w0 (Nat.le_refl _) h1 h2 hx0 hx1)
  have HQ := Lib.hid (fun W => refNew_ok m x W h1 h2)
  have hd1 : decide (30 < k) = false := by simp; omega
  have K2 := Lib.hid k2
  have K5_ := Lib.hid k5
  unfold ragg at HQ
  clear ha hb0 hkt hw0 hs0 k2 k5
  go_enter Try.func5, Try.ntmps5
  go_wp2_with fail
  rw [← HW0.out]
  refine HN.out.mono ?_
  rintro e w1 ⟨rfl, hr, hb⟩
  have B1 := Lib.hid (show Both w0 w0.heap.size (.slice none 0 0) x m [] none 0 0 w1 from ⟨hr, RL.nil _ _, fun b off hp => by omega, hb⟩)
  obtain ⟨p, hp⟩ : ∃ p, p = w0.heap.size := ⟨_, rfl⟩
  have HP := Lib.hid hp
  rw [← HP.out]
  have hpw : w0.heap.size ≤ p := by omega
  have B1 : Hid (Both w0 p (.slice none 0 0) x m [] none 0 0 w1) := Lib.hid (by rw [hp]; exact B1.out)
  clear hr hb HN hp
  go_wp2_with (go_at_call 16; fail)
  refine (HQ.out w1).mono ?_
  rintro e w2 ⟨rfl, hb⟩
  have B2 := Lib.hid (B1.out.bel hb)
  clear hb HQ B1
  have hbA := (Below.refl _ w2).alloc (Nat.le_refl _) (.cells #[.slice none 0 0, .int .u64 x, .int .i64 m] 40)
  have B3 := Lib.hid (B2.out.bel hbA)
  have K3 := Lib.hid (alloc_blk_new w2 (.cells #[.slice none 0 0, .int .u64 x, .int .i64 m] 40))
  obtain ⟨q, hq⟩ : ∃ q, q = w2.heap.size := ⟨_, rfl⟩
  have HQq := Lib.hid hq
  have hqw : w0.heap.size ≤ q := by have := B2.out.below.size; omega
  have O3 := Lib.hid (B2.out.off (q := q) (by omega))
  clear hbA hq B2
  go_wp2_with fail
  rw [← HQq.out] at K3 ⊢
  go_loopg [9, 13] k (fun gk v7 v11 wr => ∃ i : Nat, ∃ pi sv F L ao n cap, v7 = .pointer (some ⟨pi, 0, none⟩) ∧ v11 = .int .i64 i ∧ i ≤ k ∧ gk = k - i ∧ Both w0 pi sv F m L ao n cap wr ∧ Off pi sv ao n q ∧ wr.heap[q]? = some (.cells #[.slice ao n cap, .int .u64 F, .int .i64 m] 40 (0, 0)))
  case atStart => exact ⟨0, p, _, x, [], none, 0, 0, rfl, rfl, by omega, rfl, B3.out, O3.out, K3.out⟩
  case round =>
    obtain ⟨i, pi, sv, F, L, ao, n, cap, rfl, rfl, hin, hgk, hB, hO, hK⟩ := hrel
    have HG := Lib.hid hgk
    have B := Lib.hid hB
    have O := Lib.hid hO
    have K := Lib.hid hK
    clear hgk hB hO hK B3 K3 O3
    by_cases hlt : i < k
    · obtain ⟨b, off, rfl, hbw, hcz⟩ := HA.out.2 (by omega)
      obtain ⟨what, hwhat⟩ : ∃ x, x = (zs.getD i (0, 0, 0)).1 := ⟨_, rfl⟩
      obtain ⟨val, hval⟩ : ∃ x, x = (zs.getD i (0, 0, 0)).2.1 := ⟨_, rfl⟩
      obtain ⟨far, hfar⟩ : ∃ x, x = (zs.getD i (0, 0, 0)).2.2 := ⟨_, rfl⟩
      obtain ⟨z1, z2, z3, z4, z5⟩ := hcz i hlt
      rw [← hwhat] at z1
      rw [← hval] at z2
      rw [← hfar] at z3 z4 z5
      have y1 := (B.out.below.cell (p := ⟨b, off + i * 3, none⟩) hbw).trans z1
      have y2 := (B.out.below.cell (p := ⟨b, off + i * 3 + 1, none⟩) hbw).trans z2
      have y3 := (B.out.below.cell (p := ⟨b, off + i * 3 + 2, none⟩) hbw).trans z3
      obtain ⟨l0, l1, l2, f0, f1, f2⟩ := three K.out
      have hlq := blk_lt K.out
      have hsz := B.out.below.size
      have hbr : b < wr.heap.size := by omega
      have hW1 : Below wr.heap.size wr wr.drew := (Below.refl _ wr).drew
      have BD := Lib.hid (B.out.bel hW1)
      have HAct := Lib.hid (act_any w0.heap.size w0.heap.size pi F m what val far sv L ao n cap wr.drew BD.out.ring BD.out.rl BD.out.ap hsz hsz z4 z5)
      unfold ragg at HAct
      clear hcz z1 z2 z3 z4 z5 hwhat hval hfar
      go_upto_region 10 with fail
      go_region_with (go_at_call 17; refine HAct.out.mono ?_; rintro e w5 hact; obtain ⟨p', sv', F', L', ao', n', cap', rfl, hb5, hm5, ho5⟩ := BD.out.act hact; unfold ragg; have hk5 := (hm5.block q hlq O.out.1).trans K.out; obtain ⟨m0, m1, m2, n0, n1, n2⟩ := three hk5; have HB5 := Lib.hid hb5; have HO5 := Lib.hid (ho5 q hlq O.out); have HK5 := Lib.hid hk5; have hl5 : wr.heap.size ≤ w5.heap.size := hm5.size; clear hb5 hm5 ho5 hk5 hact)
      all_goals
        go_wp2_with fail
        obtain ⟨s1, s2⟩ := set3 HK5.out (.slice ao' n' cap') (.int .u64 F') (.int .i64 m)
        go_roundg (k - (i + 1))
        case measure => have := HG.out; omega
        case rel => exact ⟨i + 1, p', sv', F', L', ao', n', cap', rfl, by go_num, by omega, rfl, HB5.out.other s2 (fun k h => h) HO5.out hqw, HO5.out, s1⟩
    · obtain rfl : k = i := by omega
      have KT := Lib.hid ((B.out.below.block w.heap.size (by have := HS0.out; omega)).trans KT0.out)
      have hwq : w.heap.size < w0.heap.size := by have := HS0.out; omega
      have HCp := Lib.hid (Copy_ring w0.heap.size pi F m sv L wr B.out.ring)
      go_wp2_with (go_at_call 19; fail)
      refine HCp.out.mono ?_
      rintro e w5 ⟨svc, rfl, hrc, hb5⟩
      obtain ⟨pc, hpc⟩ : ∃ p, p = wr.heap.size := ⟨_, rfl⟩
      rw [← hpc] at hrc ⊢
      have hlo5 := B.out.below.size
      have hRLb : ∀ b off, 0 < n → ao = some ⟨b, off, none⟩ → b < wr.heap.size := fun b off hp e => by
        obtain ⟨b', off', e', _, hb, _⟩ := B.out.rl.at_ hp
        rw [e] at e'; cases e'; exact hb
      have hfpc : ∀ j, FP pc svc j → wr.heap.size ≤ j := fun j hj => by have := (hrc.fplt hj).1; omega
      have B5 := Lib.hid (B.out.bel hb5)
      have C5 : Hid (Both w0 pc svc F m L ao n cap w5) := Lib.hid ⟨hrc.mono (by omega), B.out.rl.below hb5, fun b off hp e hk => by have := hfpc b hk; have := hRLb b off hp e; omega, B.out.below.trans (hb5.mono hlo5)⟩
      have D5 : Hid (∀ j, FP pi sv j → ¬ FP pc svc j) := Lib.hid (fun j h1 h2 => by have := hfpc j h2; have := (B.out.ring.fplt h1).2; omega)
      have hlq := blk_lt K.out
      have K5 := Lib.hid ((hb5.block q hlq).trans K.out)
      have OC5 : Hid (Off pc svc ao n q) := Lib.hid ⟨fun hk => by have := hfpc q hk; omega, O.out.2⟩
      have T5 := Lib.hid ((hb5.block w.heap.size (by omega)).trans KT.out)
      have hs5 := hb5.size
      obtain ⟨l0, l1, l2, _⟩ := three K5.out
      obtain ⟨t0, t1, t2, t3, t4, t5⟩ := six T5.out
      have HAct1 := Lib.hid (act_any w0.heap.size w0.heap.size pi F m c0 c1 c2 sv L ao n cap w5 B5.out.ring B5.out.rl B5.out.ap (by omega) (by omega) K2.out.1 K2.out.2)
      unfold ragg at HAct1
      have hwl5 : w.heap.size < w5.heap.size := by omega
      have hlq5 : q < w5.heap.size := by omega
      clear hpc hrc hb5 hRLb hfpc HCp B K KT
      go_wp2_with (go_at_call 17; fail)
      refine HAct1.out.mono ?_
      rintro e w6 hact
      obtain ⟨p1, sv1, F1, L1, ao1, n1, cap1, rfl, hB6, hm6, ho6, hC6, hD6, hx6⟩ := B5.out.act2 C5.out D5.out hact
      unfold ragg
      obtain ⟨q1, hq1⟩ : ∃ q, q = w6.heap.size := ⟨_, rfl⟩
      have hbA := (Below.refl _ w6).alloc (Nat.le_refl _) (.cells #[.slice ao1 n1 cap1, .int .u64 F1, .int .i64 m] 40)
      have kA := alloc_blk_new w6 (.cells #[.slice ao1 n1 cap1, .int .u64 F1, .int .i64 m] 40)
      obtain ⟨w7, hw7⟩ : ∃ W, W = w6.alloc (.cells #[.slice ao1 n1 cap1, .int .u64 F1, .int .i64 m] 40) := ⟨_, rfl⟩
      rw [← hw7] at hbA kA
      rw [← hq1] at kA
      have HW7 := Lib.hid hw7
      have HQ1 := Lib.hid hq1
      have hlw := B5.out.below.size
      have hno : ¬ FP pi sv w.heap.size := fun h => by have := (B5.out.ring.fplt h).1; omega
      have B7 := Lib.hid (hB6.bel hbA)
      have C7 := Lib.hid (hC6.bel hbA)
      have Q7 := Lib.hid kA
      have hs6 : w5.heap.size ≤ w6.heap.size := hm6.size
      have K7 := Lib.hid ((hbA.block q (by omega)).trans ((hm6.block q hlq5 O.out.1).trans K5.out))
      have T7 := Lib.hid ((hbA.block w.heap.size (by omega)).trans ((hm6.block w.heap.size hwl5 hno).trans T5.out))
      have D7 := Lib.hid hD6
      have X7 := Lib.hid hx6
      have NQ7 : Hid (¬ FP pc svc q1) := Lib.hid (fun h => by have := (hC6.ring.fplt h).2; omega)
      have hs7 := hbA.size
      have hlq1 : q1 < w7.heap.size := blk_lt kA
      clear hact hB6 hm6 ho6 hC6 hD6 hx6 hbA kA hw7 hq1 hno HAct1 B5 C5 D5 K5 T5 l0 l1 l2 t0 t1 t2 t3 t4 t5
      obtain ⟨l0, l1, l2, _⟩ := three K7.out
      obtain ⟨t0, t1, t2, t3, t4, t5⟩ := six T7.out
      have hwl7 : w.heap.size < w7.heap.size := by omega
      have hlq7 : q < w7.heap.size := by omega
      have HAct2 := Lib.hid (act_any w0.heap.size w0.heap.size pc F m c3 c4 c5 svc L ao n cap w7 C7.out.ring C7.out.rl C7.out.ap (by omega) (by omega) K5_.out.1 K5_.out.2)
      unfold ragg at HAct2
      go_upto_region 13 with fail
      rw [← HQ1.out, ← HW7.out]
      go_wp2_with (go_at_call 17; fail)
      refine HAct2.out.mono ?_
      rintro e w8 hact
      obtain ⟨p2, sv2, F2, L2, ao2, n2, cap2, rfl, hC8, hm8, ho8⟩ := C7.out.act hact
      unfold ragg
      have hB8 : Both w0 p1 sv1 F1 m L1 ao1 n1 cap1 w8 := B7.out.mod hm8 (fun k hk e => D7.out k hk e) X7.out (fun k hk e => by have := (C7.out.ring.fplt e).1; omega)
      have hQ8 := (hm8.block q1 hlq1 NQ7.out).trans Q7.out
      obtain ⟨q2, hq2⟩ : ∃ q, q = w8.heap.size := ⟨_, rfl⟩
      have hbA := (Below.refl _ w8).alloc (Nat.le_refl _) (.cells #[.slice ao2 n2 cap2, .int .u64 F2, .int .i64 m] 40)
      have kA := alloc_blk_new w8 (.cells #[.slice ao2 n2 cap2, .int .u64 F2, .int .i64 m] 40)
      obtain ⟨w9, hw9⟩ : ∃ W, W = w8.alloc (.cells #[.slice ao2 n2 cap2, .int .u64 F2, .int .i64 m] 40) := ⟨_, rfl⟩
      rw [← hw9] at hbA kA
      rw [← hq2] at kA
      have HW9 := Lib.hid hw9
      have HQ2 := Lib.hid hq2
      have B9 := Lib.hid (hB8.bel hbA)
      have C9 := Lib.hid (hC8.bel hbA)
      have Q9 := Lib.hid ((hbA.block q1 (blk_lt hQ8)).trans hQ8)
      have R9 := Lib.hid kA
      clear hact hC8 hm8 ho8 hB8 hQ8 hbA kA hw9 hq2 HAct2 B7 C7 D7 X7 Q7 K7 T7 l0 l1 l2 t0 t1 t2 t3 t4 t5 hwl7 hlq7
      obtain ⟨bs, hbs⟩ : ∃ b, b = eqR F1 m L1 F2 m L2 := ⟨_, rfl⟩
      have g1 := B9.out.ring.b
      have g2 := C9.out.ring.b
      have g3 := B9.out.rl.len
      have g4 := C9.out.rl.len
      have HSm := Lib.hid (refSame w0.heap.size w0.heap.size ao1 ao2 n1 cap1 n2 cap2 F1 m F2 m L1 L2 w9 B9.out.rl C9.out.rl (by omega) (by omega))
      rw [← hbs] at HSm
      have HBS := Lib.hid hbs
      unfold ragg at HSm
      obtain ⟨x0, x1, x2, _⟩ := three Q9.out
      obtain ⟨y0, y1, y2, _⟩ := three R9.out
      have hlq1b := blk_lt Q9.out
      have hlq2b := blk_lt R9.out
      clear hbs g1 g2 g3 g4
      go_upto_region 14 with fail
      rw [← HQ2.out, ← HW9.out]
      go_wp2_with (go_at_call 20; fail)
      refine HSm.out.mono ?_
      rintro e w10 ⟨rfl, hb10⟩
      have B10 := Lib.hid (B9.out.bel hb10)
      have C10 := Lib.hid (C9.out.bel hb10)
      have Q10 := Lib.hid ((hb10.block q1 hlq1b).trans Q9.out)
      have R10 := Lib.hid ((hb10.block q2 hlq2b).trans R9.out)
      clear hb10 B9 C9 Q9 R9 HSm x0 x1 x2 y0 y1 y2
      obtain ⟨x0, x1, x2, _⟩ := three Q10.out
      have hlq1c := blk_lt Q10.out
      have HI1 := Lib.hid (is_ring w0.heap.size p1 w0.heap.size F1 m 0 9999 sv1 L1 ao1 n1 cap1 w10 B10.out.ring B10.out.rl (by omega) (by omega))
      unfold ragg at HI1
      have hbb : (bs == bs) = true := by simp
      go_wp2_with (go_at_call 18; fail)
      refine HI1.out.mono ?_
      rintro e w11 ⟨rfl, hb11⟩
      have B11 := Lib.hid (B10.out.bel hb11)
      have C11 := Lib.hid (C10.out.bel hb11)
      have R11 := Lib.hid ((hb11.block q2 (blk_lt R10.out)).trans R10.out)
      clear hb11 B10 C10 Q10 R10 HI1 x0 x1 x2
      obtain ⟨y0, y1, y2, _⟩ := three R11.out
      have hlq2c := blk_lt R11.out
      have HI2 := Lib.hid (is_ring w0.heap.size p2 w0.heap.size F2 m 0 9999 sv2 L2 ao2 n2 cap2 w11 C11.out.ring C11.out.rl (by omega) (by omega))
      unfold ragg at HI2
      go_wp2_with (go_at_call 18; fail)
      refine HI2.out.mono ?_
      rintro e w12 ⟨rfl, hb12⟩
      have B12 := Lib.hid (B11.out.bel hb12)
      have C12 := Lib.hid (C11.out.bel hb12)
      clear hb12 B11 C11 R11 HI2 y0 y1 y2
      have HS1 := Lib.hid (Same_ring w0.heap.size w0.heap.size p1 p2 F1 m F2 m sv1 sv2 L1 L2 w12 B12.out.ring C12.out.ring)
      rw [← HBS.out] at HS1
      go_wp2_with (go_at_call 21; fail)
      refine HS1.out.mono ?_
      rintro e w13 ⟨rfl, hb13⟩
      have B13 := Lib.hid (B12.out.bel hb13)
      have C13 := Lib.hid (C12.out.bel hb13)
      clear hb13 B12 C12 HS1
      have HS2 := Lib.hid (Same_ring w0.heap.size w0.heap.size p2 p1 F2 m F1 m sv2 sv1 L2 L1 w13 C13.out.ring B13.out.ring)
      rw [eqR_symm F2 m L2 F1 m L1, ← HBS.out] at HS2
      go_wp2_with (go_at_call 21; fail)
      refine HS2.out.mono ?_
      rintro e w14 ⟨rfl, hb14⟩
      have B14 := Lib.hid (B13.out.bel hb14)
      clear hb14 B13 C13 HS2
      go_wp2_with (go_at_call 7; fail)
      refine (HW.out _).mono ?_
      rintro e w15 ⟨rfl, hb15⟩
      have hB15 := Lib.hid (B14.out.below.trans (hb15.mono B14.out.below.size))
      clear hb15 B14
      go_wp2_with fail
      go_ret
      exact ⟨rfl, HB0.out.trans (hB15.out.mono HB0.out.size)⟩
end Go.Proofs.Ythiajgkifoimcaa
