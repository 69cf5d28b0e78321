/-
  A call by both: Put.
-/
import Derived.Test.YthiajgkifoimcaaTf
namespace Go.Proofs.Ythiajgkifoimcaa
open Go.RowKit
set_option linter.unusedVariables false
set_option linter.unusedSimpArgs false

/-- A list's block is another's, or new. -/
def Fr (ao : Option Addr) (n : Nat) (ao' : Option Addr) (n' lim : Nat) : Prop :=
  ∀ b off, 0 < n' → ao' = some ⟨b, off, none⟩ → (0 < n ∧ ∃ off0, ao = some ⟨b, off0, none⟩) ∨ lim ≤ b
/-- A list lies apart from a ring. -/
def Apart (p : Nat) (sv : Value) (ao : Option Addr) (n : Nat) : Prop := ∀ b off, 0 < n → ao = some ⟨b, off, none⟩ → ¬ FP p sv b

/-- A put, by both. -/
theorem put_both (F m val : Int) (L : List Int) (n : Nat) (hL : L.length = n) (hb : 0 ≤ F ∧ F + n ≤ 18446744073709551615 ∧ (n : Int) ≤ m ∧ 1 ≤ m ∧ m ≤ 4096) :
    ∃ (F' x y : Int) (b : Bool) (er : Int) (L' : List Int),
      (∀ (base p : Nat) (sv : Value) (w : World), Ring w base p F m sv L → base ≤ w.heap.size → Calls Try.prog 10 #[.pointer (some ⟨p, 0, none⟩), .int .i64 val] w fun e w' => e = .returned (.tuple #[.int .u64 x, .int .i64 y, .bool b, .int .i64 er]) ∧ ∃ sv', Ring w' base p F' m sv' L' ∧ Step p sv sv' w w') ∧
      (∀ (lo : Nat) (ao : Option Addr) (cap : Nat) (w : World), lo ≤ w.heap.size → RL w lo ao n cap L → Calls Try.prog 30 #[ragg ao n cap F m, .int .i64 val] w fun e w' => ∃ ao' n' cap', e = .returned (.tuple #[ragg ao' n' cap' F' m, .int .u64 x, .int .i64 y, .bool b, .int .i64 er]) ∧ RL w' lo ao' n' cap' L' ∧ Fr ao n ao' n' w.heap.size ∧ Below w.heap.size w w') := by
  obtain ⟨h0, h1, h2, h3, h4⟩ := hb
  by_cases hf : F + n = 18446744073709551615
  · refine ⟨F, 0, 0, false, 111, L, fun base p sv w h hbw => ?_, fun lo ao cap w hlo h => ?_⟩
    · refine (Put_ring_full base p F m val sv L w h (by rw [hL]; exact hf)).mono ?_
      rintro e w' ⟨rfl, rfl⟩
      exact ⟨rfl, sv, h, Step.refl _ _ _⟩
    · refine (refPut_full ao n cap F m val w (by omega) h0 hf).mono ?_
      rintro e w' ⟨rfl, hb⟩
      exact ⟨ao, n, cap, rfl, h.below hb, fun b off hp e => .inl ⟨hp, off, e⟩, hb⟩
  · by_cases hr : (n : Int) < m
    · refine ⟨F, F + n, 0, false, 0, L ++ [val], fun base p sv w h hbw => ?_, fun lo ao cap w hlo h => ?_⟩
      · have := Put_ring_room base p F m val sv L w h hbw (by rw [hL]; omega) (by rw [hL]; exact hr)
        rw [hL] at this
        exact this
      · refine (refPut_any lo ao n cap F m val L w h (by omega) h0 (by omega) h2 h3 h4).mono ?_
        rintro e w' ⟨ao', cap', ha, _, hb⟩
        obtain ⟨rfl, hr'⟩ := ha hr
        refine ⟨ao', n + 1, cap', rfl, hr'.mono hlo, fun b off hp e => .inr ?_, hb⟩
        obtain ⟨b', off', e', hl, _⟩ := hr'.at_ hp
        rw [e] at e'; cases e'; exact hl
    · have hm : (n : Int) = m := by omega
      obtain ⟨y, L0, rfl⟩ : ∃ y L0, L = y :: L0 := by
        cases L with
        | nil => simp at hL; omega
        | cons y L0 => exact ⟨y, L0, rfl⟩
      refine ⟨F + 1, F + n, y, true, 0, L0 ++ [val], fun base p sv w h hbw => ?_, fun lo ao cap w hlo h => ?_⟩
      · have := Put_ring_drop base p F m val y sv L0 w h hbw (by rw [hL]; omega) (by rw [hL]; exact hm)
        rw [hL] at this
        exact this
      · refine (refPut_any lo ao n cap F m val _ w h (by omega) h0 (by omega) h2 h3 h4).mono ?_
        rintro e w' ⟨ao', cap', _, ha, hb⟩
        obtain ⟨rfl, hr'⟩ := ha y L0 hm rfl
        refine ⟨ao', n, cap', rfl, hr'.mono hlo, fun b off hp e => .inr ?_, hb⟩
        obtain ⟨b', off', e', hl, _⟩ := hr'.at_ hp
        rw [e] at e'; cases e'; exact hl

/-- What an act tells. -/
def Acted (w : World) (base lo p : Nat) (sv : Value) (m : Int) (ao : Option Addr) (n : Nat) (e : Ending) (w' : World) : Prop :=
  ∃ p' sv' F' L' ao' n' cap', e = .returned (.tuple #[.pointer (some ⟨p', 0, none⟩), ragg ao' n' cap' F' m, .bool true]) ∧ Ring w' base p' F' m sv' L' ∧ RL w' lo ao' n' cap' L' ∧
    Mod (FP p sv) w w' ∧ (∀ k, FP p' sv' k → FP p sv k ∨ w.heap.size ≤ k) ∧ Fr ao n ao' n' w.heap.size ∧ Apart p' sv' ao' n'

/-- In the midst of act. -/
structure At (w : World) (p : Nat) (sv v : Value) (F m what val far : Int) (W : World) : Prop where
  b4 : W.heap[w.heap.size]? = some (.cells #[v, .int .u64 F, .int .i64 m] 40 (0, 0))
  b5 : W.heap[w.heap.size + 1]? = some (.cells #[.int .i64 what, .int .i64 val, .int .u64 far] 46 (0, 0))
  b7 : ∃ a b c, W.heap[w.heap.size + 2]? = some (.cells #[a, b, c] 40 (0, 0))
  md : Mod (FP p sv) w W
  fp : ∀ k, FP p sv k → k < w.heap.size
section
variable {w W W' : World} {p : Nat} {sv v : Value} {F m what val far : Int}
theorem At.lt (h : At w p sv v F m what val far W) : w.heap.size + 2 < W.heap.size := by
  obtain ⟨a, b, c, h⟩ := h.b7
  exact blk_lt h
theorem At.mod {S : Nat → Prop} (h : At w p sv v F m what val far W) (hm : Mod S W W') (hs : ∀ k, k < w.heap.size + 3 → S k → FP p sv k) : At w p sv v F m what val far W' := by
  have hl := h.lt
  obtain ⟨a, b, c, h7⟩ := h.b7
  have no : ∀ k, w.heap.size ≤ k → k < w.heap.size + 3 → ¬ S k := fun k h1 h2 h3 => by have := h.fp k (hs k h2 h3); omega
  exact ⟨(hm.block _ (by omega) (no _ (by omega) (by omega))).trans h.b4, (hm.block _ (by omega) (no _ (by omega) (by omega))).trans h.b5, ⟨a, b, c, (hm.block _ (by omega) (no _ (by omega) (by omega))).trans h7⟩,
    h.md.trans hm (fun k hk x => hs k (by omega) x), h.fp⟩
theorem At.bel (h : At w p sv v F m what val far W) (hb : Below W.heap.size W W') : At w p sv v F m what val far W' := h.mod (Mod.of_below hb (fun _ => False)) (fun _ _ x => x.elim)
theorem At.drewN (h : At w p sv v F m what val far W) (k : Nat) : At w p sv v F m what val far (W.drewN k) := ⟨h.b4, h.b5, h.b7, h.md.drewN k, h.fp⟩
theorem At.al (h : At w p sv v F m what val far W) (o : Obj) : At w p sv v F m what val far (W.alloc o) := h.bel ((Below.refl _ W).alloc (Nat.le_refl _) o)
theorem At.start (w : World) (p : Nat) (sv v : Value) (F m what val far : Int) (h : ∀ k, FP p sv k → k < w.heap.size) :
    At w p sv v F m what val far (((w.alloc (.cells #[v, .int .u64 F, .int .i64 m] 40)).alloc (.cells #[.int .i64 what, .int .i64 val, .int .u64 far] 46)).alloc (.cells #[.slice none 0 0, .int .u64 0, .int .i64 0] 40)) := by
  have e1 : (w.alloc (.cells #[v, .int .u64 F, .int .i64 m] 40)).heap.size = w.heap.size + 1 := by simp
  have e2 : ((w.alloc (.cells #[v, .int .u64 F, .int .i64 m] 40)).alloc (.cells #[.int .i64 what, .int .i64 val, .int .u64 far] 46)).heap.size = w.heap.size + 2 := by simp
  have hB : Below w.heap.size w (((w.alloc (.cells #[v, .int .u64 F, .int .i64 m] 40)).alloc (.cells #[.int .i64 what, .int .i64 val, .int .u64 far] 46)).alloc (.cells #[.slice none 0 0, .int .u64 0, .int .i64 0] 40)) :=
    (((Below.refl _ w).alloc (Nat.le_refl _) _).alloc (by simp) _).alloc (by simp; omega) _
  refine ⟨alloc_blk (alloc_blk (alloc_blk_new _ _) _) _, ?_, ⟨.slice none 0 0, .int .u64 0, .int .i64 0, ?_⟩, Mod.of_below hB _, h⟩
  · have := alloc_blk_new (w.alloc (.cells #[v, .int .u64 F, .int .i64 m] 40)) (.cells #[.int .i64 what, .int .i64 val, .int .u64 far] 46)
    rw [e1] at this
    exact alloc_blk this _
  · have := alloc_blk_new ((w.alloc (.cells #[v, .int .u64 F, .int .i64 m] 40)).alloc (.cells #[.int .i64 what, .int .i64 val, .int .u64 far] 46)) (.cells #[.slice none 0 0, .int .u64 0, .int .i64 0] 40)
    rw [e2] at this
    exact this
theorem At.start_below (w : World) (v : Value) (F m what val far : Int) : Below w.heap.size w (((w.alloc (.cells #[v, .int .u64 F, .int .i64 m] 40)).alloc (.cells #[.int .i64 what, .int .i64 val, .int .u64 far] 46)).alloc (.cells #[.slice none 0 0, .int .u64 0, .int .i64 0] 40)) :=
  (((Below.refl _ w).alloc (Nat.le_refl _) _).alloc (by simp) _).alloc (by simp; omega) _
/-- The three stores of the answer. -/
theorem At.put (h : At w p sv v F m what val far W) (a b c : Value) (k : Nat) :
    Mod (FP p sv) w ((((W.setCell ⟨w.heap.size + 2, 0, none⟩ a).setCell ⟨w.heap.size + 2, 1, none⟩ b).setCell ⟨w.heap.size + 2, 2, none⟩ c).drewN k) ∧
    Mod (fun q => q = w.heap.size + 2) W ((((W.setCell ⟨w.heap.size + 2, 0, none⟩ a).setCell ⟨w.heap.size + 2, 1, none⟩ b).setCell ⟨w.heap.size + 2, 2, none⟩ c).drewN k) := by
  have hm : Mod (fun q => q = w.heap.size + 2) W (((W.setCell ⟨w.heap.size + 2, 0, none⟩ a).setCell ⟨w.heap.size + 2, 1, none⟩ b).setCell ⟨w.heap.size + 2, 2, none⟩ c) :=
    (((Mod.refl (fun q => q = w.heap.size + 2) W).setCell ⟨w.heap.size + 2, 0, none⟩ (.inl rfl) a).setCell ⟨w.heap.size + 2, 1, none⟩ (.inl rfl) b).setCell ⟨w.heap.size + 2, 2, none⟩ (.inl rfl) c
  exact ⟨(h.md.trans hm (fun k hk e => by omega)).drewN k, hm.drewN k⟩
theorem At.unpack (h : At w p sv v F m what val far W) :
    ∃ a b c, (W.cell? ⟨w.heap.size, 0, none⟩ = some v ∧ W.cell? ⟨w.heap.size, 1, none⟩ = some (.int .u64 F) ∧ W.cell? ⟨w.heap.size, 2, none⟩ = some (.int .i64 m)) ∧
      (W.cell? ⟨w.heap.size + 1, 0, none⟩ = some (.int .i64 what) ∧ W.cell? ⟨w.heap.size + 1, 1, none⟩ = some (.int .i64 val) ∧ W.cell? ⟨w.heap.size + 1, 2, none⟩ = some (.int .u64 far)) ∧
      (W.cell? ⟨w.heap.size + 1 + 1, 0, none⟩ = some a ∧ W.cell? ⟨w.heap.size + 1 + 1, 1, none⟩ = some b ∧ W.cell? ⟨w.heap.size + 1 + 1, 2, none⟩ = some c) ∧
      (W.frozen? ⟨w.heap.size + 1 + 1, 0, none⟩ = false ∧ W.frozen? ⟨w.heap.size + 1 + 1, 1, none⟩ = false ∧ W.frozen? ⟨w.heap.size + 1 + 1, 2, none⟩ = false) ∧
      w.heap.size < W.heap.size ∧ w.heap.size + 1 < W.heap.size ∧ w.heap.size + 1 + 1 < W.heap.size := by
  have hl := h.lt
  obtain ⟨a, b, c, h7⟩ := h.b7
  obtain ⟨x0, x1, x2, _⟩ := three h.b4
  obtain ⟨y0, y1, y2, _⟩ := three h.b5
  obtain ⟨z0, z1, z2, f0, f1, f2⟩ := three h7
  exact ⟨a, b, c, ⟨x0, x1, x2⟩, ⟨y0, y1, y2⟩, ⟨z0, z1, z2⟩, ⟨f0, f1, f2⟩, by omega, by omega, by omega⟩
end

/-- Behind both calls, and the answer's stores: all that an act tells. -/
theorem acted {w W1 W2 W3 : World} {base lo p n n' cap' lim : Nat} {sv sv' v : Value} {F F' m what val far : Int} {L' : List Int} {ao ao' : Option Addr} {S : Nat → Prop}
    (hS : ∀ k, S k → k = w.heap.size + 2) (A : At w p sv v F m what val far W1) (hold : ∀ b off, 0 < n → ao = some ⟨b, off, none⟩ → b < w.heap.size) (hsep : Apart p sv ao n) (hfr : Fr ao n ao' n' lim) (hlim : w.heap.size + 3 ≤ lim) (hrl : RL W1 lo ao' n' cap' L')
    (hr : Ring W2 base p F' m sv' L') (hs : Step p sv sv' W1 W2) (hm : Mod S W2 W3) (hmd : Mod (FP p sv) w W3) : Acted w base lo p sv m ao n (.returned (.tuple #[.pointer (some ⟨p, 0, none⟩), ragg ao' n' cap' F' m, .bool true])) W3 := by
  have hfp' : ∀ k, FP p sv' k → FP p sv k ∨ W1.heap.size ≤ k := hs.fp
  have hl1 := A.lt
  have hap : Apart p sv' ao' n' := fun b off hp e hk => by
    obtain ⟨b', off', e', _, hb, _⟩ := hrl.at_ hp
    rw [e] at e'; cases e'
    rcases hfp' b hk with h | h
    · rcases hfr b off hp e with ⟨h0, off0, e0⟩ | h1
      · exact hsep b off0 h0 e0 h
      · have := A.fp b h; omega
    · omega
  have h2 : RL W2 lo ao' n' cap' L' := hrl.mod hs.mod (fun b off hp e hk => by
    rcases hfr b off hp e with ⟨h0, off0, e0⟩ | h1
    · exact hsep b off0 h0 e0 hk
    · have := A.fp b hk; omega)
  have h3 : RL W3 lo ao' n' cap' L' := h2.mod hm (fun b off hp e hk => by
    have := hS b hk
    rcases hfr b off hp e with ⟨h0, off0, e0⟩ | h1
    · have := hold b off0 h0 e0; omega
    · omega)
  have r3 : Ring W3 base p F' m sv' L' := hr.mod hm (fun k hk e => by
    have := hS k e
    rcases hfp' k hk with h | h
    · have := A.fp k h; omega
    · omega)
  refine ⟨p, sv', F', L', ao', n', cap', rfl, r3, h3, hmd, fun k hk => ?_, fun b off hp e => ?_, hap⟩
  · rcases hfp' k hk with h | h
    · exact .inl h
    · exact .inr (by omega)
  · rcases hfr b off hp e with h | h
    · exact .inl h
    · exact .inr (by omega)

set_option maxHeartbeats 6400000 in
set_option maxRecDepth 100000 in
theorem act_put (base lo p : Nat) (F m what val far : Int) (sv : Value) (L : List Int) (ao : Option Addr) (n cap : Nat) (w : World) (h : Ring w base p F m sv L) (hr : RL w lo ao n cap L) (hap : Apart p sv ao n) (hbw : base ≤ w.heap.size) (hlw : lo ≤ w.heap.size) (hw : what = 0 ∨ what = 1 ∨ what = 2 ∨ what = 3) :
    Calls Try.prog 17 #[.pointer (some ⟨p, 0, none⟩), ragg ao n cap F m, .agg #[.int .i64 what, .int .i64 val, .int .u64 far]] w (Acted w base lo p sv m ao n) := by
  have hbd := h.b
  have hlen := hr.len
  obtain ⟨F', x, y, bb, er, L', hP, hQ⟩ := put_both F m val L n hlen (by rw [hlen] at hbd; exact hbd)
  have HNum := Lib.hid num_any
  have A0 := Lib.hid (At.start w p sv (.slice ao n cap) F m what val far (fun k hk => (h.fplt hk).2))
  have HB0 := Lib.hid (At.start_below w (.slice ao n cap) F m what val far)
  have HQ := Lib.hid hQ
  have HP := Lib.hid hP
  have HRg := Lib.hid h
  have HRl := Lib.hid hr
  have HAp := Lib.hid hap
  have HOld : Hid (∀ b off, 0 < n → ao = some ⟨b, off, none⟩ → b < w.heap.size) := Lib.hid (fun b off hp e => by
    obtain ⟨b', off', e', _, hb, _⟩ := hr.at_ hp
    rw [e] at e'; cases e'; exact hb)
  have HBw := Lib.hid hbw
  have HLw := Lib.hid hlw
  obtain ⟨W0, hW0⟩ : ∃ W, W = (((w.alloc (.cells #[.slice ao n cap, .int .u64 F, .int .i64 m] 40)).alloc (.cells #[.int .i64 what, .int .i64 val, .int .u64 far] 46)).alloc (.cells #[.slice none 0 0, .int .u64 0, .int .i64 0] 40)) := ⟨_, rfl⟩
  rw [← hW0] at A0 HB0
  have HW0 := Lib.hid hW0
  clear hW0
  unfold ragg at HQ ⊢
  clear h hr hap hbd hlen hP hQ hbw hlw
  rcases hw with rfl | rfl | rfl | rfl
  all_goals
    go_enter Try.func17, Try.ntmps17
    go_wp2_with fail
    rw [← HW0.out]
    have hlt0 := A0.out.lt
    refine (HQ.out lo ao cap W0 (by have := HLw.out; omega) (HRl.out.below HB0.out)).mono ?_
    rintro e W1 ⟨ao', n', cap', rfl, hrl, hfr, hb⟩
    have A1 := Lib.hid (A0.out.bel hb)
    have HB1 := Lib.hid (HB0.out.trans (hb.mono (by omega)))
    have HRL := Lib.hid hrl
    have HFR := Lib.hid hfr
    have hs1 := hb.size
    clear hrl hfr hb A0 HB0 HQ
    obtain ⟨a, b, c, ⟨x0, x1, x2⟩, ⟨y0, y1, y2⟩, ⟨z0, z1, z2⟩, ⟨f0, f1, f2⟩, l0, l1, l2⟩ := A1.out.unpack
    go_upto_region 7 with fail
    have Z1 := Lib.hid (alloc_blk_new W1 (.cells #[.slice ao' n' cap', .int .u64 F', .int .i64 m] 40))
    have hbA := (Below.refl _ W1).alloc (Nat.le_refl _) (.cells #[.slice ao' n' cap', .int .u64 F', .int .i64 m] 40)
    obtain ⟨r, hr⟩ : ∃ r, r = W1.heap.size := ⟨_, rfl⟩
    obtain ⟨W2, hW2⟩ : ∃ W, W = W1.alloc (.cells #[.slice ao' n' cap', .int .u64 F', .int .i64 m] 40) := ⟨_, rfl⟩
    have hrr : w.heap.size + 1 + 1 < r := by omega
    rw [← hr, ← hW2] at Z1
    rw [← hW2] at hbA
    rw [← hr, ← hW2]
    have A2 := Lib.hid (A1.out.bel hbA)
    have HB2 := Lib.hid (HB1.out.trans (hbA.mono (by omega)))
    have HRL2 := Lib.hid (HRL.out.below hbA)
    have hs2 := hbA.size
    clear x0 x1 x2 y0 y1 y2 z0 z1 z2 f0 f1 f2 l0 l1 l2 A1 HB1 HRL hr hW2 hbA
    obtain ⟨a, b, c, ⟨x0, x1, x2⟩, ⟨y0, y1, y2⟩, ⟨z0, z1, z2⟩, ⟨f0, f1, f2⟩, l0, l1, l2⟩ := A2.out.unpack
    have HG1 := Lib.hid (HP.out base p sv W2 (HRg.out.below HB2.out) (by have := HBw.out; omega))
    go_wp2_with fail
    refine HG1.out.mono ?_
    rintro e W3 ⟨rfl, sv', hr3, hst⟩
    have hnr : ¬ FP p sv r := fun h => by have := (HRg.out.fplt h).2; omega
    have hz := (hst.mod.block r (blk_lt Z1.out) hnr).trans Z1.out
    have A3 := Lib.hid (A2.out.mod hst.mod (fun _ _ h => h))
    have HR3 := Lib.hid hr3
    have HST := Lib.hid hst
    obtain ⟨r0, r1, r2, _⟩ := three hz
    clear x0 x1 x2 y0 y1 y2 z0 z1 z2 f0 f1 f2 l0 l1 l2 hr3 hst HG1 hz Z1
    obtain ⟨a, b, c, ⟨x0, x1, x2⟩, ⟨y0, y1, y2⟩, ⟨z0, z1, z2⟩, ⟨f0, f1, f2⟩, l0, l1, l2⟩ := A3.out.unpack
    have hne : w.heap.size + 1 + 1 ≠ r := by omega
    have e1 : (x == x) = true := by simp
    have e2 : (y == y) = true := by simp
    have e3 : (bb == bb) = true := by simp
    have e4 : (er == er) = true := by simp
    go_upto_region 8 with fail
    go_region_held3 (fun W => W.cell? ⟨r, 0, none⟩ = some (.slice ao' n' cap') ∧ W.cell? ⟨r, 1, none⟩ = some (.int .u64 F') ∧ W.cell? ⟨r, 2, none⟩ = some (.int .i64 m)) (first | assumption | go_keep) ((go_at_call 9; refine (HNum.out _ _).mono ?_; rintro e w' ⟨rfl, rfl⟩))
    all_goals
      go_wp2
      have FIN := Lib.hid (A3.out.put (.slice ao' n' cap') (.int .u64 F') (.int .i64 m) 1)
      refine bodyPost_ret (v := .tuple #[.pointer (some ⟨p, 0, none⟩), .agg #[.slice ao' n' cap', .int .u64 F', .int .i64 m], .bool true]) (by simp [results, Try.results17, go_sem, *]) rfl ?_
      exact acted (S := fun q => q = w.heap.size + 2) (fun _ h => h) A2.out HOld.out HAp.out HFR.out (by omega) HRL2.out HR3.out HST.out FIN.out.2 FIN.out.1
end Go.Proofs.Ythiajgkifoimcaa
