/-
  A call by both, and what stands behind it.
-/
import Derived.Test.YtagdenhcbafblaaK
import Derived.Deep.RegionHeld3
namespace Go.Proofs.Ytagdenhcbafblaa
open Go.RowKit
set_option linter.unusedVariables false
set_option linter.unusedSimpArgs false

/-- What a call leaves. -/
def Acted (w : World) (p : Nat) (l g : Int) (s : Bool) (e : Ending) (w' : World) : Prop :=
  ∃ p', e = .returned (.tuple #[.pointer (some ⟨p', 0, none⟩), .agg #[.int .u64 l, .int .u64 g, .bool s], .bool true]) ∧
    Wi w' p' l g s ∧ Mod (fun q => q = p) w w' ∧ (p' = p ∨ w.heap.size ≤ p')

/-- In the midst of act. -/
structure At (w : World) (p : Nat) (l0 g0 : Int) (s0 : Bool) (what m n : Int) (l g : Int) (s : Bool) (W : World) : Prop where
  b4 : W.heap[w.heap.size]? = some (.cells #[.int .u64 l0, .int .u64 g0, .bool s0] 39 (0, 0))
  b5 : W.heap[w.heap.size + 1]? = some (.cells #[.int .i64 what, .int .i64 m, .int .u64 n] 43 (0, 0))
  b7 : ∃ a b c, W.heap[w.heap.size + 2]? = some (.cells #[a, b, c] 39 (0, 0))
  wi : Wi W p l g s
  md : Mod (fun q => q = p) w W
  hp : p < w.heap.size
theorem At.lt {w W : World} {p : Nat} {l0 g0 what m n l g : Int} {s0 s : Bool} (h : At w p l0 g0 s0 what m n l g s W) : w.heap.size + 2 < W.heap.size := by
  obtain ⟨a, b, c, h⟩ := h.b7
  exact blk_lt h
theorem At.bel {w W W' : World} {p : Nat} {l0 g0 what m n l g : Int} {s0 s : Bool} (h : At w p l0 g0 s0 what m n l g s W) (hb : Below W.heap.size W W') : At w p l0 g0 s0 what m n l g s W' := by
  have hl := h.lt
  obtain ⟨a, b, c, h7⟩ := h.b7
  exact ⟨(hb.block _ (by omega)).trans h.b4, (hb.block _ (by omega)).trans h.b5, ⟨a, b, c, (hb.block _ (by omega)).trans h7⟩, h.wi.below hb, h.md.trans (Mod.of_below hb (fun _ => False)) (fun _ _ x => x.elim), h.hp⟩
theorem At.call {w W W' : World} {p : Nat} {l0 g0 what m n l g l' g' : Int} {s0 s s' : Bool} (h : At w p l0 g0 s0 what m n l g s W) (hw : Wi W' p l' g' s') (hm : Mod (fun q => q = p) W W') : At w p l0 g0 s0 what m n l' g' s' W' := by
  have hl := h.lt
  have hp := h.hp
  obtain ⟨a, b, c, h7⟩ := h.b7
  exact ⟨(hm.block _ (by omega) (by show ¬ _ = p; omega)).trans h.b4, (hm.block _ (by omega) (by show ¬ _ = p; omega)).trans h.b5, ⟨a, b, c, (hm.block _ (by omega) (by show ¬ _ = p; omega)).trans h7⟩, hw, h.md.trans hm (fun _ _ x => x), hp⟩
theorem At.drewN {w W : World} {p : Nat} {l0 g0 what m n l g : Int} {s0 s : Bool} (h : At w p l0 g0 s0 what m n l g s W) (k : Nat) : At w p l0 g0 s0 what m n l g s (W.drewN k) :=
  ⟨h.b4, h.b5, h.b7, h.wi.drewN k, h.md.drewN k, h.hp⟩
theorem At.al {w W : World} {p : Nat} {l0 g0 what m n l g : Int} {s0 s : Bool} (h : At w p l0 g0 s0 what m n l g s W) (o : Obj) : At w p l0 g0 s0 what m n l g s (W.alloc o) := h.bel ((Below.refl _ W).alloc (Nat.le_refl _) o)
theorem At.start (w : World) (p : Nat) (l g what m n : Int) (s : Bool) (h : Wi w p l g s) :
    At w p l g s what m n l g s (((w.alloc (.cells #[.int .u64 l, .int .u64 g, .bool s] 39)).alloc (.cells #[.int .i64 what, .int .i64 m, .int .u64 n] 43)).alloc (.cells #[.int .u64 0, .int .u64 0, .bool false] 39)) := by
  have e1 : (w.alloc (.cells #[.int .u64 l, .int .u64 g, .bool s] 39)).heap.size = w.heap.size + 1 := by simp
  have e2 : ((w.alloc (.cells #[.int .u64 l, .int .u64 g, .bool s] 39)).alloc (.cells #[.int .i64 what, .int .i64 m, .int .u64 n] 43)).heap.size = w.heap.size + 2 := by simp
  have hB : Below w.heap.size w (((w.alloc (.cells #[.int .u64 l, .int .u64 g, .bool s] 39)).alloc (.cells #[.int .i64 what, .int .i64 m, .int .u64 n] 43)).alloc (.cells #[.int .u64 0, .int .u64 0, .bool false] 39)) :=
    (((Below.refl _ w).alloc (Nat.le_refl _) _).alloc (by simp) _).alloc (by simp; omega) _
  refine ⟨alloc_blk (alloc_blk (alloc_blk_new _ _) _) _, ?_, ⟨.int .u64 0, .int .u64 0, .bool false, ?_⟩, h.below hB, Mod.of_below hB _, h.lt⟩
  · have := alloc_blk_new (w.alloc (.cells #[.int .u64 l, .int .u64 g, .bool s] 39)) (.cells #[.int .i64 what, .int .i64 m, .int .u64 n] 43)
    rw [e1] at this
    exact alloc_blk this _
  · have := alloc_blk_new ((w.alloc (.cells #[.int .u64 l, .int .u64 g, .bool s] 39)).alloc (.cells #[.int .i64 what, .int .i64 m, .int .u64 n] 43)) (.cells #[.int .u64 0, .int .u64 0, .bool false] 39)
    rw [e2] at this
    exact this
theorem At.put {w W : World} {p : Nat} {l0 g0 what m n l g : Int} {s0 s : Bool} (h : At w p l0 g0 s0 what m n l g s W) (a b c : Value) (k : Nat) :
    Wi ((((W.setCell ⟨w.heap.size + 2, 0, none⟩ a).setCell ⟨w.heap.size + 2, 1, none⟩ b).setCell ⟨w.heap.size + 2, 2, none⟩ c).drewN k) p l g s ∧
    Mod (fun q => q = p) w ((((W.setCell ⟨w.heap.size + 2, 0, none⟩ a).setCell ⟨w.heap.size + 2, 1, none⟩ b).setCell ⟨w.heap.size + 2, 2, none⟩ c).drewN k) := by
  have hp := h.hp
  have hm : Mod (fun q => q = w.heap.size + 2) W (((W.setCell ⟨w.heap.size + 2, 0, none⟩ a).setCell ⟨w.heap.size + 2, 1, none⟩ b).setCell ⟨w.heap.size + 2, 2, none⟩ c) :=
    (((Mod.refl (fun q => q = w.heap.size + 2) W).setCell ⟨w.heap.size + 2, 0, none⟩ (.inl rfl) a).setCell ⟨w.heap.size + 2, 1, none⟩ (.inl rfl) b).setCell ⟨w.heap.size + 2, 2, none⟩ (.inl rfl) c
  exact ⟨(h.wi.mod hm (by show ¬ p = _; omega)).drewN k, (h.md.trans hm (fun k hk e => by omega)).drewN k⟩
theorem At.unpack {w W : World} {p : Nat} {l0 g0 what m n l g : Int} {s0 s : Bool} (h : At w p l0 g0 s0 what m n l g s W) :
    ∃ a b c, (W.cell? ⟨w.heap.size, 0, none⟩ = some (.int .u64 l0) ∧ W.cell? ⟨w.heap.size, 1, none⟩ = some (.int .u64 g0) ∧ W.cell? ⟨w.heap.size, 2, none⟩ = some (.bool s0)) ∧
      (W.cell? ⟨w.heap.size + 1, 0, none⟩ = some (.int .i64 what) ∧ W.cell? ⟨w.heap.size + 1, 1, none⟩ = some (.int .i64 m) ∧ W.cell? ⟨w.heap.size + 1, 2, none⟩ = some (.int .u64 n)) ∧
      (W.cell? ⟨w.heap.size + 1 + 1, 0, none⟩ = some a ∧ W.cell? ⟨w.heap.size + 1 + 1, 1, none⟩ = some b ∧ W.cell? ⟨w.heap.size + 1 + 1, 2, none⟩ = some c) ∧
      (W.frozen? ⟨w.heap.size + 1 + 1, 0, none⟩ = false ∧ W.frozen? ⟨w.heap.size + 1 + 1, 1, none⟩ = false ∧ W.frozen? ⟨w.heap.size + 1 + 1, 2, none⟩ = false) ∧
      w.heap.size < W.heap.size ∧ w.heap.size + 1 < W.heap.size ∧ w.heap.size + 1 + 1 < W.heap.size := by
  have hl := h.lt
  obtain ⟨a, b, c, h7⟩ := h.b7
  obtain ⟨x0, x1, x2, _⟩ := three h.b4
  obtain ⟨y0, y1, y2, _⟩ := three h.b5
  obtain ⟨z0, z1, z2, f0, f1, f2⟩ := three h7
  exact ⟨a, b, c, ⟨x0, x1, x2⟩, ⟨y0, y1, y2⟩, ⟨z0, z1, z2⟩, ⟨f0, f1, f2⟩, by omega, by omega, by omega⟩

set_option maxHeartbeats 3200000 in
set_option maxRecDepth 100000 in
theorem act_grant (p : Nat) (l g what m n : Int) (s : Bool) (w : World) (h : Wi w p l g s) (hw : what = 0 ∨ what = 1) (hn : 0 ≤ n) :
    Calls Try.prog 15 #[.pointer (some ⟨p, 0, none⟩), .agg #[.int .u64 l, .int .u64 g, .bool s], .agg #[.int .i64 what, .int .i64 m, .int .u64 n]] w (Acted w p (granted l n s) g s) := by
  have HNum := Lib.hid num_any
  have A0 := Lib.hid (At.start w p l g what m n s h)
  have HR := Lib.hid (refGrant l g n s (((w.alloc (.cells #[.int .u64 l, .int .u64 g, .bool s] 39)).alloc (.cells #[.int .i64 what, .int .i64 m, .int .u64 n] 43)).alloc (.cells #[.int .u64 0, .int .u64 0, .bool false] 39)) h.l0 h.l1 hn)
  have hx : ∃ x, x = granted l n s := ⟨_, rfl⟩
  obtain ⟨x, hx⟩ := hx
  have HG : Hid (∀ W, Wi W p l g s → Calls Try.prog 9 #[.pointer (some ⟨p, 0, none⟩), .int .u64 n] W fun e w' => e = .returned (.tuple #[.int .u64 x, .int .i64 0]) ∧ Wi w' p x g s ∧ Mod (fun q => q = p) W w') := Lib.hid (fun W hW => by rw [hx]; exact Grant_any p l g n s W hW hn)
  rw [← hx] at HR ⊢
  clear hx
  clear h
  rcases hw with rfl | rfl
  all_goals
    go_enter Try.func15, Try.ntmps15
    go_wp2_with fail
    refine HR.out.mono ?_
    rintro e w1 ⟨rfl, hb⟩
    have A1 := Lib.hid (A0.out.bel hb)
    clear hb HR A0
    obtain ⟨a, b, c, ⟨x0, x1, x2⟩, ⟨y0, y1, y2⟩, ⟨z0, z1, z2⟩, ⟨f0, f1, f2⟩, l0, l1, l2⟩ := A1.out.unpack
    go_upto_region 5 with fail
    have Z1 := Lib.hid (alloc_blk_new w1 (.cells #[.int .u64 x, .int .u64 g, .bool s] 39))
    have A2 := Lib.hid (A1.out.al (.cells #[.int .u64 x, .int .u64 g, .bool s] 39))
    obtain ⟨r, hr⟩ : ∃ r, r = w1.heap.size := ⟨_, rfl⟩
    obtain ⟨W1, hW1⟩ : ∃ W, W = w1.alloc (.cells #[.int .u64 x, .int .u64 g, .bool s] 39) := ⟨_, rfl⟩
    have hrr : w.heap.size + 1 + 1 < r := by omega
    rw [← hr, ← hW1] at Z1
    rw [← hW1] at A2
    rw [← hr, ← hW1]
    clear x0 x1 x2 y0 y1 y2 z0 z1 z2 f0 f1 f2 l0 l1 l2 A1 hr hW1
    obtain ⟨a, b, c, ⟨x0, x1, x2⟩, ⟨y0, y1, y2⟩, ⟨z0, z1, z2⟩, ⟨f0, f1, f2⟩, l0, l1, l2⟩ := A2.out.unpack
    have HG1 := Lib.hid (HG.out W1 A2.out.wi)
    go_wp2_with fail
    refine HG1.out.mono ?_
    rintro e w2 ⟨rfl, hw2, hm2⟩
    have hp := A2.out.hp
    have hz := (hm2.block r (blk_lt Z1.out) (by show ¬ r = p; omega)).trans Z1.out
    have A3 := Lib.hid (A2.out.call hw2 hm2)
    obtain ⟨r0, r1, r2, _⟩ := three hz
    clear x0 x1 x2 y0 y1 y2 z0 z1 z2 f0 f1 f2 l0 l1 l2 A2 hw2 hm2 HG HG1 hz Z1
    obtain ⟨a, b, c, ⟨x0, x1, x2⟩, ⟨y0, y1, y2⟩, ⟨z0, z1, z2⟩, ⟨f0, f1, f2⟩, l0, l1, l2⟩ := A3.out.unpack
    have hne : w.heap.size + 1 + 1 ≠ r := by omega
    go_upto_region 6 with fail
    go_region_held3 (fun W => W.cell? ⟨r, 0, none⟩ = some (.int .u64 x) ∧ W.cell? ⟨r, 1, none⟩ = some (.int .u64 g) ∧ W.cell? ⟨r, 2, none⟩ = some (.bool s)) (first | assumption | go_keep) ((go_at_call 10; refine (HNum.out _ _).mono ?_; rintro e w' ⟨rfl, rfl⟩))
    all_goals
      go_wp2
      have FIN := Lib.hid (A3.out.put (.int .u64 x) (.int .u64 g) (.bool s) 1)
      refine bodyPost_ret (v := .tuple #[.pointer (some ⟨p, 0, none⟩), .agg #[.int .u64 x, .int .u64 g, .bool s], .bool true]) (by simp [results, Try.results15, go_sem, *]) rfl ⟨p, rfl, FIN.out.1, FIN.out.2, .inl rfl⟩

set_option maxHeartbeats 3200000 in
set_option maxRecDepth 100000 in
theorem act_take (p : Nat) (l g what m n : Int) (s : Bool) (w : World) (h : Wi w p l g s) (hw : what = 2 ∨ what = 3 ∨ what = 4) (hn : 0 ≤ m) (hn2 : m ≤ 9223372036854775807) :
    Calls Try.prog 15 #[.pointer (some ⟨p, 0, none⟩), .agg #[.int .u64 l, .int .u64 g, .bool s], .agg #[.int .i64 what, .int .i64 m, .int .u64 n]] w (Acted w p (l - min m l) (min (g + min m l) 18446744073709551615) s) := by
  have HNum := Lib.hid num_any
  have A0 := Lib.hid (At.start w p l g what m n s h)
  have HR := Lib.hid (refTake l g m s (((w.alloc (.cells #[.int .u64 l, .int .u64 g, .bool s] 39)).alloc (.cells #[.int .i64 what, .int .i64 m, .int .u64 n] 43)).alloc (.cells #[.int .u64 0, .int .u64 0, .bool false] 39)) h.l0 h.l1 h.g0 h.g1 hn hn2)
  have HG := fun (W : World) (hW : Wi W p l g s) => Take_wi p l g m s W hW hn hn2
  obtain ⟨x, hx⟩ : ∃ x, x = l - min m l := ⟨_, rfl⟩
  obtain ⟨y, hy⟩ : ∃ y, y = min (g + min m l) 18446744073709551615 := ⟨_, rfl⟩
  obtain ⟨k, hk⟩ : ∃ k, k = min m l := ⟨_, rfl⟩
  rw [← hx, ← hy, ← hk] at HR
  rw [← hx, ← hy]
  have HG : Hid (∀ W, Wi W p l g s → Calls Try.prog 11 #[.pointer (some ⟨p, 0, none⟩), .int .i64 m] W fun e w' => e = .returned (.tuple #[.int .i64 k, .int .i64 0]) ∧ Wi w' p x y s ∧ Mod (fun q => q = p) W w') := Lib.hid (fun W hW => by rw [hx, hy, hk]; exact HG W hW)
  clear hx hy hk
  clear h
  rcases hw with rfl | rfl | rfl
  all_goals
    go_enter Try.func15, Try.ntmps15
    go_wp2_with fail
    refine HR.out.mono ?_
    rintro e w1 ⟨rfl, hb⟩
    have A1 := Lib.hid (A0.out.bel hb)
    clear hb HR A0
    obtain ⟨a, b, c, ⟨x0, x1, x2⟩, ⟨y0, y1, y2⟩, ⟨z0, z1, z2⟩, ⟨f0, f1, f2⟩, l0, l1, l2⟩ := A1.out.unpack
    go_upto_region 11 with fail
    have Z1 := Lib.hid (alloc_blk_new w1 (.cells #[.int .u64 x, .int .u64 y, .bool s] 39))
    have A2 := Lib.hid (A1.out.al (.cells #[.int .u64 x, .int .u64 y, .bool s] 39))
    obtain ⟨r, hr⟩ : ∃ r, r = w1.heap.size := ⟨_, rfl⟩
    obtain ⟨W1, hW1⟩ : ∃ W, W = w1.alloc (.cells #[.int .u64 x, .int .u64 y, .bool s] 39) := ⟨_, rfl⟩
    have hrr : w.heap.size + 1 + 1 < r := by omega
    rw [← hr, ← hW1] at Z1
    rw [← hW1] at A2
    rw [← hr, ← hW1]
    clear x0 x1 x2 y0 y1 y2 z0 z1 z2 f0 f1 f2 l0 l1 l2 A1 hr hW1
    obtain ⟨a, b, c, ⟨x0, x1, x2⟩, ⟨y0, y1, y2⟩, ⟨z0, z1, z2⟩, ⟨f0, f1, f2⟩, l0, l1, l2⟩ := A2.out.unpack
    have HG1 := Lib.hid (HG.out W1 A2.out.wi)
    go_wp2_with fail
    refine HG1.out.mono ?_
    rintro e w2 ⟨rfl, hw2, hm2⟩
    have hp := A2.out.hp
    have hz := (hm2.block r (blk_lt Z1.out) (by show ¬ r = p; omega)).trans Z1.out
    have A3 := Lib.hid (A2.out.call hw2 hm2)
    obtain ⟨r0, r1, r2, _⟩ := three hz
    clear x0 x1 x2 y0 y1 y2 z0 z1 z2 f0 f1 f2 l0 l1 l2 A2 hw2 hm2 HG HG1 hz Z1
    obtain ⟨a, b, c, ⟨x0, x1, x2⟩, ⟨y0, y1, y2⟩, ⟨z0, z1, z2⟩, ⟨f0, f1, f2⟩, l0, l1, l2⟩ := A3.out.unpack
    have hne : w.heap.size + 1 + 1 ≠ r := by omega
    go_upto_region 12 with fail
    go_region_held3 (fun W => W.cell? ⟨r, 0, none⟩ = some (.int .u64 x) ∧ W.cell? ⟨r, 1, none⟩ = some (.int .u64 y) ∧ W.cell? ⟨r, 2, none⟩ = some (.bool s)) (first | assumption | go_keep) ((go_at_call 10; refine (HNum.out _ _).mono ?_; rintro e w' ⟨rfl, rfl⟩))
    all_goals
      go_wp2
      have FIN := Lib.hid (A3.out.put (.int .u64 x) (.int .u64 y) (.bool s) 1)
      refine bodyPost_ret (v := .tuple #[.pointer (some ⟨p, 0, none⟩), .agg #[.int .u64 x, .int .u64 y, .bool s], .bool true]) (by simp [results, Try.results15, go_sem, *]) rfl ⟨p, rfl, FIN.out.1, FIN.out.2, .inl rfl⟩

set_option maxHeartbeats 3200000 in
set_option maxRecDepth 100000 in
theorem act_takebad (p : Nat) (l g what m n : Int) (s : Bool) (w : World) (h : Wi w p l g s) (hw : what = 2 ∨ what = 3 ∨ what = 4) (hn : m < 0) :
    Calls Try.prog 15 #[.pointer (some ⟨p, 0, none⟩), .agg #[.int .u64 l, .int .u64 g, .bool s], .agg #[.int .i64 what, .int .i64 m, .int .u64 n]] w (Acted w p l g s) := by
  have HNum := Lib.hid num_any
  have A0 := Lib.hid (At.start w p l g what m n s h)
  have HR := Lib.hid (refTakeBad l g m s (((w.alloc (.cells #[.int .u64 l, .int .u64 g, .bool s] 39)).alloc (.cells #[.int .i64 what, .int .i64 m, .int .u64 n] 43)).alloc (.cells #[.int .u64 0, .int .u64 0, .bool false] 39)) hn)
  have HG : Hid (∀ W, Wi W p l g s → Calls Try.prog 11 #[.pointer (some ⟨p, 0, none⟩), .int .i64 m] W fun e w' => e = .returned (.tuple #[.int .i64 0, .int .i64 2]) ∧ Wi w' p l g s ∧ Mod (fun q => q = p) W w') := Lib.hid (fun W hW => (Take_bad p l g m s W hW hn).mono fun e w' q => ⟨q.1, q.2 ▸ hW, q.2 ▸ Mod.refl _ _⟩)
  clear h
  rcases hw with rfl | rfl | rfl
  all_goals
    go_enter Try.func15, Try.ntmps15
    go_wp2_with fail
    refine HR.out.mono ?_
    rintro e w1 ⟨rfl, hb⟩
    have A1 := Lib.hid (A0.out.bel hb)
    clear hb HR A0
    obtain ⟨a, b, c, ⟨x0, x1, x2⟩, ⟨y0, y1, y2⟩, ⟨z0, z1, z2⟩, ⟨f0, f1, f2⟩, l0, l1, l2⟩ := A1.out.unpack
    go_upto_region 11 with fail
    have Z1 := Lib.hid (alloc_blk_new w1 (.cells #[.int .u64 l, .int .u64 g, .bool s] 39))
    have A2 := Lib.hid (A1.out.al (.cells #[.int .u64 l, .int .u64 g, .bool s] 39))
    obtain ⟨r, hr⟩ : ∃ r, r = w1.heap.size := ⟨_, rfl⟩
    obtain ⟨W1, hW1⟩ : ∃ W, W = w1.alloc (.cells #[.int .u64 l, .int .u64 g, .bool s] 39) := ⟨_, rfl⟩
    have hrr : w.heap.size + 1 + 1 < r := by omega
    rw [← hr, ← hW1] at Z1
    rw [← hW1] at A2
    rw [← hr, ← hW1]
    clear x0 x1 x2 y0 y1 y2 z0 z1 z2 f0 f1 f2 l0 l1 l2 A1 hr hW1
    obtain ⟨a, b, c, ⟨x0, x1, x2⟩, ⟨y0, y1, y2⟩, ⟨z0, z1, z2⟩, ⟨f0, f1, f2⟩, l0, l1, l2⟩ := A2.out.unpack
    have HG1 := Lib.hid (HG.out W1 A2.out.wi)
    go_wp2_with fail
    refine HG1.out.mono ?_
    rintro e w2 ⟨rfl, hw2, hm2⟩
    have hp := A2.out.hp
    have hz := (hm2.block r (blk_lt Z1.out) (by show ¬ r = p; omega)).trans Z1.out
    have A3 := Lib.hid (A2.out.call hw2 hm2)
    obtain ⟨r0, r1, r2, _⟩ := three hz
    clear x0 x1 x2 y0 y1 y2 z0 z1 z2 f0 f1 f2 l0 l1 l2 A2 hw2 hm2 HG HG1 hz Z1
    obtain ⟨a, b, c, ⟨x0, x1, x2⟩, ⟨y0, y1, y2⟩, ⟨z0, z1, z2⟩, ⟨f0, f1, f2⟩, l0, l1, l2⟩ := A3.out.unpack
    have hne : w.heap.size + 1 + 1 ≠ r := by omega
    go_upto_region 12 with fail
    go_region_held3 (fun W => W.cell? ⟨r, 0, none⟩ = some (.int .u64 l) ∧ W.cell? ⟨r, 1, none⟩ = some (.int .u64 g) ∧ W.cell? ⟨r, 2, none⟩ = some (.bool s)) (first | assumption | go_keep) ((go_at_call 10; refine (HNum.out _ _).mono ?_; rintro e w' ⟨rfl, rfl⟩))
    all_goals
      go_wp2
      have FIN := Lib.hid (A3.out.put (.int .u64 l) (.int .u64 g) (.bool s) 1)
      refine bodyPost_ret (v := .tuple #[.pointer (some ⟨p, 0, none⟩), .agg #[.int .u64 l, .int .u64 g, .bool s], .bool true]) (by simp [results, Try.results15, go_sem, *]) rfl ⟨p, rfl, FIN.out.1, FIN.out.2, .inl rfl⟩

end Go.Proofs.Ytagdenhcbafblaa
