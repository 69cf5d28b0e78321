/-
  The document's Without.
-/
import Derived.Test.YtnmbhcekcdicnaaYa
namespace Go.Proofs.Ytnmbhcekcdicnaa
open Go.RowKit
set_option linter.unusedVariables false
set_option linter.unusedSimpArgs false

theorem inf46 : ∃ i, Try.prog.info? 46 = some i ∧ i.zero = some (.agg #[.int .i64 0, .int .u64 0, .int .u64 0]) ∧ i.size = 3 ∧ i.bytes = 24 := info_parts (by kernel_rfl)
theorem row_own {w : World} {base : Nat} {e : TypeId} {size : Nat} {v : Value} {n : Nat} {xs : List Value} (h : w.ownsRow base e size v n xs) {k : Nat} (hk : v.ownBlock = some k) : base ≤ k := by
  rcases h.2 with ⟨rfl, rfl⟩ | ⟨g, cap, cur, rfl, hb, _⟩
  · simp [Value.ownBlock] at hk
  · simp [Value.ownBlock] at hk
    omega
/-- One row more behind the document's own. -/
theorem own_append {W : World} {B : Nat} {v : Value} {n : Nat} {q : List Rw} (h : W.ownsRow B 46 3 v n (encR q)) (hB : B ≤ W.heap.size) (hn : n ≤ 100000) {V : Nat} {k i d : Int} (hV : W.heap[V]? = some (.cells #[.int .i64 k, .int .u64 i, .int .u64 d] 46 (0, 0))) (ty : TypeId) :
    ∃ v' w', (Builtin.append_ #[34, 34] ty #[v, .slice (some ⟨V, 0, none⟩) 1 1]).run Try.prog W = .ok v' w' ∧ w'.ownsRow B 46 3 v' (n + 1) (encR (q ++ [⟨k, i, d⟩])) ∧ W.grownBy w' v.ownBlock ∧ (∀ x, v'.ownBlock = some x → v.ownBlock = some x ∨ W.heap.size ≤ x) := by
  obtain ⟨i0, hi0, hz0, hz1, hz2⟩ := inf46
  obtain ⟨v', w', h1, h2, h3, h4, _⟩ := run_append_f (P := Try.prog) W B 34 ty 46 i0 _ 3 24 Try.underlying34 hi0 hz0 hz1 hz2 (by rfl) (by omega) v n (encR q) h (some ⟨V, 0, none⟩) 1 1 (encR [⟨k, i, d⟩]) rfl (fun e => by cases e) (fun ad e => by cases e; exact row_cells (r := ⟨k, i, d⟩) hV) (encR_one _) (by unfold maxLen; omega) (by omega) hB
  exact ⟨v', w', h1, by rw [encR_app]; exact h2, h3, h4⟩
theorem wo_take {l : List Rw} {j : Nat} (h : j < l.length) (k i : Int) : wo (l.take (j + 1)) k i = wo (l.take j) k i ++ (if (rAt l j).is k i = true then [] else [rAt l j]) := by
  rw [take_succ_rAt h]
  unfold wo
  rw [List.filter_append]
  cases hq : (rAt l j).is k i <;> simp [hq]
/-- The document's own rows are the document's rows. -/
theorem DR.own {A : Nat → Prop} {W : World} {B : Nat} {v : Value} {n : Nat} {q : List Rw} (h : W.ownsRow B 46 3 v n (encR q)) (hl : n = q.length) (hA : ∀ x, B ≤ x → x < W.heap.size → A x) : ∃ bo bc, v = .slice bo n bc ∧ DR A W bo n bc q := by
  by_cases h0 : 0 < n
  · obtain ⟨g, cap, cur, rfl, hb, hg, hc, hm, hs, ht⟩ := row_some h h0
    refine ⟨some ⟨g, 0, none⟩, cap, rfl, hl, hc, fun _ => ⟨g, 0, rfl, hA g hb (blk_lt hg), blk_lt hg, fun j hj => ?_⟩, fun _ => ⟨g, 0, cur, rfl, hg⟩⟩
    have hx : ∀ (x : Nat) (u : Value), (encR q)[x]? = some u → W.cell? ⟨g, x, none⟩ = some u := fun x u hu => by
      rw [← ht, List.getElem?_take] at hu
      split at hu
      · exact cell_blk hg x u (by simpa using hu)
      · cases hu
    have := encR_rows (f := fun x => W.cell? ⟨g, x, none⟩) hx j (by omega)
    simp only [Nat.zero_add]
    exact this
  · have hn : n = 0 := by omega
    subst hn
    have hq : q = [] := List.eq_nil_of_length_eq_zero hl.symm
    subst hq
    obtain ⟨ao, cap, rfl⟩ := row_slice h
    exact ⟨ao, cap, rfl, rfl, Nat.zero_le _, fun e => by omega, fun e => by omega⟩
/-- Between two rounds of Without. -/
structure WoI (u : World) (X : Nat) (most : Int) (l : List Rw) (k i : Int) (v : Value) (j : Nat) (W : World) : Prop where
  own : W.ownsRow u.heap.size 46 3 v (wo (l.take j) k i).length (encR (wo (l.take j) k i))
  bx : W.heap[X + 3]? = some (.cells #[v, .int .i64 most] 36 (0, 0))
  mod : Mod (fun q => q = X + 3) u W
attribute [local go_sem high] eql26 neq26
set_option maxHeartbeats 6400000 in
set_option maxRecDepth 100000 in
theorem refWo28 {A : Nat → Prop} {w : World} {bo : Option Addr} {m bc : Nat} {l : List Rw} (h : DR A w bo m bc l) (hm : m ≤ 10000) (most k i : Int) :
    Calls Try.prog 28 #[.agg #[.slice bo m bc, .int .i64 most], tmV k i] w fun e w' => ∃ bo' m' bc', e = .returned (.agg #[.slice bo' m' bc', .int .i64 most]) ∧ DR (fun q => w.heap.size ≤ q) w' bo' m' bc' (wo l k i) ∧ Below w.heap.size w w' := by
  obtain ⟨X, hX⟩ : ∃ X, X = w.heap.size := ⟨_, rfl⟩
  obtain ⟨u1, hu1⟩ : ∃ W, W = w.alloc (.cells #[.slice bo m bc, .int .i64 most] 36) := ⟨_, rfl⟩
  obtain ⟨u2, hu2⟩ : ∃ W, W = u1.alloc (.cells #[.int .i64 k, .int .u64 i] 26) := ⟨_, rfl⟩
  obtain ⟨u3, hu3⟩ : ∃ W, W = u2.alloc (.cells #[.slice none 0 0, .int .i64 0] 36) := ⟨_, rfl⟩
  obtain ⟨u, hu⟩ : ∃ W, W = u3.alloc (.cells #[.slice none 0 0, .int .i64 most] 36) := ⟨_, rfl⟩
  have hz1 : u1.heap.size = X + 1 := by rw [hu1, hX]; simp
  have hz2 : u2.heap.size = X + 2 := by rw [hu2]; simp [hz1]
  have hz3 : u3.heap.size = X + 3 := by rw [hu3]; simp [hz2]
  have hz : u.heap.size = X + 4 := by rw [hu]; simp [hz3]
  have c1 : Below w.heap.size w u1 := by rw [hu1]; exact (Below.refl _ w).alloc (Nat.le_refl _) _
  have c2 : Below w.heap.size w u2 := by rw [hu2]; exact c1.alloc (by omega) _
  have c3 : Below w.heap.size w u3 := by rw [hu3]; exact c2.alloc (by omega) _
  have b1 : Below w.heap.size w u := by rw [hu]; exact c3.alloc (by omega) _
  have k1 : u.heap[X]? = some (.cells #[.slice bo m bc, .int .i64 most] 36 (0, 0)) := by rw [hu]; exact alloc_blk (by rw [hu3]; exact alloc_blk (by rw [hu2]; exact alloc_blk (by rw [hu1, hX]; exact alloc_blk_new _ _) _) _) _
  have k2 : u.heap[X + 1]? = some (.cells #[.int .i64 k, .int .u64 i] 26 (0, 0)) := by rw [hu]; exact alloc_blk (by rw [hu3]; exact alloc_blk (by rw [hu2, ← hz1]; exact alloc_blk_new _ _) _) _
  have k3 : u.heap[X + 2]? = some (.cells #[.slice none 0 0, .int .i64 0] 36 (0, 0)) := by rw [hu]; exact alloc_blk (by rw [hu3, ← hz2]; exact alloc_blk_new _ _) _
  have k4 : u.heap[X + 3]? = some (.cells #[.slice none 0 0, .int .i64 most] 36 (0, 0)) := by rw [hu, ← hz3]; exact alloc_blk_new _ _
  have HUU : Hid (u = (((w.alloc (.cells #[.slice bo m bc, .int .i64 most] 36)).alloc (.cells #[.int .i64 k, .int .u64 i] 26)).alloc (.cells #[.slice none 0 0, .int .i64 0] 36)).alloc (.cells #[.slice none 0 0, .int .i64 most] 36)) := Lib.hid (by rw [hu, hu3, hu2, hu1])
  have EX := Lib.hid hX
  have HZ := Lib.hid hz
  have H0 := Lib.hid h
  have H := Lib.hid (h.below b1)
  have HL := Lib.hid h.len
  have K1 := Lib.hid k1
  have K2 := Lib.hid k2
  have K3 := Lib.hid k3
  have K4 := Lib.hid k4
  have B1 := Lib.hid b1
  have HXu : Hid (X < u.heap.size ∧ X + 3 < u.heap.size) := Lib.hid (by omega)
  unfold tmV
  clear hu hu1 hu2 hu3 hX hz1 hz2 hz3 hz b1 c1 c2 c3 k1 k2 k3 k4 h
  go_enter Try.func28, Try.ntmps28
  go_wp2_with fail
  rw [← HUU.out]
  try rw [← EX.out]
  go_loopg [6] m (fun gk v6 wr => ∃ (j : Nat) (v : Value), v6 = .int .i64 j ∧ j ≤ m ∧ gk = m - j ∧ WoI u X most l k i v j wr)
  case atStart => exact ⟨0, .slice none 0 0, rfl, by omega, rfl, ⟨⟨by simp [wo, encR], .inl ⟨rfl, rfl⟩⟩, K4.out, Mod.refl _ _⟩⟩
  case round =>
    obtain ⟨j, v, rfl, hj, hgk, hI⟩ := hrel
    have HG := Lib.hid hgk
    have HI := Lib.hid hI
    have q1 := (hI.mod.block X HXu.out.1 (by omega)).trans K1.out
    have q3 := (hI.mod.block (X + 1) (by have := HXu.out.2; omega) (by omega)).trans K2.out
    have q2 := hI.bx
    have c0 := cell_blk q1 0 _ rfl
    have c1 := cell_blk q3 0 _ rfl
    have c2 := cell_blk q3 1 _ rfl
    have c3 := cell_blk q2 0 _ rfl
    have l1 := blk_lt q1
    have l2 := blk_lt q3
    have l3 := blk_lt q2
    clear hgk hI
    by_cases hlt : j < m
    · have e1 : decide ((j : Int) < m) = true := by simp; omega
      obtain ⟨b, off, rfl, _, hbl, hc⟩ := H0.out.at_ (by omega)
      have HBu := Lib.hid hbl
      have hbk : wr.heap[b]? = w.heap[b]? := (HI.out.mod.block b (Nat.lt_of_lt_of_le hbl B1.out.size) (by have := EX.out; omega)).trans (B1.out.block b hbl)
      obtain ⟨y0, y1, y2⟩ := hc j hlt
      have y0 := (World.cell?_of_block (w := w) (a := ⟨b, off + j * 3, none⟩) hbk).trans y0
      have y1 := (World.cell?_of_block (w := w) (a := ⟨b, off + j * 3 + 1, none⟩) hbk).trans y1
      have y2 := (World.cell?_of_block (w := w) (a := ⟨b, off + j * 3 + 2, none⟩) hbk).trans y2
      have hbw : b < wr.heap.size := Nat.lt_of_lt_of_le hbl (Nat.le_trans B1.out.size HI.out.mod.size)
      obtain ⟨xk, hxk⟩ : ∃ x, x = (rAt l j).k := ⟨_, rfl⟩
      obtain ⟨xi, hxi⟩ : ∃ x, x = (rAt l j).i := ⟨_, rfl⟩
      obtain ⟨xd, hxd⟩ : ∃ x, x = (rAt l j).d := ⟨_, rfl⟩
      rw [← hxk] at y0
      rw [← hxi] at y1
      rw [← hxd] at y2
      have htm : tmEq xk xi k i = (rAt l j).is k i := by rw [hxk, hxi]; exact tmEq_is _ _ _
      have HXX : Hid ((⟨xk, xi, xd⟩ : Rw) = rAt l j) := Lib.hid (by rw [hxk, hxi, hxd])
      have hjl : j < l.length := by have := HL.out; omega
      obtain ⟨q, hq⟩ : ∃ q, q = (rAt l j).is k i := ⟨_, rfl⟩
      rw [← hq] at htm
      have HQ := Lib.hid hq
      have hjm : (j : Int) < m := by omega
      have hw1 : IntKind.i64.wrap ((j : Int) + 1) = (j : Int) + 1 := by rw [IntKind.wrap_i64]; omega
      clear hc hxk hxi hxd hq hbk hbl
      cases q with
      | true =>
        go_wp2_with fail
        go_quiet (fail)
        go_wp2_with fail
        go_roundg (m - (j + 1))
        case measure => have := HG.out; omega
        case rel => exact ⟨j + 1, v, by go_num, by omega, rfl, ⟨by
          have e := wo_take hjl k i
          rw [← HQ.out] at e
          simp only [if_true, List.append_nil] at e
          rw [e]
          exact (Mod.of_below (S := fun _ => False) (Below.drewN' _ _)).row HI.out.own fun _ _ e => e, HI.out.bx, HI.out.mod.drewN _⟩⟩
      | false =>
        go_wp2_with fail
        go_quiet (fail)
        obtain ⟨wr2, hwr2⟩ : ∃ Y, Y = wr.drewN nq := ⟨_, rfl⟩
        rw [← hwr2]
        have hI2 : Mod (fun q => q = X + 3) wr wr2 := by rw [hwr2]; exact (Mod.refl _ wr).drewN _
        have q1 := (hI2.block X (blk_lt q1) (by omega)).trans q1
        have q2 : wr2.heap[X + 3]? = some (.cells #[v, .int .i64 most] 36 (0, 0)) := by rw [hwr2]; exact q2
        have hIm : Mod (fun q => q = X + 3) u wr2 := HI.out.mod.trans hI2 fun _ _ e => e
        obtain ⟨Q, hQq⟩ : ∃ Q, Q = wo (l.take j) k i := ⟨_, rfl⟩
        obtain ⟨nq, hnq⟩ : ∃ n, n = Q.length := ⟨_, rfl⟩
        have hown : wr2.ownsRow u.heap.size 46 3 v nq (encR Q) := by
          rw [hnq, hQq, hwr2]
          exact (Mod.of_below (S := fun _ => False) (Below.drewN' _ _)).row HI.out.own fun _ _ e => e
        have hbk : wr2.heap[b]? = wr.heap[b]? := by rw [hwr2]; rfl
        have y0 := (World.cell?_of_block (w := wr) (a := ⟨b, off + j * 3, none⟩) hbk).trans y0
        have y1 := (World.cell?_of_block (w := wr) (a := ⟨b, off + j * 3 + 1, none⟩) hbk).trans y1
        have y2 := (World.cell?_of_block (w := wr) (a := ⟨b, off + j * 3 + 2, none⟩) hbk).trans y2
        have hbw : b < wr2.heap.size := Nat.lt_of_lt_of_le hbw hI2.size
        have hnq1 : nq ≤ 100000 := by
          rw [hnq, hQq]
          have := wo_le (l.take j) k i
          rw [List.length_take] at this
          omega
        have HQq := Lib.hid hQq
        have HNq := Lib.hid hnq
        have HOo := Lib.hid hown
        have HMm := Lib.hid hIm
        clear hwr2 hI2 hIm hQq hnq hown hbk c0 c1 c2 c3 l1 l2 l3
        go_upto_region 6 with fail
        refine wp_region_K 10 (fun W => W.heap[X]? = some (.cells #[.slice (some ⟨b, off, none⟩) m bc, .int .i64 most] 36 (0, 0)) ∧ W.heap[X + 3]? = some (.cells #[v, .int .i64 most] 36 (0, 0)) ∧ (W.cell? ⟨b, off + j * 3, none⟩ = some (.int .i64 xk) ∧ W.cell? ⟨b, off + j * 3 + 1, none⟩ = some (.int .u64 xi) ∧ W.cell? ⟨b, off + j * 3 + 2, none⟩ = some (.int .u64 xd)) ∧ b < W.heap.size) (by kernel_rfl) ?_
        obtain ⟨wd, hwd⟩ : ∃ W, W = (wr2).drew := ⟨_, rfl⟩
        have HBd : Hid (Below (wr2).heap.size (wr2) wd) := Lib.hid (by rw [hwd]; exact Below.drewN' (wr2) 1)
        have hS0 : (fun W : World => W.heap[X]? = some (.cells #[.slice (some ⟨b, off, none⟩) m bc, .int .i64 most] 36 (0, 0)) ∧ W.heap[X + 3]? = some (.cells #[v, .int .i64 most] 36 (0, 0)) ∧ (W.cell? ⟨b, off + j * 3, none⟩ = some (.int .i64 xk) ∧ W.cell? ⟨b, off + j * 3 + 1, none⟩ = some (.int .u64 xi) ∧ W.cell? ⟨b, off + j * 3 + 2, none⟩ = some (.int .u64 xd)) ∧ b < W.heap.size) wd := by rw [hwd]; exact ⟨q1, q2, ⟨y0, y1, y2⟩, hbw⟩
        rw [← hwd]
        have HBd2 := HBd
        have hmd : Mod (fun q => q = X + 3) u wd := HMm.out.trans (Mod.of_below HBd.out _) fun _ _ e => e
        have hod : wd.ownsRow u.heap.size 46 3 v nq (encR Q) := (Mod.of_below (S := fun _ => False) HBd.out).row HOo.out fun _ _ e => e
        have HMd := Lib.hid hmd
        have HOd := Lib.hid hod
        clear hmd hod
        clear hwd
        refine' wpAnyK_take (i := 0) (oi := { dst := some 25, op := Op.fieldAddr 36 (Operand.tmp 5) 0, type := 0, pos := "ref.go:62", after := #[], guard := none }) (v := ?v61001) rfl (by kernel_rfl) (by kernel_rfl) (by kernel_rfl) [] (by kernel_rfl) (by decide) (by kernel_rfl) (by kernel_rfl) (fun _ _ _ h => h) hS0 (.inl ⟨by first | rfl | simp [Region.wanted, yielded], ?hy61001⟩) ?rest61001
        case hy61001 => (intro W hW; obtain ⟨g1, g2, ⟨f1, f2, f3⟩, f4⟩ := hW; have f5 := cell_blk g1 0 _ rfl; have f6 := cell_blk g2 0 _ rfl; have f7 := blk_lt g1; have f8 := blk_lt g2; go_simp; try with_reducible rfl)
        simp only [Act.put, List.setIfInBounds_toArray, List.set_cons_zero, List.set_cons_succ]
        refine' wpAnyK_take (i := 1) (oi := { dst := some 26, op := Op.load 34 (Operand.tmp 25), type := 34, pos := "ref.go:62", after := #[{ on := 0, ground := Ground.data }], guard := none }) (v := ?v61002) rfl (by kernel_rfl) (by kernel_rfl) (by kernel_rfl) [] (by kernel_rfl) (by decide) (by kernel_rfl) (by kernel_rfl) (fun _ _ _ h => h) hS0 (.inl ⟨by first | rfl | simp [Region.wanted, yielded], ?hy61002⟩) ?rest61002
        case hy61002 => (intro W hW; obtain ⟨g1, g2, ⟨f1, f2, f3⟩, f4⟩ := hW; have f5 := cell_blk g1 0 _ rfl; have f6 := cell_blk g2 0 _ rfl; have f7 := blk_lt g1; have f8 := blk_lt g2; go_simp; try with_reducible rfl)
        simp only [Act.put, List.setIfInBounds_toArray, List.set_cons_zero, List.set_cons_succ]
        refine' wpAnyK_take (i := 2) (oi := { dst := some 27, op := Op.fieldAddr 36 (Operand.tmp 2) 0, type := 0, pos := "ref.go:62", after := #[], guard := none }) (v := ?v61003) rfl (by kernel_rfl) (by kernel_rfl) (by kernel_rfl) [] (by kernel_rfl) (by decide) (by kernel_rfl) (by kernel_rfl) (fun _ _ _ h => h) hS0 (.inl ⟨by first | rfl | simp [Region.wanted, yielded], ?hy61003⟩) ?rest61003
        case hy61003 => (intro W hW; obtain ⟨g1, g2, ⟨f1, f2, f3⟩, f4⟩ := hW; have f5 := cell_blk g1 0 _ rfl; have f6 := cell_blk g2 0 _ rfl; have f7 := blk_lt g1; have f8 := blk_lt g2; go_simp; try with_reducible rfl)
        simp only [Act.put, List.setIfInBounds_toArray, List.set_cons_zero, List.set_cons_succ]
        refine' wpAnyK_take (i := 3) (oi := { dst := some 28, op := Op.load 34 (Operand.tmp 27), type := 34, pos := "ref.go:62", after := #[{ on := 2, ground := Ground.data }], guard := none }) (v := ?v61004) rfl (by kernel_rfl) (by kernel_rfl) (by kernel_rfl) [] (by kernel_rfl) (by decide) (by kernel_rfl) (by kernel_rfl) (fun _ _ _ h => h) hS0 (.inl ⟨by first | rfl | simp [Region.wanted, yielded], ?hy61004⟩) ?rest61004
        case hy61004 => (intro W hW; obtain ⟨g1, g2, ⟨f1, f2, f3⟩, f4⟩ := hW; have f5 := cell_blk g1 0 _ rfl; have f6 := cell_blk g2 0 _ rfl; have f7 := blk_lt g1; have f8 := blk_lt g2; go_simp; try with_reducible rfl)
        simp only [Act.put, List.setIfInBounds_toArray, List.set_cons_zero, List.set_cons_succ]
        refine' wpAnyK_take (i := 4) (oi := { dst := some 29, op := Op.move (Operand.tmp 6), type := 3, pos := "ref.go:62", after := #[], guard := none }) (v := ?v61005) rfl (by kernel_rfl) (by kernel_rfl) (by kernel_rfl) [] (by kernel_rfl) (by decide) (by kernel_rfl) (by kernel_rfl) (fun _ _ _ h => h) hS0 (.inl ⟨by first | rfl | simp [Region.wanted, yielded], ?hy61005⟩) ?rest61005
        case hy61005 => (intro W hW; obtain ⟨g1, g2, ⟨f1, f2, f3⟩, f4⟩ := hW; have f5 := cell_blk g1 0 _ rfl; have f6 := cell_blk g2 0 _ rfl; have f7 := blk_lt g1; have f8 := blk_lt g2; go_simp; try with_reducible rfl)
        simp only [Act.put, List.setIfInBounds_toArray, List.set_cons_zero, List.set_cons_succ]
        refine' wpAnyK_take (i := 5) (oi := { dst := some 30, op := Op.indexAddr 34 (Operand.tmp 28) (Operand.tmp 29), type := 0, pos := "ref.go:62", after := #[{ on := 3, ground := Ground.data }, { on := 4, ground := Ground.data }], guard := none }) (v := ?v61006) rfl (by kernel_rfl) (by kernel_rfl) (by kernel_rfl) [] (by kernel_rfl) (by decide) (by kernel_rfl) (by kernel_rfl) (fun _ _ _ h => h) hS0 (.inl ⟨by first | rfl | simp [Region.wanted, yielded], ?hy61006⟩) ?rest61006
        case hy61006 => (intro W hW; obtain ⟨g1, g2, ⟨f1, f2, f3⟩, f4⟩ := hW; have f5 := cell_blk g1 0 _ rfl; have f6 := cell_blk g2 0 _ rfl; have f7 := blk_lt g1; have f8 := blk_lt g2; go_simp; try with_reducible rfl)
        simp only [Act.put, List.setIfInBounds_toArray, List.set_cons_zero, List.set_cons_succ]
        refine' wpAnyK_take (i := 6) (oi := { dst := some 31, op := Op.load 46 (Operand.tmp 30), type := 46, pos := "ref.go:62", after := #[{ on := 5, ground := Ground.data }], guard := none }) (v := ?v61007) rfl (by kernel_rfl) (by kernel_rfl) (by kernel_rfl) [] (by kernel_rfl) (by decide) (by kernel_rfl) (by kernel_rfl) (fun _ _ _ h => h) hS0 (.inl ⟨by first | rfl | simp [Region.wanted, yielded], ?hy61007⟩) ?rest61007
        case hy61007 => (intro W hW; obtain ⟨g1, g2, ⟨f1, f2, f3⟩, f4⟩ := hW; have f5 := cell_blk g1 0 _ rfl; have f6 := cell_blk g2 0 _ rfl; have f7 := blk_lt g1; have f8 := blk_lt g2; go_simp; try with_reducible rfl)
        simp only [Act.put, List.setIfInBounds_toArray, List.set_cons_zero, List.set_cons_succ]
        refine wpAnyK_ready (rs := [7]) (by kernel_rfl) (by simp) ?_
        refine AllReadyK.cons (o := { dst := some 32, op := Op.buildSlice 34 1 #[(0, Operand.tmp 31)], type := 34, pos := "ref.go:62", after := #[{ on := 6, ground := Ground.data }], guard := none }) rfl (fun KK hK => ?_) (AllReadyK.nil)
        try simp only [List.getElem_toArray, List.getElem_cons_succ, List.getElem_cons_zero]
        go_simp
        obtain ⟨w4, hw4⟩ : ∃ Y, Y = wd.alloc (.cells #[.int .i64 xk, .int .u64 xi, .int .u64 xd] 46) := ⟨_, rfl⟩
        obtain ⟨V, hV⟩ : ∃ V, V = wd.heap.size := ⟨_, rfl⟩
        rw [← hw4, ← hV]
        have hB4 : Below wd.heap.size wd w4 := by rw [hw4]; exact (Below.refl _ wd).alloc (Nat.le_refl _) _
        have hV4 : w4.heap[V]? = some (.cells #[.int .i64 xk, .int .u64 xi, .int .u64 xd] 46 (0, 0)) := by rw [hw4, hV]; exact alloc_blk_new _ _
        have hS1 : (fun W : World => W.heap[X]? = some (.cells #[.slice (some ⟨b, off, none⟩) m bc, .int .i64 most] 36 (0, 0)) ∧ W.heap[X + 3]? = some (.cells #[v, .int .i64 most] 36 (0, 0)) ∧ (W.cell? ⟨b, off + j * 3, none⟩ = some (.int .i64 xk) ∧ W.cell? ⟨b, off + j * 3 + 1, none⟩ = some (.int .u64 xi) ∧ W.cell? ⟨b, off + j * 3 + 2, none⟩ = some (.int .u64 xd)) ∧ b < W.heap.size) w4 := by
          obtain ⟨g1, g2, ⟨f1, f2, f3⟩, f4⟩ := hS0
          exact ⟨(hB4.block _ (blk_lt g1)).trans g1, (hB4.block _ (blk_lt g2)).trans g2, ⟨(hB4.cell (p := ⟨b, off + j * 3, none⟩) f4).trans f1, (hB4.cell (p := ⟨b, off + j * 3 + 1, none⟩) f4).trans f2, (hB4.cell (p := ⟨b, off + j * 3 + 2, none⟩) f4).trans f3⟩, Nat.lt_of_lt_of_le f4 hB4.size⟩
        have HM4 : Hid (Mod (fun q => q = X + 3) u w4) := Lib.hid (HMd.out.trans (Mod.of_below hB4 _) fun _ _ e => e)
        have hO4 : w4.ownsRow u.heap.size 46 3 v nq (encR Q) := (Mod.of_below (S := fun _ => False) hB4).row HOd.out fun _ _ e => e
        have HV4 := Lib.hid hV4
        have HO4 := Lib.hid hO4
        clear hw4 hV hB4 hV4 hS0 hO4
        refine hK.out _ _ (fun _ => hS1) ?_
        clear hK KK
        try simp only [Act.put, List.setIfInBounds_toArray, List.set_cons_zero, List.set_cons_succ]
        obtain ⟨v5, w5, hrun, hown5, hgr, hfr⟩ := own_append HO4.out HM4.out.size hnq1 HV4.out 34
        obtain ⟨ao5, cap5, rfl⟩ := row_slice hown5
        refine wpAnyK_ready (rs := [8]) (by kernel_rfl) (by simp) ?_
        refine AllReadyK.cons (o := { dst := some 33, op := Op.call { callee := Callee.builtin Builtin.append, args := #[Operand.tmp 26, Operand.tmp 32], argTypes := #[34, 34] }, type := 34, pos := "ref.go:62", after := #[{ on := 1, ground := Ground.data }, { on := 7, ground := Ground.data }], guard := none }) rfl (fun KK hK => ?_) (AllReadyK.nil)
        refine step_append_run rfl _ _ 34 34 rfl v (.slice (some ⟨V, 0, none⟩) 1 1) (by simp [Act.eval, Act.put]) (by simp [Act.eval, Act.put]) hrun ?_
        have hS2 : (fun W : World => W.heap[X]? = some (.cells #[.slice (some ⟨b, off, none⟩) m bc, .int .i64 most] 36 (0, 0)) ∧ W.heap[X + 3]? = some (.cells #[v, .int .i64 most] 36 (0, 0)) ∧ (W.cell? ⟨b, off + j * 3, none⟩ = some (.int .i64 xk) ∧ W.cell? ⟨b, off + j * 3 + 1, none⟩ = some (.int .u64 xi) ∧ W.cell? ⟨b, off + j * 3 + 2, none⟩ = some (.int .u64 xd)) ∧ b < W.heap.size) w5 := by
          obtain ⟨g1, g2, ⟨f1, f2, f3⟩, f4⟩ := hS1
          have hn : ∀ q, q < u.heap.size → some q ≠ v.ownBlock := fun q hq e => by
            rcases row_own HO4.out e.symm with h
            omega
          have hbk : w5.heap[b]? = w4.heap[b]? := hgr.block b f4 (hn b (Nat.lt_of_lt_of_le HBu.out B1.out.size))
          exact ⟨(hgr.block _ (blk_lt g1) (hn X HXu.out.1)).trans g1, (hgr.block _ (blk_lt g2) (hn (X + 3) HXu.out.2)).trans g2, ⟨(World.cell?_of_block (w := w4) (a := ⟨b, off + j * 3, none⟩) hbk).trans f1, (World.cell?_of_block (w := w4) (a := ⟨b, off + j * 3 + 1, none⟩) hbk).trans f2, (World.cell?_of_block (w := w4) (a := ⟨b, off + j * 3 + 2, none⟩) hbk).trans f3⟩, Nat.lt_of_lt_of_le f4 hgr.size⟩
        have HM5 : Hid (Mod (fun q => q = X + 3) u w5) := Lib.hid (HM4.out.grown hgr fun q e => .inr (row_own HO4.out e))
        have HO5 := Lib.hid hown5
        have e0 := cell_blk hS2.2.1 0 _ rfl
        have e1 := frozen_blk hS2.2.1 0
        have e2 := blk_lt hS2.2.1
        clear hrun hgr hown5 hS1
        refine hK.out _ _ (fun _ => hS2) ?_
        clear hK KK
        try simp only [Act.put, List.setIfInBounds_toArray, List.set_cons_zero, List.set_cons_succ]
        refine' wpAnyK_take (i := 9) (oi := { dst := some 34, op := Op.fieldAddr 36 (Operand.tmp 5) 0, type := 0, pos := "ref.go:62", after := #[{ on := 0, ground := Ground.phase }, { on := 1, ground := Ground.phase }, { on := 2, ground := Ground.phase }, { on := 3, ground := Ground.phase }, { on := 4, ground := Ground.phase }, { on := 5, ground := Ground.phase }, { on := 6, ground := Ground.phase }, { on := 7, ground := Ground.phase }, { on := 8, ground := Ground.phase }], guard := none }) (v := ?v61008) rfl (by kernel_rfl) (by kernel_rfl) (by kernel_rfl) [] (by kernel_rfl) (by decide) (by kernel_rfl) (by kernel_rfl) (fun _ _ _ h => h) hS2 (.inl ⟨by first | rfl | simp [Region.wanted, yielded], ?hy61008⟩) ?rest61008
        case hy61008 => (intro W hW; obtain ⟨g1, g2, ⟨f1, f2, f3⟩, f4⟩ := hW; have f5 := cell_blk g1 0 _ rfl; have f6 := cell_blk g2 0 _ rfl; have f7 := blk_lt g1; have f8 := blk_lt g2; go_simp; try with_reducible rfl)
        simp only [Act.put, List.setIfInBounds_toArray, List.set_cons_zero, List.set_cons_succ]
        refine wpAnyK_ready (rs := [10]) (by kernel_rfl) (by simp) ?_
        refine AllReadyK.cons (o := { dst := none, op := Op.store 34 (Operand.tmp 34) (Operand.tmp 33), type := 0, pos := "ref.go:62", after := #[{ on := 9, ground := Ground.data }, { on := 8, ground := Ground.data }, { on := 8, ground := Ground.chain }, { on := 0, ground := Ground.phase }, { on := 1, ground := Ground.phase }, { on := 2, ground := Ground.phase }, { on := 3, ground := Ground.phase }, { on := 4, ground := Ground.phase }, { on := 5, ground := Ground.phase }, { on := 6, ground := Ground.phase }, { on := 7, ground := Ground.phase }, { on := 8, ground := Ground.phase }], guard := none }) rfl (fun KK hK => ?_) (AllReadyK.nil)
        try simp only [List.getElem_toArray, List.getElem_cons_succ, List.getElem_cons_zero]
        go_simp
        refine hK.out _ _ (fun h => absurd (show true = false from h) (by decide)) ?_
        clear hK KK
        try simp only [Act.put, List.setIfInBounds_toArray, List.set_cons_zero, List.set_cons_succ]
        refine wpAnyK_done (by kernel_rfl) ?_ _
        obtain ⟨w6, hw6⟩ : ∃ Y, Y = w5.setCell ⟨X + 3, 0, none⟩ (.slice ao5 (nq + 1) cap5) := ⟨_, rfl⟩
        rw [← hw6]
        have HK6 : Hid (w6.heap[X + 3]? = some (.cells #[(.slice ao5 (nq + 1) cap5), .int .i64 most] 36 (0, 0))) := Lib.hid (by
          rw [hw6, setCell_blk hS2.2.1]
          rfl)
        have HM6 : Hid (Mod (fun q => q = X + 3) u w6) := Lib.hid (by rw [hw6]; exact HM5.out.setCell _ (.inl rfl) _)
        have HO6 : Hid (w6.ownsRow u.heap.size 46 3 (.slice ao5 (nq + 1) cap5) (nq + 1) (encR (Q ++ [⟨xk, xi, xd⟩]))) := Lib.hid ((show Mod (fun q => q = X + 3) w5 w6 by rw [hw6]; exact (Mod.refl (fun q => q = X + 3) w5).setCell ⟨X + 3, 0, none⟩ (.inl rfl) _).row HO5.out fun q e he => by
          have := row_own HO5.out e
          have := HXu.out.2
          omega)
        clear e0 e1 e2 hw6 hS2
        go_wp2_with fail
        go_roundg (m - (j + 1))
        case measure => have := HG.out; omega
        case rel => exact ⟨j + 1, (.slice ao5 (nq + 1) cap5), by go_num, by omega, rfl, ⟨by
          have e := wo_take hjl k i
          rw [← HQ.out, ← HXX.out] at e
          simp only [if_neg Bool.false_ne_true] at e
          rw [e, ← HQq.out, List.length_append, ← HNq.out]
          exact HO6.out, HK6.out, HM6.out⟩⟩
    · have hjm : j = m := by omega
      subst hjm
      have e1 : decide ((j : Int) < j) = false := by simp
      have q4 := (HI.out.mod.block (X + 2) (by have := HXu.out.2; omega) (by omega)).trans K3.out
      have e : l.take j = l := List.take_of_length_le (by have := HL.out; omega)
      have hown := HI.out.own
      rw [e] at hown
      obtain ⟨bo', bc', rfl, hdr⟩ := DR.own (A := fun q => u.heap.size ≤ q) hown rfl (fun x hx _ => hx)
      have HDR := Lib.hid hdr
      obtain ⟨N, hN⟩ : ∃ N, N = (wo l k i).length := ⟨_, rfl⟩
      rw [← hN] at c3 q2
      have HN := Lib.hid hN
      have c4 := cell_blk q4 0 _ rfl
      have c5 := cell_blk q4 1 _ rfl
      have c6 := cell_blk q2 1 _ rfl
      have f4 := frozen_blk q4 0
      have f5 := frozen_blk q4 1
      have l4 := blk_lt q4
      clear hown hdr e hN
      go_wp2
      have hk6 := setCell_blk (setCell_blk q4 0 (.slice bo' N bc')) 1 (.int .i64 most)
      have z0 := cell_blk hk6 0 (.slice bo' N bc') rfl
      have z1 := cell_blk hk6 1 (.int .i64 most) rfl
      have hXw := EX.out
      refine bodyPost_ret (v := .agg #[.slice bo' N bc', .int .i64 most]) (by simp [results, Try.f28, go_sem, z0, z1]) rfl ⟨bo', N, bc', rfl, ?_, ?_⟩
      · rw [HN.out]
        refine HDR.out.keep (by simp [World.setCell]) (fun q hq _ => Nat.le_trans B1.out.size hq) (fun q hq _ => ?_)
        have hqX : q ≠ X + 1 + 1 := by have := HZ.out; omega
        exact (setCell_blk_ne hqX _).trans (setCell_blk_ne hqX _)
      · exact (((B1.out.trans ⟨HI.out.mod.os, HI.out.mod.tape, HI.out.mod.output, HI.out.mod.size, fun q hq => HI.out.mod.block q (Nat.lt_of_lt_of_le hq B1.out.size) (by omega)⟩).setCell (p := ⟨X + 1 + 1, 0, none⟩) (by show w.heap.size ≤ X + 1 + 1; omega) _)).setCell (p := ⟨X + 1 + 1, 1, none⟩) (by show w.heap.size ≤ X + 1 + 1; omega) _
end Go.Proofs.Ytnmbhcekcdicnaa
