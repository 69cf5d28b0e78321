/-
  The document's Same.
-/
import Derived.Test.YtnmbhcekcdicnaaYa
import Derived.BigQuiet
namespace Go.Proofs.Ytnmbhcekcdicnaa
open Go.RowKit
set_option linter.unusedVariables false
set_option linter.unusedSimpArgs false

/-- Two of the document's rows are one. -/
def oneEq (a b c a' b' c' : Int) : Bool := decide (a = a' ∧ b = b' ∧ c = c')
theorem neq46 (a b c a' b' c' : Int) (w : World) : (binOp .neq 46 (.agg #[.int .i64 a, .int .u64 b, .int .u64 c]) (.agg #[.int .i64 a', .int .u64 b', .int .u64 c'])).run Try.prog w = .ok (.bool (!(oneEq a b c a' b' c'))) w := by
  unfold oneEq
  go_simp
  by_cases h1 : a = a' <;> by_cases h2 : b = b' <;> by_cases h3 : c = c' <;> simp [h1, h2, h3]
attribute [local go_sem high] neq46
theorem rAt_ext {l l' : List Rw} (hn : l.length = l'.length) (h : ∀ q, q < l.length → rAt l q = rAt l' q) : l = l' := by
  refine List.ext_getElem hn fun q h1 h2 => ?_
  have := h q h1
  unfold rAt at this
  rw [List.getD_eq_getElem?_getD, List.getD_eq_getElem?_getD, List.getElem?_eq_getElem h1, List.getElem?_eq_getElem h2] at this
  exact this
set_option maxHeartbeats 3200000 in
set_option maxRecDepth 100000 in
theorem refSame15 {A A' : Nat → Prop} {w : World} {bo bo' : Option Addr} {m bc m' bc' : Nat} {l l' : List Rw} (h : DR A w bo m bc l) (h' : DR A' w bo' m' bc' l') (hm : m ≤ 10000) (hm' : m' ≤ 10000) (most : Int) :
    Calls Try.prog 15 #[.agg #[.slice bo m bc, .int .i64 most], .agg #[.slice bo' m' bc', .int .i64 most]] w fun e w' => e = .returned (.bool (decide (l = l'))) ∧ Below w.heap.size w w' := by
  obtain ⟨R, hR⟩ : ∃ R, R = decide (l = l') := ⟨_, rfl⟩
  rw [← hR]
  have hl := h.len
  have hl' := h'.len
  obtain ⟨u, hu⟩ : ∃ W, W = (w.alloc (.cells #[.slice bo m bc, .int .i64 most] 36)).alloc (.cells #[.slice bo' m' bc', .int .i64 most] 36) := ⟨_, rfl⟩
  obtain ⟨X, hX⟩ : ∃ X, X = w.heap.size := ⟨_, rfl⟩
  have hz1 : (w.alloc (.cells #[.slice bo m bc, .int .i64 most] 36)).heap.size = X + 1 := by rw [hX]; simp
  have c1 : Below w.heap.size w (w.alloc (.cells #[.slice bo m bc, .int .i64 most] 36)) := (Below.refl _ w).alloc (Nat.le_refl _) _
  have b1 : Below w.heap.size w u := by rw [hu]; exact c1.alloc (by omega) _
  have k2 : u.heap[X]? = some (.cells #[.slice bo m bc, .int .i64 most] 36 (0, 0)) := by rw [hu, hX]; exact alloc_blk (alloc_blk_new _ _) _
  have k3 : u.heap[X + 1]? = some (.cells #[.slice bo' m' bc', .int .i64 most] 36 (0, 0)) := by rw [hu, ← hz1]; exact alloc_blk_new _ _
  have x0 := cell_blk k2 0 _ rfl
  have x1 := cell_blk k2 1 _ rfl
  have y0 := cell_blk k3 0 _ rfl
  have y1 := cell_blk k3 1 _ rfl
  have lx := blk_lt k2
  have ly := blk_lt k3
  have e1 : (most != most) = false := by simp
  have HU := Lib.hid (And.intro hu hX)
  have B1 := Lib.hid b1
  have HK := Lib.hid (And.intro k2 k3)
  by_cases hne : m = m'
  · subst hne
    have e2 : ((m : Int) != (m : Int)) = false := by simp
    have H1 := Lib.hid h
    have H2 := Lib.hid h'
    have HRR := Lib.hid hR
    have HLL := Lib.hid (And.intro hl hl')
    clear h h' hR hl hl' hu hX hz1 c1 b1 k2 k3
    go_enter Try.func15, Try.ntmps15
    go_upto_region 1 with fail
    rw [← HU.out.1, ← HU.out.2]
    go_wp2
    go_loopg [5] m (fun gk v5 wr => ∃ j : Nat, v5 = .int .i64 j ∧ j ≤ m ∧ gk = m - j ∧ Below u.heap.size u wr ∧ ∀ q, q < j → rAt l q = rAt l' q)
    case atStart => exact ⟨0, rfl, by omega, rfl, Below.refl _ _, fun q hq => by omega⟩
    case round =>
      obtain ⟨j, rfl, hj, hgk, hbw, hall⟩ := hrel
      have HB := Lib.hid hbw
      have HG := Lib.hid hgk
      have HA := Lib.hid hall
      have k2 := (hbw.block _ lx).trans HK.out.1
      have k3 := (hbw.block _ ly).trans HK.out.2
      have x0 := cell_blk k2 0 _ rfl
      have y0 := cell_blk k3 0 _ rfl
      have lx' := blk_lt k2
      have ly' := blk_lt k3
      clear hbw hgk hall k2 k3
      by_cases hlt : j < m
      · have d1 : decide ((j : Int) < m) = true := by simp; omega
        have hlti : (j : Int) < m := by omega
        obtain ⟨b, off, rfl, _, hbl, hc⟩ := H1.out.at_ (by omega)
        obtain ⟨b', off', rfl, _, hbl', hc'⟩ := H2.out.at_ (by omega)
        obtain ⟨p0, p1, p2⟩ := hc j hlt
        obtain ⟨q0, q1, q2⟩ := hc' j hlt
        obtain ⟨r1, hr1⟩ : ∃ r, r = rAt l j := ⟨_, rfl⟩
        obtain ⟨r2, hr2⟩ : ∃ r, r = rAt l' j := ⟨_, rfl⟩
        rw [← hr1] at p0 p1 p2
        rw [← hr2] at q0 q1 q2
        have hbw := B1.out.trans (HB.out.mono B1.out.size)
        have p0 := (hbw.cell (p := ⟨b, off + j * 3, none⟩) hbl).trans p0
        have p1 := (hbw.cell (p := ⟨b, off + j * 3 + 1, none⟩) hbl).trans p1
        have p2 := (hbw.cell (p := ⟨b, off + j * 3 + 2, none⟩) hbl).trans p2
        have q0 := (hbw.cell (p := ⟨b', off' + j * 3, none⟩) hbl').trans q0
        have q1 := (hbw.cell (p := ⟨b', off' + j * 3 + 1, none⟩) hbl').trans q1
        have q2 := (hbw.cell (p := ⟨b', off' + j * 3 + 2, none⟩) hbl').trans q2
        have lb := Nat.lt_of_lt_of_le hbl hbw.size
        have lb' := Nat.lt_of_lt_of_le hbl' hbw.size
        have HRW := Lib.hid (And.intro hr1 hr2)
        obtain ⟨a1, a2, a3⟩ := r1
        obtain ⟨a1', a2', a3'⟩ := r2
        simp only at p0 p1 p2 q0 q1 q2
        have hw1 : IntKind.i64.wrap ((j : Int) + 1) = (j : Int) + 1 := by rw [IntKind.wrap_i64]; omega
        clear hc hc' hr1 hr2 hbw
        by_cases he : a1 = a1' ∧ a2 = a2' ∧ a3 = a3'
        · have e3 : oneEq a1 a2 a3 a1' a2' a3' = true := by unfold oneEq; exact decide_eq_true he
          have HEQ := Lib.hid he
          clear he
          go_wp2_with fail
          go_quiet (fail)
          go_wp2
          go_roundg (m - (j + 1))
          case measure => have := HG.out; omega
          case rel =>
            refine ⟨j + 1, by go_num, by omega, rfl, HB.out.trans ((Below.drewN' _ _).mono HB.out.size), fun q hq => ?_⟩
            by_cases hqj : q = j
            · subst hqj
              rw [← HRW.out.1, ← HRW.out.2, HEQ.out.1, HEQ.out.2.1, HEQ.out.2.2]
            · exact HA.out q (by omega)
        · have e3 : oneEq a1 a2 a3 a1' a2' a3' = false := by unfold oneEq; exact decide_eq_false he
          have hf : R = false := by
            rw [HRR.out]
            refine decide_eq_false fun g => he ?_
            have h1 := HRW.out.1
            have h2 := HRW.out.2
            rw [g, ← h2] at h1
            injection h1 with h3 h4 h5
            exact ⟨h3, h4, h5⟩
          clear he
          go_wp2_with fail
          go_quiet (fail)
          go_wp2
          go_ret
          exact ⟨by rw [hf]; rfl, B1.out.trans ((HB.out.trans ((Below.drewN' _ _).mono HB.out.size)).mono B1.out.size)⟩
      · have hjm : j = m := by omega
        subst hjm
        have d1 : decide ((j : Int) < j) = false := by simp
        have ht : R = true := by
          rw [HRR.out]
          exact decide_eq_true (rAt_ext (by have := HLL.out; omega) fun q hq => HA.out q (by have := HLL.out; omega))
        go_wp2
        go_ret
        exact ⟨by rw [ht]; rfl, B1.out.trans (HB.out.mono B1.out.size)⟩
  · have e2 : ((m : Int) != (m' : Int)) = true := by simp; omega
    have hf : R = false := by
      rw [hR]
      exact decide_eq_false fun e => hne (by rw [hl, hl', e])
    clear h h' hR hl hl' hu hX hz1 c1 b1 k2 k3
    go_enter Try.func15, Try.ntmps15
    go_upto_region 1 with fail
    rw [← HU.out.1, ← HU.out.2]
    go_wp2
    go_ret
    exact ⟨by rw [hf]; rfl, B1.out⟩
end Go.Proofs.Ytnmbhcekcdicnaa
