/-
  A call by both: Copy.
-/
import Derived.Test.YtneeagabmdpjgaaPg
namespace Go.Proofs.Ytneeagabmdpjgaa
open Go.RowKit
set_option linter.unusedVariables false
set_option linter.unusedSimpArgs false

set_option maxHeartbeats 6400000 in
set_option maxRecDepth 100000 in
theorem act_copy {w u0 : World} {K Ka : Nat → Prop} {p : Nat} {m part : Int} {fs bs : List Int} {ra : Option Addr} {rc g n : Nat} {ls : List (List Int)} (z : OV) (h : OS w K p m fs part bs u0) (hK : ∀ k, K k → w.heap.size ≤ k) (hd : DQ (fun q => K q ∧ Ka q) u0 ra rc ls) (hnl : ls.length = n) (ht : Tie ls g fs part bs) (hn : n ≤ 90000) (hz : z.Ok (fun k => k < w.heap.size) u0) (hf : Few z) (h0 : z.what ≠ 0) (h1 : z.what ≠ 1) (h2 : z.what ≠ 2) (h3 : z.what ≠ 3) (h4 : z.what ≠ 4) (h5 : z.what ≠ 5) :
    Calls Try.prog 19 #[.pointer (some ⟨p, 0, none⟩), dagg ra n rc g m, zagg z] u0 (Acted w K Ka m ls u0) := by
  have HNum := Lib.hid num_any
  obtain ⟨hfx, hb0⟩ := Fx.start u0 (.slice ra n rc) g m z
  have hs0 := (St.start h hK).grow hb0
  obtain ⟨W0, hW0⟩ : ∃ W, W = (((u0.alloc (.cells #[.slice ra n rc, .int .i64 g, .int .i64 m] 43)).alloc (.cells #[.int .i64 z.what, .int .i64 z.n, .slice z.a z.ls.length z.c] 32)).alloc (.cells #[.slice none 0 0, .int .i64 0, .int .i64 0] 43)) := ⟨_, rfl⟩
  rw [← hW0] at hfx hb0 hs0
  obtain ⟨X0, hX0⟩ : ∃ X0, X0 = More K u0 W0 := ⟨_, rfl⟩
  rw [← hX0] at hs0
  have HX0 : Hid (∀ k, u0.heap.size ≤ k → k < W0.heap.size → X0 k) := Lib.hid (fun k h1 h2 => by rw [hX0]; exact .inr ⟨h1, h2⟩)
  have HX00 : Hid (∀ k, X0 k → K k ∨ (u0.heap.size ≤ k ∧ k < W0.heap.size)) := Lib.hid (fun k h1 => by rw [hX0] at h1; exact h1)
  have HD : Hid (DQ (fun k => (K k ∧ Ka k) ∧ k < u0.heap.size) W0 ra rc ls) := Lib.hid ((hd.mono (fun k h1 h2 => ⟨h2, h1⟩)).below hb0)
  have HKL := Lib.hid h.klt
  have HBD := Lib.hid h.bounds
  have HINV := Lib.hid h.inv
  have hu0 := h.below.size
  have HT := Lib.hid ht
  have HNL := Lib.hid hnl
  have HZ := Lib.hid hz
  have HFW := Lib.hid hf
  have HK := Lib.hid hK
  have HF0 := Lib.hid hfx
  have HS0 := Lib.hid hs0
  have HB0 := Lib.hid hb0
  have HE := Lib.hid hW0
  have hl0 := hfx.lt
  obtain ⟨⟨c0, c1, c2⟩, ⟨c3, c4, c5⟩, ⟨c6, c7, c8⟩, f6, f7, f8⟩ := hfx.cells
  have d0 : (z.what == 0) = false := by simpa using h0
  have d1 : (z.what == 1) = false := by simpa using h1
  have d2 : (z.what == 2) = false := by simpa using h2
  have d3 : (z.what == 3) = false := by simpa using h3
  have d4 : (z.what == 4) = false := by simpa using h4
  have d5 : (z.what == 5) = false := by simpa using h5
  unfold zagg dagg
  clear h hK hd hnl ht hz hf hfx hs0 hb0 hW0 hX0
  go_enter Try.func19, Try.ntmps19
  go_upto_region 34 with fail
  rw [← HE.out]
  obtain ⟨wd, hwd⟩ : ∃ W, W = (W0).drew := ⟨_, rfl⟩
  have HBd : Hid (Below (W0).heap.size (W0) wd) := Lib.hid (by rw [hwd]; exact Below.drewN' (W0) 1)
  have hS0 : (fun W : World => W.cell? ⟨u0.heap.size, 0, none⟩ = some (.slice ra n rc) ∧ W.cell? ⟨u0.heap.size, 1, none⟩ = some (.int .i64 g) ∧ W.cell? ⟨u0.heap.size, 2, none⟩ = some (.int .i64 m)) wd := by rw [hwd]; exact ⟨c0, c1, c2⟩
  refine wp_region_held_drew (S := fun W => W.cell? ⟨u0.heap.size, 0, none⟩ = some (.slice ra n rc) ∧ W.cell? ⟨u0.heap.size, 1, none⟩ = some (.int .i64 g) ∧ W.cell? ⟨u0.heap.size, 2, none⟩ = some (.int .i64 m)) (by kernel_rfl) (by rw [← hwd]; exact hS0) (fun hHeld => ?_)
  rw [← hwd] at hHeld ⊢
  clear hwd hS0
  refine' wpAnyH_take (i := 0) (oi := { dst := some 166, op := Op.move (Operand.tmp 0), type := 25, pos := "law.go:80", after := #[], guard := none }) (v := ?v1001) rfl (by kernel_rfl) (by kernel_rfl) (by kernel_rfl) (fun _ _ _ h => h) (.inl ⟨by first | rfl | simp [Region.wanted, yielded], ?hy1001⟩) (by assumption) ?rest1001
  case hy1001 => (intro W hW; obtain ⟨f1, f2, f3⟩ := hW; go_simp; try with_reducible rfl)
  simp only [Act.put, List.setIfInBounds_toArray, List.set_cons_zero, List.set_cons_succ]
  refine' wpAnyH_take (i := 2) (oi := { dst := some 168, op := Op.load 43 (Operand.tmp 4), type := 43, pos := "law.go:80", after := #[{ on := 3, ground := Ground.gcOnly Departure.lateStores }], guard := none }) (v := ?v1002) rfl (by kernel_rfl) (by kernel_rfl) (by kernel_rfl) (fun _ _ _ h => h) (.inl ⟨by first | rfl | simp [Region.wanted, yielded], ?hy1002⟩) (by assumption) ?rest1002
  case hy1002 => (intro W hW; obtain ⟨f1, f2, f3⟩ := hW; go_simp; try with_reducible rfl)
  simp only [Act.put, List.setIfInBounds_toArray, List.set_cons_zero, List.set_cons_succ]
  refine wpAnyH_ready (rs := [1]) (by kernel_rfl) (by simp) ?_
  refine AllReadyH.cons (o := { dst := some 167, op := Op.call { callee := Callee.value (Operand.func 23), args := #[Operand.tmp 166], argTypes := #[25] }, type := 25, pos := "law.go:80", after := #[{ on := 0, ground := Ground.data }], guard := none }) rfl (fun KK hK => ?_) (AllReadyH.nil)
  try simp only [List.getElem_toArray, List.getElem_cons_succ, List.getElem_cons_zero]
  go_simp
  refine ((HS0.out.grow HBd.out).os.copy).mono ?_
  rintro e w5 ⟨p5, rfl, ho5, hb5⟩
  have hbb := HBd.out.trans (hb5.mono HBd.out.size)
  have hF5 := HF0.out.bel hbb
  have HS5 : Hid (St w u0 K (fun k => w.heap.size ≤ k ∧ k < wd.heap.size) p5 m fs part bs w5) := Lib.hid ⟨ho5, fun k hk => ⟨HK.out k hk, by have := HKL.out k hk; have := HB0.out.size; have := HBd.out.size; omega⟩, fun k hk => hk.1, Mod.of_below (HB0.out.trans (hbb.mono HB0.out.size)) _⟩
  have HBB := Lib.hid hbb
  have HF5 := Lib.hid hF5
  have hSn : (fun W : World => W.cell? ⟨u0.heap.size, 0, none⟩ = some (.slice ra n rc) ∧ W.cell? ⟨u0.heap.size, 1, none⟩ = some (.int .i64 g) ∧ W.cell? ⟨u0.heap.size, 2, none⟩ = some (.int .i64 m)) w5 := cell3 hF5.b0
  clear hbb hF5 ho5 hb5
  refine hK.out _ _ (by assumption) (fun hHeld => ?_)
  clear hK KK
  try simp only [Act.put, List.setIfInBounds_toArray, List.set_cons_zero, List.set_cons_succ]
  refine' wpAnyH_take (i := 3) (oi := { dst := some 6, op := Op.assign (Operand.tmp 167), type := 25, pos := "law.go:80", after := #[{ on := 1, ground := Ground.data }, { on := 1, ground := Ground.chain }, { on := 0, ground := Ground.phase }, { on := 1, ground := Ground.phase }, { on := 2, ground := Ground.textOnly Departure.lateStores }], guard := none }) (v := ?v1003) rfl (by kernel_rfl) (by kernel_rfl) (by kernel_rfl) (fun _ _ _ h => h) (.inl ⟨by first | rfl | simp [Region.wanted, yielded], ?hy1003⟩) (by assumption) ?rest1003
  case hy1003 => (intro W hW; obtain ⟨f1, f2, f3⟩ := hW; go_simp; try with_reducible rfl)
  simp only [Act.put, List.setIfInBounds_toArray, List.set_cons_zero, List.set_cons_succ]
  refine wpAnyH_ready (rs := [4]) (by kernel_rfl) (by simp) ?_
  refine AllReadyH.cons (o := { dst := none, op := Op.store 43 (Operand.tmp 7) (Operand.tmp 168), type := 0, pos := "law.go:80", after := #[{ on := 2, ground := Ground.data }, { on := 3, ground := Ground.chain }, { on := 0, ground := Ground.phase }, { on := 1, ground := Ground.phase }, { on := 2, ground := Ground.phase }, { on := 3, ground := Ground.phase }], guard := none }) rfl (fun KK hK => ?_) (AllReadyH.nil)
  try simp only [List.getElem_toArray, List.getElem_cons_succ, List.getElem_cons_zero]
  obtain ⟨s0, s1, s2⟩ := cell3 HF5.out.b2
  have s3 := frozen_blk HF5.out.b2 0
  have s4 := frozen_blk HF5.out.b2 1
  have s5 := frozen_blk HF5.out.b2 2
  have s6 := blk_lt HF5.out.b2
  go_simp
  obtain ⟨hb6, hm6⟩ := set3 (a := .slice ra n rc) (b := .int .i64 g) (c := .int .i64 m) HF5.out.b2
  have hx6 := (hm6.block _ (blk_lt HF5.out.b0) (by omega)).trans HF5.out.b0
  have hSn2 : (fun W : World => W.cell? ⟨u0.heap.size, 0, none⟩ = some (.slice ra n rc) ∧ W.cell? ⟨u0.heap.size, 1, none⟩ = some (.int .i64 g) ∧ W.cell? ⟨u0.heap.size, 2, none⟩ = some (.int .i64 m)) (((w5.setCell ⟨u0.heap.size + 1 + 1, 0, none⟩ (.slice ra n rc)).setCell ⟨u0.heap.size + 1 + 1, 1, none⟩ (.int .i64 g)).setCell ⟨u0.heap.size + 1 + 1, 2, none⟩ (.int .i64 m)) := cell3 hx6
  have HB6 := Lib.hid hb6
  have HM6 := Lib.hid hm6
  clear s0 s1 s2 s3 s4 s5 s6 hb6 hm6 hx6
  refine hK.out _ _ (by assumption) (fun hHeld => ?_)
  clear hK KK
  try simp only [Act.put, List.setIfInBounds_toArray, List.set_cons_zero, List.set_cons_succ]
  refine' wpAnyH_take (i := 5) (oi := { dst := some 8, op := Op.assign (Operand.const (Value.bool true)), type := 4, pos := "law.go:80", after := #[{ on := 4, ground := Ground.chain }, { on := 0, ground := Ground.phase }, { on := 1, ground := Ground.phase }, { on := 2, ground := Ground.phase }, { on := 3, ground := Ground.phase }, { on := 4, ground := Ground.phase }], guard := none }) (v := ?v1004) rfl (by kernel_rfl) (by kernel_rfl) (by kernel_rfl) (fun _ _ _ h => h) (.inl ⟨by first | rfl | simp [Region.wanted, yielded], ?hy1004⟩) (by assumption) ?rest1004
  case hy1004 => (intro W hW; obtain ⟨f1, f2, f3⟩ := hW; go_simp; try with_reducible rfl)
  simp only [Act.put, List.setIfInBounds_toArray, List.set_cons_zero, List.set_cons_succ]
  refine wpAnyH_done (by kernel_rfl) ?_ _
  have e0 : (((w5.setCell ⟨u0.heap.size + 1 + 1, 0, none⟩ (.slice ra n rc)).setCell ⟨u0.heap.size + 1 + 1, 1, none⟩ (.int .i64 g)).setCell ⟨u0.heap.size + 1 + 1, 2, none⟩ (.int .i64 m)).cell? ⟨u0.heap.size + 1 + 1, 0, none⟩ = some (.slice ra n rc) := (cell3 HB6.out).1
  have e1 : (((w5.setCell ⟨u0.heap.size + 1 + 1, 0, none⟩ (.slice ra n rc)).setCell ⟨u0.heap.size + 1 + 1, 1, none⟩ (.int .i64 g)).setCell ⟨u0.heap.size + 1 + 1, 2, none⟩ (.int .i64 m)).cell? ⟨u0.heap.size + 1 + 1, 1, none⟩ = some (.int .i64 g) := (cell3 HB6.out).2.1
  have e2 : (((w5.setCell ⟨u0.heap.size + 1 + 1, 0, none⟩ (.slice ra n rc)).setCell ⟨u0.heap.size + 1 + 1, 1, none⟩ (.int .i64 g)).setCell ⟨u0.heap.size + 1 + 1, 2, none⟩ (.int .i64 m)).cell? ⟨u0.heap.size + 1 + 1, 2, none⟩ = some (.int .i64 m) := (cell3 HB6.out).2.2
  obtain ⟨w6, hw6⟩ : ∃ W, W = ((w5.setCell ⟨u0.heap.size + 1 + 1, 0, none⟩ (.slice ra n rc)).setCell ⟨u0.heap.size + 1 + 1, 1, none⟩ (.int .i64 g)).setCell ⟨u0.heap.size + 1 + 1, 2, none⟩ (.int .i64 m) := ⟨_, rfl⟩
  rw [← hw6] at e0 e1 e2 ⊢
  have HM6' : Hid (Mod (fun k => k = u0.heap.size + 2) w5 w6) := Lib.hid (by rw [hw6]; exact HM6.out)
  clear hw6 hSn hSn2 HM6 HB6
  go_wp2
  refine bodyPost_ret (v := .tuple #[.pointer (some ⟨p5, 0, none⟩), .agg #[.slice ra n rc, .int .i64 g, .int .i64 m], .bool true]) (by simp [results, Try.results19, go_sem, *]) rfl ?_
  have hs := HBd.out.size
  have hs1 := HB0.out.size
  exact acted_fin HS5.out (((HD.out.below HBB.out)).mono (fun k _ hk => ⟨⟨⟨HK.out k hk.1.1, by omega⟩, .inl hk.1.2⟩, by omega⟩)) HT.out HNL.out ⟨by omega, by omega⟩ (by omega) HM6'.out (by have := HNL.out; omega) (fun h => h)
end Go.Proofs.Ytneeagabmdpjgaa
