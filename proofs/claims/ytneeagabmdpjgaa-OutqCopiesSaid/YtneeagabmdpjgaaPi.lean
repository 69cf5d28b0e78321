/-
  A call by both: Clear.
-/
import Derived.Test.YtneeagabmdpjgaaPg
namespace Go.Proofs.Ytneeagabmdpjgaa
open Go.RowKit
set_option linter.unusedVariables false
set_option linter.unusedSimpArgs false

set_option maxHeartbeats 6400000 in
set_option maxRecDepth 100000 in
theorem act_clear {w u0 : World} {K Ka : Nat → Prop} {p : Nat} {m part : Int} {fs bs : List Int} {ra : Option Addr} {rc g n : Nat} {ls : List (List Int)} (z : OV) (h : OS w K p m fs part bs u0) (hK : ∀ k, K k → w.heap.size ≤ k) (hd : DQ (fun q => K q ∧ Ka q) u0 ra rc ls) (hnl : ls.length = n) (ht : Tie ls g fs part bs) (hn : n ≤ 90000) (hz : z.Ok (fun k => k < w.heap.size) u0) (hf : Few z) (hw : z.what = 5) :
    Calls Try.prog 19 #[.pointer (some ⟨p, 0, none⟩), dagg ra n rc g m, zagg z] u0 (Acted w K Ka m ls u0) := by
  have HNum := Lib.hid num_any
  obtain ⟨hfx, hb0⟩ := Fx.start u0 (.slice ra n rc) g m z
  have hs0 := (St.start h hK).grow hb0
  obtain ⟨W0, hW0⟩ : ∃ W, W = (((u0.alloc (.cells #[.slice ra n rc, .int .i64 g, .int .i64 m] 43)).alloc (.cells #[.int .i64 z.what, .int .i64 z.n, .slice z.a z.ls.length z.c] 32)).alloc (.cells #[.slice none 0 0, .int .i64 0, .int .i64 0] 43)) := ⟨_, rfl⟩
  rw [← hW0] at hfx hb0 hs0
  obtain ⟨X0, hX0⟩ : ∃ X0, X0 = More K u0 W0 := ⟨_, rfl⟩
  rw [← hX0] at hs0
  have HX0 : Hid (∀ k, u0.heap.size ≤ k → k < W0.heap.size → X0 k) := Lib.hid (fun k h1 h2 => by rw [hX0]; exact .inr ⟨h1, h2⟩)
  have HX00 : Hid (∀ k, X0 k → K k ∨ (u0.heap.size ≤ k ∧ k < W0.heap.size)) := Lib.hid (fun k h1 => by rw [hX0] at h1; exact h1)
  have HD : Hid (DQ (fun k => (K k ∧ Ka k) ∧ k < u0.heap.size) W0 ra rc ls) := Lib.hid ((hd.mono (fun k h1 h2 => ⟨h2, h1⟩)).below hb0)
  have HKL := Lib.hid h.klt
  have HBD := Lib.hid h.bounds
  have HINV := Lib.hid h.inv
  have hu0 := h.below.size
  have HT := Lib.hid ht
  have HNL := Lib.hid hnl
  have HZ := Lib.hid hz
  have HFW := Lib.hid hf
  have HK := Lib.hid hK
  have HF0 := Lib.hid hfx
  have HS0 := Lib.hid hs0
  have HB0 := Lib.hid hb0
  have HE := Lib.hid hW0
  have hl0 := hfx.lt
  obtain ⟨⟨c0, c1, c2⟩, ⟨c3, c4, c5⟩, ⟨c6, c7, c8⟩, f6, f7, f8⟩ := hfx.cells
  have hfn : fs.length = n := by rw [ht.fs, lens_len, hnl]
  obtain ⟨k, hk⟩ : ∃ k : Int, (n : Int) - (if 0 < (g : Int) then 1 else 0) = k := ⟨_, rfl⟩
  obtain ⟨B, hB⟩ : ∃ B, B = bs.length := ⟨_, rfl⟩
  have hlen := ht.len h.inv
  rw [← hB] at hlen
  have hfl := ht.flat h.inv
  have hbm := h.bounds
  have HR : Hid (Calls Try.prog 43 #[dagg ra n rc g m] W0 fun e w' => e = .returned (.tuple #[.agg #[.slice none 0 0, .int .i64 0, .int .i64 m], .int .i64 k, .int .i64 B]) ∧ Below W0.heap.size W0 w') := Lib.hid (refClear_any ra n rc g m ls W0 (by have := HD.out.at_; rwa [hnl] at this) (by omega) (by omega) (ht.g_le h.inv) k hk B hlen)
  have HC : Hid (∀ W, ∀ X, OS w X p m fs part bs W → Calls Try.prog 13 #[.pointer (some ⟨p, 0, none⟩)] W fun e w' => e = .returned (.tuple #[.int .i64 k, .int .i64 B]) ∧ OS w X p m [] 0 [] w' ∧ Mod (fun k => ¬ X k ∧ w.heap.size ≤ k) W w') := Lib.hid (fun W X ho => by
    have := ho.clear k (by rw [hfn, ht.part]; exact hk)
    rw [← hB] at this
    exact this)
  unfold dagg at HR
  rw [hw] at c3
  unfold zagg dagg
  clear h hK hd hnl ht hz hf hfx hs0 hb0 hW0 hX0 hk hB hlen hfl hbm hfn
  go_enter Try.func19, Try.ntmps19
  rw [hw]
  rw [hw] at HE
  go_wp2_with (go_at_call 43; fail)
  rw [← HE.out]
  refine HR.out.mono ?_
  rintro e w1 ⟨rfl, hb1⟩
  obtain ⟨B4, hB4⟩ : ∃ B, B = w1.heap.size := ⟨_, rfl⟩
  obtain ⟨W2, hW2⟩ : ∃ W, W = w1.alloc (.cells #[.slice none 0 0, .int .i64 0, .int .i64 m] 43) := ⟨_, rfl⟩
  have hb2 : Below w1.heap.size w1 W2 := by rw [hW2]; exact (Below.refl _ w1).alloc (Nat.le_refl _) _
  have k2 : W2.heap[B4]? = some (.cells #[.slice none 0 0, .int .i64 0, .int .i64 m] 43 (0, 0)) := by rw [hW2, hB4]; exact alloc_blk_new _ _
  have hb02 := hb1.trans (hb2.mono hb1.size)
  have hB4s : W0.heap.size ≤ B4 := by have := hb1.size; omega
  have HB02 := Lib.hid hb02
  have K2 := Lib.hid k2
  have E2 := Lib.hid hW2
  have E4 := Lib.hid hB4
  obtain ⟨X2, hX2⟩ : ∃ X, X = More X0 W0 W2 := ⟨_, rfl⟩
  have HS2 : Hid (St w u0 K X2 p m fs part bs W2) := Lib.hid (by rw [hX2]; exact HS0.out.grow hb02)
  have HX02 : Hid (∀ q, X0 q → X2 q) := Lib.hid (fun q hq => by rw [hX2]; exact .inl hq)
  have HX2 : Hid (∀ q, u0.heap.size ≤ q → q < W2.heap.size → X2 q) := Lib.hid (fun q h1 h2 => by
    rw [hX2]
    rcases Nat.lt_or_ge q W0.heap.size with h | h
    · exact .inl (HX0.out q h1 h)
    · exact .inr ⟨h, h2⟩)
  clear hb1 hb2 k2 hb02 hW2 hB4 hX2 c0 c1 c2 c3 c4 c5 c6 c7 c8 f6 f7 f8 HR
  go_wp2_with (go_at_call 13; fail)
  rw [← E2.out, ← E4.out]
  refine (HC.out W2 X2 HS2.out.os).mono ?_
  rintro e w3 ⟨rfl, ho3, hm3⟩
  have HS3 := Lib.hid (HS2.out.step ho3 hm3)
  have HM3 := Lib.hid hm3
  have F3 := Lib.hid ((HF0.out.bel HB02.out).mod hm3 (fun q h1 h2 e => e.1 (HX02.out q (HX0.out q h1 (by omega)))))
  have K3 := Lib.hid ((hm3.block B4 (blk_lt K2.out) (fun e => e.1 (HX2.out B4 (by have := HB0.out.size; omega) (blk_lt K2.out)))).trans K2.out)
  clear ho3 hm3 HC
  obtain ⟨c0, c1, c2⟩ := cell3 K3.out
  have dk : (k == k) = true := by simp
  have dB : ((B : Int) == B) = true := by simp
  go_upto_region 33 with fail
  obtain ⟨wd, hwd⟩ : ∃ W, W = (w3).drew := ⟨_, rfl⟩
  have HBd : Hid (Below (w3).heap.size (w3) wd) := Lib.hid (by rw [hwd]; exact Below.drewN' (w3) 1)
  have hS0 : (fun W : World => W.cell? ⟨B4, 0, none⟩ = some (.slice none 0 0) ∧ W.cell? ⟨B4, 1, none⟩ = some (.int .i64 0) ∧ W.cell? ⟨B4, 2, none⟩ = some (.int .i64 m)) wd := by rw [hwd]; exact ⟨c0, c1, c2⟩
  refine wp_region_held_drew (S := fun W => W.cell? ⟨B4, 0, none⟩ = some (.slice none 0 0) ∧ W.cell? ⟨B4, 1, none⟩ = some (.int .i64 0) ∧ W.cell? ⟨B4, 2, none⟩ = some (.int .i64 m)) (by kernel_rfl) (by rw [← hwd]; exact hS0) (fun hHeld => ?_)
  rw [← hwd] at hHeld ⊢
  clear hwd hS0
  refine' wpAnyH_take (i := 0) (oi := { dst := some 156, op := Op.move (Operand.tmp 0), type := 25, pos := "law.go:78", after := #[], guard := none }) (v := ?v2001) rfl (by kernel_rfl) (by kernel_rfl) (by kernel_rfl) (fun _ _ _ h => h) (.inl ⟨by first | rfl | simp [Region.wanted, yielded], ?hy2001⟩) (by assumption) ?rest2001
  case hy2001 => (intro W hW; obtain ⟨f1, f2, f3⟩ := hW; go_simp; try with_reducible rfl)
  simp only [Act.put, List.setIfInBounds_toArray, List.set_cons_zero, List.set_cons_succ]
  refine' wpAnyH_take (i := 1) (oi := { dst := some 157, op := Op.load 43 (Operand.tmp 25), type := 43, pos := "law.go:78", after := #[{ on := 10, ground := Ground.gcOnly Departure.lateStores }], guard := none }) (v := ?v2002) rfl (by kernel_rfl) (by kernel_rfl) (by kernel_rfl) (fun _ _ _ h => h) (.inl ⟨by first | rfl | simp [Region.wanted, yielded], ?hy2002⟩) (by assumption) ?rest2002
  case hy2002 => (intro W hW; obtain ⟨f1, f2, f3⟩ := hW; go_simp; try with_reducible rfl)
  simp only [Act.put, List.setIfInBounds_toArray, List.set_cons_zero, List.set_cons_succ]
  refine' wpAnyH_take (i := 2) (oi := { dst := some 158, op := Op.move (Operand.tmp 28), type := 3, pos := "law.go:78", after := #[], guard := none }) (v := ?v2003) rfl (by kernel_rfl) (by kernel_rfl) (by kernel_rfl) (fun _ _ _ h => h) (.inl ⟨by first | rfl | simp [Region.wanted, yielded], ?hy2003⟩) (by assumption) ?rest2003
  case hy2003 => (intro W hW; obtain ⟨f1, f2, f3⟩ := hW; go_simp; try with_reducible rfl)
  simp only [Act.put, List.setIfInBounds_toArray, List.set_cons_zero, List.set_cons_succ]
  refine' wpAnyH_take (i := 3) (oi := { dst := some 159, op := Op.move (Operand.tmp 26), type := 3, pos := "law.go:78", after := #[], guard := none }) (v := ?v2004) rfl (by kernel_rfl) (by kernel_rfl) (by kernel_rfl) (fun _ _ _ h => h) (.inl ⟨by first | rfl | simp [Region.wanted, yielded], ?hy2004⟩) (by assumption) ?rest2004
  case hy2004 => (intro W hW; obtain ⟨f1, f2, f3⟩ := hW; go_simp; try with_reducible rfl)
  simp only [Act.put, List.setIfInBounds_toArray, List.set_cons_zero, List.set_cons_succ]
  refine' wpAnyH_take (i := 4) (oi := { dst := some 160, op := Op.binOp BinOp.eql 3 (Operand.tmp 158) (Operand.tmp 159) 3, type := 4, pos := "law.go:78", after := #[{ on := 2, ground := Ground.data }, { on := 3, ground := Ground.data }], guard := none }) (v := ?v2005) rfl (by kernel_rfl) (by kernel_rfl) (by kernel_rfl) (fun _ _ _ h => h) (.inl ⟨by first | rfl | simp [Region.wanted, yielded], ?hy2005⟩) (by assumption) ?rest2005
  case hy2005 => (intro W hW; obtain ⟨f1, f2, f3⟩ := hW; go_simp; try with_reducible rfl)
  simp only [Act.put, List.setIfInBounds_toArray, List.set_cons_zero, List.set_cons_succ]
  refine' wpAnyH_take (i := 5) (oi := { dst := some 161, op := Op.move (Operand.tmp 160), type := 4, pos := "law.go:78", after := #[{ on := 4, ground := Ground.data }], guard := none }) (v := ?v2006) rfl (by kernel_rfl) (by kernel_rfl) (by kernel_rfl) (fun _ _ _ h => h) (.inl ⟨by first | rfl | simp [Region.wanted, yielded], ?hy2006⟩) (by assumption) ?rest2006
  case hy2006 => (intro W hW; obtain ⟨f1, f2, f3⟩ := hW; go_simp; try with_reducible rfl)
  simp only [Act.put, List.setIfInBounds_toArray, List.set_cons_zero, List.set_cons_succ]
  refine' wpAnyH_take (i := 6) (oi := { dst := some 162, op := Op.move (Operand.tmp 29), type := 3, pos := "law.go:78", after := #[{ on := 5, ground := Ground.guard }, { on := 11, ground := Ground.gcOnly Departure.lateStores }], guard := some (5, true) }) (v := ?v2007) rfl (by kernel_rfl) (by kernel_rfl) (by kernel_rfl) (fun _ _ _ h => h) (.inl ⟨by first | rfl | simp [Region.wanted, yielded], ?hy2007⟩) (by assumption) ?rest2007
  case hy2007 => (intro W hW; obtain ⟨f1, f2, f3⟩ := hW; go_simp; try with_reducible rfl)
  simp only [Act.put, List.setIfInBounds_toArray, List.set_cons_zero, List.set_cons_succ]
  refine' wpAnyH_take (i := 7) (oi := { dst := some 163, op := Op.move (Operand.tmp 27), type := 3, pos := "law.go:78", after := #[{ on := 5, ground := Ground.guard }, { on := 11, ground := Ground.gcOnly Departure.lateStores }], guard := some (5, true) }) (v := ?v2008) rfl (by kernel_rfl) (by kernel_rfl) (by kernel_rfl) (fun _ _ _ h => h) (.inl ⟨by first | rfl | simp [Region.wanted, yielded], ?hy2008⟩) (by assumption) ?rest2008
  case hy2008 => (intro W hW; obtain ⟨f1, f2, f3⟩ := hW; go_simp; try with_reducible rfl)
  simp only [Act.put, List.setIfInBounds_toArray, List.set_cons_zero, List.set_cons_succ]
  refine' wpAnyH_take (i := 8) (oi := { dst := some 164, op := Op.binOp BinOp.eql 3 (Operand.tmp 162) (Operand.tmp 163) 3, type := 4, pos := "law.go:78", after := #[{ on := 6, ground := Ground.data }, { on := 7, ground := Ground.data }, { on := 5, ground := Ground.guard }, { on := 11, ground := Ground.gcOnly Departure.lateStores }], guard := some (5, true) }) (v := ?v2009) rfl (by kernel_rfl) (by kernel_rfl) (by kernel_rfl) (fun _ _ _ h => h) (.inl ⟨by first | rfl | simp [Region.wanted, yielded], ?hy2009⟩) (by assumption) ?rest2009
  case hy2009 => (intro W hW; obtain ⟨f1, f2, f3⟩ := hW; go_simp; try with_reducible rfl)
  simp only [Act.put, List.setIfInBounds_toArray, List.set_cons_zero, List.set_cons_succ]
  refine' wpAnyH_take (i := 9) (oi := { dst := some 165, op := Op.pick (Operand.tmp 161) (Operand.tmp 164) (Operand.const (Value.bool false)), type := 4, pos := "law.go:78", after := #[{ on := 5, ground := Ground.data }, { on := 8, ground := Ground.data }, { on := 11, ground := Ground.gcOnly Departure.lateStores }], guard := none }) (v := ?v2010) rfl (by kernel_rfl) (by kernel_rfl) (by kernel_rfl) (fun _ _ _ h => h) (.inl ⟨by first | rfl | simp [Region.wanted, yielded], ?hy2010⟩) (by assumption) ?rest2010
  case hy2010 => (intro W hW; obtain ⟨f1, f2, f3⟩ := hW; go_simp; try with_reducible rfl)
  simp only [Act.put, List.setIfInBounds_toArray, List.set_cons_zero, List.set_cons_succ]
  refine' wpAnyH_take (i := 10) (oi := { dst := some 6, op := Op.assign (Operand.tmp 156), type := 25, pos := "law.go:78", after := #[{ on := 0, ground := Ground.data }, { on := 5, ground := Ground.chain }, { on := 0, ground := Ground.phase }, { on := 1, ground := Ground.textOnly Departure.lateStores }, { on := 2, ground := Ground.textOnly Departure.lateStores }, { on := 3, ground := Ground.textOnly Departure.lateStores }, { on := 4, ground := Ground.textOnly Departure.lateStores }, { on := 5, ground := Ground.textOnly Departure.lateStores }, { on := 6, ground := Ground.textOnly Departure.lateStores }, { on := 7, ground := Ground.textOnly Departure.lateStores }, { on := 8, ground := Ground.textOnly Departure.lateStores }, { on := 9, ground := Ground.textOnly Departure.lateStores }], guard := none }) (v := ?v2011) rfl (by kernel_rfl) (by kernel_rfl) (by kernel_rfl) (fun _ _ _ h => h) (.inl ⟨by first | rfl | simp [Region.wanted, yielded], ?hy2011⟩) (by assumption) ?rest2011
  case hy2011 => (intro W hW; obtain ⟨f1, f2, f3⟩ := hW; go_simp; try with_reducible rfl)
  simp only [Act.put, List.setIfInBounds_toArray, List.set_cons_zero, List.set_cons_succ]
  refine wpAnyH_ready (rs := [11]) (by kernel_rfl) (by simp) ?_
  refine AllReadyH.cons (o := { dst := none, op := Op.store 43 (Operand.tmp 7) (Operand.tmp 157), type := 0, pos := "law.go:78", after := #[{ on := 1, ground := Ground.data }, { on := 10, ground := Ground.chain }, { on := 0, ground := Ground.phase }, { on := 1, ground := Ground.phase }, { on := 2, ground := Ground.textOnly Departure.lateStores }, { on := 3, ground := Ground.textOnly Departure.lateStores }, { on := 4, ground := Ground.textOnly Departure.lateStores }, { on := 5, ground := Ground.textOnly Departure.lateStores }, { on := 6, ground := Ground.textOnly Departure.lateStores }, { on := 7, ground := Ground.textOnly Departure.lateStores }, { on := 8, ground := Ground.textOnly Departure.lateStores }, { on := 9, ground := Ground.textOnly Departure.lateStores }, { on := 10, ground := Ground.phase }], guard := none }) rfl (fun KK hK => ?_) (AllReadyH.nil)
  try simp only [List.getElem_toArray, List.getElem_cons_succ, List.getElem_cons_zero]
  have FD := F3.out.bel HBd.out
  have KD := (HBd.out.block B4 (blk_lt K3.out)).trans K3.out
  obtain ⟨s0, s1, s2⟩ := cell3 FD.b2
  have s3 := frozen_blk FD.b2 0
  have s4 := frozen_blk FD.b2 1
  have s5 := frozen_blk FD.b2 2
  have s6 := blk_lt FD.b2
  go_simp
  obtain ⟨hb6, hm6⟩ := set3 (a := .slice none 0 0) (b := .int .i64 0) (c := .int .i64 m) FD.b2
  have hx6 := (hm6.block _ (blk_lt KD) (by omega)).trans KD
  have hSn2 : (fun W : World => W.cell? ⟨B4, 0, none⟩ = some (.slice none 0 0) ∧ W.cell? ⟨B4, 1, none⟩ = some (.int .i64 0) ∧ W.cell? ⟨B4, 2, none⟩ = some (.int .i64 m)) (((wd.setCell ⟨u0.heap.size + 1 + 1, 0, none⟩ (.slice none 0 0)).setCell ⟨u0.heap.size + 1 + 1, 1, none⟩ (.int .i64 0)).setCell ⟨u0.heap.size + 1 + 1, 2, none⟩ (.int .i64 m)) := cell3 hx6
  have HB6 := Lib.hid hb6
  have HM6 := Lib.hid hm6
  clear s0 s1 s2 s3 s4 s5 s6 hb6 hm6 hx6
  clear FD KD
  refine hK.out _ _ (by assumption) (fun hHeld => ?_)
  clear hK KK
  try simp only [Act.put, List.setIfInBounds_toArray, List.set_cons_zero, List.set_cons_succ]
  refine' wpAnyH_take (i := 12) (oi := { dst := some 8, op := Op.assign (Operand.tmp 165), type := 4, pos := "law.go:78", after := #[{ on := 9, ground := Ground.data }, { on := 11, ground := Ground.chain }, { on := 0, ground := Ground.phase }, { on := 1, ground := Ground.phase }, { on := 2, ground := Ground.phase }, { on := 3, ground := Ground.phase }, { on := 4, ground := Ground.phase }, { on := 5, ground := Ground.phase }, { on := 6, ground := Ground.phase }, { on := 7, ground := Ground.phase }, { on := 8, ground := Ground.phase }, { on := 9, ground := Ground.phase }, { on := 10, ground := Ground.phase }, { on := 11, ground := Ground.phase }], guard := none }) (v := ?v2012) rfl (by kernel_rfl) (by kernel_rfl) (by kernel_rfl) (fun _ _ _ h => h) (.inl ⟨by first | rfl | simp [Region.wanted, yielded], ?hy2012⟩) (by assumption) ?rest2012
  case hy2012 => (intro W hW; obtain ⟨f1, f2, f3⟩ := hW; go_simp; try with_reducible rfl)
  simp only [Act.put, List.setIfInBounds_toArray, List.set_cons_zero, List.set_cons_succ]
  refine wpAnyH_done (by kernel_rfl) ?_ _
  have e0 : (((wd.setCell ⟨u0.heap.size + 1 + 1, 0, none⟩ (.slice none 0 0)).setCell ⟨u0.heap.size + 1 + 1, 1, none⟩ (.int .i64 0)).setCell ⟨u0.heap.size + 1 + 1, 2, none⟩ (.int .i64 m)).cell? ⟨u0.heap.size + 1 + 1, 0, none⟩ = some (.slice none 0 0) := (cell3 HB6.out).1
  have e1 : (((wd.setCell ⟨u0.heap.size + 1 + 1, 0, none⟩ (.slice none 0 0)).setCell ⟨u0.heap.size + 1 + 1, 1, none⟩ (.int .i64 0)).setCell ⟨u0.heap.size + 1 + 1, 2, none⟩ (.int .i64 m)).cell? ⟨u0.heap.size + 1 + 1, 1, none⟩ = some (.int .i64 0) := (cell3 HB6.out).2.1
  have e2 : (((wd.setCell ⟨u0.heap.size + 1 + 1, 0, none⟩ (.slice none 0 0)).setCell ⟨u0.heap.size + 1 + 1, 1, none⟩ (.int .i64 0)).setCell ⟨u0.heap.size + 1 + 1, 2, none⟩ (.int .i64 m)).cell? ⟨u0.heap.size + 1 + 1, 2, none⟩ = some (.int .i64 m) := (cell3 HB6.out).2.2
  obtain ⟨w6, hw6⟩ : ∃ W, W = (((wd.setCell ⟨u0.heap.size + 1 + 1, 0, none⟩ (.slice none 0 0)).setCell ⟨u0.heap.size + 1 + 1, 1, none⟩ (.int .i64 0)).setCell ⟨u0.heap.size + 1 + 1, 2, none⟩ (.int .i64 m)) := ⟨_, rfl⟩
  rw [← hw6] at e0 e1 e2 ⊢
  have HM6' : Hid (Mod (fun k => k = u0.heap.size + 2) wd w6) := Lib.hid (by rw [hw6]; exact HM6.out)
  clear hw6 hSn2 HM6 HB6
  go_wp2
  refine bodyPost_ret (v := .tuple #[.pointer (some ⟨p, 0, none⟩), .agg #[.slice none 0 0, .int .i64 0, .int .i64 m], .bool true]) (by simp [results, Try.results19, go_sem, *]) rfl ?_
  have hs1 := HB0.out.size
  exact acted_fin (ls' := []) (g' := 0) (HS3.out.grow HBd.out) ⟨⟨rfl, fun h => by simp at h⟩, Nat.le_refl _, by unfold maxLen; omega, fun _ => ⟨rfl, rfl⟩⟩ ⟨rfl, rfl, rfl⟩ rfl (.inl (HX2.out _ (by omega) (by have := HB02.out.size; omega))) (by omega) HM6'.out (by omega) (fun _ l hl => by simp at hl)
end Go.Proofs.Ytneeagabmdpjgaa
