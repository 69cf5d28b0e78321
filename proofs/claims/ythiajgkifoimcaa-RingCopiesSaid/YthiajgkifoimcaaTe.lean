/-
  The ring: From, Copy.
-/
import Derived.Test.YthiajgkifoimcaaTd
import Derived.Test.YthiajgkifoimcaaOrd
namespace Go.Proofs.Ythiajgkifoimcaa
open Go.RowKit
set_option linter.unusedVariables false
set_option linter.unusedSimpArgs false

/-- A row that grows, in a box. -/
structure Bx (w0 : World) (b : Nat) (W : World) (cv v : Value) (n : Nat) (l : List Value) (x : Value) : Prop where
  box : W.heap[b]? = some (.cells #[cv] 23 (0, 0))
  box2 : W.heap[b + 1]? = some (.cells #[x] 22 (0, 0))
  row : W.ownsRow (b + 2) 3 1 v n l
  below : Below b w0 W
section
variable {w0 W W' : World} {b n n' : Nat} {cv v v' x : Value} {l l' : List Value}
theorem Bx.lt (h : Bx w0 b W cv v n l x) : b + 1 < W.heap.size := blk_lt h.box2
theorem Bx.drew (h : Bx w0 b W cv v n l x) : Bx w0 b W.drew cv v n l x := ⟨h.box, h.box2, h.row, ⟨h.below.os, h.below.tape, h.below.output, h.below.size, h.below.block⟩⟩
theorem Bx.alloc (h : Bx w0 b W cv v n l x) (o : Obj) : Bx w0 b (W.alloc o) cv v n l x := ⟨alloc_blk h.box o, alloc_blk h.box2 o, h.row.alloc o, h.below.alloc (by have := h.lt; omega) o⟩
theorem Bx.app (h : Bx w0 b W cv v n l x) (hg : W.grownBy W' v.ownBlock) (hown : W'.ownsRow (b + 2) 3 1 v' n' l') : Bx w0 b W' cv v' n' l' x := by
  have hl := h.lt
  have hA := h.row.lt
  have hm : Mod (fun k => v.ownBlock = some k) W W' := ⟨hg.os, hg.tape, hg.output, hg.size, fun k hk hn => hg.block k hk (fun e => hn e.symm)⟩
  exact ⟨(hm.block _ (by omega) (fun e => by have := (hA _ e).1; omega)).trans h.box, (hm.block _ (by omega) (fun e => by have := (hA _ e).1; omega)).trans h.box2, hown,
    ⟨hm.os.trans h.below.os, hm.tape.trans h.below.tape, hm.output.trans h.below.output, Nat.le_trans h.below.size hm.size, fun k hk => (hm.block k (by omega) (fun e => by have := (hA _ e).1; omega)).trans (h.below.block k hk)⟩⟩
theorem Bx.set (h : Bx w0 b W cv v n l x) (y : Value) : Bx w0 b (W.setCell ⟨b, 0, none⟩ y) y v n l x := by
  have hA := h.row.lt
  have hm : Mod (fun k => k = b) W (W.setCell ⟨b, 0, none⟩ y) := (Mod.refl (fun k => k = b) W).setCell ⟨b, 0, none⟩ (.inl rfl) y
  exact ⟨by rw [setCell_blk h.box]; rfl, (setCell_blk_ne (by simp) y).trans h.box2, hm.row h.row (fun k hk e => by have := (hA k hk).1; omega), h.below.setCell (p := ⟨b, 0, none⟩) (Nat.le_refl _) y⟩
end

set_option maxHeartbeats 3200000 in
set_option maxRecDepth 100000 in
theorem From_ring (base p : Nat) (F m at' : Int) (sv : Value) (L : List Int) (w : World) (h : Ring w base p F m sv L) (ha0 : 0 ≤ at') (ha1 : at' ≤ 18446744073709551615) :
    Calls Try.prog 23 #[.pointer (some ⟨p, 0, none⟩), .int .u64 at'] w fun e w' => ∃ v, e = .returned (.func (.func 37) #[] #[.pointer (some ⟨w.heap.size, 0, none⟩), .pointer (some ⟨w.heap.size + 1, 0, none⟩)]) ∧
      Bx w w.heap.size w' v v (L.drop (at' - F).toNat).length ((L.drop (at' - F).toNat).map (.int .i64)) (.int .u64 (max at' F)) := by
  obtain ⟨i0, hi0, hz0, hz1, hz2⟩ := info_parts Try.info3
  have hbd := h.b
  obtain ⟨x, hx⟩ : ∃ x, x = max at' F := ⟨_, rfl⟩
  obtain ⟨off, hoff⟩ : ∃ off, off = (at' - F).toNat := ⟨_, rfl⟩
  rw [← hx, ← hoff]
  have key : (at' < F ∧ x = F) ∨ (F < at' ∧ x = at') ∨ (at' = F ∧ x = at') := by omega
  have hxo : x = F + off := by omega
  have hx0 : 0 ≤ x := by omega
  have hx1 : x ≤ 18446744073709551615 := by omega
  obtain ⟨N, hN⟩ : ∃ N, N = F + (L.length : Int) := ⟨_, rfl⟩
  obtain ⟨M, hM⟩ : ∃ M, M = L.drop off := ⟨_, rfl⟩
  have hMl : M.length = L.length - off := by rw [hM, List.length_drop]
  have hN1 : N ≤ 18446744073709551615 := by omega
  have hLl : L.length ≤ 4096 := by omega
  have HF := Lib.hid (fun (W : World) (hW : Ring W base p F m sv L) => First_ring base p F m sv L W hW)
  have HX : Hid (∀ (W : World), Ring W base p F m sv L → Calls Try.prog 11 #[.pointer (some ⟨p, 0, none⟩)] W fun e w' => e = .returned (.int .u64 N) ∧ W = w') := Lib.hid (fun W hW => by rw [hN]; exact Next_ring base p F m sv L W hW)
  have HV := Lib.hid (fun (W : World) (hW : Ring W base p F m sv L) a j hj ha => value_ring base p F m sv L W hW a j hj ha)
  have HR := Lib.hid h
  have hb0 : Bx w w.heap.size ((w.alloc (.cells #[.slice none 0 0] 23)).alloc (.cells #[.int .u64 x] 22)) (.slice none 0 0) (.slice none 0 0) 0 [] (.int .u64 x) := by
    have b1 : (w.alloc (.cells #[.slice none 0 0] 23)).heap.size = w.heap.size + 1 := by simp
    refine ⟨alloc_blk (alloc_blk_new _ _) _, ?_, World.ownsRow_nil _ _ _ _, ((Below.refl _ _).alloc (Nat.le_refl _) _).alloc (by simp) _⟩
    rw [← b1]; exact alloc_blk_new _ _
  have HB0 := Lib.hid hb0
  have HMl := Lib.hid hMl
  have HMd := Lib.hid hM
  have HNd := Lib.hid hN
  have HXO := Lib.hid hxo
  have hb1 : Below w.heap.size w (w.alloc (.cells #[.slice none 0 0] 23)) := (Below.refl _ _).alloc (Nat.le_refl _) _
  have HR1 := Lib.hid (HR.out.below hb1)
  rw [← hM]
  clear h hbd hx hoff hb0 hMl hM hN hxo hb1
  obtain ⟨w0, hw0⟩ : ∃ W, W = w := ⟨_, rfl⟩
  have HBd := Lib.hid HR.out.b
  rcases key with ⟨k1, rfl⟩ | ⟨k1, rfl⟩ | ⟨rfl, rfl⟩
  all_goals
    go_enter Try.func23, Try.ntmps23
    go_wp2_with (go_at_call 14; refine (HF.out _ HR1.out).mono ?_; rintro e w' ⟨rfl, rfl⟩)
    go_loopg [7] M.length (fun gk v7 wr => ∃ t : Nat, v7 = .int .u64 (x + t) ∧ t ≤ M.length ∧ gk = M.length - t ∧ ∃ v, Bx w w.heap.size wr v v t ((M.take t).map (.int .i64)) (.int .u64 x))
    case atStart => exact ⟨0, by simp, by omega, rfl, _, by simpa using HB0.out⟩
    case round =>
      obtain ⟨t, rfl, ht, hgk, v, hB⟩ := hrel
      have HG := Lib.hid hgk
      have HB := Lib.hid hB
      have HRr := Lib.hid (HR.out.below hB.below)
      have hXr := Lib.hid (HX.out wr HRr.out)
      have hmm := HMl.out
      have hnn := HNd.out
      have hxx := HXO.out
      clear hgk hB
      by_cases hlt : t < M.length
      · have hj : off + t < L.length := by omega
        obtain ⟨y, hy⟩ : ∃ y, y = L.getD (off + t) 0 := ⟨_, rfl⟩
        have hV := Lib.hid (fun W hW => HV.out W hW (x + t) (off + t) hj (by omega))
        rw [← hy] at hV
        have HY := Lib.hid hy
        have hxt : x + (t : Int) < N := by omega
        have hd : decide (x + (t : Int) < N) = true := by simpa using hxt
        obtain ⟨i, cap, rfl⟩ := row_slice HB.out.row
        have hbl := HB.out.lt
        have hbl0 : w.heap.size < wr.heap.size := by omega
        have hc5 := cell_blk HB.out.box 0 _ rfl
        have hf5 := frozen_blk HB.out.box 0
        clear hy hj hmm hnn hxx
        go_wp2_with (go_at_call 11; refine hXr.out.mono ?_; rintro e w' ⟨rfl, rfl⟩)
        refine wp_region_K 6 (fun W => W.cell? ⟨w.heap.size, 0, none⟩ = some (.slice i t cap)) (by kernel_rfl) ?_
        have hBd := HB.out.drew
        obtain ⟨wd, hwd⟩ : ∃ W, W = wr.drew := ⟨_, rfl⟩
        rw [← hwd] at hBd ⊢
        have hS0 : wd.cell? ⟨w.heap.size, 0, none⟩ = some (.slice i t cap) := cell_blk hBd.box 0 _ rfl
        have hRd := Lib.hid (hV.out wd (HR.out.below hBd.below))
        clear hwd hc5 hf5
        refine wpAnyK_take (i := 0) (oi := { dst := some 19, op := Op.load 23 (Operand.tmp 5), type := 23, pos := "ring.go:125", after := #[], guard := none }) (v := .slice i t cap) rfl (by kernel_rfl) (by kernel_rfl) (by kernel_rfl) [] (by kernel_rfl) (by decide) (by kernel_rfl) (by kernel_rfl) (fun _ _ _ h => h) hS0 (.inl ⟨by rfl, fun W hW => ?_⟩) ?_
        · go_simp
        simp only [Act.put, List.setIfInBounds_toArray, List.set_cons_zero, List.set_cons_succ]
        refine wpAnyK_take (i := 1) (oi := { dst := some 20, op := Op.move (Operand.tmp 0), type := 25, pos := "ring.go:125", after := #[], guard := none }) (v := .pointer (some ⟨p, 0, none⟩)) rfl (by kernel_rfl) (by kernel_rfl) (by kernel_rfl) [] (by kernel_rfl) (by decide) (by kernel_rfl) (by kernel_rfl) (fun _ _ _ h => h) hS0 (.inl ⟨by rfl, fun W hW => ?_⟩) ?_
        · go_simp
        simp only [Act.put, List.setIfInBounds_toArray, List.set_cons_zero, List.set_cons_succ]
        refine wpAnyK_take (i := 2) (oi := { dst := some 21, op := Op.move (Operand.tmp 7), type := 22, pos := "ring.go:125", after := #[], guard := none }) (v := .int .u64 (x + t)) rfl (by kernel_rfl) (by kernel_rfl) (by kernel_rfl) [] (by kernel_rfl) (by decide) (by kernel_rfl) (by kernel_rfl) (fun _ _ _ h => h) hS0 (.inl ⟨by rfl, fun W hW => ?_⟩) ?_
        · go_simp
        simp only [Act.put, List.setIfInBounds_toArray, List.set_cons_zero, List.set_cons_succ]
        refine wpAnyK_ready (rs := [3]) (by kernel_rfl) (by simp) ?_
        refine AllReadyK.cons (o := { dst := some 22, op := Op.call { callee := Callee.value (Operand.func 28), args := #[Operand.tmp 20, Operand.tmp 21], argTypes := #[25, 22] }, type := 3, pos := "ring.go:125", after := #[{ on := 1, ground := Ground.data }, { on := 2, ground := Ground.data }], guard := none }) rfl (fun K hK => ?_) AllReadyK.nil
        go_simp
        refine hRd.out.mono ?_
        rintro e w' ⟨rfl, rfl⟩
        refine hK.out _ _ (fun _ => hS0) ?_
        clear hK K
        try simp only [Act.put, List.setIfInBounds_toArray, List.set_cons_zero, List.set_cons_succ]
        refine wpAnyK_ready (rs := [4]) (by kernel_rfl) (by simp) ?_
        refine AllReadyK.cons (o := { dst := some 23, op := Op.buildSlice 23 1 #[(0, Operand.tmp 22)], type := 23, pos := "ring.go:125", after := #[{ on := 3, ground := Ground.data }], guard := none }) rfl (fun K hK => ?_) AllReadyK.nil
        have T1 := hBd.alloc (.cells #[.int .i64 y] 3)
        have N1 := blkNew wd (.cells #[.int .i64 y] 3) wd.heap.size (by simp)
        go_simp
        refine hK.out _ _ (fun _ => cell_blk T1.box 0 _ rfl) ?_
        clear hK K
        try simp only [Act.put, List.setIfInBounds_toArray, List.set_cons_zero, List.set_cons_succ]
        refine wpAnyK_ready (rs := [5]) (by kernel_rfl) (by simp) ?_
        refine AllReadyK.cons rfl (fun K hK => ?_) AllReadyK.nil
        have hl1 := T1.lt
        have htl : t ≤ 4096 := by have := HMl.out; omega
        refine step_append_f rfl (.tmp 19) (.tmp 23) 23 rfl (w.heap.size + 2) 3 i0 (.int .i64 0) 1 8 Try.underlying23 hi0 hz0 hz1 hz2 rfl (by decide) _ _ _ (by rfl) T1.row (some ⟨wd.heap.size, 0, none⟩) 1 1 [.int .i64 y] (by rfl) rfl (fun h => by cases h) (news_one N1) (fun u hu => by simp at hu; subst hu; rfl) (by unfold maxLen; omega) (by omega) (by omega) ?_
        intro v2 w2 hown2 hg2 hf2
        obtain ⟨a2, e2, rfl⟩ := row_slice hown2
        have T2 := T1.app hg2 hown2
        refine hK.out _ _ (fun _ => cell_blk T2.box 0 _ rfl) ?_
        clear hK K
        try simp only [Act.put, List.setIfInBounds_toArray, List.set_cons_zero, List.set_cons_succ]
        refine wpAnyK_ready (rs := [6]) (by kernel_rfl) (by simp) ?_
        refine AllReadyK.cons rfl (fun K hK => ?_) AllReadyK.nil
        have c5 := cell_blk T2.box 0 _ rfl
        have f5 := frozen_blk T2.box 0
        have l5 := T2.lt
        have T3 := T2.set (.slice a2 (t + 1) e2)
        go_simp
        refine hK.out _ _ (fun h => absurd (show true = false from h) (by decide)) ?_
        clear hK K
        try simp only [Act.put, List.setIfInBounds_toArray, List.set_cons_zero, List.set_cons_succ]
        refine wpAnyK_done (by kernel_rfl) ?_ _
        have T4 : Hid (Bx w w.heap.size (w2.setCell ⟨w.heap.size, 0, none⟩ (.slice a2 (t + 1) e2)) (.slice a2 (t + 1) e2) (.slice a2 (t + 1) e2) (t + 1) ((M.take (t + 1)).map (.int .i64)) (.int .u64 x)) := Lib.hid (by
          have hMt : M.take (t + 1) = M.take t ++ [y] := by
            rw [List.take_succ_eq_append_getElem hlt]
            have h1 : M[t] = y := by
              rw [HY.out]
              have h2 := HMd.out
              have h3 : off + t < L.length := by have := HMl.out; omega
              simp [h2, List.getD, h3]
            rw [h1]
          rw [hMt]
          simpa using T3)
        clear T3 T2 T1 hBd c5 f5 hg2 hf2 hown2 N1
        go_wp2_with fail
        go_roundg (M.length - (t + 1))
        case measure => have := HG.out; omega
        case rel => exact ⟨t + 1, by go_num, by omega, rfl, _, T4.out⟩
      · obtain rfl : M.length = t := by omega
        have hd : decide (x + (M.length : Int) < N) = false := by simp; omega
        clear hmm hnn hxx
        go_wp2_with (go_at_call 11; refine hXr.out.mono ?_; rintro e w' ⟨rfl, rfl⟩)
        go_ret
        refine ⟨v, rfl, ?_⟩
        have := HB.out
        rwa [List.take_length] at this
end Go.Proofs.Ythiajgkifoimcaa
