/-
  The document's queue: Take.
-/
import Derived.Test.YtneeagabmdpjgaaPc
namespace Go.Proofs.Ytneeagabmdpjgaa
open Go.RowKit
set_option linter.unusedVariables false
set_option linter.unusedSimpArgs false

theorem Tie.step {ls : List (List Int)} {bs : List Int} {j gj k : Nat} {x : List Int} {l : List (List Int)} (hd : bs.drop k = (ls.drop j).flatten.drop gj) (hx : ls.drop j = x :: l) (hg : gj ≤ x.length) (r : Nat) (hr : r ≤ x.length - gj) :
    bs.take (k + r) = bs.take k ++ (x.drop gj).take r ∧ bs.drop (k + r) = (x.drop (gj + r)) ++ l.flatten := by
  rw [hx, List.flatten_cons, List.drop_append_of_le_length hg] at hd
  refine ⟨?_, ?_⟩
  · rw [List.take_add, hd, List.take_append_of_le_length (by rw [List.length_drop]; exact hr)]
  · rw [← List.drop_drop, hd, List.drop_append_of_le_length (by rw [List.length_drop]; exact hr), List.drop_drop]
theorem drop_cons {α : Type} {ls : List α} {j : Nat} (h : j < ls.length) : ∃ x, ls.drop j = x :: ls.drop (j + 1) ∧ ls[j]? = some x := ⟨ls[j], List.drop_eq_getElem_cons h, by simp [h]⟩

set_option maxHeartbeats 3200000 in
set_option maxRecDepth 100000 in
theorem refTake_any {T : Nat → Prop} (a : Option Addr) (n c g : Nat) (m : Int) (ls : List (List Int)) (w : World) (h : DQ T w a c ls) (hnl : ls.length = n) {fs bs : List Int} {part : Int} (ht : Tie ls g fs part bs) (hi : OInv fs part bs) (hn : n ≤ 100000) (M : Nat) (hM : M ≤ 9223372036854775807) (k : Nat) (hk : kOf M bs.length = k) (j : Nat) (t : Int) (hg : goL fs (part + k) = (j, t)) :
    Calls Try.prog 42 #[dagg a n c g m, .int .i64 M] w fun e w' => ∃ a' c' g', e = .returned (.tuple #[dagg a' (n - j) c' g' m, .string (strOfNums (bs.take k)), .int .i64 j, .int .i64 0]) ∧ DQ T w' a' c' (ls.drop j) ∧ Below w.heap.size w w' ∧ Tie (ls.drop j) g' (fs.drop j) t (bs.drop k) := by
  have k0 := alloc_blk (alloc_blk_new w (.cells #[.slice a n c, .int .i64 g, .int .i64 m] 43)) (.cells #[.slice none 0 0, .int .i64 0, .int .i64 0] 43)
  have k1 := alloc_blk_new (w.alloc (.cells #[.slice a n c, .int .i64 g, .int .i64 m] 43)) (.cells #[.slice none 0 0, .int .i64 0, .int .i64 0] 43)
  have hb2 := (((Below.refl _ w).alloc (Nat.le_refl _) (.cells #[.slice a n c, .int .i64 g, .int .i64 m] 43)).alloc (by simp) (.cells #[.slice none 0 0, .int .i64 0, .int .i64 0] 43))
  obtain ⟨X, hX⟩ : ∃ X, X = w.heap.size := ⟨_, rfl⟩
  have s1 : (w.alloc (.cells #[.slice a n c, .int .i64 g, .int .i64 m] 43)).heap.size = X + 1 := by rw [hX]; simp
  obtain ⟨w2, hw2⟩ : ∃ W, W = (w.alloc (.cells #[.slice a n c, .int .i64 g, .int .i64 m] 43)).alloc (.cells #[.slice none 0 0, .int .i64 0, .int .i64 0] 43) := ⟨_, rfl⟩
  rw [s1] at k1
  rw [← hX] at k0
  rw [← hw2] at k0 k1 hb2
  have HB := Lib.hid hb2
  have K0 := Lib.hid k0
  have K1 := Lib.hid k1
  have E2 := Lib.hid hw2
  have EX := Lib.hid hX
  have h' := (h.at_.mono (U := fun k => T k ∧ k < w.heap.size) (fun k h1 h2 => ⟨h2, h1⟩)).below hb2
  rw [hnl] at h'
  have HH := Lib.hid (And.intro h' (And.intro (show n ≤ c by rw [← hnl]; exact h.cl) (And.intro h.cm (show a = none → n = 0 ∧ c = 0 by rw [← hnl]; exact h.nn))))
  have hsl := ht.g_le hi
  have hbl := ht.len hi
  have hgb := ht.g_big hi
  have hbig := ht.big hi
  have HBG := Lib.hid hbig
  have HT := Lib.hid ht
  have HI := Lib.hid hi
  have HK := Lib.hid hk
  have HG := Lib.hid hg
  have HNL := Lib.hid hnl
  unfold dagg
  have t0 : decide ((M : Int) < 0) = false := by simp
  have hstart : bs.drop 0 = (ls.drop 0).flatten.drop g ∧ sumI (fs.take 0) + g = part + (0 : Nat) ∧ (∀ x l, ls.drop 0 = x :: l → g < x.length) ∧ (ls.drop 0 = [] → g = 0) := by
    refine ⟨by simpa using ht.bs, by simp [sumI, ht.part], fun x l e => ?_, fun e => ?_⟩
    · have := hi.head x.length (lens l) (by rw [ht.fs]; rw [List.drop_zero] at e; rw [e]; rfl)
      rw [ht.part] at this
      omega
    · have := hi.nil (by rw [ht.fs]; rw [List.drop_zero] at e; rw [e]; rfl)
      rw [ht.part] at this
      omega
  have HS := Lib.hid hstart
  clear h h' k0 k1 hb2 hw2 hX s1 hbig ht hi hk hg hnl hstart hsl hbl
  go_enter Try.func42, Try.ntmps42
  go_upto_region 4 with fail
  rw [← E2.out, ← EX.out]
  go_wp2_with fail
  go_loopg [1, 8, 9] n (fun gk v1 v8 v9 wr => ∃ (j' k' gj y : Nat) (a' : Option Addr) (c' : Nat), v1 = .int .i64 y ∧ v8 = .string (strOfNums (bs.take k')) ∧ v9 = .int .i64 j' ∧ j' ≤ n ∧ gk = n - j' ∧ y + k' = M ∧ k' ≤ bs.length ∧
    (bs.drop k' = (ls.drop j').flatten.drop gj ∧ sumI (fs.take j') + gj = part + (k' : Nat) ∧ (∀ x l, ls.drop j' = x :: l → gj < x.length) ∧ (ls.drop j' = [] → gj = 0)) ∧
    wr.heap[X]? = some (.cells #[.slice a' (n - j') c', .int .i64 gj, .int .i64 m] 43 (0, 0)) ∧ wr.heap[X + 1]? = some (.cells #[.slice none 0 0, .int .i64 0, .int .i64 0] 43 (0, 0)) ∧ Below X w wr ∧ StrR (fun k => T k ∧ k < X) wr a' (n - j') ((ls.drop j').map strOfNums) ∧ n - j' ≤ c' ∧ c' ≤ maxLen ∧ (a' = none → n - j' = 0 ∧ c' = 0))
  case atStart => exact ⟨0, 0, g, M, a, c, rfl, rfl, rfl, by omega, rfl, by omega, by omega, HS.out, K0.out, K1.out, by rw [EX.out]; exact HB.out, by rw [EX.out]; exact HH.out.1, HH.out.2.1, HH.out.2.2.1, HH.out.2.2.2⟩
  case round =>
    obtain ⟨j', k', gj, y, a', c', rfl, rfl, rfl, hj', hgk, hy, hk', hinv, hX0, hX1, hbw, hs, hc1, hc2, hnn⟩ := hrel
    have HGK := Lib.hid hgk
    have HIV := Lib.hid hinv
    have HX0 := Lib.hid hX0
    have HX1 := Lib.hid hX1
    have HBW := Lib.hid hbw
    have c0 := cell_blk hX0 0 _ rfl
    have c1 := cell_blk hX0 1 _ rfl
    have c2 := cell_blk hX0 2 _ rfl
    have d0 := cell_blk hX1 0 _ rfl
    have d1 := cell_blk hX1 1 _ rfl
    have d2 := cell_blk hX1 2 _ rfl
    have f0 : ∀ i, wr.frozen? ⟨X, i, none⟩ = false := frozen_blk hX0
    have f1 : ∀ i, wr.frozen? ⟨X + 1, i, none⟩ = false := frozen_blk hX1
    have lX := blk_lt hX0
    have lX1 := blk_lt hX1
    obtain ⟨A, hA⟩ : ∃ A, A = strOfNums (bs.take k') := ⟨_, rfl⟩
    obtain ⟨q, hq⟩ : ∃ q, q = n - j' := ⟨_, rfl⟩
    rw [← hA]
    rw [← hq] at c0 hc1 hnn hs
    have HNN := Lib.hid hnn
    have HSR := Lib.hid hs
    have HA := Lib.hid hA
    have HQ := Lib.hid hq
    clear hgk hinv hX0 hX1 hbw hs hA hq hnn
    unfold maxLen at hc2
    -- what is answered when it stands as it is
    have fin : (q = 0 ∨ y = 0) → (j = j' ∧ t = gj ∧ k = k' ∧ Tie (ls.drop j) gj (fs.drop j) t (bs.drop k)) := fun hor => by
      obtain ⟨i1, i2, i3, i4⟩ := HIV.out
      have hfl : (ls.drop j').length = q := by rw [List.length_drop, HNL.out, HQ.out]
      have hfs := HT.out.fs
      have hi := HI.out
      have hkk : k = k' := by
        have hk := HK.out
        rcases hor with h | h
        · have e0 := List.eq_nil_of_length_eq_zero (by rw [hfl, h] : (ls.drop j').length = 0)
          have e1 := i4 e0
          rw [e0, e1] at i1
          have := congrArg List.length i1
          simp only [List.length_drop, List.flatten_nil, List.length_nil] at this
          simp only [kOf] at hk
          omega
        · simp only [kOf] at hk
          omega
      have hjt : goL fs (part + (k' : Nat)) = (j', (gj : Int)) := by
        refine goL_eq fs _ _ j' hi.pos (by rw [hfs, lens_len, HNL.out]; exact hj') i2.symm (by omega) (fun x l e => ?_) (fun e => ?_)
        · rw [hfs] at e
          cases hd : ls.drop j' with
          | nil => simp [lens, ← List.map_drop, hd] at e
          | cons x' l' =>
            have := i3 x' l' hd
            simp only [lens, ← List.map_drop, hd, List.map_cons, List.cons.injEq] at e
            rw [← e.1]; omega
        · rw [hfs] at e
          have := i4 (by simpa [lens, ← List.map_drop] using e)
          omega
      have hg := HG.out
      rw [hkk, hjt] at hg
      injection hg with g1 g2
      subst hkk g1 g2
      refine ⟨rfl, rfl, rfl, by rw [hfs]; simp [lens, List.map_drop], rfl, i1⟩
    have FIN := Lib.hid fin
    have DQF : Hid (∀ W, Mod (fun k => k = X + 1) wr W → DQ T W a' c' (ls.drop j')) := Lib.hid (fun W hW => by
      have hfl : (ls.drop j').length = q := by rw [List.length_drop, HNL.out, HQ.out]
      refine ⟨?_, by rw [hfl]; exact hc1, by unfold maxLen; exact hc2, by rw [hfl]; exact HNN.out⟩
      rw [hfl]
      exact (HSR.out.mod hW (fun k hk e => by have := hk.2; omega)).mono (fun k _ hk => hk.1))
    clear fin
    by_cases hq0 : q = 0
    · subst hq0
      go_wp2_with fail
      obtain ⟨rfl, rfl, rfl, htie⟩ := FIN.out (.inl (by first | rfl | trivial))
      refine bodyPost_ret (v := .tuple #[.agg #[.slice a' 0 c', .int .i64 gj, .int .i64 m], .string A, .int .i64 j, .int .i64 0]) (by simp [results, Try.results42, go_sem, *]) rfl ⟨a', c', gj, by rw [HA.out, HQ.out], DQF.out _ ?_, ?_, htie⟩
      · exact (((Mod.refl (fun k => k = X + 1) wr).setCell ⟨X + 1, 0, none⟩ (.inl rfl) _).setCell ⟨X + 1, 1, none⟩ (.inl rfl) _).setCell ⟨X + 1, 2, none⟩ (.inl rfl) _
      · have hX := EX.out
        have hb := HBW.out
        rw [hX] at hb ⊢
        exact ((hb.setCell (p := ⟨w.heap.size + 1, 0, none⟩) (by show w.heap.size ≤ w.heap.size + 1; omega) _).setCell (p := ⟨w.heap.size + 1, 1, none⟩) (by show w.heap.size ≤ w.heap.size + 1; omega) _).setCell (p := ⟨w.heap.size + 1, 2, none⟩) (by show w.heap.size ≤ w.heap.size + 1; omega) _
    by_cases hy0 : y = 0
    · subst hy0
      have e1 : decide (0 < q) = true := by simp; omega
      have e2 : decide ((0 : Int) < q) = true := by simp; omega
      go_wp2_with fail
      obtain ⟨rfl, rfl, rfl, htie⟩ := FIN.out (.inr (by first | rfl | trivial))
      refine bodyPost_ret (v := .tuple #[.agg #[.slice a' q c', .int .i64 gj, .int .i64 m], .string A, .int .i64 j, .int .i64 0]) (by simp [results, Try.results42, go_sem, *]) rfl ⟨a', c', gj, by rw [HA.out, HQ.out], DQF.out _ ?_, ?_, htie⟩
      · exact (((Mod.refl (fun k => k = X + 1) wr).setCell ⟨X + 1, 0, none⟩ (.inl rfl) _).setCell ⟨X + 1, 1, none⟩ (.inl rfl) _).setCell ⟨X + 1, 2, none⟩ (.inl rfl) _
      · have hX := EX.out
        have hb := HBW.out
        rw [hX] at hb ⊢
        exact ((hb.setCell (p := ⟨w.heap.size + 1, 0, none⟩) (by show w.heap.size ≤ w.heap.size + 1; omega) _).setCell (p := ⟨w.heap.size + 1, 1, none⟩) (by show w.heap.size ≤ w.heap.size + 1; omega) _).setCell (p := ⟨w.heap.size + 1, 2, none⟩) (by show w.heap.size ≤ w.heap.size + 1; omega) _
    have e1 : decide (0 < q) = true := by simp; omega
    have e2 : decide ((0 : Int) < q) = true := by simp; omega
    have e3 : decide (0 < y) = true := by simp; omega
    have e4 : decide ((0 : Int) < y) = true := by simp; omega
    have hqn : j' < ls.length := by have := HNL.out; have := HQ.out; omega
    obtain ⟨x, hx, hxi⟩ := drop_cons hqn
    obtain ⟨b, off, rfl, hb, hTb, hcs⟩ := HSR.out.2 (by omega)
    have y1 := hcs 0 (by omega)
    rw [hx] at y1
    simp only [List.map_cons, List.getD_cons_zero, Nat.add_zero] at y1
    have hgx := HIV.out.2.2.1 _ _ hx
    have hxb := HBG.out x (List.mem_of_getElem? hxi)
    obtain ⟨S, hS⟩ : ∃ S, S = strOfNums x := ⟨_, rfl⟩
    obtain ⟨L, hL⟩ : ∃ L, L = x.length := ⟨_, rfl⟩
    have hSL : S.size = L := by rw [hS, strOfNums_size, hL]
    rw [← hS] at y1
    rw [← hL] at hgx hxb
    obtain ⟨Z, hZ⟩ : ∃ Z, Z = strOfNums (x.drop gj) := ⟨_, rfl⟩
    obtain ⟨D, hD⟩ : ∃ D, D = L - gj := ⟨_, rfl⟩
    have hZD : Z.size = D := by rw [hZ, strOfNums_size, List.length_drop, hD, hL]
    have hext : S.extract gj L = Z := by rw [hS, str_from x gj L hL.symm, hZ]
    have hXl : b ≠ X := fun e => by have := hTb.2; omega
    have HTB := Lib.hid hTb
    have HSR2 : Hid (∀ W, Mod (fun k => k = X) wr W → StrR (fun k => T k ∧ k < X) W (some ⟨b, off + 1, none⟩) (q - 1) ((ls.drop (j' + 1)).map strOfNums)) := Lib.hid (fun W hW => by
      refine ⟨by rw [List.length_map, List.length_drop, HNL.out, HQ.out]; omega, fun hp => ⟨b, off + 1, rfl, Nat.lt_of_lt_of_le hb hW.size, hTb, fun i hi => ?_⟩⟩
      have h1 := (hW.cell (p := ⟨b, off + (i + 1), none⟩) hb hXl).trans (hcs (i + 1) (by omega))
      rw [hx, List.map_cons] at h1
      rw [show off + 1 + i = off + (i + 1) by omega, h1]
      rfl)
    have HXE := Lib.hid hx
    have HCS := Lib.hid hcs
    have HZ := Lib.hid hZ
    have HLL := Lib.hid hL
    have HDD := Lib.hid hD
    clear hx hxi hcs hS hZ hL hD hTb
    go_wp2_with fail
    go_quiet (fail)
    have hgl := HDD.out
    have hAs : A.size = k' := by rw [HA.out, strOfNums_size, List.length_take]; omega
    have hrest := HIV.out.1
    rw [HXE.out, List.flatten_cons, List.drop_append_of_le_length (by have := HLL.out; omega)] at hrest
    have hlen := congrArg List.length hrest
    rw [List.length_append, List.length_drop, List.length_drop, ← HLL.out] at hlen
    have hkb : k' + D ≤ bs.length := by omega
    have hfd : fs.drop j' = (L : Int) :: lens (ls.drop (j' + 1)) := by
      rw [HT.out.fs]
      show List.drop j' (ls.map _) = _
      rw [← List.map_drop, HXE.out, HLL.out]
      rfl
    have HFD := Lib.hid hfd
    have HKB := Lib.hid hkb
    clear hrest hlen hfd hkb
    by_cases hyd : y < D
    · have e5 : decide (y < D) = true := by simpa using hyd
      have e6 : decide ((y : Int) < D) = true := by simp; omega
      have hyD : y ≤ D := by omega
      have hyDi : (y : Int) ≤ D := by omega
      have hyL : gj + y < L := by omega
      have hle : ¬ (9223372036854775807 < k' + y) := by omega
      have hle2 : k' + y ≤ 9223372036854775807 := by omega
      obtain ⟨G2, hG2⟩ : ∃ G2, G2 = gj + y := ⟨_, rfl⟩
      have hGa : (gj : Int) + y = G2 := by omega
      have hGw : IntKind.i64.wrap (G2 : Int) = G2 := by rw [IntKind.wrap_i64]; omega
      obtain ⟨Zy, hZy⟩ : ∃ Zy, Zy = strOfNums ((x.drop gj).take y) := ⟨_, rfl⟩
      have hzx : Z.extract 0 y = Zy := by rw [HZ.out, str_to, hZy]
      have hZs : Zy.size = y := by rw [hZy, strOfNums_size, List.length_take, List.length_drop]; have := HLL.out; omega
      obtain ⟨A2, hA2⟩ : ∃ A2, A2 = strOfNums (bs.take (k' + y)) := ⟨_, rfl⟩
      have hstep := Tie.step HIV.out.1 HXE.out (by have := HLL.out; omega) y (by have := HLL.out; omega)
      have hcat : A ++ Zy = A2 := by rw [HA.out, hZy, ← strOfNums_append, hA2, hstep.1]
      have htie : j = j' ∧ t = (G2 : Int) ∧ k = k' + y ∧ Tie (ls.drop j) G2 (fs.drop j) t (bs.drop k) := by
        have hkk : k = k' + y := by
          have hk := HK.out
          have := HKB.out
          simp only [kOf] at hk
          omega
        obtain ⟨i1, i2, i3, i4⟩ := HIV.out
        have hjt : goL fs (part + (k : Nat)) = (j', (G2 : Int)) := by
          refine goL_eq fs _ _ j' HI.out.pos (by rw [HT.out.fs, lens_len, HNL.out]; exact hj') (by omega) (by omega) (fun x l e => ?_) (fun e => ?_)
          · rw [HFD.out] at e
            injection e with e1 e2
            omega
          · rw [HFD.out] at e
            cases e
        have hg := HG.out
        rw [hjt] at hg
        injection hg with g1 g2
        subst g1 g2 hkk
        refine ⟨rfl, rfl, rfl, by rw [HT.out.fs]; simp [lens, List.map_drop], rfl, ?_⟩
        rw [hstep.2, HXE.out, List.flatten_cons, List.drop_append_of_le_length (by have := HLL.out; omega), hG2]
      have HTIE := Lib.hid htie
      have HA2 := Lib.hid hA2
      clear hG2 hZy hstep htie hA2 hgl
      go_upto_region 7 with fail
      obtain ⟨wd, hwd⟩ : ∃ W, W = (wr.drewN nq).drew := ⟨_, rfl⟩
      have HBd : Hid (Below (wr.drewN nq).heap.size (wr.drewN nq) wd) := Lib.hid (by rw [hwd]; exact Below.drewN' (wr.drewN nq) 1)
      have hS0 : (fun W : World => W.cell? ⟨X, 0, none⟩ = some (.slice (some ⟨b, off, none⟩) q c') ∧ W.cell? ⟨X, 1, none⟩ = some (.int .i64 gj) ∧ W.cell? ⟨X, 2, none⟩ = some (.int .i64 m)) wd := by rw [hwd]; exact ⟨c0, c1, c2⟩
      refine wp_region_held_drew (S := fun W => W.cell? ⟨X, 0, none⟩ = some (.slice (some ⟨b, off, none⟩) q c') ∧ W.cell? ⟨X, 1, none⟩ = some (.int .i64 gj) ∧ W.cell? ⟨X, 2, none⟩ = some (.int .i64 m)) (by kernel_rfl) (by rw [← hwd]; exact hS0) (fun hHeld => ?_)
      rw [← hwd] at hHeld ⊢
      clear hwd hS0
      refine' wpAnyH_take (i := 0) (oi := { dst := some 33, op := Op.fieldAddr 43 (Operand.tmp 2) 0, type := 0, pos := "ref.go:66", after := #[], guard := none }) (v := ?v1001) rfl (by kernel_rfl) (by kernel_rfl) (by kernel_rfl) (fun _ _ _ h => h) (.inl ⟨by first | rfl | simp [Region.wanted, yielded], ?hy1001⟩) (by assumption) ?rest1001
      case hy1001 => (intro W hW; obtain ⟨f1, f2, f3⟩ := hW; go_simp; try with_reducible rfl)
      simp only [Act.put, List.setIfInBounds_toArray, List.set_cons_zero, List.set_cons_succ]
      refine' wpAnyH_take (i := 1) (oi := { dst := some 34, op := Op.load 41 (Operand.tmp 33), type := 41, pos := "ref.go:66", after := #[{ on := 0, ground := Ground.data }], guard := none }) (v := ?v1002) rfl (by kernel_rfl) (by kernel_rfl) (by kernel_rfl) (fun _ _ _ h => h) (.inl ⟨by first | rfl | simp [Region.wanted, yielded], ?hy1002⟩) (by assumption) ?rest1002
      case hy1002 => (intro W hW; obtain ⟨f1, f2, f3⟩ := hW; go_simp; try with_reducible rfl)
      simp only [Act.put, List.setIfInBounds_toArray, List.set_cons_zero, List.set_cons_succ]
      refine' wpAnyH_take (i := 2) (oi := { dst := some 35, op := Op.fieldAddr 43 (Operand.tmp 2) 1, type := 0, pos := "ref.go:66", after := #[], guard := none }) (v := ?v1003) rfl (by kernel_rfl) (by kernel_rfl) (by kernel_rfl) (fun _ _ _ h => h) (.inl ⟨by first | rfl | simp [Region.wanted, yielded], ?hy1003⟩) (by assumption) ?rest1003
      case hy1003 => (intro W hW; obtain ⟨f1, f2, f3⟩ := hW; go_simp; try with_reducible rfl)
      simp only [Act.put, List.setIfInBounds_toArray, List.set_cons_zero, List.set_cons_succ]
      refine' wpAnyH_take (i := 3) (oi := { dst := some 36, op := Op.load 3 (Operand.tmp 35), type := 3, pos := "ref.go:66", after := #[{ on := 2, ground := Ground.data }], guard := none }) (v := ?v1004) rfl (by kernel_rfl) (by kernel_rfl) (by kernel_rfl) (fun _ _ _ h => h) (.inl ⟨by first | rfl | simp [Region.wanted, yielded], ?hy1004⟩) (by assumption) ?rest1004
      case hy1004 => (intro W hW; obtain ⟨f1, f2, f3⟩ := hW; go_simp; try with_reducible rfl)
      simp only [Act.put, List.setIfInBounds_toArray, List.set_cons_zero, List.set_cons_succ]
      refine' wpAnyH_take (i := 4) (oi := { dst := some 37, op := Op.move (Operand.tmp 1), type := 3, pos := "ref.go:66", after := #[], guard := none }) (v := ?v1005) rfl (by kernel_rfl) (by kernel_rfl) (by kernel_rfl) (fun _ _ _ h => h) (.inl ⟨by first | rfl | simp [Region.wanted, yielded], ?hy1005⟩) (by assumption) ?rest1005
      case hy1005 => (intro W hW; obtain ⟨f1, f2, f3⟩ := hW; go_simp; try with_reducible rfl)
      simp only [Act.put, List.setIfInBounds_toArray, List.set_cons_zero, List.set_cons_succ]
      refine' wpAnyH_take (i := 5) (oi := { dst := some 38, op := Op.binOp BinOp.add 3 (Operand.tmp 36) (Operand.tmp 37) 3, type := 3, pos := "ref.go:66", after := #[{ on := 3, ground := Ground.data }, { on := 4, ground := Ground.data }], guard := none }) (v := ?v1006) rfl (by kernel_rfl) (by kernel_rfl) (by kernel_rfl) (fun _ _ _ h => h) (.inl ⟨by first | rfl | simp [Region.wanted, yielded], ?hy1006⟩) (by assumption) ?rest1006
      case hy1006 => (intro W hW; obtain ⟨f1, f2, f3⟩ := hW; go_simp; try with_reducible rfl)
      simp only [Act.put, List.setIfInBounds_toArray, List.set_cons_zero, List.set_cons_succ]
      refine' wpAnyH_take (i := 6) (oi := { dst := some 39, op := Op.fieldAddr 43 (Operand.tmp 2) 2, type := 0, pos := "ref.go:66", after := #[], guard := none }) (v := ?v1007) rfl (by kernel_rfl) (by kernel_rfl) (by kernel_rfl) (fun _ _ _ h => h) (.inl ⟨by first | rfl | simp [Region.wanted, yielded], ?hy1007⟩) (by assumption) ?rest1007
      case hy1007 => (intro W hW; obtain ⟨f1, f2, f3⟩ := hW; go_simp; try with_reducible rfl)
      simp only [Act.put, List.setIfInBounds_toArray, List.set_cons_zero, List.set_cons_succ]
      refine' wpAnyH_take (i := 7) (oi := { dst := some 40, op := Op.load 3 (Operand.tmp 39), type := 3, pos := "ref.go:66", after := #[{ on := 6, ground := Ground.data }], guard := none }) (v := ?v1008) rfl (by kernel_rfl) (by kernel_rfl) (by kernel_rfl) (fun _ _ _ h => h) (.inl ⟨by first | rfl | simp [Region.wanted, yielded], ?hy1008⟩) (by assumption) ?rest1008
      case hy1008 => (intro W hW; obtain ⟨f1, f2, f3⟩ := hW; go_simp; try with_reducible rfl)
      simp only [Act.put, List.setIfInBounds_toArray, List.set_cons_zero, List.set_cons_succ]
      refine' wpAnyH_take (i := 8) (oi := { dst := some 41, op := Op.build 43 #[(0, Operand.tmp 34), (1, Operand.tmp 38), (2, Operand.tmp 40)], type := 43, pos := "ref.go:66", after := #[{ on := 1, ground := Ground.data }, { on := 5, ground := Ground.data }, { on := 7, ground := Ground.data }], guard := none }) (v := ?v1009) rfl (by kernel_rfl) (by kernel_rfl) (by kernel_rfl) (fun _ _ _ h => h) (.inl ⟨by first | rfl | simp [Region.wanted, yielded], ?hy1009⟩) (by assumption) ?rest1009
      case hy1009 => (intro W hW; obtain ⟨f1, f2, f3⟩ := hW; go_simp; try with_reducible rfl)
      simp only [Act.put, List.setIfInBounds_toArray, List.set_cons_zero, List.set_cons_succ]
      refine' wpAnyH_take (i := 9) (oi := { dst := some 42, op := Op.move (Operand.tmp 8), type := 9, pos := "ref.go:66", after := #[{ on := 15, ground := Ground.gcOnly Departure.lateStores }], guard := none }) (v := ?v1010) rfl (by kernel_rfl) (by kernel_rfl) (by kernel_rfl) (fun _ _ _ h => h) (.inl ⟨by first | rfl | simp [Region.wanted, yielded], ?hy1010⟩) (by assumption) ?rest1010
      case hy1010 => (intro W hW; obtain ⟨f1, f2, f3⟩ := hW; go_simp; try with_reducible rfl)
      simp only [Act.put, List.setIfInBounds_toArray, List.set_cons_zero, List.set_cons_succ]
      refine' wpAnyH_take (i := 10) (oi := { dst := some 43, op := Op.move (Operand.tmp 10), type := 9, pos := "ref.go:66", after := #[], guard := none }) (v := ?v1011) rfl (by kernel_rfl) (by kernel_rfl) (by kernel_rfl) (fun _ _ _ h => h) (.inl ⟨by first | rfl | simp [Region.wanted, yielded], ?hy1011⟩) (by assumption) ?rest1011
      case hy1011 => (intro W hW; obtain ⟨f1, f2, f3⟩ := hW; go_simp; try with_reducible rfl)
      simp only [Act.put, List.setIfInBounds_toArray, List.set_cons_zero, List.set_cons_succ]
      refine' wpAnyH_take (i := 11) (oi := { dst := some 44, op := Op.move (Operand.tmp 1), type := 3, pos := "ref.go:66", after := #[], guard := none }) (v := ?v1012) rfl (by kernel_rfl) (by kernel_rfl) (by kernel_rfl) (fun _ _ _ h => h) (.inl ⟨by first | rfl | simp [Region.wanted, yielded], ?hy1012⟩) (by assumption) ?rest1012
      case hy1012 => (intro W hW; obtain ⟨f1, f2, f3⟩ := hW; go_simp; try with_reducible rfl)
      simp only [Act.put, List.setIfInBounds_toArray, List.set_cons_zero, List.set_cons_succ]
      refine' wpAnyH_take (i := 12) (oi := { dst := some 45, op := Op.slice 9 (Operand.tmp 43) none (some (Operand.tmp 44)) none, type := 9, pos := "ref.go:66", after := #[{ on := 10, ground := Ground.data }, { on := 11, ground := Ground.data }], guard := none }) (v := ?v1013) rfl (by kernel_rfl) (by kernel_rfl) (by kernel_rfl) (fun _ _ _ h => h) (.inl ⟨by first | rfl | simp [Region.wanted, yielded], ?hy1013⟩) (by assumption) ?rest1013
      case hy1013 => (intro W hW; obtain ⟨f1, f2, f3⟩ := hW; go_simp; try with_reducible rfl)
      simp only [Act.put, List.setIfInBounds_toArray, List.set_cons_zero, List.set_cons_succ]
      refine' wpAnyH_take (i := 13) (oi := { dst := some 46, op := Op.binOp BinOp.add 9 (Operand.tmp 42) (Operand.tmp 45) 9, type := 9, pos := "ref.go:66", after := #[{ on := 9, ground := Ground.data }, { on := 12, ground := Ground.data }, { on := 15, ground := Ground.gcOnly Departure.lateStores }], guard := none }) (v := ?v1014) rfl (by kernel_rfl) (by kernel_rfl) (by kernel_rfl) (fun _ _ _ h => h) (.inl ⟨by first | rfl | simp [Region.wanted, yielded], ?hy1014⟩) (by assumption) ?rest1014
      case hy1014 => (intro W hW; obtain ⟨f1, f2, f3⟩ := hW; go_simp; try with_reducible rfl)
      simp only [Act.put, List.setIfInBounds_toArray, List.set_cons_zero, List.set_cons_succ]
      refine' wpAnyH_take (i := 14) (oi := { dst := some 47, op := Op.move (Operand.tmp 9), type := 3, pos := "ref.go:66", after := #[{ on := 16, ground := Ground.gcOnly Departure.lateStores }], guard := none }) (v := ?v1015) rfl (by kernel_rfl) (by kernel_rfl) (by kernel_rfl) (fun _ _ _ h => h) (.inl ⟨by first | rfl | simp [Region.wanted, yielded], ?hy1015⟩) (by assumption) ?rest1015
      case hy1015 => (intro W hW; obtain ⟨f1, f2, f3⟩ := hW; go_simp; try with_reducible rfl)
      simp only [Act.put, List.setIfInBounds_toArray, List.set_cons_zero, List.set_cons_succ]
      refine wpAnyH_ready (rs := [15]) (by kernel_rfl) (by simp) ?_
      refine AllReadyH.cons (o := { dst := none, op := Op.store 43 (Operand.tmp 4) (Operand.tmp 41), type := 0, pos := "ref.go:66", after := #[{ on := 8, ground := Ground.data }, { on := 0, ground := Ground.phase }, { on := 1, ground := Ground.phase }, { on := 2, ground := Ground.phase }, { on := 3, ground := Ground.phase }, { on := 4, ground := Ground.phase }, { on := 5, ground := Ground.phase }, { on := 6, ground := Ground.phase }, { on := 7, ground := Ground.phase }, { on := 8, ground := Ground.phase }, { on := 9, ground := Ground.textOnly Departure.lateStores }, { on := 10, ground := Ground.textOnly Departure.lateStores }, { on := 11, ground := Ground.textOnly Departure.lateStores }, { on := 12, ground := Ground.textOnly Departure.lateStoresUnsure }, { on := 13, ground := Ground.textOnly Departure.lateStores }, { on := 14, ground := Ground.textOnly Departure.lateStores }], guard := none }) rfl (fun KK hK => ?_) (AllReadyH.nil)
      try simp only [List.getElem_toArray, List.getElem_cons_succ, List.getElem_cons_zero]
      have kx5 : wd.heap[X]? = _ := (HBd.out.block X lX).trans HX0.out
      have kr5 : wd.heap[X + 1]? = _ := (HBd.out.block (X + 1) lX1).trans HX1.out
      rw [← HQ.out] at kx5
      have e0 := cell_blk kr5 0 _ rfl
      have e1 := cell_blk kr5 1 _ rfl
      have e2 := cell_blk kr5 2 _ rfl
      have e3 := frozen_blk kr5 0
      have e4 := frozen_blk kr5 1
      have e5 := frozen_blk kr5 2
      have e6 := blk_lt kr5
      go_simp
      have kx6 := setCell_blk (setCell_blk (setCell_blk kr5 0 (.slice (some ⟨b, off, none⟩) q c')) 1 (.int .i64 G2)) 2 (.int .i64 m)
      have ky6 := (Below.heap_setCell ((wd.setCell ⟨X + 1, 0, none⟩ (.slice (some ⟨b, off, none⟩) q c')).setCell ⟨X + 1, 1, none⟩ (.int .i64 G2)) ⟨X + 1, 2, none⟩ (.int .i64 m) X (by simp)).trans ((Below.heap_setCell (wd.setCell ⟨X + 1, 0, none⟩ (.slice (some ⟨b, off, none⟩) q c')) ⟨X + 1, 1, none⟩ (.int .i64 G2) X (by simp)).trans ((Below.heap_setCell wd ⟨X + 1, 0, none⟩ (.slice (some ⟨b, off, none⟩) q c') X (by simp)).trans kx5))
      have hSn2 : (fun W : World => W.cell? ⟨X, 0, none⟩ = some (.slice (some ⟨b, off, none⟩) q c') ∧ W.cell? ⟨X, 1, none⟩ = some (.int .i64 gj) ∧ W.cell? ⟨X, 2, none⟩ = some (.int .i64 m)) (((wd.setCell ⟨X + 1, 0, none⟩ (.slice (some ⟨b, off, none⟩) q c')).setCell ⟨X + 1, 1, none⟩ (.int .i64 G2)).setCell ⟨X + 1, 2, none⟩ (.int .i64 m)) := ⟨cell_blk ky6 0 _ rfl, cell_blk ky6 1 _ rfl, cell_blk ky6 2 _ rfl⟩
      have HK6 := Lib.hid kx6
      clear e0 e1 e2 e3 e4 e5 kx6 ky6
      refine hK.out _ _ (by assumption) (fun hHeld => ?_)
      clear hK KK
      try simp only [Act.put, List.setIfInBounds_toArray, List.set_cons_zero, List.set_cons_succ]
      refine' wpAnyH_take (i := 16) (oi := { dst := some 5, op := Op.assign (Operand.tmp 46), type := 9, pos := "ref.go:66", after := #[{ on := 13, ground := Ground.data }, { on := 15, ground := Ground.chain }, { on := 0, ground := Ground.phase }, { on := 1, ground := Ground.phase }, { on := 2, ground := Ground.phase }, { on := 3, ground := Ground.phase }, { on := 4, ground := Ground.phase }, { on := 5, ground := Ground.phase }, { on := 6, ground := Ground.phase }, { on := 7, ground := Ground.phase }, { on := 8, ground := Ground.phase }, { on := 9, ground := Ground.phase }, { on := 10, ground := Ground.phase }, { on := 11, ground := Ground.phase }, { on := 12, ground := Ground.phase }, { on := 13, ground := Ground.phase }, { on := 14, ground := Ground.textOnly Departure.lateStores }, { on := 15, ground := Ground.phase }], guard := none }) (v := ?v1016) rfl (by kernel_rfl) (by kernel_rfl) (by kernel_rfl) (fun _ _ _ h => h) (.inl ⟨by first | rfl | simp [Region.wanted, yielded], ?hy1016⟩) (by assumption) ?rest1016
      case hy1016 => (intro W hW; obtain ⟨f1, f2, f3⟩ := hW; go_simp; try with_reducible rfl)
      simp only [Act.put, List.setIfInBounds_toArray, List.set_cons_zero, List.set_cons_succ]
      refine' wpAnyH_take (i := 17) (oi := { dst := some 6, op := Op.assign (Operand.tmp 47), type := 3, pos := "ref.go:66", after := #[{ on := 14, ground := Ground.data }, { on := 16, ground := Ground.chain }, { on := 0, ground := Ground.phase }, { on := 1, ground := Ground.phase }, { on := 2, ground := Ground.phase }, { on := 3, ground := Ground.phase }, { on := 4, ground := Ground.phase }, { on := 5, ground := Ground.phase }, { on := 6, ground := Ground.phase }, { on := 7, ground := Ground.phase }, { on := 8, ground := Ground.phase }, { on := 9, ground := Ground.phase }, { on := 10, ground := Ground.phase }, { on := 11, ground := Ground.phase }, { on := 12, ground := Ground.phase }, { on := 13, ground := Ground.phase }, { on := 14, ground := Ground.phase }, { on := 15, ground := Ground.phase }, { on := 16, ground := Ground.phase }], guard := none }) (v := ?v1017) rfl (by kernel_rfl) (by kernel_rfl) (by kernel_rfl) (fun _ _ _ h => h) (.inl ⟨by first | rfl | simp [Region.wanted, yielded], ?hy1017⟩) (by assumption) ?rest1017
      case hy1017 => (intro W hW; obtain ⟨f1, f2, f3⟩ := hW; go_simp; try with_reducible rfl)
      simp only [Act.put, List.setIfInBounds_toArray, List.set_cons_zero, List.set_cons_succ]
      refine' wpAnyH_take (i := 18) (oi := { dst := some 7, op := Op.assign (Operand.const (Value.int IntKind.i64 0)), type := 3, pos := "ref.go:66", after := #[{ on := 17, ground := Ground.chain }, { on := 0, ground := Ground.phase }, { on := 1, ground := Ground.phase }, { on := 2, ground := Ground.phase }, { on := 3, ground := Ground.phase }, { on := 4, ground := Ground.phase }, { on := 5, ground := Ground.phase }, { on := 6, ground := Ground.phase }, { on := 7, ground := Ground.phase }, { on := 8, ground := Ground.phase }, { on := 9, ground := Ground.phase }, { on := 10, ground := Ground.phase }, { on := 11, ground := Ground.phase }, { on := 12, ground := Ground.phase }, { on := 13, ground := Ground.phase }, { on := 14, ground := Ground.phase }, { on := 15, ground := Ground.phase }, { on := 16, ground := Ground.phase }, { on := 17, ground := Ground.phase }], guard := none }) (v := ?v1018) rfl (by kernel_rfl) (by kernel_rfl) (by kernel_rfl) (fun _ _ _ h => h) (.inl ⟨by first | rfl | simp [Region.wanted, yielded], ?hy1018⟩) (by assumption) ?rest1018
      case hy1018 => (intro W hW; obtain ⟨f1, f2, f3⟩ := hW; go_simp; try with_reducible rfl)
      simp only [Act.put, List.setIfInBounds_toArray, List.set_cons_zero, List.set_cons_succ]
      refine wpAnyH_done (by kernel_rfl) ?_ _
      have e0 := cell_blk HK6.out 0 _ rfl
      have e1 := cell_blk HK6.out 1 _ rfl
      have e2 := cell_blk HK6.out 2 _ rfl
      go_wp2
      obtain ⟨rfl, rfl, rfl, htie⟩ := HTIE.out
      refine bodyPost_ret (v := .tuple #[.agg #[.slice (some ⟨b, off, none⟩) q c', .int .i64 G2, .int .i64 m], .string A2, .int .i64 j, .int .i64 0]) (by simp [results, Try.results42, go_sem, *]) rfl ⟨some ⟨b, off, none⟩, c', G2, by rw [HA2.out, HQ.out], DQF.out _ ?_, ?_, htie⟩
      · exact (((Mod.of_below ((Below.drewN' wr nq).trans HBd.out) (fun k => k = X + 1)).setCell ⟨X + 1, 0, none⟩ (.inl rfl) _).setCell ⟨X + 1, 1, none⟩ (.inl rfl) _).setCell ⟨X + 1, 2, none⟩ (.inl rfl) _
      · have hX := EX.out
        have hb := HBW.out.trans (((Below.drewN' wr nq).trans HBd.out).mono (by omega))
        rw [hX] at hb ⊢
        exact ((hb.setCell (p := ⟨w.heap.size + 1, 0, none⟩) (by show w.heap.size ≤ w.heap.size + 1; omega) _).setCell (p := ⟨w.heap.size + 1, 1, none⟩) (by show w.heap.size ≤ w.heap.size + 1; omega) _).setCell (p := ⟨w.heap.size + 1, 2, none⟩) (by show w.heap.size ≤ w.heap.size + 1; omega) _
    · have e5 : decide (y < D) = false := by simpa using hyd
      have e6 : decide ((y : Int) < D) = false := by simp; omega
      obtain ⟨Y2, hY2⟩ : ∃ Y2, Y2 = y - D := ⟨_, rfl⟩
      have hYa : (y : Int) - D = Y2 := by omega
      have HYY : Hid (Y2 + D = y) := Lib.hid (by omega)
      obtain ⟨A2, hA2⟩ : ∃ A2, A2 = strOfNums (bs.take (k' + D)) := ⟨_, rfl⟩
      have hstep := Tie.step HIV.out.1 HXE.out (by have := HLL.out; omega) D (by have := HLL.out; omega)
      have hZt : (x.drop gj).take D = x.drop gj := List.take_of_length_le (by rw [List.length_drop]; have := HLL.out; omega)
      have hcat : A ++ Z = A2 := by rw [HA.out, HZ.out, ← strOfNums_append, hA2, hstep.1, hZt]
      have hinv2 : bs.drop (k' + D) = (ls.drop (j' + 1)).flatten.drop 0 ∧ sumI (fs.take (j' + 1)) + (0 : Nat) = part + ((k' + D : Nat) : Int) ∧ (∀ x l, ls.drop (j' + 1) = x :: l → 0 < x.length) ∧ (ls.drop (j' + 1) = [] → 0 = 0) := by
        obtain ⟨i1, i2, i3, i4⟩ := HIV.out
        refine ⟨?_, ?_, fun x2 l2 e2 => ?_, fun _ => rfl⟩
        · rw [hstep.2, List.drop_of_length_le (by have := HLL.out; omega), List.nil_append, List.drop_zero]
        · have : fs.take (j' + 1) = fs.take j' ++ [(L : Int)] := by
            rw [List.take_add, HFD.out]
            rfl
          rw [this, sumI_append]
          simp only [sumI]
          omega
        · have := HI.out.pos x2.length (by
            rw [HT.out.fs]
            have : x2 ∈ ls := List.mem_of_mem_drop (by rw [e2]; simp)
            exact List.mem_map.2 ⟨x2, this, rfl⟩)
          omega
      have HIV2 := Lib.hid hinv2
      have HA2 := Lib.hid hA2
      have HKB := HKB
      obtain ⟨q1, hq1⟩ : ∃ q1, q1 = q - 1 := ⟨_, rfl⟩
      have HQ1 := Lib.hid hq1
      have hqq : (q : Int) - 1 = q1 := by omega
      clear hstep hinv2 hA2 hY2 hq1 hgl
      by_cases hc1' : c' = 1
      · subst hc1'
        obtain rfl : q = 1 := by omega
        go_wp2_with fail
        go_region
        all_goals
          go_wp2_with fail
          go_roundg (n - (j' + 1))
          case measure => have := HGK.out; have := HNL.out; omega
          case rel =>
            have hq2 : n - (j' + 1) = 0 := by have := HQ.out; omega
            have kx : (wr.drewN (nq + 1)).heap[X]? = _ := HX0.out
            have kx6 := setCell_blk (setCell_blk (setCell_blk kx 0 (.slice (some ⟨b, off, none⟩) 0 0)) 1 (.int .i64 0)) 2 (.int .i64 m)
            have hmX := (((Mod.refl (fun k => k = X) wr).drewN (nq + 1)).setCell ⟨X, 0, none⟩ (.inl rfl) (.slice (some ⟨b, off, none⟩) 0 0)).setCell ⟨X, 1, none⟩ (.inl rfl) (.int .i64 0) |>.setCell ⟨X, 2, none⟩ (.inl rfl) (.int .i64 m)
            have hY := HYY.out
            refine ⟨j' + 1, k' + D, 0, Y2, some ⟨b, off, none⟩, 0, by first | rfl | go_num, by rw [HA2.out], by go_num, by have := HQ.out; omega, rfl, by omega, HKB.out, ⟨HIV2.out.1, HIV2.out.2.1, HIV2.out.2.2.1, fun _ => rfl⟩, by rw [hq2]; exact kx6, (hmX.block (X + 1) lX1 (by omega)).trans HX1.out, HBW.out.trans (((Below.drewN' wr (nq + 1)).mono (Nat.le_of_lt lX)).trans ((((Below.refl X (wr.drewN (nq + 1))).setCell (p := ⟨X, 0, none⟩) (Nat.le_refl X) _).setCell (p := ⟨X, 1, none⟩) (Nat.le_refl X) _).setCell (p := ⟨X, 2, none⟩) (Nat.le_refl X) _)), by rw [hq2]; exact ⟨by have := (HSR2.out _ hmX).1; simpa using this, fun h => by omega⟩, by omega, by unfold maxLen; omega, (fun e => by first | (cases e; done) | exact ⟨hq2, rfl⟩)⟩
      · have hc3 : (1 : Int) < c' := by omega
        have hc4 : 1 < c' := by omega
        go_wp2_with fail
        go_region
        all_goals
          go_wp2_with fail
          go_roundg (n - (j' + 1))
          case measure => have := HGK.out; have := HNL.out; omega
          case rel =>
            have hq2 : n - (j' + 1) = q - 1 := by have := HQ.out; omega
            have kx : (wr.drewN (nq + 1)).heap[X]? = _ := HX0.out
            have kx6 := setCell_blk (setCell_blk (setCell_blk kx 0 (.slice (some ⟨b, off + 1, none⟩) (q - 1) (c' - 1))) 1 (.int .i64 0)) 2 (.int .i64 m)
            have hmX := (((Mod.refl (fun k => k = X) wr).drewN (nq + 1)).setCell ⟨X, 0, none⟩ (.inl rfl) (.slice (some ⟨b, off + 1, none⟩) (q - 1) (c' - 1))).setCell ⟨X, 1, none⟩ (.inl rfl) (.int .i64 0) |>.setCell ⟨X, 2, none⟩ (.inl rfl) (.int .i64 m)
            have hY := HYY.out
            refine ⟨j' + 1, k' + D, 0, Y2, some ⟨b, off + 1, none⟩, c' - 1, by first | rfl | go_num, by rw [HA2.out], by go_num, by have := HQ.out; omega, rfl, by omega, HKB.out, ⟨HIV2.out.1, HIV2.out.2.1, HIV2.out.2.2.1, fun _ => rfl⟩, by rw [hq2]; exact kx6, (hmX.block (X + 1) lX1 (by omega)).trans HX1.out, HBW.out.trans (((Below.drewN' wr (nq + 1)).mono (Nat.le_of_lt lX)).trans ((((Below.refl X (wr.drewN (nq + 1))).setCell (p := ⟨X, 0, none⟩) (Nat.le_refl X) _).setCell (p := ⟨X, 1, none⟩) (Nat.le_refl X) _).setCell (p := ⟨X, 2, none⟩) (Nat.le_refl X) _)), by rw [hq2]; exact HSR2.out _ hmX, by omega, by unfold maxLen; omega, (fun e => by first | (cases e; done) | exact ⟨hq2, rfl⟩)⟩
end Go.Proofs.Ytneeagabmdpjgaa
