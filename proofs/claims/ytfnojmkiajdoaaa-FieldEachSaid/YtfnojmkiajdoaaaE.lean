/-
  What a line says: the program's.
-/
import Derived.Test.YtfnojmkiajdoaaaD
import Derived.Test.YtfnojmkiajdoaaaOrd
namespace Go.Proofs.Ytfnojmkiajdoaaa
open Go.RowKit
set_option linter.unusedVariables false
set_option linter.unusedSimpArgs false

/-- A field in memory. -/
def fdV (f : Fd) : Value := .agg #[.int .i64 f.k, .string (strOfNums f.n), .string (strOfNums f.v)]
theorem cut_b (xs : List Int) (hb : Byt xs) (hl : xs.length ≤ 1000000) (w : World) : Calls Try.prog 21 #[.string (strOfNums xs), .string ⟨#[58]⟩] w fun e w' => e = .returned (cutV xs) ∧ Below w.heap.size w w' := by
  have h := cut21 xs hb hl w
  have e : strOfNums [58] = ⟨#[58]⟩ := rfl
  rw [e] at h
  refine h.mono ?_
  rintro e w' ⟨h1, q, rfl⟩
  exact ⟨h1, Below.drewN' w q⟩
theorem trim_b (xs : List Int) (hb : Byt xs) (hl : xs.length ≤ 1000000) (w : World) : Calls Try.prog 24 #[.string (strOfNums xs), .string ⟨#[32]⟩] w fun e w' => e = .returned (.string (strOfNums (trim1 xs))) ∧ w = w' := by
  have e : strOfNums [32] = ⟨#[32]⟩ := rfl
  rw [← e]
  refine trim_any xs [32] w hb (byt_dec rfl) hl (by decide) _ ?_
  cases xs with
  | nil => exact .inr ⟨by simp, rfl⟩
  | cons x r =>
    by_cases hx : x = 32
    · subst hx
      exact .inl ⟨by simp, by simp [trim1]⟩
    · exact .inr ⟨by simp [List.cons_prefix_cons]; exact fun h => hx h.symm, by simp [trim1, hx]⟩

set_option maxHeartbeats 1600000 in
set_option maxRecDepth 100000 in
theorem Of8 (xs : List Int) (hb : Byt xs) (hl : xs.length ≤ 100000) (w : World) : Calls Try.prog 8 #[.string (strOfNums xs)] w fun e w' => e = .returned (fdV (ofF xs)) ∧ Below w.heap.size w w' := by
  obtain ⟨A, hA⟩ : ∃ A, A = w.heap.size := ⟨_, rfl⟩
  obtain ⟨w1, hw1⟩ : ∃ W, W = w.alloc (.cells #[.int .i64 0, .string ⟨#[]⟩, .string ⟨#[]⟩] 25) := ⟨_, rfl⟩
  obtain ⟨B, hB⟩ : ∃ B, B = w1.heap.size := ⟨_, rfl⟩
  obtain ⟨w2, hw2⟩ : ∃ W, W = w1.alloc (.cells #[.int .i64 0, .string ⟨#[]⟩, .string ⟨#[]⟩] 48) := ⟨_, rfl⟩
  have s1 : w1.heap.size = A + 1 := by rw [hw1, hA]; simp
  have b1 : Below w.heap.size w w1 := by rw [hw1]; exact (Below.refl _ w).alloc (Nat.le_refl _) _
  have b2 : Below w.heap.size w w2 := by rw [hw2]; exact b1.alloc b1.size _
  have k1 : w2.heap[A]? = some (.cells #[.int .i64 0, .string ⟨#[]⟩, .string ⟨#[]⟩] 25 (0, 0)) := by rw [hw2]; refine alloc_blk ?_ _; rw [hw1, hA]; exact alloc_blk_new _ _
  have k2 : w2.heap[B]? = some (.cells #[.int .i64 0, .string ⟨#[]⟩, .string ⟨#[]⟩] 48 (0, 0)) := by rw [hw2, hB]; exact alloc_blk_new _ _
  have hAB : A < B := by omega
  have HCut := Lib.hid (cut_b xs hb (by omega) w2)
  have EA := Lib.hid hA
  have E1 := Lib.hid hw1
  have HBA : Hid (A + 1 = B) := Lib.hid (by omega)
  have E2 := Lib.hid hw2
  have K1 := Lib.hid k1
  have K2 := Lib.hid k2
  have B2 := Lib.hid b2
  clear hA hw1 hB hw2 s1 b1 b2 k1 k2
  have hA0 : w.heap.size ≤ A := by rw [EA.out]; exact Nat.le_refl _
  have hB0 : w.heap.size ≤ B := by omega
  rcases ofF_cases xs with ⟨e1, e2⟩ | ⟨r, e1, e2⟩ | ⟨h0, h1, ha, e2⟩ | ⟨k, n, v, ha, hn, hv, hk, hs, h0, h1, e2⟩
  · have ec : cutV xs = .tuple #[.string ⟨#[]⟩, .string ⟨#[]⟩, .bool false] := by rw [e1]; rfl
    have eS : strOfNums xs = ⟨#[]⟩ := by rw [e1]; rfl
    rw [e2]
    rw [ec] at HCut
    rw [eS] at HCut ⊢
    have z0 : ((⟨#[]⟩ : ByteArray).toList == []) = true := str_isnil (a := []) true (by simp)
    clear ec eS e1 e2 hb hl
    go_enter Try.func8, Try.ntmps8
    go_wp2_with (go_at_call 21; fail)
    rw [← EA.out, ← E1.out, HBA.out, ← E2.out]
    refine HCut.out.mono ?_
    rintro e w3 ⟨rfl, hb3⟩
    have KA := Lib.hid ((hb3.block A (blk_lt K1.out)).trans K1.out)
    have KB := Lib.hid ((hb3.block B (blk_lt K2.out)).trans K2.out)
    have HB3 := Lib.hid (B2.out.trans (hb3.mono B2.out.size))
    have p0 := cell_blk KB.out 0 _ rfl
    have pf0 := frozen_blk KB.out 0
    have p1 := cell_blk KB.out 1 _ rfl
    have pf1 := frozen_blk KB.out 1
    have p2 := cell_blk KB.out 2 _ rfl
    have pf2 := frozen_blk KB.out 2
    have pl := blk_lt KB.out
    have q0 := cell_blk KA.out 0 _ rfl
    have qf0 := frozen_blk KA.out 0
    have q1 := cell_blk KA.out 1 _ rfl
    have qf1 := frozen_blk KA.out 1
    have q2 := cell_blk KA.out 2 _ rfl
    have qf2 := frozen_blk KA.out 2
    have ql := blk_lt KA.out
    clear hb3
    go_wp2_with fail
    have kA := ((((Mod.refl (fun k => k = B) w3).setCell ⟨B, 0, none⟩ (.inl rfl) (.int .i64 1))).block A (blk_lt KA.out) (by omega)).trans KA.out
    have kR := (setCell_blk (setCell_blk (setCell_blk kA 0 (.int .i64 1)) 1 (.string ⟨#[]⟩)) 2 (.string ⟨#[]⟩))
    have r0 := cell_blk kR 0 _ rfl
    have r1 := cell_blk kR 1 _ rfl
    have r2 := cell_blk kR 2 _ rfl
    exact bodyPost_ret (v := .agg #[.int .i64 1, .string ⟨#[]⟩, .string ⟨#[]⟩]) (by simp [results, Try.results8, go_sem, r0, r1, r2]) rfl ⟨rfl, ((((HB3.out.setCell (p := ⟨B, 0, none⟩) hB0 (.int .i64 1)).setCell (p := ⟨A, 0, none⟩) hA0 (.int .i64 1)).setCell (p := ⟨A, 1, none⟩) hA0 (.string ⟨#[]⟩)).setCell (p := ⟨A, 2, none⟩) hA0 (.string ⟨#[]⟩))⟩
  · obtain ⟨V, hV⟩ : ∃ V, V = strOfNums r := ⟨_, rfl⟩
    have ec : cutV xs = .tuple #[.string ⟨#[]⟩, .string V, .bool true] := by rw [e1, hV]; rfl
    obtain ⟨S, hS⟩ : ∃ S, S = strOfNums xs := ⟨_, rfl⟩
    have zS : (S.toList == []) = false := by rw [hS, e1]; exact str_isnil false (by simp)
    have z0 : ((⟨#[]⟩ : ByteArray).toList == []) = true := str_isnil (a := []) true (by simp)
    have eR : fdV ⟨2, [], r⟩ = .agg #[.int .i64 2, .string ⟨#[]⟩, .string V] := by rw [hV]; rfl
    rw [e2, eR]
    rw [ec] at HCut
    rw [← hS] at HCut ⊢
    clear ec eR hS hV e1 e2 hb hl
    go_enter Try.func8, Try.ntmps8
    go_wp2_with (go_at_call 21; fail)
    rw [← EA.out, ← E1.out, HBA.out, ← E2.out]
    refine HCut.out.mono ?_
    rintro e w3 ⟨rfl, hb3⟩
    have KA := Lib.hid ((hb3.block A (blk_lt K1.out)).trans K1.out)
    have KB := Lib.hid ((hb3.block B (blk_lt K2.out)).trans K2.out)
    have HB3 := Lib.hid (B2.out.trans (hb3.mono B2.out.size))
    have p0 := cell_blk KB.out 0 _ rfl
    have pf0 := frozen_blk KB.out 0
    have p1 := cell_blk KB.out 1 _ rfl
    have pf1 := frozen_blk KB.out 1
    have p2 := cell_blk KB.out 2 _ rfl
    have pf2 := frozen_blk KB.out 2
    have pl := blk_lt KB.out
    have q0 := cell_blk KA.out 0 _ rfl
    have qf0 := frozen_blk KA.out 0
    have q1 := cell_blk KA.out 1 _ rfl
    have qf1 := frozen_blk KA.out 1
    have q2 := cell_blk KA.out 2 _ rfl
    have qf2 := frozen_blk KA.out 2
    have ql := blk_lt KA.out
    clear hb3
    go_wp2_with fail
    have kA := (((((Mod.refl (fun k => k = B) w3).setCell ⟨B, 0, none⟩ (.inl rfl) (.int .i64 2)).setCell ⟨B, 2, none⟩ (.inl rfl) (.string V))).block A (blk_lt KA.out) (by omega)).trans KA.out
    have kR := (setCell_blk (setCell_blk (setCell_blk kA 0 (.int .i64 2)) 1 (.string ⟨#[]⟩)) 2 (.string V))
    have r0 := cell_blk kR 0 _ rfl
    have r1 := cell_blk kR 1 _ rfl
    have r2 := cell_blk kR 2 _ rfl
    exact bodyPost_ret (v := .agg #[.int .i64 2, .string ⟨#[]⟩, .string V]) (by simp [results, Try.results8, go_sem, r0, r1, r2]) rfl ⟨rfl, (((((HB3.out.setCell (p := ⟨B, 0, none⟩) hB0 (.int .i64 2)).setCell (p := ⟨B, 2, none⟩) hB0 (.string V)).setCell (p := ⟨A, 0, none⟩) hA0 (.int .i64 2)).setCell (p := ⟨A, 1, none⟩) hA0 (.string ⟨#[]⟩)).setCell (p := ⟨A, 2, none⟩) hA0 (.string V))⟩
  · obtain ⟨N, hN⟩ : ∃ S, S = strOfNums xs := ⟨_, rfl⟩
    have ec : cutV xs = .tuple #[.string N, .string ⟨#[]⟩, .bool false] := by unfold cutV; rw [ha, hN]
    have zS : (N.toList == []) = false := by rw [hN]; exact str_isnil false (by simpa using h0)
    obtain ⟨T, hT⟩ : ∃ T, T = strOfNums (trim1 []) := ⟨_, rfl⟩
    obtain ⟨K, hK⟩ : ∃ K, K = kindOf xs := ⟨_, rfl⟩
    have HK := Lib.hid (fun b W (h : W.heap[b]? = some (.map kindsE 4)) => known22 xs hb (by omega) b W h)
    have HT := Lib.hid (fun W => trim_b [] Byt.nil (by decide) W)
    have eR : fdV ⟨kindOf xs, xs, []⟩ = .agg #[.int .i64 K, .string N, .string T] := by rw [hK, hN, hT]; rfl
    have e0 : strOfNums [] = ⟨#[]⟩ := rfl
    rw [e2, eR]
    rw [ec] at HCut
    rw [← hN] at HCut HK ⊢
    rw [← hT, e0] at HT
    rw [← hK] at HK
    clear ec eR hN hK hT e0 e2 hb hl ha h0 h1
    go_enter Try.func8, Try.ntmps8
    go_wp2_with (go_at_call 21; fail)
    rw [← EA.out, ← E1.out, HBA.out, ← E2.out]
    refine HCut.out.mono ?_
    rintro e w3 ⟨rfl, hb3⟩
    have KA := Lib.hid ((hb3.block A (blk_lt K1.out)).trans K1.out)
    have KB := Lib.hid ((hb3.block B (blk_lt K2.out)).trans K2.out)
    have HB3 := Lib.hid (B2.out.trans (hb3.mono B2.out.size))
    clear hb3
    go_wp2_with (go_at_call 23; fail)
    refine (kinds_any w3).mono ?_
    rintro e w4 ⟨rfl, hw4⟩
    have hb4 : Below w3.heap.size w3 w4 := by rw [hw4]; exact (Below.refl _ w3).alloc (Nat.le_refl _) _
    have hm4 : w4.heap[w3.heap.size]? = some (.map kindsE 4) := by rw [hw4]; exact (MapKept.heap_alloc w3 _).1
    have KA4 := Lib.hid ((hb4.block A (blk_lt KA.out)).trans KA.out)
    have KB4 := Lib.hid ((hb4.block B (blk_lt KB.out)).trans KB.out)
    have HB4 := Lib.hid (HB3.out.trans (hb4.mono HB3.out.size))
    have HK4 := Lib.hid (HK.out _ _ hm4)
    have p0 := cell_blk KB4.out 0 _ rfl
    have pf0 := frozen_blk KB4.out 0
    have p1 := cell_blk KB4.out 1 _ rfl
    have pf1 := frozen_blk KB4.out 1
    have p2 := cell_blk KB4.out 2 _ rfl
    have pf2 := frozen_blk KB4.out 2
    have pl := blk_lt KB4.out
    have q0 := cell_blk KA4.out 0 _ rfl
    have qf0 := frozen_blk KA4.out 0
    have q1 := cell_blk KA4.out 1 _ rfl
    have qf1 := frozen_blk KA4.out 1
    have q2 := cell_blk KA4.out 2 _ rfl
    have qf2 := frozen_blk KA4.out 2
    have ql := blk_lt KA4.out
    clear hb4 hw4 hm4 HK
    go_wp2_with (first | (go_at_call 22; refine HK4.out.mono ?_; rintro e w' ⟨rfl, rfl⟩) | (go_at_call 24; refine (HT.out _).mono ?_; rintro e w' ⟨rfl, rfl⟩))
    have kA := ((((((Mod.refl (fun k => k = B) w4).setCell ⟨B, 0, none⟩ (.inl rfl) (.int .i64 K)).setCell ⟨B, 1, none⟩ (.inl rfl) (.string N)).setCell ⟨B, 2, none⟩ (.inl rfl) (.string T))).block A (blk_lt KA4.out) (by omega)).trans KA4.out
    have kR := (setCell_blk (setCell_blk (setCell_blk kA 0 (.int .i64 K)) 1 (.string N)) 2 (.string T))
    have r0 := cell_blk kR 0 _ rfl
    have r1 := cell_blk kR 1 _ rfl
    have r2 := cell_blk kR 2 _ rfl
    exact bodyPost_ret (v := .agg #[.int .i64 K, .string N, .string T]) (by simp [results, Try.results8, go_sem, r0, r1, r2]) rfl ⟨rfl, ((((((HB4.out.setCell (p := ⟨B, 0, none⟩) hB0 (.int .i64 K)).setCell (p := ⟨B, 1, none⟩) hB0 (.string N)).setCell (p := ⟨B, 2, none⟩) hB0 (.string T)).setCell (p := ⟨A, 0, none⟩) hA0 (.int .i64 K)).setCell (p := ⟨A, 1, none⟩) hA0 (.string N)).setCell (p := ⟨A, 2, none⟩) hA0 (.string T))⟩
  · obtain ⟨N, hN⟩ : ∃ S, S = strOfNums n := ⟨_, rfl⟩
    obtain ⟨V, hV⟩ : ∃ S, S = strOfNums v := ⟨_, rfl⟩
    obtain ⟨S, hS⟩ : ∃ S, S = strOfNums xs := ⟨_, rfl⟩
    have ec : cutV xs = .tuple #[.string N, .string V, .bool true] := by unfold cutV; rw [ha, hN, hV, hn, hv]
    have zS : (S.toList == []) = false := by rw [hS]; exact str_isnil false (by rw [hs]; simp)
    have zN : (N.toList == []) = false := by rw [hN]; exact str_isnil false (by simpa using h0)
    obtain ⟨T, hT⟩ : ∃ T, T = strOfNums (trim1 v) := ⟨_, rfl⟩
    obtain ⟨K, hK⟩ : ∃ K, K = kindOf n := ⟨_, rfl⟩
    have hbn : Byt n := by rw [hn]; exact hb.take _
    have hbv : Byt v := by rw [hv]; exact hb.drop _
    have hln : n.length ≤ 100000 := by rw [hn, List.length_take]; omega
    have hlv : v.length ≤ 100000 := by rw [hv, List.length_drop]; omega
    have HK := Lib.hid (fun b W (h : W.heap[b]? = some (.map kindsE 4)) => known22 n hbn (by omega) b W h)
    have HT := Lib.hid (fun W => trim_b v hbv (by omega) W)
    have eR : fdV ⟨kindOf n, n, trim1 v⟩ = .agg #[.int .i64 K, .string N, .string T] := by rw [hK, hN, hT]; rfl
    rw [e2, eR]
    rw [ec] at HCut
    rw [← hS] at HCut ⊢
    rw [← hN, ← hK] at HK
    rw [← hT, ← hV] at HT
    clear ec eR hN hV hS hK hT e2 hb hl ha hn hv hk hs h0 h1 hbn hbv hln hlv
    go_enter Try.func8, Try.ntmps8
    go_wp2_with (go_at_call 21; fail)
    rw [← EA.out, ← E1.out, HBA.out, ← E2.out]
    refine HCut.out.mono ?_
    rintro e w3 ⟨rfl, hb3⟩
    have KA := Lib.hid ((hb3.block A (blk_lt K1.out)).trans K1.out)
    have KB := Lib.hid ((hb3.block B (blk_lt K2.out)).trans K2.out)
    have HB3 := Lib.hid (B2.out.trans (hb3.mono B2.out.size))
    clear hb3
    go_wp2_with (go_at_call 23; fail)
    refine (kinds_any w3).mono ?_
    rintro e w4 ⟨rfl, hw4⟩
    have hb4 : Below w3.heap.size w3 w4 := by rw [hw4]; exact (Below.refl _ w3).alloc (Nat.le_refl _) _
    have hm4 : w4.heap[w3.heap.size]? = some (.map kindsE 4) := by rw [hw4]; exact (MapKept.heap_alloc w3 _).1
    have KA4 := Lib.hid ((hb4.block A (blk_lt KA.out)).trans KA.out)
    have KB4 := Lib.hid ((hb4.block B (blk_lt KB.out)).trans KB.out)
    have HB4 := Lib.hid (HB3.out.trans (hb4.mono HB3.out.size))
    have HK4 := Lib.hid (HK.out _ _ hm4)
    have p0 := cell_blk KB4.out 0 _ rfl
    have pf0 := frozen_blk KB4.out 0
    have p1 := cell_blk KB4.out 1 _ rfl
    have pf1 := frozen_blk KB4.out 1
    have p2 := cell_blk KB4.out 2 _ rfl
    have pf2 := frozen_blk KB4.out 2
    have pl := blk_lt KB4.out
    have q0 := cell_blk KA4.out 0 _ rfl
    have qf0 := frozen_blk KA4.out 0
    have q1 := cell_blk KA4.out 1 _ rfl
    have qf1 := frozen_blk KA4.out 1
    have q2 := cell_blk KA4.out 2 _ rfl
    have qf2 := frozen_blk KA4.out 2
    have ql := blk_lt KA4.out
    clear hb4 hw4 hm4 HK
    go_wp2_with (first | (go_at_call 22; refine HK4.out.mono ?_; rintro e w' ⟨rfl, rfl⟩) | (go_at_call 24; refine (HT.out _).mono ?_; rintro e w' ⟨rfl, rfl⟩))
    have kA := ((((((Mod.refl (fun k => k = B) w4).setCell ⟨B, 0, none⟩ (.inl rfl) (.int .i64 K)).setCell ⟨B, 1, none⟩ (.inl rfl) (.string N)).setCell ⟨B, 2, none⟩ (.inl rfl) (.string T))).block A (blk_lt KA4.out) (by omega)).trans KA4.out
    have kR := (setCell_blk (setCell_blk (setCell_blk kA 0 (.int .i64 K)) 1 (.string N)) 2 (.string T))
    have r0 := cell_blk kR 0 _ rfl
    have r1 := cell_blk kR 1 _ rfl
    have r2 := cell_blk kR 2 _ rfl
    exact bodyPost_ret (v := .agg #[.int .i64 K, .string N, .string T]) (by simp [results, Try.results8, go_sem, r0, r1, r2]) rfl ⟨rfl, ((((((HB4.out.setCell (p := ⟨B, 0, none⟩) hB0 (.int .i64 K)).setCell (p := ⟨B, 1, none⟩) hB0 (.string N)).setCell (p := ⟨B, 2, none⟩) hB0 (.string T)).setCell (p := ⟨A, 0, none⟩) hA0 (.int .i64 K)).setCell (p := ⟨A, 1, none⟩) hA0 (.string N)).setCell (p := ⟨A, 2, none⟩) hA0 (.string T))⟩
end Go.Proofs.Ytfnojmkiajdoaaa
