/-
  What a line says: the document's, a line with a name.
-/
import Derived.Test.YtfnojmkiajdoaaaF
import Derived.Deep.RegionHeld3
import Derived.Deep.CutBlock
namespace Go.Proofs.Ytfnojmkiajdoaaa
open Go.RowKit
set_option linter.unusedVariables false
set_option linter.unusedSimpArgs false

set_option maxHeartbeats 6400000 in
set_option maxRecDepth 100000 in
theorem refOf_name (xs : List Int) (hb : Byt xs) (hl : xs.length ≤ 100000) (h0 : xs ≠ []) (h1 : ∀ x ∈ xs, x ≠ 58) (w : World) : Calls Try.prog 9 #[.string (strOfNums xs)] w fun e w' => e = .returned (fdV ⟨kindOf xs, xs, []⟩) ∧ Below w.heap.size w w' := by
  obtain ⟨b1, b2, b3, b4, ⟨t1, t2, t3, t4⟩, hk⟩ := name_tests xs hb
  obtain ⟨S, hS⟩ : ∃ S, S = strOfNums xs := ⟨_, rfl⟩
  obtain ⟨n, hn⟩ : ∃ n, n = xs.length := ⟨_, rfl⟩
  have zS : (S.toList == []) = false := by rw [hS]; exact str_isnil false (by simpa using h0)
  have hsz : S.size = n := by rw [hS, strOfNums_size, hn]
  have hn0 : 0 < n := by rw [hn]; exact List.length_pos_iff.2 h0
  have hn0' : (0 : Int) < n := by omega
  have HG : Hid (∀ i, i < n → ∃ x : Int, (∀ h : i < S.size, ((S[i]'h).toNat : Int) = x) ∧ x ≠ 58) := Lib.hid fun i hi => by
    have hx : xs[i]? = some xs[i] := List.getElem?_eq_getElem (by omega)
    have hm := List.getElem_mem (l := xs) (n := i) (by omega)
    exact ⟨xs[i], by intro h; subst hS; exact str_get xs i _ hx (hb _ hm).1 (hb _ hm).2 h, h1 _ hm⟩
  obtain ⟨y0, hg0, hy0⟩ := HG.out 0 hn0
  have d0 : (y0 == 58) = false := by simpa using hy0
  have eR : ∀ k, kindOf xs = k → fdV ⟨kindOf xs, xs, []⟩ = .agg #[.int .i64 k, .string S, .string ⟨#[]⟩] := fun k e => by rw [e, hS]; rfl
  have hl2 : n ≤ 100000 := by omega
  rw [← hS] at t1 t2 t3 t4 ⊢
  have HR := Lib.hid eR
  have HT := Lib.hid (And.intro t1 (And.intro t2 (And.intro t3 t4)))
  have HKd := Lib.hid hk
  clear hS hn eR hb hl h0 h1 t1 t2 t3 t4 hk hy0
  obtain ⟨A, hA⟩ : ∃ A, A = w.heap.size := ⟨_, rfl⟩
  obtain ⟨w1, hw1⟩ : ∃ W, W = w.alloc (.cells #[.int .i64 0, .string ⟨#[]⟩, .string ⟨#[]⟩] 25) := ⟨_, rfl⟩
  obtain ⟨B, hB⟩ : ∃ B, B = w1.heap.size := ⟨_, rfl⟩
  obtain ⟨w2, hw2⟩ : ∃ W, W = w1.alloc (.cells #[.int .i64 7, .string S, .string ⟨#[]⟩] 25) := ⟨_, rfl⟩
  have s1 : w1.heap.size = A + 1 := by rw [hw1, hA]; simp
  have b1 : Below w.heap.size w w1 := by rw [hw1]; exact (Below.refl _ w).alloc (Nat.le_refl _) _
  have b2 : Below w.heap.size w w2 := by rw [hw2]; exact b1.alloc b1.size _
  have k1 : w2.heap[A]? = some (.cells #[.int .i64 0, .string ⟨#[]⟩, .string ⟨#[]⟩] 25 (0, 0)) := by rw [hw2]; refine alloc_blk ?_ _; rw [hw1, hA]; exact alloc_blk_new _ _
  have k2 : w2.heap[B]? = some (.cells #[.int .i64 7, .string S, .string ⟨#[]⟩] 25 (0, 0)) := by rw [hw2, hB]; exact alloc_blk_new _ _
  have hAB : A < B := by omega
  have EA := Lib.hid hA
  have E1 := Lib.hid hw1
  have HBA : Hid (A + 1 = B) := Lib.hid (by omega)
  have E2 := Lib.hid hw2
  have K1 := Lib.hid k1
  have K2 := Lib.hid k2
  have B2 := Lib.hid b2
  have hA0 : w.heap.size ≤ A := by omega
  have hB0 : w.heap.size ≤ B := by omega
  clear hA hw1 hB hw2 s1 b1 b2 k1 k2
  go_enter Try.func9, Try.ntmps9
  go_upto_region 7 with fail
  rw [← EA.out, ← E1.out, HBA.out, ← E2.out]
  go_loopg [4] n (fun gk v4 wr => ∃ i : Nat, v4 = .int .i64 i ∧ i ≤ n ∧ gk = n - i ∧ wr = w2)
  case atStart => exact ⟨0, rfl, by omega, rfl, rfl⟩
  case round =>
    obtain ⟨i, rfl, hin, hgk, rfl⟩ := hrel
    by_cases hi : i < n
    · obtain ⟨y, hg, hy⟩ := HG.out i hi
      have dy : (y != 58) = true := by simpa using hy
      have hi2 : (i : Int) < n := by omega
      have HGK := Lib.hid hgk
      clear hy hgk hg0
      go_wp2
      go_roundg (n - (i + 1))
      case measure => have := HGK.out; omega
      case rel => exact ⟨i + 1, by go_num, by omega, rfl, rfl⟩
    · obtain rfl : i = n := by omega
      obtain ⟨t1, t2, t3, t4⟩ := HT.out
      have p0 := cell_blk K2.out 0 _ rfl
      have pf0 := frozen_blk K2.out 0
      have p1 := cell_blk K2.out 1 _ rfl
      have pf1 := frozen_blk K2.out 1
      have p2 := cell_blk K2.out 2 _ rfl
      have pf2 := frozen_blk K2.out 2
      have pl := blk_lt K2.out
      have q0 := cell_blk K1.out 0 _ rfl
      have qf0 := frozen_blk K1.out 0
      have q1 := cell_blk K1.out 1 _ rfl
      have qf1 := frozen_blk K1.out 1
      have q2 := cell_blk K1.out 2 _ rfl
      have qf2 := frozen_blk K1.out 2
      have ql := blk_lt K1.out
      have hgk' := hgk
      clear hgk hgk' HT hg0
      rcases HKd.out with ⟨rfl, hK⟩ | ⟨rfl, rfl, hK⟩ | ⟨rfl, rfl, rfl, hK⟩ | ⟨rfl, rfl, rfl, rfl, hK⟩ | ⟨rfl, rfl, rfl, rfl, hK⟩
      · clear HKd
        go_wp2
        have kA := ((((Mod.refl (fun k => k = B) wr).setCell ⟨B, 0, none⟩ (.inl rfl) (.int .i64 3))).block A (blk_lt K1.out) (by omega)).trans K1.out
        have kR := (setCell_blk (setCell_blk (setCell_blk kA 0 (.int .i64 3)) 1 (.string S)) 2 (.string ⟨#[]⟩))
        have r0 := cell_blk kR 0 _ rfl
        have r1 := cell_blk kR 1 _ rfl
        have r2 := cell_blk kR 2 _ rfl
        exact bodyPost_ret (v := .agg #[.int .i64 3, .string S, .string ⟨#[]⟩]) (by simp [results, Try.results9, go_sem, r0, r1, r2]) rfl ⟨by rw [HR.out 3 hK], ((((B2.out.setCell (p := ⟨B, 0, none⟩) hB0 (.int .i64 3)).setCell (p := ⟨A, 0, none⟩) hA0 (.int .i64 3)).setCell (p := ⟨A, 1, none⟩) hA0 (.string S)).setCell (p := ⟨A, 2, none⟩) hA0 (.string ⟨#[]⟩))⟩
      · clear HKd
        go_wp2
        have kA := ((((Mod.refl (fun k => k = B) wr).setCell ⟨B, 0, none⟩ (.inl rfl) (.int .i64 4))).block A (blk_lt K1.out) (by omega)).trans K1.out
        have kR := (setCell_blk (setCell_blk (setCell_blk kA 0 (.int .i64 4)) 1 (.string S)) 2 (.string ⟨#[]⟩))
        have r0 := cell_blk kR 0 _ rfl
        have r1 := cell_blk kR 1 _ rfl
        have r2 := cell_blk kR 2 _ rfl
        exact bodyPost_ret (v := .agg #[.int .i64 4, .string S, .string ⟨#[]⟩]) (by simp [results, Try.results9, go_sem, r0, r1, r2]) rfl ⟨by rw [HR.out 4 hK], ((((B2.out.setCell (p := ⟨B, 0, none⟩) hB0 (.int .i64 4)).setCell (p := ⟨A, 0, none⟩) hA0 (.int .i64 4)).setCell (p := ⟨A, 1, none⟩) hA0 (.string S)).setCell (p := ⟨A, 2, none⟩) hA0 (.string ⟨#[]⟩))⟩
      · clear HKd
        go_wp2
        have kA := ((((Mod.refl (fun k => k = B) wr).setCell ⟨B, 0, none⟩ (.inl rfl) (.int .i64 5))).block A (blk_lt K1.out) (by omega)).trans K1.out
        have kR := (setCell_blk (setCell_blk (setCell_blk kA 0 (.int .i64 5)) 1 (.string S)) 2 (.string ⟨#[]⟩))
        have r0 := cell_blk kR 0 _ rfl
        have r1 := cell_blk kR 1 _ rfl
        have r2 := cell_blk kR 2 _ rfl
        exact bodyPost_ret (v := .agg #[.int .i64 5, .string S, .string ⟨#[]⟩]) (by simp [results, Try.results9, go_sem, r0, r1, r2]) rfl ⟨by rw [HR.out 5 hK], ((((B2.out.setCell (p := ⟨B, 0, none⟩) hB0 (.int .i64 5)).setCell (p := ⟨A, 0, none⟩) hA0 (.int .i64 5)).setCell (p := ⟨A, 1, none⟩) hA0 (.string S)).setCell (p := ⟨A, 2, none⟩) hA0 (.string ⟨#[]⟩))⟩
      · clear HKd
        go_wp2
        have kA := ((((Mod.refl (fun k => k = B) wr).setCell ⟨B, 0, none⟩ (.inl rfl) (.int .i64 6))).block A (blk_lt K1.out) (by omega)).trans K1.out
        have kR := (setCell_blk (setCell_blk (setCell_blk kA 0 (.int .i64 6)) 1 (.string S)) 2 (.string ⟨#[]⟩))
        have r0 := cell_blk kR 0 _ rfl
        have r1 := cell_blk kR 1 _ rfl
        have r2 := cell_blk kR 2 _ rfl
        exact bodyPost_ret (v := .agg #[.int .i64 6, .string S, .string ⟨#[]⟩]) (by simp [results, Try.results9, go_sem, r0, r1, r2]) rfl ⟨by rw [HR.out 6 hK], ((((B2.out.setCell (p := ⟨B, 0, none⟩) hB0 (.int .i64 6)).setCell (p := ⟨A, 0, none⟩) hA0 (.int .i64 6)).setCell (p := ⟨A, 1, none⟩) hA0 (.string S)).setCell (p := ⟨A, 2, none⟩) hA0 (.string ⟨#[]⟩))⟩
      · clear HKd
        go_wp2
        have kA := (((Mod.refl (fun k => k = B) wr)).block A (blk_lt K1.out) (by omega)).trans K1.out
        have kR := (setCell_blk (setCell_blk (setCell_blk kA 0 (.int .i64 7)) 1 (.string S)) 2 (.string ⟨#[]⟩))
        have r0 := cell_blk kR 0 _ rfl
        have r1 := cell_blk kR 1 _ rfl
        have r2 := cell_blk kR 2 _ rfl
        exact bodyPost_ret (v := .agg #[.int .i64 7, .string S, .string ⟨#[]⟩]) (by simp [results, Try.results9, go_sem, r0, r1, r2]) rfl ⟨by rw [HR.out 7 hK], (((B2.out.setCell (p := ⟨A, 0, none⟩) hA0 (.int .i64 7)).setCell (p := ⟨A, 1, none⟩) hA0 (.string S)).setCell (p := ⟨A, 2, none⟩) hA0 (.string ⟨#[]⟩))⟩

set_option maxHeartbeats 12800000 in
set_option maxRecDepth 100000 in
theorem refOf_both (xs : List Int) (hb : Byt xs) (hl : xs.length ≤ 100000) (k : Nat) (n v : List Int) (hk : k < xs.length) (hs : xs = n ++ 58 :: v) (hnk : n.length = k) (h0 : n ≠ []) (h1 : ∀ x ∈ n, x ≠ 58) (w : World) : Calls Try.prog 9 #[.string (strOfNums xs)] w fun e w' => e = .returned (fdV ⟨kindOf n, n, trim1 v⟩) ∧ Below w.heap.size w w' := by
  have hbs := hb
  rw [hs] at hbs
  obtain ⟨hbn, hbv'⟩ := Byt.append.1 hbs
  have hbv := (Byt.cons.1 hbv').2
  obtain ⟨b1, b2, b3, b4, ⟨t1, t2, t3, t4⟩, hkd⟩ := name_tests n hbn
  obtain ⟨S, hS⟩ : ∃ S, S = strOfNums xs := ⟨_, rfl⟩
  obtain ⟨N, hN⟩ : ∃ S, S = strOfNums n := ⟨_, rfl⟩
  obtain ⟨V, hV⟩ : ∃ S, S = strOfNums v := ⟨_, rfl⟩
  obtain ⟨T, hT⟩ : ∃ S, S = strOfNums (trim1 v) := ⟨_, rfl⟩
  obtain ⟨m, hm⟩ : ∃ n, n = xs.length := ⟨_, rfl⟩
  have hdk : xs.drop (k + 1) = v := by rw [hs, ← hnk, List.drop_append]; simp
  have htk : xs.take k = n := by rw [hs, ← hnk, List.take_left]
  have zS : (S.toList == []) = false := by rw [hS]; exact str_isnil false (by rw [hs]; simp)
  have hsz : S.size = m := by rw [hS, strOfNums_size, hm]
  have xN : S.extract 0 k = N := by rw [hS, str_to, htk, hN]
  have xV : S.extract (k + 1) m = V := by rw [hS, str_from xs (k + 1) m hm.symm, hdk, hV]
  have hk0 : 0 < k := by rw [← hnk]; exact List.length_pos_iff.2 h0
  have HG : Hid (∀ i, i < k → ∃ x : Int, (∀ h : i < S.size, ((S[i]'h).toNat : Int) = x) ∧ x ≠ 58) := Lib.hid fun i hi => by
    have hx : xs[i]? = some n[i] := by rw [hs, List.getElem?_append_left (by omega)]; exact List.getElem?_eq_getElem (by omega)
    have hmm := List.getElem_mem (l := n) (n := i) (by omega)
    exact ⟨n[i], by intro h; subst hS; exact str_get xs i _ hx (hbn _ hmm).1 (hbn _ hmm).2 h, h1 _ hmm⟩
  have HGk : Hid (∀ h : k < S.size, ((S[k]'h).toNat : Int) = 58) := Lib.hid (by
    intro h
    subst hS
    refine str_get xs k 58 ?_ (by decide) (by decide) h
    rw [hs, ← hnk, List.getElem?_append_right (by omega)]
    simp)
  obtain ⟨y0, hg0, hy0⟩ := HG.out 0 hk0
  have d0 : (y0 == 58) = false := by simpa using hy0
  have HV : Hid ((V.size = 0 ∧ T = V) ∨ (∃ c : Nat, V.size = c + 1 ∧ (∀ h : 0 < V.size, ((V[0]'h).toNat : Int) = 32) ∧ V.extract 1 (c + 1) = T ∧ c ≤ 100000) ∨ (∃ (c : Nat) (x : Int), V.size = c + 1 ∧ (∀ h : 0 < V.size, ((V[0]'h).toNat : Int) = x) ∧ x ≠ 32 ∧ T = V ∧ c ≤ 100000)) := Lib.hid (by
    have hvl : v.length ≤ 100000 := by rw [← hdk, List.length_drop]; omega
    cases v with
    | nil => exact .inl ⟨by rw [hV]; rfl, by rw [hT, hV]; rfl⟩
    | cons x r =>
      have hx := Byt.cons.1 hbv
      simp only [List.length_cons] at hvl
      have hvz : V.size = r.length + 1 := by rw [hV, strOfNums_size]; rfl
      have hg : ∀ h : 0 < V.size, ((V[0]'h).toNat : Int) = x := by intro h; subst hV; exact str_get (x :: r) 0 x rfl hx.1.1 hx.1.2 h
      by_cases h32 : x = 32
      · subst h32
        refine .inr (.inl ⟨r.length, hvz, hg, ?_, by omega⟩)
        rw [hV, str_from (32 :: r) 1 (r.length + 1) rfl, hT]
        simp [trim1]
      · exact .inr (.inr ⟨r.length, x, hvz, hg, h32, by rw [hT, hV]; simp [trim1, h32], by omega⟩))
  have eR : ∀ j, kindOf n = j → fdV ⟨kindOf n, n, trim1 v⟩ = .agg #[.int .i64 j, .string N, .string T] := fun j e => by rw [e, hN, hT]; rfl
  have hkm : k < m := by omega
  have hkm' : (k : Int) < m := by omega
  have hk1 : (k : Int) + 1 ≤ m := by omega
  have hk2 : k + 1 ≤ m := by omega
  have hk3 : (k : Int) ≤ m := by omega
  have hk4 : IntKind.i64.wrap ((k : Int) + 1) = (k : Int) + 1 := by rw [IntKind.wrap_i64]; omega
  have hk5 : (0 : Int) ≤ (k : Int) + 1 := by omega
  have hm0 : 0 < m := by omega
  have hm0' : (0 : Int) < m := by omega
  have hl2 : m ≤ 100000 := by omega
  rw [← hN] at t1 t2 t3 t4
  rw [← hS]
  have HR := Lib.hid eR
  have HT := Lib.hid (And.intro t1 (And.intro t2 (And.intro t3 t4)))
  have HKd := Lib.hid hkd
  clear hbs hbn hbv' hbv hS hN hV hT hm hdk htk eR hb hl h0 h1 t1 t2 t3 t4 hkd hy0 hs hnk hk
  obtain ⟨A, hA⟩ : ∃ A, A = w.heap.size := ⟨_, rfl⟩
  obtain ⟨w1, hw1⟩ : ∃ W, W = w.alloc (.cells #[.int .i64 0, .string ⟨#[]⟩, .string ⟨#[]⟩] 25) := ⟨_, rfl⟩
  obtain ⟨B, hB⟩ : ∃ B, B = w1.heap.size := ⟨_, rfl⟩
  obtain ⟨w2, hw2⟩ : ∃ W, W = w1.alloc (.cells #[.int .i64 7, .string S, .string ⟨#[]⟩] 25) := ⟨_, rfl⟩
  have s1 : w1.heap.size = A + 1 := by rw [hw1, hA]; simp
  have b1 : Below w.heap.size w w1 := by rw [hw1]; exact (Below.refl _ w).alloc (Nat.le_refl _) _
  have b2 : Below w.heap.size w w2 := by rw [hw2]; exact b1.alloc b1.size _
  have k1 : w2.heap[A]? = some (.cells #[.int .i64 0, .string ⟨#[]⟩, .string ⟨#[]⟩] 25 (0, 0)) := by rw [hw2]; refine alloc_blk ?_ _; rw [hw1, hA]; exact alloc_blk_new _ _
  have k2 : w2.heap[B]? = some (.cells #[.int .i64 7, .string S, .string ⟨#[]⟩] 25 (0, 0)) := by rw [hw2, hB]; exact alloc_blk_new _ _
  have hAB : A < B := by omega
  have EA := Lib.hid hA
  have E1 := Lib.hid hw1
  have HBA : Hid (A + 1 = B) := Lib.hid (by omega)
  have E2 := Lib.hid hw2
  have K1 := Lib.hid k1
  have K2 := Lib.hid k2
  have B2 := Lib.hid b2
  have hA0 : w.heap.size ≤ A := by omega
  have hB0 : w.heap.size ≤ B := by omega
  clear hA hw1 hB hw2 s1 b1 b2 k1 k2
  go_enter Try.func9, Try.ntmps9
  go_upto_region 7 with fail
  rw [← EA.out, ← E1.out, HBA.out, ← E2.out]
  go_loopg [4] m (fun gk v4 wr => ∃ i : Nat, v4 = .int .i64 i ∧ i ≤ k ∧ gk = m - i ∧ wr = w2)
  case atStart => exact ⟨0, rfl, by omega, rfl, rfl⟩
  case round =>
    obtain ⟨i, rfl, hin, hgk, rfl⟩ := hrel
    by_cases hi : i < k
    · obtain ⟨y, hg, hy⟩ := HG.out i hi
      have dy : (y != 58) = true := by simpa using hy
      have hi2 : (i : Int) < m := by omega
      have hi3 : i < m := by omega
      have HGK := Lib.hid hgk
      clear hy hgk hg0
      go_wp2
      go_roundg (m - (i + 1))
      case measure => have := HGK.out; omega
      case rel => exact ⟨i + 1, by go_num, by omega, rfl, rfl⟩
    · obtain rfl : i = k := by omega
      have hgk' := HGk.out
      obtain ⟨t1, t2, t3, t4⟩ := HT.out
      have p0 := cell_blk K2.out 0 _ rfl
      have pf0 := frozen_blk K2.out 0
      have p1 := cell_blk K2.out 1 _ rfl
      have pf1 := frozen_blk K2.out 1
      have p2 := cell_blk K2.out 2 _ rfl
      have pf2 := frozen_blk K2.out 2
      have pl := blk_lt K2.out
      have q0 := cell_blk K1.out 0 _ rfl
      have qf0 := frozen_blk K1.out 0
      have q1 := cell_blk K1.out 1 _ rfl
      have qf1 := frozen_blk K1.out 1
      have q2 := cell_blk K1.out 2 _ rfl
      have qf2 := frozen_blk K1.out 2
      have ql := blk_lt K1.out
      clear hgk HT hg0 HGk
      have HK1 := Lib.hid K1.out
      go_upto_region 10 with fail
      go_cut [] from 26 to 34 (fun wx => wx.heap[B]? = some (.cells #[.int .i64 7, .string N, .string V] 25 (0, 0)) ∧ wx.heap[A]? = some (.cells #[.int .i64 0, .string ⟨#[]⟩, .string ⟨#[]⟩] 25 (0, 0)) ∧ Below w.heap.size w wx)
      case first =>
        have kd0 : (wr.drew).heap[B]? = some (.cells #[.int .i64 7, .string S, .string ⟨#[]⟩] 25 (0, 0)) := K2.out
        have kad0 : (wr.drew).heap[A]? = some (.cells #[.int .i64 0, .string ⟨#[]⟩, .string ⟨#[]⟩] 25 (0, 0)) := K1.out
        have hbd0 : Below w.heap.size w wr.drew := B2.out.trans ((Below.drewN' wr 1).mono B2.out.size)
        refine wp_region_held_drew (S := fun _ => True) (by kernel_rfl) trivial (fun hHeld => ?_)
        generalize wr.drew = wd at hHeld kd0 kad0 hbd0 ⊢
        have kd := kd0
        have kad := kad0
        have hbd := hbd0
        refine' wpAnyH_take (i := 0) (oi := { dst := some 26, op := Op.move (Operand.tmp 0), type := 9, pos := "ref.go:28", after := #[], guard := none }) (v := ?v1) rfl (by kernel_rfl) (by kernel_rfl) (by kernel_rfl) (fun _ _ _ h => h) (.inl ⟨by first | rfl | simp [Region.wanted, yielded], ?hy1⟩) trivial ?rest1
        case hy1 => (intro W hW; go_simp; try with_reducible rfl)
        simp only [Act.put, List.setIfInBounds_toArray, List.set_cons_zero, List.set_cons_succ]
        refine' wpAnyH_take (i := 1) (oi := { dst := some 27, op := Op.move (Operand.tmp 4), type := 3, pos := "ref.go:28", after := #[], guard := none }) (v := ?v2) rfl (by kernel_rfl) (by kernel_rfl) (by kernel_rfl) (fun _ _ _ h => h) (.inl ⟨by first | rfl | simp [Region.wanted, yielded], ?hy2⟩) trivial ?rest2
        case hy2 => (intro W hW; go_simp; try with_reducible rfl)
        simp only [Act.put, List.setIfInBounds_toArray, List.set_cons_zero, List.set_cons_succ]
        refine' wpAnyH_take (i := 2) (oi := { dst := some 28, op := Op.slice 9 (Operand.tmp 26) none (some (Operand.tmp 27)) none, type := 9, pos := "ref.go:28", after := #[{ on := 0, ground := Ground.data }, { on := 1, ground := Ground.data }], guard := none }) (v := ?v3) rfl (by kernel_rfl) (by kernel_rfl) (by kernel_rfl) (fun _ _ _ h => h) (.inl ⟨by first | rfl | simp [Region.wanted, yielded], ?hy3⟩) trivial ?rest3
        case hy3 => (intro W hW; go_simp; try with_reducible rfl)
        simp only [Act.put, List.setIfInBounds_toArray, List.set_cons_zero, List.set_cons_succ]
        refine' wpAnyH_take (i := 3) (oi := { dst := some 29, op := Op.move (Operand.tmp 0), type := 9, pos := "ref.go:28", after := #[], guard := none }) (v := ?v4) rfl (by kernel_rfl) (by kernel_rfl) (by kernel_rfl) (fun _ _ _ h => h) (.inl ⟨by first | rfl | simp [Region.wanted, yielded], ?hy4⟩) trivial ?rest4
        case hy4 => (intro W hW; go_simp; try with_reducible rfl)
        simp only [Act.put, List.setIfInBounds_toArray, List.set_cons_zero, List.set_cons_succ]
        refine' wpAnyH_take (i := 4) (oi := { dst := some 30, op := Op.move (Operand.tmp 4), type := 3, pos := "ref.go:28", after := #[], guard := none }) (v := ?v5) rfl (by kernel_rfl) (by kernel_rfl) (by kernel_rfl) (fun _ _ _ h => h) (.inl ⟨by first | rfl | simp [Region.wanted, yielded], ?hy5⟩) trivial ?rest5
        case hy5 => (intro W hW; go_simp; try with_reducible rfl)
        simp only [Act.put, List.setIfInBounds_toArray, List.set_cons_zero, List.set_cons_succ]
        refine' wpAnyH_take (i := 5) (oi := { dst := some 31, op := Op.binOp BinOp.add 3 (Operand.tmp 30) (Operand.const (Value.int IntKind.i64 1)) 3, type := 3, pos := "ref.go:28", after := #[{ on := 4, ground := Ground.data }], guard := none }) (v := ?v6) rfl (by kernel_rfl) (by kernel_rfl) (by kernel_rfl) (fun _ _ _ h => h) (.inl ⟨by first | rfl | simp [Region.wanted, yielded], ?hy6⟩) trivial ?rest6
        case hy6 => (intro W hW; go_simp; try with_reducible rfl)
        simp only [Act.put, List.setIfInBounds_toArray, List.set_cons_zero, List.set_cons_succ]
        refine' wpAnyH_take (i := 6) (oi := { dst := some 32, op := Op.slice 9 (Operand.tmp 29) (some (Operand.tmp 31)) none none, type := 9, pos := "ref.go:28", after := #[{ on := 3, ground := Ground.data }, { on := 5, ground := Ground.data }], guard := none }) (v := ?v7) rfl (by kernel_rfl) (by kernel_rfl) (by kernel_rfl) (fun _ _ _ h => h) (.inl ⟨by first | rfl | simp [Region.wanted, yielded], ?hy7⟩) trivial ?rest7
        case hy7 => (intro W hW; go_simp; try with_reducible rfl)
        simp only [Act.put, List.setIfInBounds_toArray, List.set_cons_zero, List.set_cons_succ]
        refine' wpAnyH_take (i := 7) (oi := { dst := some 33, op := Op.fieldAddr 25 (Operand.tmp 3) 1, type := 0, pos := "ref.go:28", after := #[{ on := 0, ground := Ground.phase }, { on := 1, ground := Ground.phase }, { on := 2, ground := Ground.phase }, { on := 3, ground := Ground.textOnly Departure.lateStores }, { on := 4, ground := Ground.textOnly Departure.lateStores }, { on := 5, ground := Ground.textOnly Departure.lateStores }, { on := 6, ground := Ground.textOnly Departure.lateStoresUnsure }], guard := none }) (v := ?v8) rfl (by kernel_rfl) (by kernel_rfl) (by kernel_rfl) (fun _ _ _ h => h) (.inl ⟨by first | rfl | simp [Region.wanted, yielded], ?hy8⟩) trivial ?rest8
        case hy8 => (intro W hW; go_simp; try with_reducible rfl)
        simp only [Act.put, List.setIfInBounds_toArray, List.set_cons_zero, List.set_cons_succ]
        refine wpAnyH_ready (rs := [8]) (by kernel_rfl) (by simp) ?_
        refine AllReadyH.cons (o := { dst := none, op := Op.store 9 (Operand.tmp 33) (Operand.tmp 28), type := 0, pos := "ref.go:28", after := #[{ on := 7, ground := Ground.data }, { on := 2, ground := Ground.data }, { on := 0, ground := Ground.phase }, { on := 1, ground := Ground.phase }, { on := 2, ground := Ground.phase }, { on := 3, ground := Ground.textOnly Departure.lateStores }, { on := 4, ground := Ground.textOnly Departure.lateStores }, { on := 5, ground := Ground.textOnly Departure.lateStores }, { on := 6, ground := Ground.textOnly Departure.lateStoresUnsure }], guard := none }) rfl (fun K hK => ?_) (AllReadyH.nil)
        try simp only [List.getElem_toArray, List.getElem_cons_succ, List.getElem_cons_zero]
        have g1 := cell_blk kd 1 _ rfl
        have gf := frozen_blk kd 1
        have gl := blk_lt kd
        go_simp
        have kd1 := setCell_blk kd 1 (.string N)
        refine hK.out _ _ trivial (fun hHeld => ?_)
        clear hK K
        try simp only [Act.put, List.setIfInBounds_toArray, List.set_cons_zero, List.set_cons_succ]
        refine' wpAnyH_take (i := 9) (oi := { dst := some 34, op := Op.fieldAddr 25 (Operand.tmp 3) 2, type := 0, pos := "ref.go:28", after := #[{ on := 0, ground := Ground.phase }, { on := 1, ground := Ground.phase }, { on := 2, ground := Ground.phase }, { on := 3, ground := Ground.phase }, { on := 4, ground := Ground.phase }, { on := 5, ground := Ground.phase }, { on := 6, ground := Ground.phase }, { on := 7, ground := Ground.phase }, { on := 8, ground := Ground.phase }], guard := none }) (v := ?v9) rfl (by kernel_rfl) (by kernel_rfl) (by kernel_rfl) (fun _ _ _ h => h) (.inl ⟨by first | rfl | simp [Region.wanted, yielded], ?hy9⟩) trivial ?rest9
        case hy9 => (intro W hW; go_simp; try with_reducible rfl)
        simp only [Act.put, List.setIfInBounds_toArray, List.set_cons_zero, List.set_cons_succ]
        refine wpAnyH_ready (rs := [10]) (by kernel_rfl) (by simp) ?_
        refine AllReadyH.cons (o := { dst := none, op := Op.store 9 (Operand.tmp 34) (Operand.tmp 32), type := 0, pos := "ref.go:28", after := #[{ on := 9, ground := Ground.data }, { on := 6, ground := Ground.data }, { on := 8, ground := Ground.chain }, { on := 0, ground := Ground.phase }, { on := 1, ground := Ground.phase }, { on := 2, ground := Ground.phase }, { on := 3, ground := Ground.phase }, { on := 4, ground := Ground.phase }, { on := 5, ground := Ground.phase }, { on := 6, ground := Ground.phase }, { on := 7, ground := Ground.phase }, { on := 8, ground := Ground.phase }], guard := none }) rfl (fun K hK => ?_) (AllReadyH.nil)
        try simp only [List.getElem_toArray, List.getElem_cons_succ, List.getElem_cons_zero]
        have g1 := cell_blk kd1 2 _ rfl
        have gf := frozen_blk kd1 2
        have gl := blk_lt kd1
        have kz := setCell_blk kd1 2 (.string V)
        have hmz : Mod (fun k => k = B) wd ((wd.setCell ⟨B, 1, none⟩ (.string N)).setCell ⟨B, 2, none⟩ (.string V)) := ((Mod.refl (fun k => k = B) wd).setCell ⟨B, 1, none⟩ (.inl rfl) (.string N)).setCell ⟨B, 2, none⟩ (.inl rfl) (.string V)
        have kaz := (hmz.block A (blk_lt kad) (by omega)).trans kad
        have hbz : Below w.heap.size w ((wd.setCell ⟨B, 1, none⟩ (.string N)).setCell ⟨B, 2, none⟩ (.string V)) := (hbd.setCell (p := ⟨B, 1, none⟩) hB0 (.string N)).setCell (p := ⟨B, 2, none⟩) hB0 (.string V)
        go_simp
        refine hK.out _ _ trivial (fun hHeld => ?_)
        clear hK K
        try simp only [Act.put, List.setIfInBounds_toArray, List.set_cons_zero, List.set_cons_succ]
        refine wpAnyH_done (by kernel_rfl) ?_ _
        go_wp2
        go_meet
        exact ⟨kz, kaz, hbz⟩
      case rest =>
        obtain ⟨kb, ka, hbc⟩ := hcut
        have KB := Lib.hid kb
        have KA := Lib.hid ka
        have HBc := Lib.hid hbc
        have p0 := cell_blk kb 0 _ rfl
        have pf0 := frozen_blk kb 0
        have p1 := cell_blk kb 1 _ rfl
        have pf1 := frozen_blk kb 1
        have p2 := cell_blk kb 2 _ rfl
        have pf2 := frozen_blk kb 2
        have pl := blk_lt kb
        have q0 := cell_blk ka 0 _ rfl
        have qf0 := frozen_blk ka 0
        have q1 := cell_blk ka 1 _ rfl
        have qf1 := frozen_blk ka 1
        have q2 := cell_blk ka 2 _ rfl
        have qf2 := frozen_blk ka 2
        have ql := blk_lt ka
        clear kb ka hbc K1 K2 B2 HK1 E1 E2
        rcases HV.out with ⟨hv0, hTV⟩ | ⟨c, hvz, hvg, hvx, hcl⟩ | ⟨c, x, hvz, hvg, hvx, hTV, hcl⟩
        · clear HV
          subst hTV
          rcases HKd.out with ⟨rfl, hK⟩ | ⟨rfl, rfl, hK⟩ | ⟨rfl, rfl, rfl, hK⟩ | ⟨rfl, rfl, rfl, rfl, hK⟩ | ⟨rfl, rfl, rfl, rfl, hK⟩
          · clear HKd
            go_wp2
            have kA := ((((Mod.refl (fun k => k = B) wc).setCell ⟨B, 0, none⟩ (.inl rfl) (.int .i64 3))).block A (blk_lt KA.out) (by omega)).trans KA.out
            have kR := (setCell_blk (setCell_blk (setCell_blk kA 0 (.int .i64 3)) 1 (.string N)) 2 (.string T))
            have r0 := cell_blk kR 0 _ rfl
            have r1 := cell_blk kR 1 _ rfl
            have r2 := cell_blk kR 2 _ rfl
            exact bodyPost_ret (v := .agg #[.int .i64 3, .string N, .string T]) (by simp [results, Try.results9, go_sem, r0, r1, r2]) rfl ⟨by rw [HR.out 3 hK], ((((HBc.out.setCell (p := ⟨B, 0, none⟩) hB0 (.int .i64 3)).setCell (p := ⟨A, 0, none⟩) hA0 (.int .i64 3)).setCell (p := ⟨A, 1, none⟩) hA0 (.string N)).setCell (p := ⟨A, 2, none⟩) hA0 (.string T))⟩
          · clear HKd
            go_wp2
            have kA := ((((Mod.refl (fun k => k = B) wc).setCell ⟨B, 0, none⟩ (.inl rfl) (.int .i64 4))).block A (blk_lt KA.out) (by omega)).trans KA.out
            have kR := (setCell_blk (setCell_blk (setCell_blk kA 0 (.int .i64 4)) 1 (.string N)) 2 (.string T))
            have r0 := cell_blk kR 0 _ rfl
            have r1 := cell_blk kR 1 _ rfl
            have r2 := cell_blk kR 2 _ rfl
            exact bodyPost_ret (v := .agg #[.int .i64 4, .string N, .string T]) (by simp [results, Try.results9, go_sem, r0, r1, r2]) rfl ⟨by rw [HR.out 4 hK], ((((HBc.out.setCell (p := ⟨B, 0, none⟩) hB0 (.int .i64 4)).setCell (p := ⟨A, 0, none⟩) hA0 (.int .i64 4)).setCell (p := ⟨A, 1, none⟩) hA0 (.string N)).setCell (p := ⟨A, 2, none⟩) hA0 (.string T))⟩
          · clear HKd
            go_wp2
            have kA := ((((Mod.refl (fun k => k = B) wc).setCell ⟨B, 0, none⟩ (.inl rfl) (.int .i64 5))).block A (blk_lt KA.out) (by omega)).trans KA.out
            have kR := (setCell_blk (setCell_blk (setCell_blk kA 0 (.int .i64 5)) 1 (.string N)) 2 (.string T))
            have r0 := cell_blk kR 0 _ rfl
            have r1 := cell_blk kR 1 _ rfl
            have r2 := cell_blk kR 2 _ rfl
            exact bodyPost_ret (v := .agg #[.int .i64 5, .string N, .string T]) (by simp [results, Try.results9, go_sem, r0, r1, r2]) rfl ⟨by rw [HR.out 5 hK], ((((HBc.out.setCell (p := ⟨B, 0, none⟩) hB0 (.int .i64 5)).setCell (p := ⟨A, 0, none⟩) hA0 (.int .i64 5)).setCell (p := ⟨A, 1, none⟩) hA0 (.string N)).setCell (p := ⟨A, 2, none⟩) hA0 (.string T))⟩
          · clear HKd
            go_wp2
            have kA := ((((Mod.refl (fun k => k = B) wc).setCell ⟨B, 0, none⟩ (.inl rfl) (.int .i64 6))).block A (blk_lt KA.out) (by omega)).trans KA.out
            have kR := (setCell_blk (setCell_blk (setCell_blk kA 0 (.int .i64 6)) 1 (.string N)) 2 (.string T))
            have r0 := cell_blk kR 0 _ rfl
            have r1 := cell_blk kR 1 _ rfl
            have r2 := cell_blk kR 2 _ rfl
            exact bodyPost_ret (v := .agg #[.int .i64 6, .string N, .string T]) (by simp [results, Try.results9, go_sem, r0, r1, r2]) rfl ⟨by rw [HR.out 6 hK], ((((HBc.out.setCell (p := ⟨B, 0, none⟩) hB0 (.int .i64 6)).setCell (p := ⟨A, 0, none⟩) hA0 (.int .i64 6)).setCell (p := ⟨A, 1, none⟩) hA0 (.string N)).setCell (p := ⟨A, 2, none⟩) hA0 (.string T))⟩
          · clear HKd
            go_wp2
            have kA := (((Mod.refl (fun k => k = B) wc)).block A (blk_lt KA.out) (by omega)).trans KA.out
            have kR := (setCell_blk (setCell_blk (setCell_blk kA 0 (.int .i64 7)) 1 (.string N)) 2 (.string T))
            have r0 := cell_blk kR 0 _ rfl
            have r1 := cell_blk kR 1 _ rfl
            have r2 := cell_blk kR 2 _ rfl
            exact bodyPost_ret (v := .agg #[.int .i64 7, .string N, .string T]) (by simp [results, Try.results9, go_sem, r0, r1, r2]) rfl ⟨by rw [HR.out 7 hK], (((HBc.out.setCell (p := ⟨A, 0, none⟩) hA0 (.int .i64 7)).setCell (p := ⟨A, 1, none⟩) hA0 (.string N)).setCell (p := ⟨A, 2, none⟩) hA0 (.string T))⟩
        · clear HV
          have hc1 : (1 : Int) ≤ (c : Int) + 1 := by omega
          have hc0 : (0 : Int) < (c : Int) + 1 := by omega
          rcases HKd.out with ⟨rfl, hK⟩ | ⟨rfl, rfl, hK⟩ | ⟨rfl, rfl, rfl, hK⟩ | ⟨rfl, rfl, rfl, rfl, hK⟩ | ⟨rfl, rfl, rfl, rfl, hK⟩
          · clear HKd
            go_wp2
            have kA := (((((Mod.refl (fun k => k = B) wc).setCell ⟨B, 2, none⟩ (.inl rfl) (.string T)).setCell ⟨B, 0, none⟩ (.inl rfl) (.int .i64 3))).block A (blk_lt KA.out) (by omega)).trans KA.out
            have kR := (setCell_blk (setCell_blk (setCell_blk kA 0 (.int .i64 3)) 1 (.string N)) 2 (.string T))
            have r0 := cell_blk kR 0 _ rfl
            have r1 := cell_blk kR 1 _ rfl
            have r2 := cell_blk kR 2 _ rfl
            exact bodyPost_ret (v := .agg #[.int .i64 3, .string N, .string T]) (by simp [results, Try.results9, go_sem, r0, r1, r2]) rfl ⟨by rw [HR.out 3 hK], (((((HBc.out.setCell (p := ⟨B, 2, none⟩) hB0 (.string T)).setCell (p := ⟨B, 0, none⟩) hB0 (.int .i64 3)).setCell (p := ⟨A, 0, none⟩) hA0 (.int .i64 3)).setCell (p := ⟨A, 1, none⟩) hA0 (.string N)).setCell (p := ⟨A, 2, none⟩) hA0 (.string T))⟩
          · clear HKd
            go_wp2
            have kA := (((((Mod.refl (fun k => k = B) wc).setCell ⟨B, 2, none⟩ (.inl rfl) (.string T)).setCell ⟨B, 0, none⟩ (.inl rfl) (.int .i64 4))).block A (blk_lt KA.out) (by omega)).trans KA.out
            have kR := (setCell_blk (setCell_blk (setCell_blk kA 0 (.int .i64 4)) 1 (.string N)) 2 (.string T))
            have r0 := cell_blk kR 0 _ rfl
            have r1 := cell_blk kR 1 _ rfl
            have r2 := cell_blk kR 2 _ rfl
            exact bodyPost_ret (v := .agg #[.int .i64 4, .string N, .string T]) (by simp [results, Try.results9, go_sem, r0, r1, r2]) rfl ⟨by rw [HR.out 4 hK], (((((HBc.out.setCell (p := ⟨B, 2, none⟩) hB0 (.string T)).setCell (p := ⟨B, 0, none⟩) hB0 (.int .i64 4)).setCell (p := ⟨A, 0, none⟩) hA0 (.int .i64 4)).setCell (p := ⟨A, 1, none⟩) hA0 (.string N)).setCell (p := ⟨A, 2, none⟩) hA0 (.string T))⟩
          · clear HKd
            go_wp2
            have kA := (((((Mod.refl (fun k => k = B) wc).setCell ⟨B, 2, none⟩ (.inl rfl) (.string T)).setCell ⟨B, 0, none⟩ (.inl rfl) (.int .i64 5))).block A (blk_lt KA.out) (by omega)).trans KA.out
            have kR := (setCell_blk (setCell_blk (setCell_blk kA 0 (.int .i64 5)) 1 (.string N)) 2 (.string T))
            have r0 := cell_blk kR 0 _ rfl
            have r1 := cell_blk kR 1 _ rfl
            have r2 := cell_blk kR 2 _ rfl
            exact bodyPost_ret (v := .agg #[.int .i64 5, .string N, .string T]) (by simp [results, Try.results9, go_sem, r0, r1, r2]) rfl ⟨by rw [HR.out 5 hK], (((((HBc.out.setCell (p := ⟨B, 2, none⟩) hB0 (.string T)).setCell (p := ⟨B, 0, none⟩) hB0 (.int .i64 5)).setCell (p := ⟨A, 0, none⟩) hA0 (.int .i64 5)).setCell (p := ⟨A, 1, none⟩) hA0 (.string N)).setCell (p := ⟨A, 2, none⟩) hA0 (.string T))⟩
          · clear HKd
            go_wp2
            have kA := (((((Mod.refl (fun k => k = B) wc).setCell ⟨B, 2, none⟩ (.inl rfl) (.string T)).setCell ⟨B, 0, none⟩ (.inl rfl) (.int .i64 6))).block A (blk_lt KA.out) (by omega)).trans KA.out
            have kR := (setCell_blk (setCell_blk (setCell_blk kA 0 (.int .i64 6)) 1 (.string N)) 2 (.string T))
            have r0 := cell_blk kR 0 _ rfl
            have r1 := cell_blk kR 1 _ rfl
            have r2 := cell_blk kR 2 _ rfl
            exact bodyPost_ret (v := .agg #[.int .i64 6, .string N, .string T]) (by simp [results, Try.results9, go_sem, r0, r1, r2]) rfl ⟨by rw [HR.out 6 hK], (((((HBc.out.setCell (p := ⟨B, 2, none⟩) hB0 (.string T)).setCell (p := ⟨B, 0, none⟩) hB0 (.int .i64 6)).setCell (p := ⟨A, 0, none⟩) hA0 (.int .i64 6)).setCell (p := ⟨A, 1, none⟩) hA0 (.string N)).setCell (p := ⟨A, 2, none⟩) hA0 (.string T))⟩
          · clear HKd
            go_wp2
            have kA := ((((Mod.refl (fun k => k = B) wc).setCell ⟨B, 2, none⟩ (.inl rfl) (.string T))).block A (blk_lt KA.out) (by omega)).trans KA.out
            have kR := (setCell_blk (setCell_blk (setCell_blk kA 0 (.int .i64 7)) 1 (.string N)) 2 (.string T))
            have r0 := cell_blk kR 0 _ rfl
            have r1 := cell_blk kR 1 _ rfl
            have r2 := cell_blk kR 2 _ rfl
            exact bodyPost_ret (v := .agg #[.int .i64 7, .string N, .string T]) (by simp [results, Try.results9, go_sem, r0, r1, r2]) rfl ⟨by rw [HR.out 7 hK], ((((HBc.out.setCell (p := ⟨B, 2, none⟩) hB0 (.string T)).setCell (p := ⟨A, 0, none⟩) hA0 (.int .i64 7)).setCell (p := ⟨A, 1, none⟩) hA0 (.string N)).setCell (p := ⟨A, 2, none⟩) hA0 (.string T))⟩
        · clear HV
          subst hTV
          have dx : (x == 32) = false := by simpa using hvx
          have hc0 : (0 : Int) < (c : Int) + 1 := by omega
          clear hvx
          rcases HKd.out with ⟨rfl, hK⟩ | ⟨rfl, rfl, hK⟩ | ⟨rfl, rfl, rfl, hK⟩ | ⟨rfl, rfl, rfl, rfl, hK⟩ | ⟨rfl, rfl, rfl, rfl, hK⟩
          · clear HKd
            go_wp2
            have kA := ((((Mod.refl (fun k => k = B) wc).setCell ⟨B, 0, none⟩ (.inl rfl) (.int .i64 3))).block A (blk_lt KA.out) (by omega)).trans KA.out
            have kR := (setCell_blk (setCell_blk (setCell_blk kA 0 (.int .i64 3)) 1 (.string N)) 2 (.string T))
            have r0 := cell_blk kR 0 _ rfl
            have r1 := cell_blk kR 1 _ rfl
            have r2 := cell_blk kR 2 _ rfl
            exact bodyPost_ret (v := .agg #[.int .i64 3, .string N, .string T]) (by simp [results, Try.results9, go_sem, r0, r1, r2]) rfl ⟨by rw [HR.out 3 hK], ((((HBc.out.setCell (p := ⟨B, 0, none⟩) hB0 (.int .i64 3)).setCell (p := ⟨A, 0, none⟩) hA0 (.int .i64 3)).setCell (p := ⟨A, 1, none⟩) hA0 (.string N)).setCell (p := ⟨A, 2, none⟩) hA0 (.string T))⟩
          · clear HKd
            go_wp2
            have kA := ((((Mod.refl (fun k => k = B) wc).setCell ⟨B, 0, none⟩ (.inl rfl) (.int .i64 4))).block A (blk_lt KA.out) (by omega)).trans KA.out
            have kR := (setCell_blk (setCell_blk (setCell_blk kA 0 (.int .i64 4)) 1 (.string N)) 2 (.string T))
            have r0 := cell_blk kR 0 _ rfl
            have r1 := cell_blk kR 1 _ rfl
            have r2 := cell_blk kR 2 _ rfl
            exact bodyPost_ret (v := .agg #[.int .i64 4, .string N, .string T]) (by simp [results, Try.results9, go_sem, r0, r1, r2]) rfl ⟨by rw [HR.out 4 hK], ((((HBc.out.setCell (p := ⟨B, 0, none⟩) hB0 (.int .i64 4)).setCell (p := ⟨A, 0, none⟩) hA0 (.int .i64 4)).setCell (p := ⟨A, 1, none⟩) hA0 (.string N)).setCell (p := ⟨A, 2, none⟩) hA0 (.string T))⟩
          · clear HKd
            go_wp2
            have kA := ((((Mod.refl (fun k => k = B) wc).setCell ⟨B, 0, none⟩ (.inl rfl) (.int .i64 5))).block A (blk_lt KA.out) (by omega)).trans KA.out
            have kR := (setCell_blk (setCell_blk (setCell_blk kA 0 (.int .i64 5)) 1 (.string N)) 2 (.string T))
            have r0 := cell_blk kR 0 _ rfl
            have r1 := cell_blk kR 1 _ rfl
            have r2 := cell_blk kR 2 _ rfl
            exact bodyPost_ret (v := .agg #[.int .i64 5, .string N, .string T]) (by simp [results, Try.results9, go_sem, r0, r1, r2]) rfl ⟨by rw [HR.out 5 hK], ((((HBc.out.setCell (p := ⟨B, 0, none⟩) hB0 (.int .i64 5)).setCell (p := ⟨A, 0, none⟩) hA0 (.int .i64 5)).setCell (p := ⟨A, 1, none⟩) hA0 (.string N)).setCell (p := ⟨A, 2, none⟩) hA0 (.string T))⟩
          · clear HKd
            go_wp2
            have kA := ((((Mod.refl (fun k => k = B) wc).setCell ⟨B, 0, none⟩ (.inl rfl) (.int .i64 6))).block A (blk_lt KA.out) (by omega)).trans KA.out
            have kR := (setCell_blk (setCell_blk (setCell_blk kA 0 (.int .i64 6)) 1 (.string N)) 2 (.string T))
            have r0 := cell_blk kR 0 _ rfl
            have r1 := cell_blk kR 1 _ rfl
            have r2 := cell_blk kR 2 _ rfl
            exact bodyPost_ret (v := .agg #[.int .i64 6, .string N, .string T]) (by simp [results, Try.results9, go_sem, r0, r1, r2]) rfl ⟨by rw [HR.out 6 hK], ((((HBc.out.setCell (p := ⟨B, 0, none⟩) hB0 (.int .i64 6)).setCell (p := ⟨A, 0, none⟩) hA0 (.int .i64 6)).setCell (p := ⟨A, 1, none⟩) hA0 (.string N)).setCell (p := ⟨A, 2, none⟩) hA0 (.string T))⟩
          · clear HKd
            go_wp2
            have kA := (((Mod.refl (fun k => k = B) wc)).block A (blk_lt KA.out) (by omega)).trans KA.out
            have kR := (setCell_blk (setCell_blk (setCell_blk kA 0 (.int .i64 7)) 1 (.string N)) 2 (.string T))
            have r0 := cell_blk kR 0 _ rfl
            have r1 := cell_blk kR 1 _ rfl
            have r2 := cell_blk kR 2 _ rfl
            exact bodyPost_ret (v := .agg #[.int .i64 7, .string N, .string T]) (by simp [results, Try.results9, go_sem, r0, r1, r2]) rfl ⟨by rw [HR.out 7 hK], (((HBc.out.setCell (p := ⟨A, 0, none⟩) hA0 (.int .i64 7)).setCell (p := ⟨A, 1, none⟩) hA0 (.string N)).setCell (p := ⟨A, 2, none⟩) hA0 (.string T))⟩
end Go.Proofs.Ytfnojmkiajdoaaa
