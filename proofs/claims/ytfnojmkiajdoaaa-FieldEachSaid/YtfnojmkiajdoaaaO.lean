/-
  Numbers, and what counts by the document.
-/
import Derived.Test.YtfnojmkiajdoaaaN
namespace Go.Proofs.Ytfnojmkiajdoaaa
open Go.RowKit
set_option linter.unusedVariables false
set_option linter.unusedSimpArgs false
attribute [local go_sem high] neq25 eql25

set_option maxHeartbeats 1600000 in
theorem Retry10 (f : Fd) (h : f.Ok) (w : World) : Calls Try.prog 10 #[fdV f] w fun e w' => e = .returned (.tuple #[.int .u64 (retryF f).1, .bool (retryF f).2]) ∧ Below w.heap.size w w' := by
  have hvl : f.v.length ≤ 100000 := by have := h.l; omega
  obtain ⟨N, hN⟩ : ∃ x, x = strOfNums f.n := ⟨_, rfl⟩
  obtain ⟨V, hV⟩ : ∃ x, x = strOfNums f.v := ⟨_, rfl⟩
  obtain ⟨k, hk⟩ : ∃ k, k = f.k := ⟨_, rfl⟩
  have eF : fdV f = .agg #[.int .i64 k, .string N, .string V] := by rw [hN, hV, hk]; rfl
  obtain ⟨c, hc⟩ : ∃ c, c = countsF f := ⟨_, rfl⟩
  obtain ⟨d1, hd1⟩ : ∃ c, c = (digF f.v).1 := ⟨_, rfl⟩
  obtain ⟨d2, hd2⟩ : ∃ c, c = (digF f.v).2 := ⟨_, rfl⟩
  have hR : retryF f = if k = 6 ∧ c = true then (d1, true) else (0, false) := by rw [retryF_counts, hk, hc, hd1]
  have HC : Hid (∀ W, Calls Try.prog 13 #[.agg #[.int .i64 k, .string N, .string V]] W fun e w' => e = .returned (.bool c) ∧ Below W.heap.size W w') := Lib.hid fun W => by
    rw [hc, ← eF]; exact Counts13 f h W
  have HD : Hid (∀ W, Calls Try.prog 25 #[.string V] W fun e w' => e = .returned (.tuple #[.int .u64 d1, .int .i64 d2]) ∧ Below W.heap.size W w') := Lib.hid fun W => by
    rw [hV, hd1, hd2]; exact Digits25 f.v h.v hvl W
  obtain ⟨w1, hw1⟩ : ∃ W, W = w.alloc (.cells #[.int .i64 k, .string N, .string V] 25) := ⟨_, rfl⟩
  have b1 : Below w.heap.size w w1 := by rw [hw1]; exact (Below.refl _ w).alloc (Nat.le_refl _) _
  have k1 : w1.heap[w.heap.size]? = some (.cells #[.int .i64 k, .string N, .string V] 25 (0, 0)) := by rw [hw1]; exact alloc_blk_new _ _
  rw [eF, hR]
  have E1 := Lib.hid hw1
  have B1 := Lib.hid b1
  have K1 := Lib.hid k1
  clear hN hV hk eF hc hd1 hd2 hR hw1 b1 k1 h hvl
  by_cases h6 : k = 6
  · subst h6
    go_enter Try.func10, Try.ntmps10
    go_wp2_with (go_at_call 13; fail)
    rw [← E1.out]
    refine (HC.out _).mono ?_
    rintro e w2 ⟨rfl, hb2⟩
    have K2 := Lib.hid ((hb2.block _ (blk_lt K1.out)).trans K1.out)
    have B2 := Lib.hid (B1.out.trans (hb2.mono B1.out.size))
    have c2 := cell_blk K2.out 2 _ rfl
    have l2 := blk_lt K2.out
    clear hb2
    cases c with
    | true =>
      go_wp2_with (go_at_call 25; fail)
      refine (HD.out _).mono ?_
      rintro e w3 ⟨rfl, hb3⟩
      have B3 := Lib.hid (B2.out.trans (hb3.mono B2.out.size))
      clear hb3 c2 l2
      go_wp2
      go_ret2
      exact ⟨rfl, B3.out⟩
    | false =>
      go_wp2
      go_ret2
      exact ⟨rfl, B2.out⟩
  · have d : (k != 6) = true := by simpa using h6
    rw [if_neg (fun e => h6 e.1)]
    clear h6
    go_enter Try.func10, Try.ntmps10
    go_wp2
    go_ret2
    exact ⟨rfl, by rw [← E1.out]; exact B1.out⟩
set_option maxHeartbeats 1600000 in
theorem refRetry11 (f : Fd) (h : f.Ok) (w : World) : Calls Try.prog 11 #[fdV f] w fun e w' => e = .returned (.tuple #[.int .u64 (retryF f).1, .bool (retryF f).2]) ∧ Below w.heap.size w w' := by
  have hvl : f.v.length ≤ 100000 := by have := h.l; omega
  obtain ⟨N, hN⟩ : ∃ x, x = strOfNums f.n := ⟨_, rfl⟩
  obtain ⟨V, hV⟩ : ∃ x, x = strOfNums f.v := ⟨_, rfl⟩
  obtain ⟨k, hk⟩ : ∃ k, k = f.k := ⟨_, rfl⟩
  have eF : fdV f = .agg #[.int .i64 k, .string N, .string V] := by rw [hN, hV, hk]; rfl
  obtain ⟨c, hc⟩ : ∃ c, c = rightF f := ⟨_, rfl⟩
  obtain ⟨d1, hd1⟩ : ∃ c, c = (digF f.v).1 := ⟨_, rfl⟩
  obtain ⟨d2, hd2⟩ : ∃ c, c = (digF f.v).2 := ⟨_, rfl⟩
  have hR : retryF f = if k = 6 ∧ c = true then (d1, decide (d2 = 0)) else (0, false) := by
    unfold retryF
    rw [hk, hc, hd1, hd2]
    unfold rightF
    simp only [decide_eq_true_eq]
  have HC : Hid (∀ W, Calls Try.prog 19 #[.agg #[.int .i64 k, .string N, .string V]] W fun e w' => e = .returned (.bool c) ∧ Below W.heap.size W w') := Lib.hid fun W => by
    rw [hc, ← eF]; exact refRight19 f h W
  have HD : Hid (∀ W, Calls Try.prog 26 #[.string V] W fun e w' => e = .returned (.tuple #[.int .u64 d1, .int .i64 d2]) ∧ W = w') := Lib.hid fun W => by
    rw [hV, hd1, hd2]; exact refDigits26 f.v h.v hvl W
  obtain ⟨w1, hw1⟩ : ∃ W, W = w.alloc (.cells #[.int .i64 k, .string N, .string V] 25) := ⟨_, rfl⟩
  have b1 : Below w.heap.size w w1 := by rw [hw1]; exact (Below.refl _ w).alloc (Nat.le_refl _) _
  have k1 : w1.heap[w.heap.size]? = some (.cells #[.int .i64 k, .string N, .string V] 25 (0, 0)) := by rw [hw1]; exact alloc_blk_new _ _
  rw [eF, hR]
  have E1 := Lib.hid hw1
  have B1 := Lib.hid b1
  have K1 := Lib.hid k1
  clear hN hV hk eF hc hd1 hd2 hR hw1 b1 k1 h hvl
  have hd : (d2 == 0) = decide (d2 = 0) := by by_cases h : d2 = 0 <;> simp [h]
  obtain ⟨bd, hbd⟩ : ∃ b, b = decide (d2 = 0) := ⟨_, rfl⟩
  rw [← hbd] at hd ⊢
  clear hbd
  by_cases h6 : k = 6
  · subst h6
    cases c with
    | true =>
      rw [if_pos ⟨rfl, rfl⟩]
      go_enter Try.func11, Try.ntmps11
      go_wp2_with (go_at_call 19; fail)
      rw [← E1.out]
      refine (HC.out _).mono ?_
      rintro e w2 ⟨rfl, hb2⟩
      have K2 := Lib.hid ((hb2.block _ (blk_lt K1.out)).trans K1.out)
      have B2 := Lib.hid (B1.out.trans (hb2.mono B1.out.size))
      have c0 := cell_blk K2.out 0 _ rfl
      have c2 := cell_blk K2.out 2 _ rfl
      have l2 := blk_lt K2.out
      clear hb2
      go_wp2_with (go_at_call 26; refine (HD.out _).mono ?_; rintro e w' ⟨rfl, rfl⟩)
      go_ret2
      exact ⟨rfl, B2.out⟩
    | false =>
      rw [if_neg (fun e => by cases e.2)]
      go_enter Try.func11, Try.ntmps11
      go_wp2_with (go_at_call 19; fail)
      rw [← E1.out]
      refine (HC.out _).mono ?_
      rintro e w2 ⟨rfl, hb2⟩
      have K2 := Lib.hid ((hb2.block _ (blk_lt K1.out)).trans K1.out)
      have B2 := Lib.hid (B1.out.trans (hb2.mono B1.out.size))
      have c0 := cell_blk K2.out 0 _ rfl
      have c2 := cell_blk K2.out 2 _ rfl
      have l2 := blk_lt K2.out
      clear hb2
      go_wp2
      go_ret2
      exact ⟨rfl, B2.out⟩
  · have d6 : (k != 6) = true := by simpa using h6
    rw [if_neg (fun e => h6 e.1)]
    clear h6
    cases c with
    | true =>
      go_enter Try.func11, Try.ntmps11
      go_wp2_with (go_at_call 19; fail)
      rw [← E1.out]
      refine (HC.out _).mono ?_
      rintro e w2 ⟨rfl, hb2⟩
      have K2 := Lib.hid ((hb2.block _ (blk_lt K1.out)).trans K1.out)
      have B2 := Lib.hid (B1.out.trans (hb2.mono B1.out.size))
      have c0 := cell_blk K2.out 0 _ rfl
      have c2 := cell_blk K2.out 2 _ rfl
      have l2 := blk_lt K2.out
      clear hb2
      go_wp2
      go_ret2
      exact ⟨rfl, B2.out⟩
    | false =>
      go_enter Try.func11, Try.ntmps11
      go_wp2_with (go_at_call 19; fail)
      rw [← E1.out]
      refine (HC.out _).mono ?_
      rintro e w2 ⟨rfl, hb2⟩
      have K2 := Lib.hid ((hb2.block _ (blk_lt K1.out)).trans K1.out)
      have B2 := Lib.hid (B1.out.trans (hb2.mono B1.out.size))
      have c0 := cell_blk K2.out 0 _ rfl
      have c2 := cell_blk K2.out 2 _ rfl
      have l2 := blk_lt K2.out
      clear hb2
      go_wp2
      go_ret2
      exact ⟨rfl, B2.out⟩
set_option maxHeartbeats 3200000 in
theorem refCounts14 (f : Fd) (h : f.Ok) (w : World) : Calls Try.prog 14 #[fdV f] w fun e w' => e = .returned (.bool (countsF f)) ∧ Below w.heap.size w w' := by
  have hvl : f.v.length ≤ 100000 := by have := h.l; omega
  obtain ⟨N, hN⟩ : ∃ x, x = strOfNums f.n := ⟨_, rfl⟩
  obtain ⟨V, hV⟩ : ∃ x, x = strOfNums f.v := ⟨_, rfl⟩
  obtain ⟨k, hk⟩ : ∃ k, k = f.k := ⟨_, rfl⟩
  have eF : fdV f = .agg #[.int .i64 k, .string N, .string V] := by rw [hN, hV, hk]; rfl
  obtain ⟨c, hc⟩ : ∃ c, c = rightF f := ⟨_, rfl⟩
  obtain ⟨n, hn⟩ : ∃ n, n = f.v.length := ⟨_, rfl⟩
  have hsz : V.size = n := by rw [hV, strOfNums_size, hn]
  have HG : Hid (∀ i, i < n → ∃ x : Int, f.v[i]? = some x ∧ (∀ h : i < V.size, ((V[i]'h).toNat : Int) = x)) := Lib.hid fun i hi => by
    have hx : f.v[i]? = some f.v[i] := List.getElem?_eq_getElem (by omega)
    have hm := List.getElem_mem (l := f.v) (n := i) (by omega)
    exact ⟨f.v[i], hx, by intro h'; subst hV; exact str_get f.v i _ hx (h.v _ hm).1 (h.v _ hm).2 h'⟩
  obtain ⟨q1, hq1⟩ : ∃ c, c = (retryF f).1 := ⟨_, rfl⟩
  obtain ⟨q2, hq2⟩ : ∃ c, c = (retryF f).2 := ⟨_, rfl⟩
  have HC : Hid (∀ W, Calls Try.prog 19 #[.agg #[.int .i64 k, .string N, .string V]] W fun e w' => e = .returned (.bool c) ∧ Below W.heap.size W w') := Lib.hid fun W => by
    rw [hc, ← eF]; exact refRight19 f h W
  have HD : Hid (∀ W, Calls Try.prog 11 #[.agg #[.int .i64 k, .string N, .string V]] W fun e w' => e = .returned (.tuple #[.int .u64 q1, .bool q2]) ∧ Below W.heap.size W w') := Lib.hid fun W => by
    rw [hq1, hq2, ← eF]; exact refRetry11 f h W
  have hres : countsF f = (c && (if k = 5 then decide (at1 0 f.v = none) else if k = 6 then q2 else true)) := by
    rw [countsF_eq, hc, hk, hq2]
    unfold askV retryF
    by_cases hr : rightF f = true
    · have hr' : ofF (lineF f) = f := by unfold rightF at hr; simpa using hr
      rw [hr]
      by_cases h5 : f.k = 5
      · rw [if_pos h5, if_pos h5]
      · by_cases h6 : f.k = 6
        · rw [if_neg h5, if_neg h5, if_pos h6, if_pos h6, if_pos ⟨h6, hr'⟩]
        · rw [if_neg h5, if_neg h5, if_neg h6, if_neg h6]
    · have : rightF f = false := by simpa using hr
      rw [this]
      rfl
  have hqc : k ≠ 6 → (q1, q2) = (0, false) := fun hk6 => by
    rw [hq1, hq2]
    unfold retryF
    rw [if_neg (fun e => hk6 (by rw [hk]; exact e.1))]
  obtain ⟨w1, hw1⟩ : ∃ W, W = w.alloc (.cells #[.int .i64 k, .string N, .string V] 25) := ⟨_, rfl⟩
  have b1 : Below w.heap.size w w1 := by rw [hw1]; exact (Below.refl _ w).alloc (Nat.le_refl _) _
  have k1 : w1.heap[w.heap.size]? = some (.cells #[.int .i64 k, .string N, .string V] 25 (0, 0)) := by rw [hw1]; exact alloc_blk_new _ _
  have hn5 : n ≤ 100000 := by omega
  obtain ⟨R, hR⟩ : ∃ R, R = countsF f := ⟨_, rfl⟩
  rw [eF, ← hR]
  have HRes := Lib.hid (hR.trans hres)
  have E1 := Lib.hid hw1
  have B1 := Lib.hid b1
  have K1 := Lib.hid k1
  have HNn := Lib.hid hn
  clear hN hV hk eF hc hq1 hq2 hres hR hqc hw1 b1 k1 h hvl hn
  go_enter Try.func14, Try.ntmps14
  go_wp2_with (go_at_call 19; fail)
  rw [← E1.out]
  refine (HC.out _).mono ?_
  rintro e w2 ⟨rfl, hb2⟩
  have K2 := Lib.hid ((hb2.block _ (blk_lt K1.out)).trans K1.out)
  have B2 := Lib.hid (B1.out.trans (hb2.mono B1.out.size))
  have c0 := cell_blk K2.out 0 _ rfl
  have c1 := cell_blk K2.out 1 _ rfl
  have c2 := cell_blk K2.out 2 _ rfl
  have l2 := blk_lt K2.out
  clear hb2
  cases c with
  | false =>
    go_wp2
    go_ret
    exact ⟨by rw [HRes.out]; rfl, B2.out⟩
  | true =>
    by_cases h5 : k = 5
    · subst h5
      have h56 : ((5 : Int) == 5) = true := rfl
      go_upto_region 5 with fail
      go_loopg [3] n (fun gk v3 wr => ∃ i : Nat, v3 = .int .i64 i ∧ i ≤ n ∧ gk = n - i ∧ wr = w2 ∧ ∀ (j : Nat) (x : Int), j < i → f.v[j]? = some x → x ≠ 0)
      case atStart => exact ⟨0, rfl, by omega, rfl, rfl, fun j x hj => by omega⟩
      case round =>
        obtain ⟨i, rfl, hin, hgk, rfl, hall⟩ := hrel
        have HAll := Lib.hid hall
        have HGK := Lib.hid hgk
        clear hall hgk
        by_cases hi : i < n
        · obtain ⟨x, hx, hg⟩ := HG.out i hi
          have hi2 : (i : Int) < n := by omega
          have HX := Lib.hid hx
          clear hx
          by_cases hz : x = 0
          · subst hz
            go_wp2
            go_ret
            refine ⟨?_, B2.out⟩
            have hne : at1 0 f.v ≠ none := fun e => at1_none e 0 (List.mem_of_getElem? HX.out) rfl
            rw [HRes.out]
            simp [hne]
          · have dz : (x == 0) = false := by simpa using hz
            have HZ := Lib.hid hz
            clear hz
            go_wp2
            go_roundg (n - (i + 1))
            case measure => have := HGK.out; omega
            case rel => exact ⟨i + 1, by go_num, by omega, rfl, rfl, fun j y hj hy => by
              rcases Nat.lt_or_ge j i with h | h
              · exact HAll.out j y h hy
              · obtain rfl : j = i := by omega
                rw [HX.out] at hy
                cases hy
                exact HZ.out⟩
        · obtain rfl : i = n := by omega
          have hnone : at1 0 f.v = none := at1_free fun x hx => by
            obtain ⟨j, hj⟩ := List.getElem?_of_mem hx
            exact HAll.out j x (by rw [HNn.out]; exact (List.getElem?_eq_some_iff.1 hj).1) hj
          have HNo := Lib.hid hnone
          clear hnone
          go_wp2_with (go_at_call 11; fail)
          refine (HD.out _).mono ?_
          rintro e w3 ⟨rfl, hb3⟩
          have K3 := Lib.hid ((hb3.block _ (blk_lt K2.out)).trans K2.out)
          have B3 := Lib.hid (B2.out.trans (hb3.mono B2.out.size))
          have e0 := cell_blk K3.out 0 _ rfl
          have l3 := blk_lt K3.out
          clear hb3 c0 c1 c2 l2
          go_wp2
          go_ret
          refine ⟨?_, B3.out⟩
          rw [HRes.out]
          simp [HNo.out]
    · have d5 : (k == 5) = false := by simpa using h5
      go_wp2_with (go_at_call 11; fail)
      refine (HD.out _).mono ?_
      rintro e w3 ⟨rfl, hb3⟩
      have K3 := Lib.hid ((hb3.block _ (blk_lt K2.out)).trans K2.out)
      have B3 := Lib.hid (B2.out.trans (hb3.mono B2.out.size))
      have e0 := cell_blk K3.out 0 _ rfl
      have l3 := blk_lt K3.out
      clear hb3 c0 c1 c2 l2
      by_cases h6 : k = 6
      · subst h6
        go_wp2
        go_ret
        exact ⟨by rw [HRes.out]; simp, B3.out⟩
      · have d6 : (k != 6) = true := by simpa using h6
        have HH := Lib.hid (And.intro h5 h6)
        clear h5 h6
        go_wp2
        go_ret
        exact ⟨by rw [HRes.out]; simp [HH.out.1, HH.out.2], B3.out⟩
end Go.Proofs.Ytfnojmkiajdoaaa
