/-
  Digits: the program's Digits.
-/
import Derived.Test.YtfnojmkiajdoaaaK
import Derived.Laws.EntriesVeiled
namespace Go.Proofs.Ytfnojmkiajdoaaa
open Go.RowKit
set_option linter.unusedVariables false
set_option linter.unusedSimpArgs false

theorem conv84 (s : ByteArray) (w : World) : ∃ c w', (convert 9 84 (.string s)).run Try.prog w = .ok (.slice (some ⟨w.heap.size, 0, none⟩) s.size c) w' ∧ Below w.heap.size w w' ∧ w'.heap.size = w.heap.size + 1 ∧
    ∀ j, j < s.size → w'.cell? ⟨w.heap.size, j, none⟩ = some (.int .u8 ((nums s).getD j 0)) := by
  refine ⟨_, _, Lib.run_convert_string_bytes w 9 84 5 s Try.underlying9 Try.underlying84 Try.underlying5, ⟨?_, ?_, ?_, by rw [Lib.bytesWorld_size]; omega, fun k hk => Lib.bytesWorld_at_old w 5 s k hk⟩, Lib.bytesWorld_size w 5 s, fun j hj => ?_⟩
  · simp only [Lib.bytesWorld, World.freeze, Nat.one_ne_zero, if_false]; rfl
  · simp only [Lib.bytesWorld, World.freeze, Nat.one_ne_zero, if_false]; rfl
  · simp only [Lib.bytesWorld, World.freeze, Nat.one_ne_zero, if_false]; rfl
  · rw [Lib.bytesWorld_cell w 5 s j hj]
    have hl : j < s.data.toList.length := by rw [Array.length_toList]; exact hj
    simp only [nums, List.getD, List.getElem?_map, List.getElem?_eq_getElem hl, Option.map_some, Option.getD_some]
set_option maxHeartbeats 1600000 in
theorem digits47 (A Kb V : Nat) (xs : List Int) (hb : Byt xs) (hl : xs.length ≤ 100000) (w : World) (h : Rd A Kb V (strOfNums xs) w) :
    Calls Try.prog 47 #[.agg #[.string (strOfNums xs)], .func (.func 48) #[] #[.pointer (some ⟨V, 0, none⟩)]] w fun e w' => e = .returned (.bool (decide (xs ≠ [] ∧ allD xs = true))) ∧ Below w.heap.size w w' := by
  obtain ⟨S, hS⟩ : ∃ S, S = strOfNums xs := ⟨_, rfl⟩
  obtain ⟨n, hn⟩ : ∃ n, n = xs.length := ⟨_, rfl⟩
  have hsz : S.size = n := by rw [hS, strOfNums_size, hn]
  have HG : Hid (∀ i, i < n → ∃ x : Int, xs[i]? = some x ∧ (∀ h : i < S.size, ((S[i]'h).toNat : Int) = x) ∧ 0 ≤ x ∧ x < 256) := Lib.hid fun i hi => by
    have hx : xs[i]? = some xs[i] := List.getElem?_eq_getElem (by omega)
    have hm := List.getElem_mem (l := xs) (n := i) (by omega)
    exact ⟨xs[i], hx, by intro h; subst hS; exact str_get xs i _ hx (hb _ hm).1 (hb _ hm).2 h, (hb _ hm).1, (hb _ hm).2⟩
  have hl2 : n ≤ 100000 := by omega
  obtain ⟨bn, hbn⟩ : ∃ b, (S.toList == []) = b := ⟨_, rfl⟩
  have hbn2 : bn = true ↔ xs = [] := by
    rw [← hbn, hS]
    by_cases hx : xs = []
    · simp [hx, str_isnil (a := []) true (by simp)]
    · simp [hx, str_isnil (a := xs) false (by simpa using hx)]
  obtain ⟨w1, hw1⟩ : ∃ W, W = w.alloc (.cells #[.string S] 68) := ⟨_, rfl⟩
  have b1 : Below w.heap.size w w1 := by rw [hw1]; exact (Below.refl _ w).alloc (Nat.le_refl _) _
  have k1 : w1.heap[w.heap.size]? = some (.cells #[.string S] 68 (0, 0)) := by rw [hw1]; exact alloc_blk_new _ _
  rw [← hS] at h ⊢
  have HIs := Lib.hid (fun c (h0 : 0 ≤ c) (h1 : c < 256) => is48 A Kb V S c h0 h1 w1 (h.below b1))
  have E1 := Lib.hid hw1
  have B1 := Lib.hid b1
  have c0 := cell_blk k1 0 _ rfl
  have cl := blk_lt k1
  have HN := Lib.hid hn
  have HBn := Lib.hid hbn2
  obtain ⟨r, hr⟩ : ∃ r, r = decide (xs ≠ [] ∧ allD xs = true) := ⟨_, rfl⟩
  rw [← hr]
  have HR := Lib.hid hr
  clear hS hw1 b1 k1 hn hbn2 hr h hb hl
  go_enter Try.func47, Try.ntmps47
  go_upto_region 2 with fail
  rw [← E1.out]
  go_loopg [9] n (fun gk v9 wr => ∃ i : Nat, v9 = .int .i64 i ∧ i ≤ n ∧ gk = n - i ∧ wr = w1 ∧ ∀ (j : Nat) (x : Int), j < i → xs[j]? = some x → 48 ≤ x ∧ x ≤ 57)
  case atStart => exact ⟨0, rfl, by omega, rfl, rfl, fun j x hj => by omega⟩
  case round =>
    obtain ⟨i, rfl, hin, hgk, rfl, hall⟩ := hrel
    have HAll := Lib.hid hall
    have HGK := Lib.hid hgk
    clear hall hgk
    by_cases hi : i < n
    · obtain ⟨x, hx, hg, h0, h1⟩ := HG.out i hi
      have hi2 : (i : Int) < n := by omega
      have HX := Lib.hid hx
      have HC := Lib.hid (HIs.out x h0 h1)
      clear hx
      by_cases hdig : 48 ≤ x ∧ x ≤ 57
      · have hd : decide (48 ≤ x ∧ x ≤ 57) = true := by simpa using hdig
        rw [hd] at HC
        have HDg := Lib.hid hdig
        clear hd hdig
        go_wp2_with (go_at_call 48; refine HC.out.mono ?_; rintro e w' ⟨rfl, rfl⟩)
        go_roundg (n - (i + 1))
        case measure => have := HGK.out; omega
        case rel => exact ⟨i + 1, by go_num, by omega, rfl, rfl, fun j y hj hy => by
          rcases Nat.lt_or_ge j i with h | h
          · exact HAll.out j y h hy
          · obtain rfl : j = i := by omega
            rw [HX.out] at hy
            cases hy
            exact HDg.out⟩
      · have hd : decide (48 ≤ x ∧ x ≤ 57) = false := by simpa using hdig
        rw [hd] at HC
        obtain rfl : r = false := by
          rw [HR.out]
          simp only [decide_eq_false_iff_not]
          intro hh
          exact hdig ((allD_iff xs).1 hh.2 i x HX.out)
        clear hd hdig
        go_wp2_with (go_at_call 48; refine HC.out.mono ?_; rintro e w' ⟨rfl, rfl⟩)
        go_ret
        exact ⟨rfl, B1.out⟩
    · obtain rfl : i = n := by omega
      have hD : allD xs = true := (allD_iff xs).2 fun j y hy => HAll.out j y (by rw [HN.out]; exact (List.getElem?_eq_some_iff.1 hy).1) hy
      obtain rfl : r = !bn := by
        rw [HR.out]
        have h2 := HBn.out
        cases bn with
        | true => simp [h2.1 rfl]
        | false =>
          have : xs ≠ [] := fun e => by have := h2.2 e; cases this
          simp [this, hD]
      clear hD
      go_wp2
      go_ret
      exact ⟨rfl, B1.out⟩
set_option maxHeartbeats 1600000 in
theorem folded49 (A Kb V G c : Nat) (S : ByteArray) (xs : List Int) (n : Nat) (hn : xs.length = n) (hl : n ≤ 100000) (hd : allD xs = true) (w : World) (h : Rd A Kb V S w) (hG : G < w.heap.size) (hc : ∀ j, j < n → w.cell? ⟨G, j, none⟩ = some (.int .u8 (xs.getD j 0))) :
    Calls Try.prog 49 #[.func (.func 50) #[] #[.pointer (some ⟨A, 0, none⟩), .pointer (some ⟨V, 0, none⟩)], .slice (some ⟨G, 0, none⟩) n c] w fun e w' => e = .returned (.tuple #[.int .u64 (resN (numF 0 xs)).1, .int .i64 (resN (numF 0 xs)).2]) ∧ w = w' := by
  have HS := Lib.hid (fun v x (h0 : 0 ≤ v) (h1 : v ≤ 18446744073709551615) (c0 : 48 ≤ x) (c1 : x ≤ 57) => step50 A Kb V S v x h0 h1 c0 c1 w h)
  have HC := Lib.hid hc
  have HD := Lib.hid ((allD_iff xs).1 hd)
  have HN := Lib.hid hn
  obtain ⟨r1, hr1⟩ : ∃ r, r = (resN (numF 0 xs)).1 := ⟨_, rfl⟩
  obtain ⟨r2, hr2⟩ : ∃ r, r = (resN (numF 0 xs)).2 := ⟨_, rfl⟩
  have HR : Hid ((r1, r2) = resN (numF 0 xs)) := Lib.hid (by rw [hr1, hr2])
  rw [← hr1, ← hr2]
  clear hr1 hr2 hc hd hn h
  go_enter Try.func49, Try.ntmps49
  go_upto_region 2 with fail
  go_loopg [4, 5, 10] n (fun gk v4 v5 v10 wr => ∃ (j : Nat) (v : Int), v4 = .int .u64 v ∧ v5 = .int .i64 0 ∧ v10 = .int .i64 j ∧ j ≤ n ∧ gk = n - j ∧ wr = w ∧ 0 ≤ v ∧ v ≤ 18446744073709551615 ∧ numF 0 xs = numF v (xs.drop j))
  case atStart => exact ⟨0, 0, rfl, rfl, rfl, by omega, rfl, rfl, by omega, by omega, rfl⟩
  case round =>
    obtain ⟨j, v, rfl, rfl, rfl, hjn, hgk, rfl, hv0, hv1, hnum⟩ := hrel
    have HNum := Lib.hid hnum
    have HGK := Lib.hid hgk
    clear hnum hgk
    by_cases hj : j < n
    · have hj2 : (j : Int) < n := by omega
      have hjl : j < xs.length := by rw [HN.out]; exact hj
      obtain ⟨x, hx⟩ : ∃ x, xs[j]? = some x := ⟨_, List.getElem?_eq_getElem hjl⟩
      have hcx := HC.out j hj
      have hxg : xs.getD j 0 = x := by rw [List.getD_eq_getElem?_getD, hx]; rfl
      rw [hxg] at hcx
      have hdig := HD.out j x hx
      have hstep := numF_drop hx v
      rw [← HNum.out] at hstep
      have HC50 := Lib.hid (HS.out v x hv0 hv1 hdig.1 hdig.2)
      by_cases ho : 18446744073709551615 < v * 10 + (x - 48)
      · have es : stepE v x = (0, 111) := by unfold stepE; rw [if_pos ho]
        rw [es] at HC50
        rw [if_pos ho] at hstep
        have h2 := HR.out
        rw [hstep] at h2
        injection h2 with h3 h4
        subst h3 h4
        clear hstep es ho hdig hx hxg hjl
        go_wp2_with (go_at_call 50; refine HC50.out.mono ?_; rintro e w' ⟨rfl, rfl⟩)
        go_ret2
        exact ⟨rfl, rfl⟩
      · have es : stepE v x = (v * 10 + (x - 48), 0) := by unfold stepE; rw [if_neg ho]
        rw [es] at HC50
        rw [if_neg ho] at hstep
        obtain ⟨u, hu⟩ : ∃ u, u = v * 10 + (x - 48) := ⟨_, rfl⟩
        rw [← hu] at HC50 hstep
        have hu0 : 0 ≤ u := by omega
        have hu1 : u ≤ 18446744073709551615 := by omega
        have HSt := Lib.hid hstep
        clear hstep es ho hdig hx hxg hjl hu
        go_wp2_with (go_at_call 50; refine HC50.out.mono ?_; rintro e w' ⟨rfl, rfl⟩)
        go_roundg (n - (j + 1))
        case measure => have := HGK.out; omega
        case rel => exact ⟨j + 1, u, rfl, rfl, by go_num, by omega, rfl, rfl, hu0, hu1, HSt.out⟩
    · obtain rfl : j = n := by omega
      have hd : xs.drop j = [] := List.drop_eq_nil_of_le (by rw [HN.out]; exact Nat.le_refl _)
      have h2 := HR.out
      rw [HNum.out, hd] at h2
      injection h2 with h3 h4
      subst h3 h4
      clear hd
      go_wp2
      go_ret2
      exact ⟨rfl, rfl⟩
theorem digF_ok {xs : List Int} (h0 : xs ≠ []) (h1 : allD xs = true) : digF xs = resN (numF 0 xs) := by
  have hno : ¬ (xs = [] ∨ allD xs = false) := by
    rintro (h | h)
    · exact h0 h
    · rw [h1] at h; cases h
  unfold digF
  rw [if_neg hno]
  cases numF 0 xs <;> rfl
set_option maxHeartbeats 1600000 in
theorem number37 (xs : List Int) (hb : Byt xs) (hl : xs.length ≤ 100000) (w : World) :
    Calls Try.prog 37 #[.agg #[.string (strOfNums xs), .int .i64 10]] w fun e w' => e = .returned (.tuple #[.int .u64 (digF xs).1, .int .i64 (digF xs).2]) ∧ Below w.heap.size w w' := by
  obtain ⟨A, hA⟩ : ∃ A, A = w.heap.size := ⟨_, rfl⟩
  obtain ⟨S, hS⟩ : ∃ S, S = strOfNums xs := ⟨_, rfl⟩
  obtain ⟨T, hT⟩ : ∃ S, S = strOfNums D10 := ⟨_, rfl⟩
  obtain ⟨w1, hw1⟩ : ∃ W, W = w.alloc (.cells #[.string S, .int .i64 10] 72) := ⟨_, rfl⟩
  obtain ⟨w2, hw2⟩ : ∃ W, W = w1.alloc (.cells #[.string T] 9) := ⟨_, rfl⟩
  obtain ⟨w3, hw3⟩ : ∃ W, W = w2.alloc (.cells #[.func (.func 45) #[] #[.pointer (some ⟨A, 0, none⟩), .pointer (some ⟨A + 1, 0, none⟩)]] 78) := ⟨_, rfl⟩
  have s1 : w1.heap.size = A + 1 := by rw [hw1, hA]; simp
  have s2 : w2.heap.size = A + 2 := by rw [hw2]; simp [s1]
  have b1 : Below w.heap.size w w1 := by rw [hw1]; exact (Below.refl _ w).alloc (Nat.le_refl _) _
  have b2 : Below w.heap.size w w2 := by rw [hw2]; exact b1.alloc b1.size _
  have b3 : Below w.heap.size w w3 := by rw [hw3]; exact b2.alloc b2.size _
  have kk1 : w1.heap[A]? = some (.cells #[.string S, .int .i64 10] 72 (0, 0)) := by rw [hw1, hA]; exact alloc_blk_new _ _
  have kk2 : w2.heap[A + 1]? = some (.cells #[.string T] 9 (0, 0)) := by rw [hw2, ← s1]; exact alloc_blk_new _ _
  have kk3 : w3.heap[A + 2]? = some (.cells #[.func (.func 45) #[] #[.pointer (some ⟨A, 0, none⟩), .pointer (some ⟨A + 1, 0, none⟩)]] 78 (0, 0)) := by rw [hw3, ← s2]; exact alloc_blk_new _ _
  have hrd : Rd A (A + 1) (A + 2) S w3 := ⟨by rw [hw3, hw2]; exact alloc_blk (alloc_blk kk1 _) _, by rw [hw3, ← hT]; exact alloc_blk kk2 _, kk3⟩
  have hx10 : (⟨#[48, 49, 50, 51, 52, 53, 54, 55, 56, 57, 97, 98, 99, 100, 101, 102]⟩ : ByteArray).extract 0 10 = T := by rw [hT]; decide +kernel
  have hD47 := digits47 A (A + 1) (A + 2) xs hb hl w3 (by rw [← hS]; exact hrd)
  obtain ⟨r1, hr1⟩ : ∃ r, r = (digF xs).1 := ⟨_, rfl⟩
  obtain ⟨r2, hr2⟩ : ∃ r, r = (digF xs).2 := ⟨_, rfl⟩
  have hR : (r1, r2) = digF xs := by rw [hr1, hr2]
  rw [← hS] at hD47 ⊢
  rw [← hr1, ← hr2]
  have HRD := Lib.hid hrd
  have EA := Lib.hid hA
  have E1 := Lib.hid hw1
  have E2 := Lib.hid hw2
  have E3 := Lib.hid hw3
  have S1 := Lib.hid s1
  have S2 := Lib.hid s2
  have B3 := Lib.hid b3
  have a0 := cell_blk hrd.a 0 _ rfl
  have al := blk_lt hrd.a
  have HSx := Lib.hid hS
  clear hS hA hw1 hw2 hw3 s1 s2 b1 b2 b3 kk1 kk2 kk3 hrd hT hr1 hr2
  by_cases hok : xs ≠ [] ∧ allD xs = true
  · have hd : decide (xs ≠ [] ∧ allD xs = true) = true := by simpa using hok
    rw [hd] at hD47
    have HD := Lib.hid hD47
    rw [digF_ok hok.1 hok.2] at hR
    have HR := Lib.hid hR
    have HOk := Lib.hid hok.2
    clear hd hok hD47 hR
    go_enter Try.func37, Try.ntmps37
    go_wp2
    refine wp_scope_fwd 0 rfl ?_
    go_upto_region 4 with fail
    rw [← EA.out, ← E1.out, ← E2.out, ← E3.out]
    go_wp2_with (go_at_call 47; fail)
    refine HD.out.mono ?_
    rintro e w4 ⟨rfl, hb4⟩
    have R4 := HRD.out.below hb4
    obtain ⟨c, w5, hconv, hb5, hs5, hcells⟩ := conv84 S w4
    have R5 := R4.below hb5
    have hnS : nums S = xs := by rw [HSx.out, nums_str hb]
    have hsz : S.size = xs.length := by rw [HSx.out, strOfNums_size]
    rw [hnS] at hcells
    have HF := Lib.hid (folded49 A (A + 1) (A + 2) w4.heap.size c S xs S.size hsz.symm (by omega) HOk.out w5 R5 (by omega) hcells)
    rw [← HR.out] at HF
    have B5 := Lib.hid ((B3.out.trans (hb4.mono B3.out.size)).trans (hb5.mono (Nat.le_trans B3.out.size hb4.size)))
    have q0 := cell_blk R4.a 0 _ rfl
    have ql := blk_lt R4.a
    have HE : Hid ((r2 != 0) = true → r1 = 0) := Lib.hid fun h => by
      have e := HR.out
      cases hn : numF 0 xs with
      | none => rw [hn] at e; injection e with e1 e2
      | some m =>
        rw [hn] at e
        injection e with e1 e2
        rw [e2] at h
        cases h
    clear hb4 R4 hb5 R5 hnS hsz hcells hs5 HD a0 al
    obtain ⟨b, hbb⟩ : ∃ b, (r2 != 0) = b := ⟨_, rfl⟩
    go_wp2_with (go_at_call 49; fail)
    refine HF.out.mono ?_
    rintro e w' ⟨rfl, rfl⟩
    cases b with
    | true =>
      obtain rfl := HE.out hbb
      go_wp2
      refine wp_goto ?_
      refine ⟨rfl, ?_⟩
      go_wp2
      rw [Exit.noGoto_ret]
      go_ret2
      exact ⟨rfl, B5.out⟩
    | false =>
      obtain rfl : r2 = 0 := by simpa using hbb
      go_wp2
      show Exit.noGoto _ Exit.ret _ _
      rw [Exit.noGoto_ret]
      go_ret2
      exact ⟨rfl, B5.out⟩
  · have hd : decide (xs ≠ [] ∧ allD xs = true) = false := by simp only [decide_eq_false_iff_not]; exact hok
    rw [hd] at hD47
    have HD := Lib.hid hD47
    have e : digF xs = (0, 110) := by
      unfold digF
      rw [if_pos]
      by_cases h0 : xs = []
      · exact .inl h0
      · refine .inr ?_
        cases ha : allD xs with
        | false => rfl
        | true => exact absurd ⟨h0, ha⟩ hok
    rw [e] at hR
    injection hR with h1 h2
    subst h1 h2
    clear hd hok hD47 e hb hl
    go_enter Try.func37, Try.ntmps37
    go_wp2
    refine wp_scope_fwd 0 rfl ?_
    go_upto_region 4 with fail
    rw [← EA.out, ← E1.out, ← E2.out, ← E3.out]
    go_wp2_with (go_at_call 47; fail)
    refine HD.out.mono ?_
    rintro e w4 ⟨rfl, hb4⟩
    have B4 := Lib.hid (B3.out.trans (hb4.mono B3.out.size))
    clear hb4 a0 al HD
    go_wp2
    refine wp_goto ?_
    refine ⟨rfl, ?_⟩
    go_wp2
    rw [Exit.noGoto_ret]
    go_ret2
    exact ⟨rfl, B4.out⟩
theorem Digits25 (xs : List Int) (hb : Byt xs) (hl : xs.length ≤ 100000) (w : World) : Calls Try.prog 25 #[.string (strOfNums xs)] w fun e w' => e = .returned (.tuple #[.int .u64 (digF xs).1, .int .i64 (digF xs).2]) ∧ Below w.heap.size w w' := by
  have HN := Lib.hid (fun W => number37 xs hb hl W)
  clear hb hl
  go_enter Try.func25, Try.ntmps25
  go_wp2_with (go_at_call 36; fail)
  refine (bases36 w).mono ?_
  rintro e w1 ⟨rfl, hb1⟩
  have B1 := Lib.hid hb1
  have hidx : (Instr.index 69 (.agg #[.int .i64 10, .int .i64 16]) (.int .i64 0)).run Try.prog w1 = .ok (.int .i64 10) w1 := by kernel_rfl
  clear hb1
  go_wp2_with (go_at_call 37; fail)
  refine (HN.out _).mono ?_
  rintro e w2 ⟨rfl, hb2⟩
  have B2 := Lib.hid (B1.out.trans (hb2.mono B1.out.size))
  clear hb2
  go_wp2
  go_ret2
  exact ⟨rfl, B2.out⟩
end Go.Proofs.Ytfnojmkiajdoaaa
