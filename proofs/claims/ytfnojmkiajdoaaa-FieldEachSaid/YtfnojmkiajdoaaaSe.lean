/-
  FieldEach, walked.
-/
import Derived.Test.YtfnojmkiajdoaaaSd
import Derived.Test.YtfnojmkiajdoaaaRr
import Derived.Test.YtfnojmkiajdoaaaT
namespace Go.Proofs.Ytfnojmkiajdoaaa
open Go.RowKit Go.Shelf
set_option linter.unusedVariables false
set_option linter.unusedSimpArgs false
attribute [local go_sem] Oper.semAt_some run_eql_func43
attribute [local go_sem high] neq25

/-- The first loop's boxes, when i lines are read. -/
structure Lp (w : World) (many : Int) (L : List ByteArray) (ao : Option Addr) (n cap i : Nat) (a : Option Addr) (N c : Nat) (W : World) : Prop where
  b0 : W.heap[w.heap.size]? = some (.cells #[.slice ao n cap] 40 (0, 0))
  b1 : W.heap[w.heap.size + 1]? = some (.cells #[.int .i64 many] 3 (0, 0))
  b2 : W.heap[w.heap.size + 2]? = some (.cells #[.bool false] 4 (0, 0))
  b5 : W.heap[w.heap.size + 3]? = some (.cells #[.slice a N c] 41 (0, 0))
  nN : N = (cnts L i).length
  row : W.ownsRow (w.heap.size + 4) 3 1 (.slice a N c) N ((cnts L i).map fun (j : Nat) => .int .i64 (j : Int))
  lt : SAhead w.heap.size W ao n L
  below : Below w.heap.size w W
  size : w.heap.size + 4 ≤ W.heap.size
  small : ∀ j, j < i → (ssAt L j).size ≤ 100
section
variable {w W W' : World} {many : Int} {L : List ByteArray} {ao a : Option Addr} {n cap i N c : Nat}
theorem Lp.bel (h : Lp w many L ao n cap i a N c W) (hb : Below W.heap.size W W') : Lp w many L ao n cap i a N c W' := by
  have hs := h.size
  exact ⟨(hb.block _ (by omega)).trans h.b0, (hb.block _ (by omega)).trans h.b1, (hb.block _ (by omega)).trans h.b2, (hb.block _ (by omega)).trans h.b5, h.nN, (Mod.of_below hb (fun _ => False)).row h.row (fun _ _ e => e), h.lt.below (hb.mono h.below.size), h.below.trans (hb.mono h.below.size), Nat.le_trans hs hb.size, h.small⟩
/-- A line that counts: its number is put behind. -/
theorem Lp.more (h : Lp w many L ao n cap i a N c W) {a' : Option Addr} {N' c' : Nat} (hc : countsF (sayF L i) = true) (hs : (ssAt L i).size ≤ 100) (hN : N' = N + 1) (hr : W'.ownsRow (w.heap.size + 4) 3 1 (.slice a' N' c') (N + 1) (((cnts L i).map fun (j : Nat) => .int .i64 (j : Int)) ++ [.int .i64 (i : Int)])) (hb : Below (w.heap.size + 4) W W') :
    Lp w many L ao n cap (i + 1) a' N' c' (W'.setCell ⟨w.heap.size + 3, 0, none⟩ (.slice a' N' c')) := by
  have hz := h.size
  have e : cnts L (i + 1) = cnts L i ++ [i] := by rw [cnts, if_pos hc]
  have st : ∀ k x, k ≠ w.heap.size + 3 → k < w.heap.size + 4 → W.heap[k]? = some x → (W'.setCell ⟨w.heap.size + 3, 0, none⟩ (.slice a' N' c')).heap[k]? = some x := fun k x h1 h2 h3 => (setCell_blk_ne (a := ⟨w.heap.size + 3, 0, none⟩) h1 _).trans ((hb.block _ h2).trans h3)
  subst hN
  refine ⟨st _ _ (by omega) (by omega) h.b0, st _ _ (by omega) (by omega) h.b1, st _ _ (by omega) (by omega) h.b2, setCell_blk ((hb.block _ (by omega)).trans h.b5) 0 _, by rw [e, h.nN]; simp, ?_, h.lt.below ((hb.mono (by omega)).setCell (p := ⟨w.heap.size + 3, 0, none⟩) (by simp) _), h.below.trans ((hb.mono (by omega)).setCell (p := ⟨w.heap.size + 3, 0, none⟩) (by simp) _), ?_, fun j hj => ?_⟩
  · rw [e, List.map_append]
    exact ownsRow_setCell_below hr (a := ⟨w.heap.size + 3, 0, none⟩) (by simp) _
  · have := hb.size
    simp [World.setCell]
    omega
  · rcases Nat.lt_or_eq_of_le (Nat.le_of_lt_succ hj) with g | g
    · exact h.small j g
    · rw [g]; exact hs
/-- One that does not. -/
theorem Lp.skip (h : Lp w many L ao n cap i a N c W) (hc : countsF (sayF L i) = false) (hs : (ssAt L i).size ≤ 100) : Lp w many L ao n cap (i + 1) a N c W := by
  have e := cnts_skip L hc
  exact ⟨h.b0, h.b1, h.b2, h.b5, by rw [e]; exact h.nN, by rw [e]; exact h.row, h.lt, h.below, h.size, fun j hj => by
    rcases Nat.lt_or_eq_of_le (Nat.le_of_lt_succ hj) with g | g
    · exact h.small j g
    · rw [g]; exact hs⟩
end

set_option maxHeartbeats 12800000 in
set_option maxRecDepth 100000 in
theorem each_any (ao : Option Addr) (n cap : Nat) (L : List ByteArray) (many : Int) (w : World) (h : SAhead w.heap.size w ao n L) (hc : ao = none → n = 0 ∧ cap = 0) (hncap : n ≤ cap) (hLn : L.length = n) (hsz : ∀ j, (ssAt L j).size ≤ 9223372036854775807) (hm0 : -9223372036854775808 ≤ many) (hm1 : many ≤ 9223372036854775807) : Calls Try.prog 6 #[.slice ao n cap, .int .i64 many] w fun e w' => e = .returned (.bool true) ∧ Below w.heap.size w w' := by
  have HWk := Lib.hid works_true
  obtain ⟨Wa, hWa⟩ : ∃ W, W = w.alloc (.cells #[.slice ao n cap] 40) := ⟨_, rfl⟩
  obtain ⟨Wb, hWb⟩ : ∃ W, W = Wa.alloc (.cells #[.int .i64 many] 3) := ⟨_, rfl⟩
  obtain ⟨Wc, hWc⟩ : ∃ W, W = Wb.alloc (.cells #[.bool false] 4) := ⟨_, rfl⟩
  have sa : Wa.heap.size = w.heap.size + 1 := by rw [hWa]; simp
  have sb : Wb.heap.size = w.heap.size + 2 := by rw [hWb]; simp [sa]
  have sc : Wc.heap.size = w.heap.size + 3 := by rw [hWc]; simp [sb]
  have ba : Below w.heap.size w Wa := by rw [hWa]; exact (Below.refl _ w).alloc (Nat.le_refl _) _
  have bb : Below w.heap.size w Wb := by rw [hWb]; exact ba.alloc ba.size _
  have bc : Below w.heap.size w Wc := by rw [hWc]; exact bb.alloc bb.size _
  have ka : Wc.heap[w.heap.size]? = some (.cells #[.slice ao n cap] 40 (0, 0)) := by rw [hWc]; refine alloc_blk ?_ _; rw [hWb]; refine alloc_blk ?_ _; rw [hWa]; exact alloc_blk_new _ _
  have kb : Wc.heap[w.heap.size + 1]? = some (.cells #[.int .i64 many] 3 (0, 0)) := by rw [hWc]; refine alloc_blk ?_ _; rw [hWb, ← sa]; exact alloc_blk_new _ _
  have kc : Wc.heap[w.heap.size + 2]? = some (.cells #[.bool false] 4 (0, 0)) := by rw [hWc, ← sb]; exact alloc_blk_new _ _
  have EA := Lib.hid hWa
  have EB := Lib.hid hWb
  have EC := Lib.hid hWc
  have SC := Lib.hid sc
  have KA := Lib.hid ka
  have KB := Lib.hid kb
  have KC := Lib.hid kc
  have BC := Lib.hid bc
  by_cases hbig : 20 < n
  · have d1 : decide (20 < n) = true := by simpa using hbig
    have d2 : decide ((20 : Int) < n) = true := by simp; omega
    clear hWa hWb hWc sa sb sc ba bb bc ka kb kc hbig h hLn hsz
    refine (callsIn_wide (n := 9)).1 ?_
    refine callsIn_of_wp_marks Try.func6 rfl trivial ?_ rfl
    simp only [Try.ntmps6, List.size_toArray, List.length_cons, List.length_nil, Nat.reduceAdd, Nat.reduceSub, Array.replicate_succ, Array.replicate_zero, List.push_toArray, List.append_toArray, List.nil_append, List.cons_append]
    refine wpIn_wide.2 ?_
    go_wp2_with (go_at_call 7; fail)
    rw [← EA.out, ← EB.out, ← EC.out]
    refine (HWk.out _).mono ?_
    rintro e w1 ⟨rfl, hb⟩
    have KB1 := Lib.hid ((hb.block _ (by rw [SC.out]; omega)).trans KC.out)
    have HB1 := Lib.hid (BC.out.trans (hb.mono BC.out.size))
    have c1 := cell_blk KB1.out 0 _ rfl
    have f1 := frozen_blk KB1.out 0
    have l1 := blk_lt KB1.out
    clear hb
    go_wp2_with fail
    have hk2 := cell_blk (setCell_blk KB1.out 0 (.bool true)) 0 (.bool true) rfl
    refine ⟨.bool true, ?_, rfl, HB1.out.setCell (p := ⟨w.heap.size + 2, 0, none⟩) (by simp) _⟩
    simp [results, Try.f6, go_sem, hk2]
  obtain ⟨i0, hi0, hz0, hz1, hz2⟩ : ∃ i, Try.prog.info? 3 = some i ∧ i.zero = some (.int .i64 0) ∧ i.size = 1 ∧ i.bytes = 8 := info_parts (by kernel_rfl)
  have hn20 : n ≤ 20 := by omega
  have d1 : decide (20 < n) = false := by simp; omega
  have d2 : decide ((20 : Int) < n) = false := by simp; omega
  obtain ⟨Wd, hWd⟩ : ∃ W, W = Wc.alloc (.cells #[.slice none 0 0] 41) := ⟨_, rfl⟩
  have hbd : Below Wc.heap.size Wc Wd := by rw [hWd]; exact (Below.refl _ Wc).alloc (Nat.le_refl _) _
  have kd : Wd.heap[w.heap.size + 3]? = some (.cells #[.slice none 0 0] 41 (0, 0)) := by rw [hWd, ← sc]; exact alloc_blk_new _ _
  have hbw : Below w.heap.size w Wd := bc.trans (hbd.mono bc.size)
  have hsd : w.heap.size + 4 ≤ Wd.heap.size := by rw [hWd]; simp [sc]
  have P0 : Hid (Lp w many L ao n cap 0 none 0 0 Wd) := Lib.hid ⟨(hbd.block _ (by omega)).trans ka, (hbd.block _ (by omega)).trans kb, (hbd.block _ (by omega)).trans kc, kd, rfl, World.ownsRow_nil _ _ _ _, h.below hbw, hbw, hsd, fun j hj => absurd hj (by omega)⟩
  have ED := Lib.hid hWd
  have HS := Lib.hid hsz
  have HA := Lib.hid h
  have HL := Lib.hid hLn
  have HC := Lib.hid hc
  clear hWa hWb hWc hWd sa sb sc ba bb bc ka kb kc kd hbd hbw hsd hbig h hLn hsz hc
  refine (callsIn_wide (n := 9)).1 ?_
  refine callsIn_of_wp_marks Try.func6 rfl trivial ?_ rfl
  simp only [Try.ntmps6, List.size_toArray, List.length_cons, List.length_nil, Nat.reduceAdd, Nat.reduceSub, Array.replicate_succ, Array.replicate_zero, List.push_toArray, List.append_toArray, List.nil_append, List.cons_append]
  refine wpIn_wide.2 ?_
  go_upto_region 4 with fail
  try rw [← EA.out, ← EB.out, ← EC.out, ← ED.out]
  try rw [← EA.out, ← EB.out, ← EC.out, SC.out, ← ED.out]
  go_wp2_with fail
  go_loopg [6] n (fun gk v6 wr => ∃ i : Nat, v6 = .int .i64 i ∧ i ≤ n ∧ gk = n - i ∧ ∃ a N c, Lp w many L ao n cap i a N c wr)
  case atStart => exact ⟨0, rfl, by omega, rfl, _, _, _, P0.out⟩
  case round =>
    obtain ⟨i, rfl, hi, hgk, a, N, c, hlp⟩ := hrel
    have HG := Lib.hid hgk
    have HP := Lib.hid hlp
    have c0 := cell_blk hlp.b0 0 _ rfl
    have l0 := blk_lt hlp.b0
    have c5 := cell_blk hlp.b5 0 _ rfl
    have f5 := frozen_blk hlp.b5 0
    have l5 := blk_lt hlp.b5
    have hNi : N ≤ i := by rw [hlp.nN]; exact cnts_len L i
    clear hgk hlp P0 KA KB KC
    by_cases hlt : i < n
    · obtain ⟨b, off, rfl, hbl, hcz⟩ := HP.out.lt (by omega)
      have ci := hcz i hlt
      have hbl2 : b < wr.heap.size := Nat.lt_of_lt_of_le hbl HP.out.below.size
      obtain ⟨s, hs⟩ : ∃ s, s = ssAt L i := ⟨_, rfl⟩
      have hss : s.size ≤ 9223372036854775807 := by rw [hs]; exact HS.out i
      rw [← hs] at ci
      have HSs := Lib.hid hs
      have hdl : decide ((i : Int) < n) = true := by simpa using hlt
      by_cases hbg : 100 < s.size
      · have e1 : decide (100 < s.size) = true := by simpa using hbg
        have e2 : decide ((100 : Int) < s.size) = true := by simp; omega
        clear hcz hs hbg
        go_wp2_with (go_at_call 7; fail)
        refine (HWk.out _).mono ?_
        rintro e w1 ⟨rfl, hb⟩
        have P1 := HP.out.bel hb
        have c1 := cell_blk P1.b2 0 _ rfl
        have f1 := frozen_blk P1.b2 0
        have l1 := blk_lt P1.b2
        have HP1 := Lib.hid P1
        clear hb P1 c0 c5 ci l0 l5 f5
        go_wp2_with fail
        have hk2 := cell_blk (setCell_blk HP1.out.b2 0 (.bool true)) 0 (.bool true) rfl
        refine ⟨.bool true, ?_, rfl, HP1.out.below.setCell (p := ⟨w.heap.size + 2, 0, none⟩) (by simp) _⟩
        simp [results, Try.f6, go_sem, hk2]
      have e1 : decide (100 < s.size) = false := by simp; omega
      have e2 : decide ((100 : Int) < s.size) = false := by simp; omega
      have HS1 : Hid ((ssAt L i).size ≤ 100) := Lib.hid (by rw [← hs]; omega)
      obtain ⟨f, hf⟩ : ∃ f, f = sayF L i := ⟨_, rfl⟩
      have hsn : (nums s).length ≤ 100 := by rw [nums_len]; omega
      have hfo : f = ofF (nums s) := by rw [hf, hs]; rfl
      have hok : f.Ok := by rw [hfo]; exact Fd.Ok.of (nums_byt s) (by omega)
      obtain ⟨fk, hfk⟩ : ∃ x, x = f.k := ⟨_, rfl⟩
      obtain ⟨fN, hfN⟩ : ∃ x, x = strOfNums f.n := ⟨_, rfl⟩
      obtain ⟨fV, hfV⟩ : ∃ x, x = strOfNums f.v := ⟨_, rfl⟩
      have eF : fdV f = .agg #[.int .i64 fk, .string fN, .string fV] := by rw [hfk, hfN, hfV]; rfl
      obtain ⟨cb, hcc⟩ : ∃ c, c = countsF f := ⟨_, rfl⟩
      have HOf : Hid (∀ W, Calls Try.prog 9 #[.string s] W fun e w' => e = .returned (.agg #[.int .i64 fk, .string fN, .string fV]) ∧ Below W.heap.size W w') := Lib.hid fun W => by
        have := refOf9 (nums s) (nums_byt s) (by omega) W
        rw [str_nums, ← hfo, eF] at this
        exact this
      have HCo : Hid (∀ W, Calls Try.prog 14 #[.agg #[.int .i64 fk, .string fN, .string fV]] W fun e w' => e = .returned (.bool cb) ∧ Below W.heap.size W w') := Lib.hid fun W => by
        rw [hcc, ← eF]; exact refCounts14 f hok W
      have HCB : Hid (cb = countsF (sayF L i)) := Lib.hid (by rw [hcc, hf])
      clear hcz hs hbg hf hsn hfo hok hfk hfN hfV eF hcc
      go_wp2_with (go_at_call 9; fail)
      refine (HOf.out _).mono ?_
      rintro e w1 ⟨rfl, hb⟩
      have P1 := Lib.hid (HP.out.bel hb)
      clear hb c0 c5 ci l0 l5 f5 HP
      go_wp2_with (go_at_call 14; fail)
      refine (HCo.out _).mono ?_
      rintro e w2 ⟨rfl, hb⟩
      have P2 := Lib.hid (P1.out.bel hb)
      clear hb P1 HOf HCo
      cases cb with
      | false =>
        go_wp2_with fail
        go_roundg (n - (i + 1))
        case measure => have := HG.out; omega
        case rel => exact ⟨i + 1, by go_num, by omega, rfl, _, _, _, P2.out.skip HCB.out.symm HS1.out⟩
      | true =>
        have c5 := cell_blk P2.out.b5 0 _ rfl
        have l5 := blk_lt P2.out.b5
        go_upto_region 10 with fail
        obtain ⟨w3, hw3⟩ : ∃ W, W = w2.alloc (.cells #[.int .i64 i] 3) := ⟨_, rfl⟩
        have b3 : Below w2.heap.size w2 w3 := by rw [hw3]; exact (Below.refl _ w2).alloc (Nat.le_refl _) _
        have k3 : w3.heap[w2.heap.size]? = some (.cells #[.int .i64 i] 3 (0, 0)) := by rw [hw3]; exact alloc_blk_new _ _
        have P3 := Lib.hid (P2.out.bel b3)
        have HN := Lib.hid (fun (ad : Addr) (e : some (⟨w2.heap.size, 0, none⟩ : Addr) = some ad) j u (hj : [Value.int .i64 i][j]? = some u) => (show w3.cell? (ad.add j) = some u by
          cases e
          match j, hj with
          | 0, hj => cases hj; exact cell_blk k3 0 _ rfl))
        have E3 := Lib.hid hw3
        have hs3 := P3.out.size
        clear hw3 b3 k3
        go_wp2_with (at_builtin; go_loud (rw [← E3.out]); go_loud (refine wpList_append_f _ rfl (.tmp 35) (.tmp 37) 41 rfl (w.heap.size + 4) 3 i0 (.int .i64 0) 1 8 Try.underlying41 hi0 hz0 hz1 hz2 rfl (by decide) _ _ _ rfl P3.out.row (some ⟨w2.heap.size, 0, none⟩) 1 1 [.int .i64 i] rfl rfl (fun e => by cases e) HN.out (by simp [Value.oneCell']) ?c3 ?c4 hs3 ?_))
        case c3 => unfold maxLen; omega
        case c4 => omega
        intro v4 w4 hown hg hf _
        have hb4 : Below (w.heap.size + 4) w3 w4 := (Below.refl _ w3).grown hg hs3 (fun k e => (P3.out.row.lt k e).1)
        obtain ⟨a4, c4, rfl⟩ := row_slice hown
        have P4 := Lib.hid (P3.out.more (a' := a4) (N' := N + 1) (c' := c4) HCB.out.symm HS1.out rfl hown hb4)
        have k5 := (hb4.block _ (by omega)).trans P3.out.b5
        have c5' := cell_blk k5 0 _ rfl
        have f5' := frozen_blk k5 0
        have l5' := blk_lt k5
        clear hown hg hf hb4 k5 c5 l5 P3 P2 HN
        go_wp2_with fail
        go_roundg (n - (i + 1))
        case measure => have := HG.out; omega
        case rel => exact ⟨i + 1, by go_num, by omega, rfl, _, _, _, P4.out⟩
    · obtain rfl : i = n := by omega
      have hdl : decide ((i : Int) < i) = false := by simp
      obtain ⟨wq, hwq⟩ : ∃ W, W = wr := ⟨_, rfl⟩
      subst hwq
      have hsm := HP.out.small
      have hln := HL.out
      have HSZ : Hid (∀ j, (ssAt L j).size ≤ 1000) := Lib.hid fun j => by
        by_cases hj : j < i
        · have := hsm j hj; omega
        · unfold ssAt
          rw [List.getD_eq_getElem?_getD, List.getElem?_eq_none (by omega)]
          exact Nat.zero_le _
      have HEa := Lib.hid (Each20 ao i cap L wq (fun hp => by obtain ⟨b, off, e, hl, hc⟩ := HP.out.lt hp; exact ⟨b, off, e, Nat.lt_of_lt_of_le hl HP.out.below.size, hc⟩) HC.out (by omega))
      have hla : NAhead wq.heap.size wq a N (cAt L i) := fun hp => by
        obtain ⟨g, c3, cur, e, hgl, hgg, _⟩ := row_some HP.out.row hp
        cases e
        refine ⟨g, rfl, blk_lt hgg, fun j hj => ?_⟩
        have := HP.out.row.cells (g := g) rfl j (.int .i64 (cAt L i j : Int)) (by
          have hjl : j < (cnts L i).length := by rw [← HP.out.nN]; exact hj
          rw [List.getElem?_map, List.getElem?_eq_getElem hjl]
          unfold cAt
          rw [List.getD_eq_getElem?_getD, List.getElem?_eq_getElem hjl]
          rfl)
        rw [addr_add] at this
        simpa using this
      have HLA := Lib.hid hla
      have HNN : Hid (N = (cnts L i).length) := Lib.hid HP.out.nN
      clear hla hsm hln HL hlt f5 HS HG
      go_wp2_with (go_at_call 20; fail)
      refine HEa.out.mono ?_
      rintro e w7 ⟨Eb, ea, ec, rfl, keb, hle7, hb7⟩
      have hsq := HP.out.size
      have EV7 : Hid (Ev w many L ao i cap N a c ea ec Eb w7.heap.size w7) := Lib.hid ⟨(hb7.block _ (by omega)).trans HP.out.b0, (hb7.block _ (by omega)).trans HP.out.b1, (hb7.block _ (by omega)).trans HP.out.b2, (hb7.block _ (by omega)).trans HP.out.b5, keb, HP.out.lt.below (hb7.mono HP.out.below.size), fun hp => by
          obtain ⟨b, e, hl, hc⟩ := HLA.out hp
          have := hb7.size
          exact ⟨b, e, by omega, fun j hj => (hb7.cell (p := ⟨b, j, none⟩) hl).trans (hc j hj)⟩, hle7, by have := hb7.size; omega, blk_lt keb, Nat.le_refl _, HP.out.below.trans (hb7.mono HP.out.below.size)⟩
      obtain ⟨lim, hlim⟩ : ∃ x, x = w7.heap.size := ⟨_, rfl⟩
      have EV8 := EV7
      rw [← hlim] at EV8
      have hl8 := EV8.out.l4
      clear keb hle7 hb7 HEa HLA HP EV7 hlim c0 l0 c5 l5 hsq
      obtain ⟨tb0, htb⟩ : ∃ B, B = w7.heap.size := ⟨_, rfl⟩
      obtain ⟨wa0, hwy⟩ : ∃ W, W = w7.alloc (.cells #[.int .i64 0] 3) := ⟨_, rfl⟩
      have hby : Below w7.heap.size w7 wa0 := by rw [hwy]; exact (Below.refl _ w7).alloc (Nat.le_refl _) _
      have hky : wa0.heap[tb0]? = some (.cells #[.int .i64 0] 3 (0, 0)) := by rw [hwy, htb]; exact alloc_blk_new _ _
      have htl0 : lim ≤ tb0 := by rw [htb]; exact EV8.out.l4
      have EV0 := Lib.hid (EV8.out.bel hby EV8.out.l4)
      have TK0 := Lib.hid hky
      have EY := Lib.hid hwy
      have ETB := Lib.hid htb
      clear hwy hby hky htb EV8 hl8
      go_wp2_with fail
      rw [← EY.out, ← ETB.out]
      refine wp_loop_rounds 3 ?_
      rw [rounds_succ]
      have htc := cell_blk TK0.out 0 (.int .i64 0) rfl
      have htf := frozen_blk TK0.out 0
      have htl := blk_lt TK0.out
      go_upto_block 4 with fail
      clear htc htf htl
      obtain ⟨nb0, hnb⟩ : ∃ B, B = wa0.heap.size := ⟨_, rfl⟩
      obtain ⟨wn0, hwn⟩ : ∃ W, W = wa0.alloc (.cells #[.int .i64 0] 3) := ⟨_, rfl⟩
      have hbN : Below wa0.heap.size wa0 wn0 := by rw [hwn]; exact (Below.refl _ wa0).alloc (Nat.le_refl _) _
      have hkN : wn0.heap[nb0]? = some (.cells #[.int .i64 0] 3 (0, 0)) := by rw [hwn, hnb]; exact alloc_blk_new _ _
      rw [← hnb, ← hwn]
      have hnl0 : nb0 < wn0.heap.size := blk_lt hkN
      have htn0 : tb0 < nb0 := by rw [hnb]; exact blk_lt TK0.out
      have TN0 := Lib.hid ((hbN.block tb0 (blk_lt TK0.out)).trans TK0.out)
      have EN0 := Lib.hid (EV0.out.bel hbN EV0.out.l4)
      have NC0 := Lib.hid (cell_blk hkN 0 (.int .i64 0) rfl)
      have NF0 := Lib.hid (frozen_blk hkN 0)
      clear hnb hwn hbN hkN TK0 EV0
      refine range_cut (fun D W => wn0.heap.size ≤ D ∧ W.heap[D]? = some (.deferred (some [])) ∧ (∃ c : Nat, (c : Int) = min (N : Int) (max 1 many) ∧ W.cell? ⟨nb0, 0, none⟩ = some (.int .i64 c)) ∧ Below nb0 wn0 W) ?first0 ?rest0
      case first0 =>
        go_wp2_with fail
        refine (wpIn_wide (n := 9)).1 ?_
        have hl1 := EN0.out.l1
        have hl3 := EN0.out.l3
        refine' wpIn_range_deepA (F := Fence.wide) rfl (by omega) (gf := 32) (lb := #[.pointer (some ⟨Eb, 0, none⟩)]) rfl trivial (enters_of Try.func32 (by kernel_rfl) rfl) (n₀ := nb0) (by omega)
          (Each32_deep 8 (by omega) Eb nb0 ea i ec L (by omega) HSZ.out wn0 (by omega) (by omega) (cell_blk EN0.out.be 0 _ rfl) (fun hp => by obtain ⟨g, off, e, hl, hc⟩ := EN0.out.le hp; exact ⟨g, off, e, by omega, hc⟩)) (fun _ => rfl)
          (Rnd (List.finRange (cnts L i).length) many nb0 wn0) (Rxt (List.finRange (cnts L i).length) many nb0 wn0 4) (Rnd.ahead (by omega)) (Rxt.ahead (by omega)) (Rnd.start NC0.out NF0.out) (fun x => .cells #[.int .i64 (sayF L (cAt L i x.val)).k, .string (strOfNums (sayF L (cAt L i x.val)).n), .string (strOfNums (sayF L (cAt L i x.val)).v)] 25) _ ?assign ?body ?done ?stop
        case assign =>
          intro l' x W X K hX hK
          unfold cEnc
          dsimp only
          gi_wp2
          rw [← hX]
          exact hK _ rfl
        case done =>
          rintro D ys W hD rfl hI hKd
          obtain ⟨hcc, hB⟩ := hI.whole
          rw [List.length_finRange, ← HNN.out] at hcc
          exact ⟨rfl, D, rfl, hD, hKd, hcc, hB⟩
        case stop =>
          rintro D c pre W hD hSp hIx hKd
          obtain ⟨rfl, hcc, hB⟩ := hIx.part hSp
          rw [List.length_finRange, ← HNN.out] at hcc
          refine wpIn_exit ?_
          exact ⟨rfl, D, rfl, hD, hKd, hcc, hB⟩
        case body =>
          rintro l' pre xx V X hX hXb ⟨⟨hp, hC⟩, ⟨hcn, hfn⟩, hB⟩ hlt
          have FW := EN0.out.bel hB (by omega)
          have hl4 := FW.l4
          have hVl : nb0 < V.heap.size := by have := hB.size; omega
          have kt := (hB.block tb0 (by omega)).trans TN0.out
          have hmore := fin_more (cnts L i).length pre xx hp
          obtain ⟨pl, hpl⟩ : ∃ pl, pl = pre.length := ⟨_, rfl⟩
          rw [← hpl] at hcn hmore hlt hC
          have hltN : pl < N := by rw [HNN.out]; exact hlt
          obtain ⟨b, rfl, hbl, hbc⟩ := FW.ll (by omega)
          have g0 := hbc pl hltN
          have hcl := cAt_lt L i hlt
          obtain ⟨ta, off, rfl, htl, htc⟩ := FW.lt (by omega)
          have g1 := htc _ hcl
          obtain ⟨xi, hxi⟩ : ∃ xi, xi = xx.val := ⟨_, rfl⟩
          rw [← hxi] at hmore hXb
          have hxl : xi < (cnts L i).length := by rw [hxi]; exact xx.isLt
          have hinj : xi ≠ pl → cAt L i xi ≠ cAt L i pl := cAt_inj L i hxl hlt
          have hsame : xi = pl → cAt L i xi = cAt L i pl := fun e => by rw [e]
          obtain ⟨cx, hcx⟩ : ∃ z, z = cAt L i xi := ⟨_, rfl⟩
          obtain ⟨ci, hci⟩ : ∃ z, z = cAt L i pl := ⟨_, rfl⟩
          rw [← hcx] at hXb hinj hsame
          rw [← hci] at g0 g1 hcl hinj hsame
          obtain ⟨fk, hfk⟩ : ∃ s, s = (sayF L cx).k := ⟨_, rfl⟩
          obtain ⟨fN, hfN⟩ : ∃ s, s = strOfNums (sayF L cx).n := ⟨_, rfl⟩
          obtain ⟨fV, hfV⟩ : ∃ s, s = strOfNums (sayF L cx).v := ⟨_, rfl⟩
          rw [← hfk, ← hfN, ← hfV] at hXb
          obtain ⟨s, hs⟩ : ∃ s, s = ssAt L ci := ⟨_, rfl⟩
          rw [← hs] at g1
          have HRO0 : Hid (cx = ci → ∀ W, Calls Try.prog 9 #[.string s] W fun e w' => e = .returned (.agg #[.int .i64 fk, .string fN, .string fV]) ∧ Below W.heap.size W w') := Lib.hid fun ecx W => by
            have hss := HSZ.out ci
            have := refOf9 (nums s) (nums_byt s) (by rw [nums_len, hs]; omega) W
            rw [str_nums] at this
            have e : fdV (ofF (nums s)) = .agg #[.int .i64 fk, .string fN, .string fV] := by rw [hfk, hfN, hfV, hs, ecx]; rfl
            rw [e] at this
            exact this
          have HFX : Hid (∀ W, Below V.heap.size V W → (W.cell? ⟨nb0, 0, none⟩ = some (.int .i64 pl) ∧ W.frozen? ⟨nb0, 0, none⟩ = false ∧ W.cell? ⟨w.heap.size + 3, 0, none⟩ = some (.slice (some ⟨b, 0, none⟩) N c) ∧ W.cell? ⟨b, pl, none⟩ = some (.int .i64 ci)) ∧ (W.cell? ⟨X, 0, none⟩ = some (.int .i64 fk) ∧ W.cell? ⟨X, 1, none⟩ = some (.string fN) ∧ W.cell? ⟨X, 2, none⟩ = some (.string fV) ∧ W.cell? ⟨tb0, 0, none⟩ = some (.int .i64 0)) ∧ (W.cell? ⟨w.heap.size, 0, none⟩ = some (.slice (some ⟨ta, off, none⟩) i cap) ∧ W.cell? ⟨ta, off + ci, none⟩ = some (.string s) ∧ W.cell? ⟨w.heap.size + 1, 0, none⟩ = some (.int .i64 many)) ∧ (nb0 < W.heap.size ∧ w.heap.size + 3 < W.heap.size ∧ b < W.heap.size ∧ X < W.heap.size) ∧ ta < W.heap.size ∧ tb0 < W.heap.size ∧ w.heap.size + 1 < W.heap.size) := Lib.hid fun W hW => by
            have k := fun (q : Nat) (hq : q < V.heap.size) => hW.block q hq
            have xl := blk_lt hXb
            have hz := hW.size
            have hbz := FW.below.size
            have x := (k _ xl).trans hXb
            exact ⟨⟨(hW.cell (p := ⟨nb0, 0, none⟩) hVl).trans hcn, (hW.frozen (p := ⟨nb0, 0, none⟩) hVl).trans hfn, cell_blk ((k _ (by omega)).trans FW.b5) 0 _ rfl, (hW.cell (p := ⟨b, pl, none⟩) (by show b < _; omega)).trans g0⟩, ⟨cell_blk x 0 _ rfl, cell_blk x 1 _ rfl, cell_blk x 2 _ rfl, cell_blk ((k _ (by omega)).trans kt) 0 _ rfl⟩, ⟨cell_blk ((k _ (by omega)).trans FW.b0) 0 _ rfl, (hW.cell (p := ⟨ta, off + ci, none⟩) (by show ta < _; omega)).trans g1, cell_blk ((k _ (by omega)).trans FW.b1) 0 _ rfl⟩, ⟨by omega, by omega, by omega, by omega⟩, by omega, by omega, by omega⟩
          have hcr := cell_blk FW.b2 0 _ rfl
          have hfr := frozen_blk FW.b2 0
          have HMore := Lib.hid hmore
          have HBl := Lib.hid hB
          have HPL := Lib.hid hpl
          have HCC := Lib.hid hC
          have hgt : decide ((N : Int) ≤ pl) = false := by simp; omega
          have hgt2 : decide (N ≤ pl) = false := by simp; omega
          have hlt2 : (pl : Int) < N := by omega
          have hN20 : N ≤ 20 := by rw [HNN.out]; exact Nat.le_trans (cnts_len L i) hn20
          have hpl3 : pl ≤ 1000 := by omega
          have hci2 : (ci : Int) < i := by omega
          have hwV : w.heap.size + 2 < V.heap.size := by omega
          have hwn : w.heap.size + 2 < wn0.heap.size := by omega
          have hwl2 : w.heap.size + 2 < nb0 := by omega
          simp only [← hxi]
          simp only [← hcx]
          simp only [← hfk, ← hfN, ← hfV]
          have HCX := Lib.hid hsame
          clear hmore hp hB hbc htc hpl hC hxi hcx hci hfk hfN hfV hs hsame FW hXb kt hcn hfn g0 g1 hxl hlt
          by_cases e1 : xi = pl
          case neg =>
            have hne := hinj e1
            have d1 : ((cx : Int) != (ci : Int)) = true := by simp; omega
            have d2 : (cx != ci) = true := by simpa using hne
            obtain ⟨⟨f1, f2, f3, f4⟩, ⟨f5, f6, f7, f8⟩, ⟨f9, f10, f11⟩, ⟨f12, f13, f14, f15⟩, f16, f17, f18⟩ := HFX.out V (Below.refl _ _)
            clear hinj hne
            gi_wp2
            refine wpIn_region_round (by kernel_rfl) (by kernel_rfl) (by kernel_rfl) ?_
            repeat (gi_big_quiet_step (fail))
            refine wpQuietIn_pass (by intro w _ f hf; simp [Oper.about, go_sem] at hf; subst hf; trivial) (by first | rfl | simp [Region.wanted, yielded]) ?_
            simp only [Act.put, List.setIfInBounds_toArray, List.set_cons_zero, List.set_cons_succ]
            repeat (gi_big_quiet_step (fail))
            refine wpQuietIn_nil ?_
            intro _ hw'
            obtain ⟨nq, hw''⟩ := hw'
            subst hw''
            gi_wp2
            exact ⟨(Stays.below (n₀ := 0) (Below.drewN' V nq)).setCell (p := ⟨w.heap.size + 2, 0, none⟩) (by show w.heap.size + 2 < _; omega) _, .inl ⟨rfl, fun h => e1 (HMore.out.1 h)⟩⟩
          obtain rfl := HCX.out e1
          clear hinj HCX
          have HRO := Lib.hid (HRO0.out rfl)
          clear HRO0
          have hvv : fdNe fk fN fV fk fN fV = false := by simp [fdNe]
          have d0 : ((cx : Int) != (cx : Int)) = false := by simp
          have d00 : (cx != cx) = false := by simp
          have HF := HFX
          obtain ⟨⟨f1, f2, f3, f4⟩, ⟨f5, f6, f7, f8⟩, ⟨f9, f10, f11⟩, ⟨f12, f13, f14, f15⟩, f16, f17, f18⟩ := HFX.out V (Below.refl _ _)
          clear HFX
          by_cases hmy : many ≤ (pl : Int) + 1
          · have dm : decide (many ≤ (pl : Int) + 1) = true := by simpa using hmy
            have HM := Lib.hid hmy
            clear hmy
            gi_wp2
            clear f1 f2 f3 f4 f5 f6 f7 f8 f9 f10 f11 f12 f13 f14 f15 f16 f17 f18
            refine wpIn_region_roundC (fun W => Below V.heap.size V W) (Below.drewN' V 1) (by kernel_rfl) (by kernel_rfl) (by kernel_rfl) ?_
            refine' wpQuietIn_take (v := ?v1000) (BigFrame.askedIn_plain (fun _ h => nomatch h)) (by first | rfl | simp [Region.wanted, yielded]) ?hy1000 ?rest1000
            case hy1000 => (intro W hW; obtain ⟨⟨f1, f2, f3, f4⟩, ⟨f5, f6, f7, f8⟩, ⟨f9, f10, f11⟩, ⟨f12, f13, f14, f15⟩, f16, f17, f18⟩ := HF.out W hW; go_simp; try with_reducible rfl)
            simp only [Act.put, List.setIfInBounds_toArray, List.set_cons_zero, List.set_cons_succ]
            refine' wpQuietIn_take (v := ?v1001) (BigFrame.askedIn_plain (fun _ h => nomatch h)) (by first | rfl | simp [Region.wanted, yielded]) ?hy1001 ?rest1001
            case hy1001 => (intro W hW; obtain ⟨⟨f1, f2, f3, f4⟩, ⟨f5, f6, f7, f8⟩, ⟨f9, f10, f11⟩, ⟨f12, f13, f14, f15⟩, f16, f17, f18⟩ := HF.out W hW; go_simp; try with_reducible rfl)
            simp only [Act.put, List.setIfInBounds_toArray, List.set_cons_zero, List.set_cons_succ]
            refine' wpQuietIn_take (v := ?v1002) ?ha1002 (by first | rfl | simp [Region.wanted, yielded]) ?hy1002 ?rest1002
            case ha1002 => first | (go_simp; done) | (simp [Oper.askedIn, Oper.about, Fence.list]; done) | (intro w _ f hf; simp [Oper.about, go_sem] at hf; done) | (intro w _ f hf; simp [Oper.about, go_sem] at hf; subst hf; trivial)
            case hy1002 => (intro W hW; obtain ⟨⟨f1, f2, f3, f4⟩, ⟨f5, f6, f7, f8⟩, ⟨f9, f10, f11⟩, ⟨f12, f13, f14, f15⟩, f16, f17, f18⟩ := HF.out W hW; go_simp; try with_reducible rfl)
            simp only [Act.put, List.setIfInBounds_toArray, List.set_cons_zero, List.set_cons_succ]
            refine' wpQuietIn_take (v := ?v1003) (BigFrame.askedIn_plain (fun _ h => nomatch h)) (by first | rfl | simp [Region.wanted, yielded]) ?hy1003 ?rest1003
            case hy1003 => (intro W hW; obtain ⟨⟨f1, f2, f3, f4⟩, ⟨f5, f6, f7, f8⟩, ⟨f9, f10, f11⟩, ⟨f12, f13, f14, f15⟩, f16, f17, f18⟩ := HF.out W hW; go_simp; try with_reducible rfl)
            simp only [Act.put, List.setIfInBounds_toArray, List.set_cons_zero, List.set_cons_succ]
            refine' wpQuietIn_take (v := ?v1004) (BigFrame.askedIn_plain (fun _ h => nomatch h)) (by first | rfl | simp [Region.wanted, yielded]) ?hy1004 ?rest1004
            case hy1004 => (intro W hW; obtain ⟨⟨f1, f2, f3, f4⟩, ⟨f5, f6, f7, f8⟩, ⟨f9, f10, f11⟩, ⟨f12, f13, f14, f15⟩, f16, f17, f18⟩ := HF.out W hW; go_simp; try with_reducible rfl)
            simp only [Act.put, List.setIfInBounds_toArray, List.set_cons_zero, List.set_cons_succ]
            refine' wpQuietIn_take (v := ?v1005) (BigFrame.askedIn_plain (fun _ h => nomatch h)) (by first | rfl | simp [Region.wanted, yielded]) ?hy1005 ?rest1005
            case hy1005 => (intro W hW; obtain ⟨⟨f1, f2, f3, f4⟩, ⟨f5, f6, f7, f8⟩, ⟨f9, f10, f11⟩, ⟨f12, f13, f14, f15⟩, f16, f17, f18⟩ := HF.out W hW; go_simp; try with_reducible rfl)
            simp only [Act.put, List.setIfInBounds_toArray, List.set_cons_zero, List.set_cons_succ]
            refine' wpQuietIn_take (v := ?v1006) (BigFrame.askedIn_plain (fun _ h => nomatch h)) (by first | rfl | simp [Region.wanted, yielded]) ?hy1006 ?rest1006
            case hy1006 => (intro W hW; obtain ⟨⟨f1, f2, f3, f4⟩, ⟨f5, f6, f7, f8⟩, ⟨f9, f10, f11⟩, ⟨f12, f13, f14, f15⟩, f16, f17, f18⟩ := HF.out W hW; go_simp; try with_reducible rfl)
            simp only [Act.put, List.setIfInBounds_toArray, List.set_cons_zero, List.set_cons_succ]
            refine' wpQuietIn_take (v := ?v1007) (BigFrame.askedIn_plain (fun _ h => nomatch h)) (by first | rfl | simp [Region.wanted, yielded]) ?hy1007 ?rest1007
            case hy1007 => (intro W hW; obtain ⟨⟨f1, f2, f3, f4⟩, ⟨f5, f6, f7, f8⟩, ⟨f9, f10, f11⟩, ⟨f12, f13, f14, f15⟩, f16, f17, f18⟩ := HF.out W hW; go_simp; try with_reducible rfl)
            simp only [Act.put, List.setIfInBounds_toArray, List.set_cons_zero, List.set_cons_succ]
            refine' wpQuietIn_take (v := ?v1008) (BigFrame.askedIn_plain (fun _ h => nomatch h)) (by first | rfl | simp [Region.wanted, yielded]) ?hy1008 ?rest1008
            case hy1008 => (intro W hW; obtain ⟨⟨f1, f2, f3, f4⟩, ⟨f5, f6, f7, f8⟩, ⟨f9, f10, f11⟩, ⟨f12, f13, f14, f15⟩, f16, f17, f18⟩ := HF.out W hW; go_simp; try with_reducible rfl)
            simp only [Act.put, List.setIfInBounds_toArray, List.set_cons_zero, List.set_cons_succ]
            refine' wpQuietIn_take (v := ?v1009) (BigFrame.askedIn_plain (fun _ h => nomatch h)) (by first | rfl | simp [Region.wanted, yielded]) ?hy1009 ?rest1009
            case hy1009 => (intro W hW; obtain ⟨⟨f1, f2, f3, f4⟩, ⟨f5, f6, f7, f8⟩, ⟨f9, f10, f11⟩, ⟨f12, f13, f14, f15⟩, f16, f17, f18⟩ := HF.out W hW; go_simp; try with_reducible rfl)
            simp only [Act.put, List.setIfInBounds_toArray, List.set_cons_zero, List.set_cons_succ]
            refine' wpQuietIn_take (v := ?v10010) (BigFrame.askedIn_plain (fun _ h => nomatch h)) (by first | rfl | simp [Region.wanted, yielded]) ?hy10010 ?rest10010
            case hy10010 => (intro W hW; obtain ⟨⟨f1, f2, f3, f4⟩, ⟨f5, f6, f7, f8⟩, ⟨f9, f10, f11⟩, ⟨f12, f13, f14, f15⟩, f16, f17, f18⟩ := HF.out W hW; go_simp; try with_reducible rfl)
            simp only [Act.put, List.setIfInBounds_toArray, List.set_cons_zero, List.set_cons_succ]
            refine' wpQuietIn_take (v := ?v10011) (BigFrame.askedIn_plain (fun _ h => nomatch h)) (by first | rfl | simp [Region.wanted, yielded]) ?hy10011 ?rest10011
            case hy10011 => (intro W hW; obtain ⟨⟨f1, f2, f3, f4⟩, ⟨f5, f6, f7, f8⟩, ⟨f9, f10, f11⟩, ⟨f12, f13, f14, f15⟩, f16, f17, f18⟩ := HF.out W hW; go_simp; try with_reducible rfl)
            simp only [Act.put, List.setIfInBounds_toArray, List.set_cons_zero, List.set_cons_succ]
            refine' wpQuietIn_take (v := ?v10012) (BigFrame.askedIn_plain (fun _ h => nomatch h)) (by first | rfl | simp [Region.wanted, yielded]) ?hy10012 ?rest10012
            case hy10012 => (intro W hW; obtain ⟨⟨f1, f2, f3, f4⟩, ⟨f5, f6, f7, f8⟩, ⟨f9, f10, f11⟩, ⟨f12, f13, f14, f15⟩, f16, f17, f18⟩ := HF.out W hW; go_simp; try with_reducible rfl)
            simp only [Act.put, List.setIfInBounds_toArray, List.set_cons_zero, List.set_cons_succ]
            refine' wpQuietIn_take (v := ?v10013) (BigFrame.askedIn_plain (fun _ h => nomatch h)) (by first | rfl | simp [Region.wanted, yielded]) ?hy10013 ?rest10013
            case hy10013 => (intro W hW; obtain ⟨⟨f1, f2, f3, f4⟩, ⟨f5, f6, f7, f8⟩, ⟨f9, f10, f11⟩, ⟨f12, f13, f14, f15⟩, f16, f17, f18⟩ := HF.out W hW; go_simp; try with_reducible rfl)
            simp only [Act.put, List.setIfInBounds_toArray, List.set_cons_zero, List.set_cons_succ]
            refine' wpQuietIn_take (v := ?v10014) (BigFrame.askedIn_plain (fun _ h => nomatch h)) (by first | rfl | simp [Region.wanted, yielded]) ?hy10014 ?rest10014
            case hy10014 => (intro W hW; obtain ⟨⟨f1, f2, f3, f4⟩, ⟨f5, f6, f7, f8⟩, ⟨f9, f10, f11⟩, ⟨f12, f13, f14, f15⟩, f16, f17, f18⟩ := HF.out W hW; go_simp; try with_reducible rfl)
            simp only [Act.put, List.setIfInBounds_toArray, List.set_cons_zero, List.set_cons_succ]
            refine' wpQuietIn_take (v := ?v10015) (BigFrame.askedIn_plain (fun _ h => nomatch h)) (by first | rfl | simp [Region.wanted, yielded]) ?hy10015 ?rest10015
            case hy10015 => (intro W hW; obtain ⟨⟨f1, f2, f3, f4⟩, ⟨f5, f6, f7, f8⟩, ⟨f9, f10, f11⟩, ⟨f12, f13, f14, f15⟩, f16, f17, f18⟩ := HF.out W hW; go_simp; try with_reducible rfl)
            simp only [Act.put, List.setIfInBounds_toArray, List.set_cons_zero, List.set_cons_succ]
            refine' wpQuietIn_take (v := ?v10016) (BigFrame.askedIn_plain (fun _ h => nomatch h)) (by first | rfl | simp [Region.wanted, yielded]) ?hy10016 ?rest10016
            case hy10016 => (intro W hW; obtain ⟨⟨f1, f2, f3, f4⟩, ⟨f5, f6, f7, f8⟩, ⟨f9, f10, f11⟩, ⟨f12, f13, f14, f15⟩, f16, f17, f18⟩ := HF.out W hW; go_simp; try with_reducible rfl)
            simp only [Act.put, List.setIfInBounds_toArray, List.set_cons_zero, List.set_cons_succ]
            refine' wpQuietIn_take (v := ?v10017) (BigFrame.askedIn_plain (fun _ h => nomatch h)) (by first | rfl | simp [Region.wanted, yielded]) ?hy10017 ?rest10017
            case hy10017 => (intro W hW; obtain ⟨⟨f1, f2, f3, f4⟩, ⟨f5, f6, f7, f8⟩, ⟨f9, f10, f11⟩, ⟨f12, f13, f14, f15⟩, f16, f17, f18⟩ := HF.out W hW; go_simp; try with_reducible rfl)
            simp only [Act.put, List.setIfInBounds_toArray, List.set_cons_zero, List.set_cons_succ]
            refine' wpQuietIn_enter (f := 9) (args := #[.string s]) (v := .agg #[.int .i64 fk, .string fN, .string fV]) ?ha10018 (by first | rfl | simp [Region.wanted, yielded]) ?hy10018 (fun h => by simp [Fence.wide] at h) (fun W hW => (CallsIn.inRound l' (callsIn_wide.2 (HRO.out W))).mono fun e W' ⟨he, hb⟩ => ⟨he, hW.trans (hb.mono hW.size)⟩) ?rest10018
            case ha10018 => first | (go_simp; done) | (simp [Oper.askedIn, Oper.about, Fence.list]; done) | (intro w _ f hf; simp [Oper.about, go_sem] at hf; done) | (intro w _ f hf; simp [Oper.about, go_sem] at hf; subst hf; trivial)
            case hy10018 => (intro W hW; obtain ⟨⟨f1, f2, f3, f4⟩, ⟨f5, f6, f7, f8⟩, ⟨f9, f10, f11⟩, ⟨f12, f13, f14, f15⟩, f16, f17, f18⟩ := HF.out W hW; go_simp; try with_reducible rfl)
            simp only [Act.put, List.setIfInBounds_toArray, List.set_cons_zero, List.set_cons_succ]
            refine' wpQuietIn_take (v := ?v10019) (BigFrame.askedIn_plain (fun _ h => nomatch h)) (by first | rfl | simp [Region.wanted, yielded]) ?hy10019 ?rest10019
            case hy10019 => (intro W hW; obtain ⟨⟨f1, f2, f3, f4⟩, ⟨f5, f6, f7, f8⟩, ⟨f9, f10, f11⟩, ⟨f12, f13, f14, f15⟩, f16, f17, f18⟩ := HF.out W hW; go_simp; try with_reducible rfl)
            simp only [Act.put, List.setIfInBounds_toArray, List.set_cons_zero, List.set_cons_succ]
            refine' wpQuietIn_take (v := ?v10020) (BigFrame.askedIn_plain (fun _ h => nomatch h)) (by first | rfl | simp [Region.wanted, yielded]) ?hy10020 ?rest10020
            case hy10020 => (intro W hW; obtain ⟨⟨f1, f2, f3, f4⟩, ⟨f5, f6, f7, f8⟩, ⟨f9, f10, f11⟩, ⟨f12, f13, f14, f15⟩, f16, f17, f18⟩ := HF.out W hW; go_simp; try with_reducible rfl)
            simp only [Act.put, List.setIfInBounds_toArray, List.set_cons_zero, List.set_cons_succ]
            refine wpQuietIn_nil ?_
            intro W hW
            obtain ⟨⟨f1, f2, f3, f4⟩, ⟨f5, f6, f7, f8⟩, ⟨f9, f10, f11⟩, ⟨f12, f13, f14, f15⟩, f16, f17, f18⟩ := HF.out W hW
            gi_wp2
            exact ⟨(Stays.below (n₀ := 0) hW).setCell (p := ⟨nb0, 0, none⟩) (by show nb0 < _; omega) _, Rxt.more (HMore.out.2 (by rw [e1, HPL.out])) (by rw [HPL.out]) HM.out (by have := HCC.out; have := HPL.out; omega) (by show (W.cell? _).isSome = true; rw [f1]; rfl) f2 (HBl.out.trans (hW.mono (by omega)))⟩
          · have dm : decide (many ≤ (pl : Int) + 1) = false := by simpa using hmy
            have HM := Lib.hid hmy
            clear hmy
            gi_wp2
            clear f1 f2 f3 f4 f5 f6 f7 f8 f9 f10 f11 f12 f13 f14 f15 f16 f17 f18
            refine wpIn_region_roundC (fun W => Below V.heap.size V W) (Below.drewN' V 1) (by kernel_rfl) (by kernel_rfl) (by kernel_rfl) ?_
            refine' wpQuietIn_take (v := ?v2000) (BigFrame.askedIn_plain (fun _ h => nomatch h)) (by first | rfl | simp [Region.wanted, yielded]) ?hy2000 ?rest2000
            case hy2000 => (intro W hW; obtain ⟨⟨f1, f2, f3, f4⟩, ⟨f5, f6, f7, f8⟩, ⟨f9, f10, f11⟩, ⟨f12, f13, f14, f15⟩, f16, f17, f18⟩ := HF.out W hW; go_simp; try with_reducible rfl)
            simp only [Act.put, List.setIfInBounds_toArray, List.set_cons_zero, List.set_cons_succ]
            refine' wpQuietIn_take (v := ?v2001) (BigFrame.askedIn_plain (fun _ h => nomatch h)) (by first | rfl | simp [Region.wanted, yielded]) ?hy2001 ?rest2001
            case hy2001 => (intro W hW; obtain ⟨⟨f1, f2, f3, f4⟩, ⟨f5, f6, f7, f8⟩, ⟨f9, f10, f11⟩, ⟨f12, f13, f14, f15⟩, f16, f17, f18⟩ := HF.out W hW; go_simp; try with_reducible rfl)
            simp only [Act.put, List.setIfInBounds_toArray, List.set_cons_zero, List.set_cons_succ]
            refine' wpQuietIn_take (v := ?v2002) ?ha2002 (by first | rfl | simp [Region.wanted, yielded]) ?hy2002 ?rest2002
            case ha2002 => first | (go_simp; done) | (simp [Oper.askedIn, Oper.about, Fence.list]; done) | (intro w _ f hf; simp [Oper.about, go_sem] at hf; done) | (intro w _ f hf; simp [Oper.about, go_sem] at hf; subst hf; trivial)
            case hy2002 => (intro W hW; obtain ⟨⟨f1, f2, f3, f4⟩, ⟨f5, f6, f7, f8⟩, ⟨f9, f10, f11⟩, ⟨f12, f13, f14, f15⟩, f16, f17, f18⟩ := HF.out W hW; go_simp; try with_reducible rfl)
            simp only [Act.put, List.setIfInBounds_toArray, List.set_cons_zero, List.set_cons_succ]
            refine' wpQuietIn_take (v := ?v2003) (BigFrame.askedIn_plain (fun _ h => nomatch h)) (by first | rfl | simp [Region.wanted, yielded]) ?hy2003 ?rest2003
            case hy2003 => (intro W hW; obtain ⟨⟨f1, f2, f3, f4⟩, ⟨f5, f6, f7, f8⟩, ⟨f9, f10, f11⟩, ⟨f12, f13, f14, f15⟩, f16, f17, f18⟩ := HF.out W hW; go_simp; try with_reducible rfl)
            simp only [Act.put, List.setIfInBounds_toArray, List.set_cons_zero, List.set_cons_succ]
            refine' wpQuietIn_take (v := ?v2004) (BigFrame.askedIn_plain (fun _ h => nomatch h)) (by first | rfl | simp [Region.wanted, yielded]) ?hy2004 ?rest2004
            case hy2004 => (intro W hW; obtain ⟨⟨f1, f2, f3, f4⟩, ⟨f5, f6, f7, f8⟩, ⟨f9, f10, f11⟩, ⟨f12, f13, f14, f15⟩, f16, f17, f18⟩ := HF.out W hW; go_simp; try with_reducible rfl)
            simp only [Act.put, List.setIfInBounds_toArray, List.set_cons_zero, List.set_cons_succ]
            refine' wpQuietIn_take (v := ?v2005) (BigFrame.askedIn_plain (fun _ h => nomatch h)) (by first | rfl | simp [Region.wanted, yielded]) ?hy2005 ?rest2005
            case hy2005 => (intro W hW; obtain ⟨⟨f1, f2, f3, f4⟩, ⟨f5, f6, f7, f8⟩, ⟨f9, f10, f11⟩, ⟨f12, f13, f14, f15⟩, f16, f17, f18⟩ := HF.out W hW; go_simp; try with_reducible rfl)
            simp only [Act.put, List.setIfInBounds_toArray, List.set_cons_zero, List.set_cons_succ]
            refine' wpQuietIn_take (v := ?v2006) (BigFrame.askedIn_plain (fun _ h => nomatch h)) (by first | rfl | simp [Region.wanted, yielded]) ?hy2006 ?rest2006
            case hy2006 => (intro W hW; obtain ⟨⟨f1, f2, f3, f4⟩, ⟨f5, f6, f7, f8⟩, ⟨f9, f10, f11⟩, ⟨f12, f13, f14, f15⟩, f16, f17, f18⟩ := HF.out W hW; go_simp; try with_reducible rfl)
            simp only [Act.put, List.setIfInBounds_toArray, List.set_cons_zero, List.set_cons_succ]
            refine' wpQuietIn_take (v := ?v2007) (BigFrame.askedIn_plain (fun _ h => nomatch h)) (by first | rfl | simp [Region.wanted, yielded]) ?hy2007 ?rest2007
            case hy2007 => (intro W hW; obtain ⟨⟨f1, f2, f3, f4⟩, ⟨f5, f6, f7, f8⟩, ⟨f9, f10, f11⟩, ⟨f12, f13, f14, f15⟩, f16, f17, f18⟩ := HF.out W hW; go_simp; try with_reducible rfl)
            simp only [Act.put, List.setIfInBounds_toArray, List.set_cons_zero, List.set_cons_succ]
            refine' wpQuietIn_take (v := ?v2008) (BigFrame.askedIn_plain (fun _ h => nomatch h)) (by first | rfl | simp [Region.wanted, yielded]) ?hy2008 ?rest2008
            case hy2008 => (intro W hW; obtain ⟨⟨f1, f2, f3, f4⟩, ⟨f5, f6, f7, f8⟩, ⟨f9, f10, f11⟩, ⟨f12, f13, f14, f15⟩, f16, f17, f18⟩ := HF.out W hW; go_simp; try with_reducible rfl)
            simp only [Act.put, List.setIfInBounds_toArray, List.set_cons_zero, List.set_cons_succ]
            refine' wpQuietIn_take (v := ?v2009) (BigFrame.askedIn_plain (fun _ h => nomatch h)) (by first | rfl | simp [Region.wanted, yielded]) ?hy2009 ?rest2009
            case hy2009 => (intro W hW; obtain ⟨⟨f1, f2, f3, f4⟩, ⟨f5, f6, f7, f8⟩, ⟨f9, f10, f11⟩, ⟨f12, f13, f14, f15⟩, f16, f17, f18⟩ := HF.out W hW; go_simp; try with_reducible rfl)
            simp only [Act.put, List.setIfInBounds_toArray, List.set_cons_zero, List.set_cons_succ]
            refine' wpQuietIn_take (v := ?v20010) (BigFrame.askedIn_plain (fun _ h => nomatch h)) (by first | rfl | simp [Region.wanted, yielded]) ?hy20010 ?rest20010
            case hy20010 => (intro W hW; obtain ⟨⟨f1, f2, f3, f4⟩, ⟨f5, f6, f7, f8⟩, ⟨f9, f10, f11⟩, ⟨f12, f13, f14, f15⟩, f16, f17, f18⟩ := HF.out W hW; go_simp; try with_reducible rfl)
            simp only [Act.put, List.setIfInBounds_toArray, List.set_cons_zero, List.set_cons_succ]
            refine' wpQuietIn_take (v := ?v20011) (BigFrame.askedIn_plain (fun _ h => nomatch h)) (by first | rfl | simp [Region.wanted, yielded]) ?hy20011 ?rest20011
            case hy20011 => (intro W hW; obtain ⟨⟨f1, f2, f3, f4⟩, ⟨f5, f6, f7, f8⟩, ⟨f9, f10, f11⟩, ⟨f12, f13, f14, f15⟩, f16, f17, f18⟩ := HF.out W hW; go_simp; try with_reducible rfl)
            simp only [Act.put, List.setIfInBounds_toArray, List.set_cons_zero, List.set_cons_succ]
            refine' wpQuietIn_take (v := ?v20012) (BigFrame.askedIn_plain (fun _ h => nomatch h)) (by first | rfl | simp [Region.wanted, yielded]) ?hy20012 ?rest20012
            case hy20012 => (intro W hW; obtain ⟨⟨f1, f2, f3, f4⟩, ⟨f5, f6, f7, f8⟩, ⟨f9, f10, f11⟩, ⟨f12, f13, f14, f15⟩, f16, f17, f18⟩ := HF.out W hW; go_simp; try with_reducible rfl)
            simp only [Act.put, List.setIfInBounds_toArray, List.set_cons_zero, List.set_cons_succ]
            refine' wpQuietIn_take (v := ?v20013) (BigFrame.askedIn_plain (fun _ h => nomatch h)) (by first | rfl | simp [Region.wanted, yielded]) ?hy20013 ?rest20013
            case hy20013 => (intro W hW; obtain ⟨⟨f1, f2, f3, f4⟩, ⟨f5, f6, f7, f8⟩, ⟨f9, f10, f11⟩, ⟨f12, f13, f14, f15⟩, f16, f17, f18⟩ := HF.out W hW; go_simp; try with_reducible rfl)
            simp only [Act.put, List.setIfInBounds_toArray, List.set_cons_zero, List.set_cons_succ]
            refine' wpQuietIn_take (v := ?v20014) (BigFrame.askedIn_plain (fun _ h => nomatch h)) (by first | rfl | simp [Region.wanted, yielded]) ?hy20014 ?rest20014
            case hy20014 => (intro W hW; obtain ⟨⟨f1, f2, f3, f4⟩, ⟨f5, f6, f7, f8⟩, ⟨f9, f10, f11⟩, ⟨f12, f13, f14, f15⟩, f16, f17, f18⟩ := HF.out W hW; go_simp; try with_reducible rfl)
            simp only [Act.put, List.setIfInBounds_toArray, List.set_cons_zero, List.set_cons_succ]
            refine' wpQuietIn_take (v := ?v20015) (BigFrame.askedIn_plain (fun _ h => nomatch h)) (by first | rfl | simp [Region.wanted, yielded]) ?hy20015 ?rest20015
            case hy20015 => (intro W hW; obtain ⟨⟨f1, f2, f3, f4⟩, ⟨f5, f6, f7, f8⟩, ⟨f9, f10, f11⟩, ⟨f12, f13, f14, f15⟩, f16, f17, f18⟩ := HF.out W hW; go_simp; try with_reducible rfl)
            simp only [Act.put, List.setIfInBounds_toArray, List.set_cons_zero, List.set_cons_succ]
            refine' wpQuietIn_take (v := ?v20016) (BigFrame.askedIn_plain (fun _ h => nomatch h)) (by first | rfl | simp [Region.wanted, yielded]) ?hy20016 ?rest20016
            case hy20016 => (intro W hW; obtain ⟨⟨f1, f2, f3, f4⟩, ⟨f5, f6, f7, f8⟩, ⟨f9, f10, f11⟩, ⟨f12, f13, f14, f15⟩, f16, f17, f18⟩ := HF.out W hW; go_simp; try with_reducible rfl)
            simp only [Act.put, List.setIfInBounds_toArray, List.set_cons_zero, List.set_cons_succ]
            refine' wpQuietIn_take (v := ?v20017) (BigFrame.askedIn_plain (fun _ h => nomatch h)) (by first | rfl | simp [Region.wanted, yielded]) ?hy20017 ?rest20017
            case hy20017 => (intro W hW; obtain ⟨⟨f1, f2, f3, f4⟩, ⟨f5, f6, f7, f8⟩, ⟨f9, f10, f11⟩, ⟨f12, f13, f14, f15⟩, f16, f17, f18⟩ := HF.out W hW; go_simp; try with_reducible rfl)
            simp only [Act.put, List.setIfInBounds_toArray, List.set_cons_zero, List.set_cons_succ]
            refine' wpQuietIn_enter (f := 9) (args := #[.string s]) (v := .agg #[.int .i64 fk, .string fN, .string fV]) ?ha20018 (by first | rfl | simp [Region.wanted, yielded]) ?hy20018 (fun h => by simp [Fence.wide] at h) (fun W hW => (CallsIn.inRound l' (callsIn_wide.2 (HRO.out W))).mono fun e W' ⟨he, hb⟩ => ⟨he, hW.trans (hb.mono hW.size)⟩) ?rest20018
            case ha20018 => first | (go_simp; done) | (simp [Oper.askedIn, Oper.about, Fence.list]; done) | (intro w _ f hf; simp [Oper.about, go_sem] at hf; done) | (intro w _ f hf; simp [Oper.about, go_sem] at hf; subst hf; trivial)
            case hy20018 => (intro W hW; obtain ⟨⟨f1, f2, f3, f4⟩, ⟨f5, f6, f7, f8⟩, ⟨f9, f10, f11⟩, ⟨f12, f13, f14, f15⟩, f16, f17, f18⟩ := HF.out W hW; go_simp; try with_reducible rfl)
            simp only [Act.put, List.setIfInBounds_toArray, List.set_cons_zero, List.set_cons_succ]
            refine' wpQuietIn_take (v := ?v20019) (BigFrame.askedIn_plain (fun _ h => nomatch h)) (by first | rfl | simp [Region.wanted, yielded]) ?hy20019 ?rest20019
            case hy20019 => (intro W hW; obtain ⟨⟨f1, f2, f3, f4⟩, ⟨f5, f6, f7, f8⟩, ⟨f9, f10, f11⟩, ⟨f12, f13, f14, f15⟩, f16, f17, f18⟩ := HF.out W hW; go_simp; try with_reducible rfl)
            simp only [Act.put, List.setIfInBounds_toArray, List.set_cons_zero, List.set_cons_succ]
            refine' wpQuietIn_take (v := ?v20020) (BigFrame.askedIn_plain (fun _ h => nomatch h)) (by first | rfl | simp [Region.wanted, yielded]) ?hy20020 ?rest20020
            case hy20020 => (intro W hW; obtain ⟨⟨f1, f2, f3, f4⟩, ⟨f5, f6, f7, f8⟩, ⟨f9, f10, f11⟩, ⟨f12, f13, f14, f15⟩, f16, f17, f18⟩ := HF.out W hW; go_simp; try with_reducible rfl)
            simp only [Act.put, List.setIfInBounds_toArray, List.set_cons_zero, List.set_cons_succ]
            refine wpQuietIn_nil ?_
            intro W hW
            obtain ⟨⟨f1, f2, f3, f4⟩, ⟨f5, f6, f7, f8⟩, ⟨f9, f10, f11⟩, ⟨f12, f13, f14, f15⟩, f16, f17, f18⟩ := HF.out W hW
            gi_wp2
            exact ⟨(Stays.below (n₀ := 0) hW).setCell (p := ⟨nb0, 0, none⟩) (by show nb0 < _; omega) _, (show Below nb0 V W from hW.mono (by omega)).setCell (p := ⟨nb0, 0, none⟩) (Nat.le_refl _) _, Rnd.more (HMore.out.2 (by rw [e1, HPL.out])) (by rw [HPL.out]) (by have := HM.out; omega) (by show (W.cell? _).isSome = true; rw [f1]; rfl) f2 (HBl.out.trans (hW.mono (by omega)))⟩
      case rest0 =>
        rintro D0 W0 ⟨hD, hKd, ⟨kc0, hcnt, hcc⟩, hB⟩
        have hDw0 : w.heap.size ≤ D0 := by have := EN0.out.below.size; omega
        have hE := EN0.out.bel hB (by omega)
        have EW0 := Lib.hid hE
        have hl1 := hE.l1
        have hl4 := hE.l4
        have nl : nb0 < W0.heap.size := by have := hB.size; omega
        have c0 := cell_blk hE.b1 0 _ rfl
        have l0 := blk_lt hE.b1
        have c5 := cell_blk hE.b5 0 _ rfl
        have l5 := blk_lt hE.b5
        have kt := (hB.block tb0 htn0).trans TN0.out
        have ct := cell_blk kt 0 _ rfl
        have lt := blk_lt kt
        have DW0 := Lib.hid hKd
        have hDl := blk_lt hKd
        obtain ⟨M, hM⟩ : ∃ M : Int, (if 1 < many then many else 1) = M := ⟨_, rfl⟩
        obtain ⟨R, hR⟩ : ∃ R : Int, (if M < (N : Int) then M else (N : Int)) = R := ⟨_, rfl⟩
        have hcr : (kc0 : Int) = R := by rw [← hR, ← hM]; omega
        have d1 : ((kc0 : Int) != R) = false := by simp [hcr]
        clear hcr
        clear hKd hB hE kt hcnt EN0 TN0 NC0 NF0
        go_upto_region 27 with fail
        obtain ⟨tb1, htb⟩ : ∃ B, B = W0.heap.size := ⟨_, rfl⟩
        obtain ⟨wx0, hwx⟩ : ∃ W, W = W0.alloc (.cells #[.int .i64 0] 3) := ⟨_, rfl⟩
        have hbx : Below W0.heap.size W0 wx0 := by rw [hwx]; exact (Below.refl _ W0).alloc (Nat.le_refl _) _
        have hkx : wx0.heap[tb1]? = some (.cells #[.int .i64 0] 3 (0, 0)) := by rw [hwx, htb]; exact alloc_blk_new _ _
        obtain ⟨wa1, hwy⟩ : ∃ W, W = wx0.setCell ⟨tb1, 0, none⟩ (.int .i64 1) := ⟨_, rfl⟩
        have hbt : Below tb1 W0 wx0 := by rw [htb]; exact hbx
        have hby : Below tb1 W0 wa1 := by rw [hwy]; exact hbt.setCell (p := ⟨tb1, 0, none⟩) (Nat.le_refl _) _
        have hky : wa1.heap[tb1]? = some (.cells #[.int .i64 1] 3 (0, 0)) := by rw [hwy]; exact setCell_blk hkx 0 _
        have htl1 : lim ≤ tb1 := by omega
        have EV1 := Lib.hid (EW0.out.bel hby htl1)
        have TK1 := Lib.hid hky
        have DK0 := Lib.hid ((hby.block D0 (by omega)).trans DW0.out)
        have hcx := cell_blk hkx 0 (.int .i64 0) rfl
        have hfx := frozen_blk hkx 0
        have hlx := blk_lt hkx
        have EX := Lib.hid hwx
        have EY := Lib.hid hwy
        have ETB := Lib.hid htb
        clear hbx hkx hwx hwy hbt hby hky htb hDl
        go_upto_region 16 with fail
        rw [← ETB.out, ← EX.out]
        go_wp2_with fail
        rw [← EY.out]
        clear hcx hfx hlx EX EY ETB EW0 DW0 c0 l0 c5 l5 ct lt hcc nl d1 hl1 hl4
        rw [rounds_succ]
        have htc := cell_blk TK1.out 0 (.int .i64 1) rfl
        have htf := frozen_blk TK1.out 0
        have htl := blk_lt TK1.out
        go_upto_block 4 with fail
        clear htc htf htl
        obtain ⟨nb1, hnb⟩ : ∃ B, B = wa1.heap.size := ⟨_, rfl⟩
        obtain ⟨wn1, hwn⟩ : ∃ W, W = wa1.alloc (.cells #[.int .i64 0] 3) := ⟨_, rfl⟩
        have hbN : Below wa1.heap.size wa1 wn1 := by rw [hwn]; exact (Below.refl _ wa1).alloc (Nat.le_refl _) _
        have hkN : wn1.heap[nb1]? = some (.cells #[.int .i64 0] 3 (0, 0)) := by rw [hwn, hnb]; exact alloc_blk_new _ _
        rw [← hnb, ← hwn]
        have hnl1 : nb1 < wn1.heap.size := blk_lt hkN
        have htn1 : tb1 < nb1 := by rw [hnb]; exact blk_lt TK1.out
        have TN1 := Lib.hid ((hbN.block tb1 (blk_lt TK1.out)).trans TK1.out)
        have EN1 := Lib.hid (EV1.out.bel hbN EV1.out.l4)
        have NC1 := Lib.hid (cell_blk hkN 0 (.int .i64 0) rfl)
        have NF1 := Lib.hid (frozen_blk hkN 0)
        have DN0 := Lib.hid ((hbN.block D0 (blk_lt DK0.out)).trans DK0.out)
        have hD0n : D0 < nb1 := by rw [hnb]; exact blk_lt DK0.out
        clear hnb hwn hbN hkN TK1 EV1
        refine range_cut (fun D W => wn1.heap.size ≤ D ∧ W.heap[D]? = some (.deferred (some [])) ∧ (∃ c : Nat, (c : Int) = min (N : Int) (max 1 ((N : Int) + 2)) ∧ W.cell? ⟨nb1, 0, none⟩ = some (.int .i64 c)) ∧ Below nb1 wn1 W) ?first1 ?rest1
        case first1 =>
          go_wp2_with fail
          refine (wpIn_wide (n := 9)).1 ?_
          have hl1 := EN1.out.l1
          have hl3 := EN1.out.l3
          refine' wpIn_range_deepA (F := Fence.wide) rfl (by omega) (gf := 32) (lb := #[.pointer (some ⟨Eb, 0, none⟩)]) rfl trivial (enters_of Try.func32 (by kernel_rfl) rfl) (n₀ := nb1) (by omega)
            (Each32_deep 8 (by omega) Eb nb1 ea i ec L (by omega) HSZ.out wn1 (by omega) (by omega) (cell_blk EN1.out.be 0 _ rfl) (fun hp => by obtain ⟨g, off, e, hl, hc⟩ := EN1.out.le hp; exact ⟨g, off, e, by omega, hc⟩)) (fun _ => rfl)
            (Rnd (List.finRange (cnts L i).length) ((N : Int) + 2) nb1 wn1) (Rxt (List.finRange (cnts L i).length) ((N : Int) + 2) nb1 wn1 4) (Rnd.ahead (by omega)) (Rxt.ahead (by omega)) (Rnd.start NC1.out NF1.out) (fun x => .cells #[.int .i64 (sayF L (cAt L i x.val)).k, .string (strOfNums (sayF L (cAt L i x.val)).n), .string (strOfNums (sayF L (cAt L i x.val)).v)] 25) _ ?assign ?body ?done ?stop
          case assign =>
            intro l' x W X K hX hK
            unfold cEnc
            dsimp only
            gi_wp2
            rw [← hX]
            exact hK _ rfl
          case done =>
            rintro D ys W hD rfl hI hKd
            obtain ⟨hcc, hB⟩ := hI.whole
            rw [List.length_finRange, ← HNN.out] at hcc
            exact ⟨rfl, D, rfl, hD, hKd, hcc, hB⟩
          case stop =>
            rintro D c pre W hD hSp hIx hKd
            obtain ⟨rfl, hcc, hB⟩ := hIx.part hSp
            rw [List.length_finRange, ← HNN.out] at hcc
            refine wpIn_exit ?_
            exact ⟨rfl, D, rfl, hD, hKd, hcc, hB⟩
          case body =>
            rintro l' pre xx V X hX hXb ⟨⟨hp, hC⟩, ⟨hcn, hfn⟩, hB⟩ hlt
            have FW := EN1.out.bel hB (by omega)
            have hl4 := FW.l4
            have hVl : nb1 < V.heap.size := by have := hB.size; omega
            have kt := (hB.block tb1 (by omega)).trans TN1.out
            have hmore := fin_more (cnts L i).length pre xx hp
            obtain ⟨pl, hpl⟩ : ∃ pl, pl = pre.length := ⟨_, rfl⟩
            rw [← hpl] at hcn hmore hlt hC
            have hltN : pl < N := by rw [HNN.out]; exact hlt
            obtain ⟨b, rfl, hbl, hbc⟩ := FW.ll (by omega)
            have g0 := hbc pl hltN
            have hcl := cAt_lt L i hlt
            obtain ⟨ta, off, rfl, htl, htc⟩ := FW.lt (by omega)
            have g1 := htc _ hcl
            obtain ⟨xi, hxi⟩ : ∃ xi, xi = xx.val := ⟨_, rfl⟩
            rw [← hxi] at hmore hXb
            have hxl : xi < (cnts L i).length := by rw [hxi]; exact xx.isLt
            have hinj : xi ≠ pl → cAt L i xi ≠ cAt L i pl := cAt_inj L i hxl hlt
            have hsame : xi = pl → cAt L i xi = cAt L i pl := fun e => by rw [e]
            obtain ⟨cx, hcx⟩ : ∃ z, z = cAt L i xi := ⟨_, rfl⟩
            obtain ⟨ci, hci⟩ : ∃ z, z = cAt L i pl := ⟨_, rfl⟩
            rw [← hcx] at hXb hinj hsame
            rw [← hci] at g0 g1 hcl hinj hsame
            obtain ⟨fk, hfk⟩ : ∃ s, s = (sayF L cx).k := ⟨_, rfl⟩
            obtain ⟨fN, hfN⟩ : ∃ s, s = strOfNums (sayF L cx).n := ⟨_, rfl⟩
            obtain ⟨fV, hfV⟩ : ∃ s, s = strOfNums (sayF L cx).v := ⟨_, rfl⟩
            rw [← hfk, ← hfN, ← hfV] at hXb
            obtain ⟨s, hs⟩ : ∃ s, s = ssAt L ci := ⟨_, rfl⟩
            rw [← hs] at g1
            have HRO0 : Hid (cx = ci → ∀ W, Calls Try.prog 9 #[.string s] W fun e w' => e = .returned (.agg #[.int .i64 fk, .string fN, .string fV]) ∧ Below W.heap.size W w') := Lib.hid fun ecx W => by
              have hss := HSZ.out ci
              have := refOf9 (nums s) (nums_byt s) (by rw [nums_len, hs]; omega) W
              rw [str_nums] at this
              have e : fdV (ofF (nums s)) = .agg #[.int .i64 fk, .string fN, .string fV] := by rw [hfk, hfN, hfV, hs, ecx]; rfl
              rw [e] at this
              exact this
            have HFX : Hid (∀ W, Below V.heap.size V W → (W.cell? ⟨nb1, 0, none⟩ = some (.int .i64 pl) ∧ W.frozen? ⟨nb1, 0, none⟩ = false ∧ W.cell? ⟨w.heap.size + 3, 0, none⟩ = some (.slice (some ⟨b, 0, none⟩) N c) ∧ W.cell? ⟨b, pl, none⟩ = some (.int .i64 ci)) ∧ (W.cell? ⟨X, 0, none⟩ = some (.int .i64 fk) ∧ W.cell? ⟨X, 1, none⟩ = some (.string fN) ∧ W.cell? ⟨X, 2, none⟩ = some (.string fV) ∧ W.cell? ⟨tb1, 0, none⟩ = some (.int .i64 1)) ∧ (W.cell? ⟨w.heap.size, 0, none⟩ = some (.slice (some ⟨ta, off, none⟩) i cap) ∧ W.cell? ⟨ta, off + ci, none⟩ = some (.string s) ∧ W.cell? ⟨w.heap.size + 1, 0, none⟩ = some (.int .i64 many)) ∧ (nb1 < W.heap.size ∧ w.heap.size + 3 < W.heap.size ∧ b < W.heap.size ∧ X < W.heap.size) ∧ ta < W.heap.size ∧ tb1 < W.heap.size ∧ w.heap.size + 1 < W.heap.size) := Lib.hid fun W hW => by
              have k := fun (q : Nat) (hq : q < V.heap.size) => hW.block q hq
              have xl := blk_lt hXb
              have hz := hW.size
              have hbz := FW.below.size
              have x := (k _ xl).trans hXb
              exact ⟨⟨(hW.cell (p := ⟨nb1, 0, none⟩) hVl).trans hcn, (hW.frozen (p := ⟨nb1, 0, none⟩) hVl).trans hfn, cell_blk ((k _ (by omega)).trans FW.b5) 0 _ rfl, (hW.cell (p := ⟨b, pl, none⟩) (by show b < _; omega)).trans g0⟩, ⟨cell_blk x 0 _ rfl, cell_blk x 1 _ rfl, cell_blk x 2 _ rfl, cell_blk ((k _ (by omega)).trans kt) 0 _ rfl⟩, ⟨cell_blk ((k _ (by omega)).trans FW.b0) 0 _ rfl, (hW.cell (p := ⟨ta, off + ci, none⟩) (by show ta < _; omega)).trans g1, cell_blk ((k _ (by omega)).trans FW.b1) 0 _ rfl⟩, ⟨by omega, by omega, by omega, by omega⟩, by omega, by omega, by omega⟩
            have hcr := cell_blk FW.b2 0 _ rfl
            have hfr := frozen_blk FW.b2 0
            have HMore := Lib.hid hmore
            have HBl := Lib.hid hB
            have HPL := Lib.hid hpl
            have HCC := Lib.hid hC
            have hgt : decide ((N : Int) ≤ pl) = false := by simp; omega
            have hgt2 : decide (N ≤ pl) = false := by simp; omega
            have hlt2 : (pl : Int) < N := by omega
            have hN20 : N ≤ 20 := by rw [HNN.out]; exact Nat.le_trans (cnts_len L i) hn20
            have hpl3 : pl ≤ 1000 := by omega
            have hci2 : (ci : Int) < i := by omega
            have hwV : w.heap.size + 2 < V.heap.size := by omega
            have hwn : w.heap.size + 2 < wn1.heap.size := by omega
            have hwl2 : w.heap.size + 2 < nb1 := by omega
            simp only [← hxi]
            simp only [← hcx]
            simp only [← hfk, ← hfN, ← hfV]
            have HCX := Lib.hid hsame
            clear hmore hp hB hbc htc hpl hC hxi hcx hci hfk hfN hfV hs hsame FW hXb kt hcn hfn g0 g1 hxl hlt
            by_cases e1 : xi = pl
            case neg =>
              have hne := hinj e1
              have d1 : ((cx : Int) != (ci : Int)) = true := by simp; omega
              have d2 : (cx != ci) = true := by simpa using hne
              obtain ⟨⟨f1, f2, f3, f4⟩, ⟨f5, f6, f7, f8⟩, ⟨f9, f10, f11⟩, ⟨f12, f13, f14, f15⟩, f16, f17, f18⟩ := HFX.out V (Below.refl _ _)
              clear hinj hne
              gi_wp2
              refine wpIn_region_round (by kernel_rfl) (by kernel_rfl) (by kernel_rfl) ?_
              repeat (gi_big_quiet_step (fail))
              refine wpQuietIn_pass (by intro w _ f hf; simp [Oper.about, go_sem] at hf; subst hf; trivial) (by first | rfl | simp [Region.wanted, yielded]) ?_
              simp only [Act.put, List.setIfInBounds_toArray, List.set_cons_zero, List.set_cons_succ]
              repeat (gi_big_quiet_step (fail))
              refine wpQuietIn_nil ?_
              intro _ hw'
              obtain ⟨nq, hw''⟩ := hw'
              subst hw''
              gi_wp2
              exact ⟨(Stays.below (n₀ := 0) (Below.drewN' V nq)).setCell (p := ⟨w.heap.size + 2, 0, none⟩) (by show w.heap.size + 2 < _; omega) _, .inl ⟨rfl, fun h => e1 (HMore.out.1 h)⟩⟩
            obtain rfl := HCX.out e1
            clear hinj HCX
            have HRO := Lib.hid (HRO0.out rfl)
            clear HRO0
            have hvv : fdNe fk fN fV fk fN fV = false := by simp [fdNe]
            have d0 : ((cx : Int) != (cx : Int)) = false := by simp
            have d00 : (cx != cx) = false := by simp
            have HF := HFX
            obtain ⟨⟨f1, f2, f3, f4⟩, ⟨f5, f6, f7, f8⟩, ⟨f9, f10, f11⟩, ⟨f12, f13, f14, f15⟩, f16, f17, f18⟩ := HFX.out V (Below.refl _ _)
            clear HFX
            gi_wp2
            clear f1 f2 f3 f4 f5 f6 f7 f8 f9 f10 f11 f12 f13 f14 f15 f16 f17 f18
            refine wpIn_region_roundC (fun W => Below V.heap.size V W) (Below.drewN' V 1) (by kernel_rfl) (by kernel_rfl) (by kernel_rfl) ?_
            refine' wpQuietIn_take (v := ?v3000) (BigFrame.askedIn_plain (fun _ h => nomatch h)) (by first | rfl | simp [Region.wanted, yielded]) ?hy3000 ?rest3000
            case hy3000 => (intro W hW; obtain ⟨⟨f1, f2, f3, f4⟩, ⟨f5, f6, f7, f8⟩, ⟨f9, f10, f11⟩, ⟨f12, f13, f14, f15⟩, f16, f17, f18⟩ := HF.out W hW; go_simp; try with_reducible rfl)
            simp only [Act.put, List.setIfInBounds_toArray, List.set_cons_zero, List.set_cons_succ]
            refine' wpQuietIn_take (v := ?v3001) (BigFrame.askedIn_plain (fun _ h => nomatch h)) (by first | rfl | simp [Region.wanted, yielded]) ?hy3001 ?rest3001
            case hy3001 => (intro W hW; obtain ⟨⟨f1, f2, f3, f4⟩, ⟨f5, f6, f7, f8⟩, ⟨f9, f10, f11⟩, ⟨f12, f13, f14, f15⟩, f16, f17, f18⟩ := HF.out W hW; go_simp; try with_reducible rfl)
            simp only [Act.put, List.setIfInBounds_toArray, List.set_cons_zero, List.set_cons_succ]
            refine' wpQuietIn_take (v := ?v3002) ?ha3002 (by first | rfl | simp [Region.wanted, yielded]) ?hy3002 ?rest3002
            case ha3002 => first | (go_simp; done) | (simp [Oper.askedIn, Oper.about, Fence.list]; done) | (intro w _ f hf; simp [Oper.about, go_sem] at hf; done) | (intro w _ f hf; simp [Oper.about, go_sem] at hf; subst hf; trivial)
            case hy3002 => (intro W hW; obtain ⟨⟨f1, f2, f3, f4⟩, ⟨f5, f6, f7, f8⟩, ⟨f9, f10, f11⟩, ⟨f12, f13, f14, f15⟩, f16, f17, f18⟩ := HF.out W hW; go_simp; try with_reducible rfl)
            simp only [Act.put, List.setIfInBounds_toArray, List.set_cons_zero, List.set_cons_succ]
            refine' wpQuietIn_take (v := ?v3003) (BigFrame.askedIn_plain (fun _ h => nomatch h)) (by first | rfl | simp [Region.wanted, yielded]) ?hy3003 ?rest3003
            case hy3003 => (intro W hW; obtain ⟨⟨f1, f2, f3, f4⟩, ⟨f5, f6, f7, f8⟩, ⟨f9, f10, f11⟩, ⟨f12, f13, f14, f15⟩, f16, f17, f18⟩ := HF.out W hW; go_simp; try with_reducible rfl)
            simp only [Act.put, List.setIfInBounds_toArray, List.set_cons_zero, List.set_cons_succ]
            refine' wpQuietIn_take (v := ?v3004) (BigFrame.askedIn_plain (fun _ h => nomatch h)) (by first | rfl | simp [Region.wanted, yielded]) ?hy3004 ?rest3004
            case hy3004 => (intro W hW; obtain ⟨⟨f1, f2, f3, f4⟩, ⟨f5, f6, f7, f8⟩, ⟨f9, f10, f11⟩, ⟨f12, f13, f14, f15⟩, f16, f17, f18⟩ := HF.out W hW; go_simp; try with_reducible rfl)
            simp only [Act.put, List.setIfInBounds_toArray, List.set_cons_zero, List.set_cons_succ]
            refine' wpQuietIn_take (v := ?v3005) (BigFrame.askedIn_plain (fun _ h => nomatch h)) (by first | rfl | simp [Region.wanted, yielded]) ?hy3005 ?rest3005
            case hy3005 => (intro W hW; obtain ⟨⟨f1, f2, f3, f4⟩, ⟨f5, f6, f7, f8⟩, ⟨f9, f10, f11⟩, ⟨f12, f13, f14, f15⟩, f16, f17, f18⟩ := HF.out W hW; go_simp; try with_reducible rfl)
            simp only [Act.put, List.setIfInBounds_toArray, List.set_cons_zero, List.set_cons_succ]
            refine' wpQuietIn_take (v := ?v3006) (BigFrame.askedIn_plain (fun _ h => nomatch h)) (by first | rfl | simp [Region.wanted, yielded]) ?hy3006 ?rest3006
            case hy3006 => (intro W hW; obtain ⟨⟨f1, f2, f3, f4⟩, ⟨f5, f6, f7, f8⟩, ⟨f9, f10, f11⟩, ⟨f12, f13, f14, f15⟩, f16, f17, f18⟩ := HF.out W hW; go_simp; try with_reducible rfl)
            simp only [Act.put, List.setIfInBounds_toArray, List.set_cons_zero, List.set_cons_succ]
            refine' wpQuietIn_take (v := ?v3007) (BigFrame.askedIn_plain (fun _ h => nomatch h)) (by first | rfl | simp [Region.wanted, yielded]) ?hy3007 ?rest3007
            case hy3007 => (intro W hW; obtain ⟨⟨f1, f2, f3, f4⟩, ⟨f5, f6, f7, f8⟩, ⟨f9, f10, f11⟩, ⟨f12, f13, f14, f15⟩, f16, f17, f18⟩ := HF.out W hW; go_simp; try with_reducible rfl)
            simp only [Act.put, List.setIfInBounds_toArray, List.set_cons_zero, List.set_cons_succ]
            refine' wpQuietIn_take (v := ?v3008) (BigFrame.askedIn_plain (fun _ h => nomatch h)) (by first | rfl | simp [Region.wanted, yielded]) ?hy3008 ?rest3008
            case hy3008 => (intro W hW; obtain ⟨⟨f1, f2, f3, f4⟩, ⟨f5, f6, f7, f8⟩, ⟨f9, f10, f11⟩, ⟨f12, f13, f14, f15⟩, f16, f17, f18⟩ := HF.out W hW; go_simp; try with_reducible rfl)
            simp only [Act.put, List.setIfInBounds_toArray, List.set_cons_zero, List.set_cons_succ]
            refine' wpQuietIn_take (v := ?v3009) (BigFrame.askedIn_plain (fun _ h => nomatch h)) (by first | rfl | simp [Region.wanted, yielded]) ?hy3009 ?rest3009
            case hy3009 => (intro W hW; obtain ⟨⟨f1, f2, f3, f4⟩, ⟨f5, f6, f7, f8⟩, ⟨f9, f10, f11⟩, ⟨f12, f13, f14, f15⟩, f16, f17, f18⟩ := HF.out W hW; go_simp; try with_reducible rfl)
            simp only [Act.put, List.setIfInBounds_toArray, List.set_cons_zero, List.set_cons_succ]
            refine' wpQuietIn_take (v := ?v30010) (BigFrame.askedIn_plain (fun _ h => nomatch h)) (by first | rfl | simp [Region.wanted, yielded]) ?hy30010 ?rest30010
            case hy30010 => (intro W hW; obtain ⟨⟨f1, f2, f3, f4⟩, ⟨f5, f6, f7, f8⟩, ⟨f9, f10, f11⟩, ⟨f12, f13, f14, f15⟩, f16, f17, f18⟩ := HF.out W hW; go_simp; try with_reducible rfl)
            simp only [Act.put, List.setIfInBounds_toArray, List.set_cons_zero, List.set_cons_succ]
            refine' wpQuietIn_take (v := ?v30011) (BigFrame.askedIn_plain (fun _ h => nomatch h)) (by first | rfl | simp [Region.wanted, yielded]) ?hy30011 ?rest30011
            case hy30011 => (intro W hW; obtain ⟨⟨f1, f2, f3, f4⟩, ⟨f5, f6, f7, f8⟩, ⟨f9, f10, f11⟩, ⟨f12, f13, f14, f15⟩, f16, f17, f18⟩ := HF.out W hW; go_simp; try with_reducible rfl)
            simp only [Act.put, List.setIfInBounds_toArray, List.set_cons_zero, List.set_cons_succ]
            refine' wpQuietIn_take (v := ?v30012) (BigFrame.askedIn_plain (fun _ h => nomatch h)) (by first | rfl | simp [Region.wanted, yielded]) ?hy30012 ?rest30012
            case hy30012 => (intro W hW; obtain ⟨⟨f1, f2, f3, f4⟩, ⟨f5, f6, f7, f8⟩, ⟨f9, f10, f11⟩, ⟨f12, f13, f14, f15⟩, f16, f17, f18⟩ := HF.out W hW; go_simp; try with_reducible rfl)
            simp only [Act.put, List.setIfInBounds_toArray, List.set_cons_zero, List.set_cons_succ]
            refine' wpQuietIn_take (v := ?v30013) (BigFrame.askedIn_plain (fun _ h => nomatch h)) (by first | rfl | simp [Region.wanted, yielded]) ?hy30013 ?rest30013
            case hy30013 => (intro W hW; obtain ⟨⟨f1, f2, f3, f4⟩, ⟨f5, f6, f7, f8⟩, ⟨f9, f10, f11⟩, ⟨f12, f13, f14, f15⟩, f16, f17, f18⟩ := HF.out W hW; go_simp; try with_reducible rfl)
            simp only [Act.put, List.setIfInBounds_toArray, List.set_cons_zero, List.set_cons_succ]
            refine' wpQuietIn_take (v := ?v30014) (BigFrame.askedIn_plain (fun _ h => nomatch h)) (by first | rfl | simp [Region.wanted, yielded]) ?hy30014 ?rest30014
            case hy30014 => (intro W hW; obtain ⟨⟨f1, f2, f3, f4⟩, ⟨f5, f6, f7, f8⟩, ⟨f9, f10, f11⟩, ⟨f12, f13, f14, f15⟩, f16, f17, f18⟩ := HF.out W hW; go_simp; try with_reducible rfl)
            simp only [Act.put, List.setIfInBounds_toArray, List.set_cons_zero, List.set_cons_succ]
            refine' wpQuietIn_take (v := ?v30015) (BigFrame.askedIn_plain (fun _ h => nomatch h)) (by first | rfl | simp [Region.wanted, yielded]) ?hy30015 ?rest30015
            case hy30015 => (intro W hW; obtain ⟨⟨f1, f2, f3, f4⟩, ⟨f5, f6, f7, f8⟩, ⟨f9, f10, f11⟩, ⟨f12, f13, f14, f15⟩, f16, f17, f18⟩ := HF.out W hW; go_simp; try with_reducible rfl)
            simp only [Act.put, List.setIfInBounds_toArray, List.set_cons_zero, List.set_cons_succ]
            refine' wpQuietIn_take (v := ?v30016) (BigFrame.askedIn_plain (fun _ h => nomatch h)) (by first | rfl | simp [Region.wanted, yielded]) ?hy30016 ?rest30016
            case hy30016 => (intro W hW; obtain ⟨⟨f1, f2, f3, f4⟩, ⟨f5, f6, f7, f8⟩, ⟨f9, f10, f11⟩, ⟨f12, f13, f14, f15⟩, f16, f17, f18⟩ := HF.out W hW; go_simp; try with_reducible rfl)
            simp only [Act.put, List.setIfInBounds_toArray, List.set_cons_zero, List.set_cons_succ]
            refine' wpQuietIn_take (v := ?v30017) (BigFrame.askedIn_plain (fun _ h => nomatch h)) (by first | rfl | simp [Region.wanted, yielded]) ?hy30017 ?rest30017
            case hy30017 => (intro W hW; obtain ⟨⟨f1, f2, f3, f4⟩, ⟨f5, f6, f7, f8⟩, ⟨f9, f10, f11⟩, ⟨f12, f13, f14, f15⟩, f16, f17, f18⟩ := HF.out W hW; go_simp; try with_reducible rfl)
            simp only [Act.put, List.setIfInBounds_toArray, List.set_cons_zero, List.set_cons_succ]
            refine' wpQuietIn_enter (f := 9) (args := #[.string s]) (v := .agg #[.int .i64 fk, .string fN, .string fV]) ?ha30018 (by first | rfl | simp [Region.wanted, yielded]) ?hy30018 (fun h => by simp [Fence.wide] at h) (fun W hW => (CallsIn.inRound l' (callsIn_wide.2 (HRO.out W))).mono fun e W' ⟨he, hb⟩ => ⟨he, hW.trans (hb.mono hW.size)⟩) ?rest30018
            case ha30018 => first | (go_simp; done) | (simp [Oper.askedIn, Oper.about, Fence.list]; done) | (intro w _ f hf; simp [Oper.about, go_sem] at hf; done) | (intro w _ f hf; simp [Oper.about, go_sem] at hf; subst hf; trivial)
            case hy30018 => (intro W hW; obtain ⟨⟨f1, f2, f3, f4⟩, ⟨f5, f6, f7, f8⟩, ⟨f9, f10, f11⟩, ⟨f12, f13, f14, f15⟩, f16, f17, f18⟩ := HF.out W hW; go_simp; try with_reducible rfl)
            simp only [Act.put, List.setIfInBounds_toArray, List.set_cons_zero, List.set_cons_succ]
            refine' wpQuietIn_take (v := ?v30019) (BigFrame.askedIn_plain (fun _ h => nomatch h)) (by first | rfl | simp [Region.wanted, yielded]) ?hy30019 ?rest30019
            case hy30019 => (intro W hW; obtain ⟨⟨f1, f2, f3, f4⟩, ⟨f5, f6, f7, f8⟩, ⟨f9, f10, f11⟩, ⟨f12, f13, f14, f15⟩, f16, f17, f18⟩ := HF.out W hW; go_simp; try with_reducible rfl)
            simp only [Act.put, List.setIfInBounds_toArray, List.set_cons_zero, List.set_cons_succ]
            refine' wpQuietIn_take (v := ?v30020) (BigFrame.askedIn_plain (fun _ h => nomatch h)) (by first | rfl | simp [Region.wanted, yielded]) ?hy30020 ?rest30020
            case hy30020 => (intro W hW; obtain ⟨⟨f1, f2, f3, f4⟩, ⟨f5, f6, f7, f8⟩, ⟨f9, f10, f11⟩, ⟨f12, f13, f14, f15⟩, f16, f17, f18⟩ := HF.out W hW; go_simp; try with_reducible rfl)
            simp only [Act.put, List.setIfInBounds_toArray, List.set_cons_zero, List.set_cons_succ]
            refine wpQuietIn_nil ?_
            intro W hW
            obtain ⟨⟨f1, f2, f3, f4⟩, ⟨f5, f6, f7, f8⟩, ⟨f9, f10, f11⟩, ⟨f12, f13, f14, f15⟩, f16, f17, f18⟩ := HF.out W hW
            gi_wp2
            exact ⟨(Stays.below (n₀ := 0) hW).setCell (p := ⟨nb1, 0, none⟩) (by show nb1 < _; omega) _, (show Below nb1 V W from hW.mono (by omega)).setCell (p := ⟨nb1, 0, none⟩) (Nat.le_refl _) _, Rnd.more (HMore.out.2 (by rw [e1, HPL.out])) (by rw [HPL.out]) (by omega) (by show (W.cell? _).isSome = true; rw [f1]; rfl) f2 (HBl.out.trans (hW.mono (by omega)))⟩
        case rest1 =>
          rintro D1 W1 ⟨hD, hKd, ⟨kc1, hcnt, hcc⟩, hB⟩
          have hDw1 : w.heap.size ≤ D1 := by have := EN1.out.below.size; omega
          have hE := EN1.out.bel hB (by omega)
          have EW1 := Lib.hid hE
          have hl1 := hE.l1
          have hl4 := hE.l4
          have nl : nb1 < W1.heap.size := by have := hB.size; omega
          have c0 := cell_blk hE.b1 0 _ rfl
          have l0 := blk_lt hE.b1
          have c5 := cell_blk hE.b5 0 _ rfl
          have l5 := blk_lt hE.b5
          have kt := (hB.block tb1 htn1).trans TN1.out
          have ct := cell_blk kt 0 _ rfl
          have lt := blk_lt kt
          have DW1 := Lib.hid hKd
          have hDl := blk_lt hKd
          have DW10 := Lib.hid ((hB.block D0 hD0n).trans DN0.out)
          have hcr : (kc1 : Int) = N := by omega
          have d1 : ((kc1 : Int) != (N : Int)) = false := by simp [hcr]
          have d2 : (kc1 != N) = false := by simp; omega
          clear hcr
          clear hKd hB hE kt hcnt EN1 TN1 NC1 NF1
          go_upto_region 27 with fail
          obtain ⟨tb2, htb⟩ : ∃ B, B = W1.heap.size := ⟨_, rfl⟩
          obtain ⟨wx1, hwx⟩ : ∃ W, W = W1.alloc (.cells #[.int .i64 1] 3) := ⟨_, rfl⟩
          have hbx : Below W1.heap.size W1 wx1 := by rw [hwx]; exact (Below.refl _ W1).alloc (Nat.le_refl _) _
          have hkx : wx1.heap[tb2]? = some (.cells #[.int .i64 1] 3 (0, 0)) := by rw [hwx, htb]; exact alloc_blk_new _ _
          obtain ⟨wa2, hwy⟩ : ∃ W, W = wx1.setCell ⟨tb2, 0, none⟩ (.int .i64 2) := ⟨_, rfl⟩
          have hbt : Below tb2 W1 wx1 := by rw [htb]; exact hbx
          have hby : Below tb2 W1 wa2 := by rw [hwy]; exact hbt.setCell (p := ⟨tb2, 0, none⟩) (Nat.le_refl _) _
          have hky : wa2.heap[tb2]? = some (.cells #[.int .i64 2] 3 (0, 0)) := by rw [hwy]; exact setCell_blk hkx 0 _
          have htl2 : lim ≤ tb2 := by omega
          have EV2 := Lib.hid (EW1.out.bel hby htl2)
          have TK2 := Lib.hid hky
          have DK1 := Lib.hid ((hby.block D1 (by omega)).trans DW1.out)
          have DK10 := Lib.hid ((hby.block D0 (by have := blk_lt DW10.out; omega)).trans DW10.out)
          have hcx := cell_blk hkx 0 (.int .i64 1) rfl
          have hfx := frozen_blk hkx 0
          have hlx := blk_lt hkx
          have EX := Lib.hid hwx
          have EY := Lib.hid hwy
          have ETB := Lib.hid htb
          clear hbx hkx hwx hwy hbt hby hky htb hDl
          go_upto_region 16 with fail
          rw [← ETB.out, ← EX.out]
          go_wp2_with fail
          rw [← EY.out]
          clear hcx hfx hlx EX EY ETB EW1 DW1 c0 l0 c5 l5 ct lt hcc nl d1 hl1 hl4
          rw [rounds_succ]
          have htc := cell_blk TK2.out 0 (.int .i64 2) rfl
          have htf := frozen_blk TK2.out 0
          have htl := blk_lt TK2.out
          go_wp2_with (go_at_call 7; fail)
          refine (HWk.out _).mono ?_
          rintro e wz ⟨rfl, hb⟩
          have EZ := Lib.hid (EV2.out.bel hb EV2.out.l4)
          have DZ1 := Lib.hid ((hb.block D1 (blk_lt DK1.out)).trans DK1.out)
          have DZ0 := Lib.hid ((hb.block D0 (blk_lt DK10.out)).trans DK10.out)
          have c1 := cell_blk EZ.out.b2 0 _ rfl
          have f1 := frozen_blk EZ.out.b2 0
          have l1 := blk_lt EZ.out.b2
          have hne1 : D1 ≠ w.heap.size + 2 := fun e => by
            have h1 := DZ1.out
            rw [e, EZ.out.b2] at h1
            cases h1
          have hne0 : D0 ≠ w.heap.size + 2 := fun e => by
            have h1 := DZ0.out
            rw [e, EZ.out.b2] at h1
            cases h1
          have hne : D0 ≠ D1 := by omega
          have HN1 := Lib.hid hne1
          have HN0 := Lib.hid hne0
          have HNN2 := Lib.hid hne
          clear hb htc htf htl hne1 hne0 hne EV2 DK1 DK10 TK2
          go_wp2_with fail
          have hk1 := (setCell_blk_ne (w := wz) (a := ⟨w.heap.size + 2, 0, none⟩) HN1.out (.bool true)).trans DZ1.out
          have hk0 : ((wz.setCell ⟨w.heap.size + 2, 0, none⟩ (.bool true)).putObj D1 (.deferred none)).heap[D0]? = some (.deferred (some [])) := (World.putObj_heap_other (w := wz.setCell ⟨w.heap.size + 2, 0, none⟩ (.bool true)) HNN2.out).trans ((setCell_blk_ne (w := wz) (a := ⟨w.heap.size + 2, 0, none⟩) HN0.out (.bool true)).trans DZ0.out)
          refine ⟨by simp, .inl ⟨_, _, rfl, run_takeDeferred hk1, ⟨by simp, .inl ⟨_, _, rfl, run_takeDeferred hk0, ?_⟩⟩⟩⟩
          have hk2 : (((wz.setCell ⟨w.heap.size + 2, 0, none⟩ (.bool true)).putObj D1 (.deferred none)).putObj D0 (.deferred none)).cell? ⟨w.heap.size + 2, 0, none⟩ = some (.bool true) :=
            cell_blk ((World.putObj_heap_other (fun e => HN0.out e.symm)).trans ((World.putObj_heap_other (fun e => HN1.out e.symm)).trans (setCell_blk EZ.out.b2 0 (.bool true)))) 0 _ rfl
          refine ⟨.bool true, ?_, rfl, (((EZ.out.below.setCell (p := ⟨w.heap.size + 2, 0, none⟩) (by simp) _).trans (below_put (by omega))).trans (below_put (by omega)))⟩
          simp [results, Try.f6, go_sem, hk2]
end Go.Proofs.Ytfnojmkiajdoaaa
