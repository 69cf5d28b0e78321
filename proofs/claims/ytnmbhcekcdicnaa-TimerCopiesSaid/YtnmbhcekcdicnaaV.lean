/-
  slices.Insert of one row: what it leaves.
-/
import Derived.Test.YtnmbhcekcdicnaaU
namespace Go.Proofs.Ytnmbhcekcdicnaa
open Go.RowKit
set_option linter.unusedVariables false
set_option linter.unusedSimpArgs false

/-- Cells, some of which are written over. -/
def splice (cur : Array Value) (o : Nat) (cs : List Value) : Array Value := (cur.toList.take o ++ cs ++ cur.toList.drop (o + cs.length)).toArray
theorem splice_size (cur : Array Value) (o : Nat) (cs : List Value) (h : o + cs.length ≤ cur.size) : (splice cur o cs).size = cur.size := by
  unfold splice
  simp
  omega
theorem splice_get (cur : Array Value) (o : Nat) (cs : List Value) (h : o + cs.length ≤ cur.size) (q : Nat) : (splice cur o cs)[q]? = if q < o then cur[q]? else if q < o + cs.length then cs[q - o]? else cur[q]? := by
  unfold splice
  have hl : (cur.toList.take o).length = o := by simp; omega
  rw [List.getElem?_toArray]
  by_cases h1 : q < o
  · rw [if_pos h1, List.append_assoc, List.getElem?_append_left (by omega), List.getElem?_take_of_lt h1]
    simp
  · rw [if_neg h1]
    by_cases h2 : q < o + cs.length
    · rw [if_pos h2, List.getElem?_append_left (by rw [List.length_append, hl]; omega), List.getElem?_append_right (by omega), hl]
    · rw [if_neg h2, List.getElem?_append_right (by rw [List.length_append, hl]; omega), List.length_append, hl, List.getElem?_drop]
      rw [show o + cs.length + (q - (o + cs.length)) = q by omega]
      simp
theorem run_copy_row {P : Program} (w : World) (dT sT ty elem : TypeId) (b o dLen dCap : Nat) (a : Addr) (sLen sCap : Nat) (cs : List Value) (s k : Nat) (cur : Array Value) (t : TypeId)
    (hu : P.underlying dT = some (.slice elem)) (hs : (P.info? elem).map (·.size) = some s) (hk : Nat.min sLen dLen = k) (hn : cs.length = k * s) (hb : w.heap[b]? = some (.cells cur t (0, 0)))
    (hsrc : ∀ j v, cs[j]? = some v → w.cell? (a.add j) = some v) (hfit : o + cs.length ≤ cur.size) (h1 : ∀ v ∈ cs, v.oneCell' = true) :
    (Builtin.copy_ #[dT, sT] ty #[.slice (some ⟨b, o, none⟩) dLen dCap, .slice (some a) sLen sCap]).run P w = .ok (goInt k) (w.setRow b (splice cur o cs)) := by
  have hl := run_loadCells_list (P := P) w a cs hsrc
  have hst := run_storeCells_at (P := P) b o t cs 0 cur w hb (by simpa using hfit) h1
  simp only [Nat.add_zero] at hst
  cases hq : P.info? elem with
  | none => simp [hq] at hs
  | some i =>
    have hi : i.size = s := by simpa [hq] using hs
    simp [Builtin.copy_, run_underlying hu, Builtin.lenOf, Builtin.firstCells, sizeOf, typeInfo, hq, hi, hk, ← hn, hl, hst, splice]
theorem encR_three (l : List Rw) (i : Nat) (r : Rw) (hi : i ≤ l.length) (q : Nat) (u : Value) (h : (encR (l.take i ++ r :: l.drop i))[q]? = some u) :
    (q < i * 3 → (encR l)[q]? = some u) ∧ (i * 3 ≤ q → q < (i + 1) * 3 → (encR [r])[q - i * 3]? = some u) ∧ ((i + 1) * 3 ≤ q → (encR (l.drop i))[q - (i + 1) * 3]? = some u) ∧ q < (l.length + 1) * 3 := by
  have e : encR (l.take i ++ r :: l.drop i) = (encR l).take (i * 3) ++ (encR [r] ++ encR (l.drop i)) := by
    rw [show r :: l.drop i = [r] ++ l.drop i from rfl, encR_app, encR_app, encR_take]
  have hlt : ((encR l).take (i * 3)).length = i * 3 := by rw [List.length_take, encR_len]; omega
  have h3 : (encR [r]).length = 3 := rfl
  have hq := (List.getElem?_eq_some_iff.1 h).1
  rw [encR_len, List.length_append, List.length_cons, List.length_take, List.length_drop] at hq
  rw [e] at h
  refine ⟨fun g => ?_, fun g1 g2 => ?_, fun g => ?_, by omega⟩
  · rw [List.getElem?_append_left (by omega), List.getElem?_take_of_lt g] at h
    exact h
  · rw [List.getElem?_append_right (by omega), hlt, List.getElem?_append_left (by omega)] at h
    exact h
  · rw [List.getElem?_append_right (by omega), hlt, List.getElem?_append_right (by omega), h3] at h
    rw [show q - (i + 1) * 3 = q - i * 3 - 3 by omega]
    exact h
/-- What Insert leaves. -/
structure InsAt (K : Nat → Prop) (W w' : World) (l' : List Rw) (ao : Option Addr) (v : Value) : Prop where
  ex : ∃ ao' c', v = .slice ao' l'.length c' ∧ RowsIn (fun q => K q ∨ (W.heap.size ≤ q ∧ q < w'.heap.size)) w' ao' l'.length c' l'
  mod : Mod (fun q => ao = some ⟨q, 0, none⟩) W w'
theorem Mod.setRow {S : Nat → Prop} {a w : World} (h : Mod S a w) (b : Nat) (cs : Array Value) (hb : S b ∨ a.heap.size ≤ b) : Mod S a (w.setRow b cs) :=
  ⟨h.os, h.tape, h.output, by simpa using h.size, fun k hk hn => (setRow_other w b k cs (by
    rintro rfl
    rcases hb with hb | hb
    · exact hn hb
    · omega)).trans (h.block k hk hn)⟩
theorem sz80 : (Try.prog.info? 80).map (·.size) = some 3 := by
  obtain ⟨i0, hi0, _, hz1, _⟩ := inf80
  rw [hi0]; simp [hz1]
section
variable {K : Nat → Prop} {W : World} {ao : Option Addr} {n c : Nat} {l : List Rw}
theorem row_cells {vb : Nat} {r : Rw} {t : TypeId} (hv : W.heap[vb]? = some (.cells #[.int .i64 r.k, .int .u64 r.i, .int .u64 r.d] t (0, 0))) : ∀ j v, (encR [r])[j]? = some v → W.cell? ((⟨vb, 0, none⟩ : Addr).add j) = some v := fun j v hj => by
  rw [addr_add, Nat.zero_add]
  exact cell_blk hv j v (by simpa [encR] using hj)
theorem insert43_end (h : RowsIn K W ao n c l) (hn : n < 8192) (r : Rw) (vb : Nat) (hv : W.heap[vb]? = some (.cells #[.int .i64 r.k, .int .u64 r.i, .int .u64 r.d] 80 (0, 0))) :
    ∃ v w9, Calls Try.prog 43 #[.slice ao n c, .int .i64 n, .slice (some ⟨vb, 0, none⟩) 1 1] W (fun e w' => e = .returned v ∧ w' = w9) ∧ InsAt K W w9 (l.take n ++ r :: l.drop n) ao v := by
  obtain ⟨i0, hi0, hz0, hz1, hz2⟩ := inf80
  have hlen := h.len
  have hcap := h.cap
  have hbig := h.big
  have hl1 : (encR [r]).length = 1 * i0.size := by rw [hz1]; rfl
  have hd : l.drop n = [] := List.drop_eq_nil_of_le (by omega)
  have ht : l.take n = l := List.take_of_length_le (by omega)
  have hL : (l.take n ++ r :: l.drop n).length = n + 1 := by rw [hd, ht]; simp; omega
  have hL3 : ∀ (q : Nat) (u : Value), (encR (l.take n ++ r :: l.drop n))[q]? = some u → (encR l ++ encR [r])[q]? = some u := fun q u hq => by rw [hd, ht, encR_app] at hq; exact hq
  have hel : (encR l).length = n * 3 := by rw [encR_len, hlen]
  cases ao with
  | none =>
    have hc0 : c = 0 := h.none_ rfl
    have hn0 : n = 0 := by omega
    subst hc0 hn0
    have hl0 : l = [] := List.eq_nil_of_length_eq_zero hlen.symm
    have hrun := fun ty => run_append_nil (P := Try.prog) (w := W) 53 ty 80 i0 _ Try.underlying53 hi0 hz0 ⟨vb, 0, none⟩ 1 1 (encR [r]) hl1 (row_cells hv) (by omega) (by omega) (by rw [hz2]; omega)
    refine ⟨_, _, insert_end none 0 0 vb _ W _ (by omega) (fun _ => ⟨rfl, rfl⟩) (Nat.le_refl _) (fun a e => by cases e) hrun, ⟨⟨_, _, by rw [hL], ?_⟩, ?_⟩⟩
    · have hg := grownCap_ge W 1 0 80
      refine Holds.rows (cur := _) ⟨by rw [hL], alloc_blk_new W.drew _, fun q u hq => ?_⟩ (.inr ⟨Nat.le_refl _, by simp [heap_drew]⟩) (by rw [hL]; exact hg) (grownCap_le_maxLen W _ _ _ (by unfold maxLen; omega)) ?_
      · have hq := hL3 q u hq
        rw [hl0, show encR [] = [] from rfl, List.nil_append] at hq
        have hlt := (List.getElem?_eq_some_iff.1 hq).1
        rw [Array.getElem?_append_left (by simpa using hlt)]
        simpa using hq
      · simp [Builtin.zeroCells, Value.cells, encR_len]
        omega
    · exact ((Mod.refl _ W).drew).alloc _
  | some a =>
    obtain ⟨b, cur, rfl, hk, hh, hs⟩ := h.holds
    by_cases hroom : n + 1 ≤ c
    · have hfit : n * 3 + (encR [r]).length ≤ cur.size := by rw [hl1, hz1]; omega
      have hrun := fun ty => run_append_room (P := Try.prog) (w := W) 53 ty 80 i0 Try.underlying53 hi0 b n c cur hh.2.1 ⟨vb, 0, none⟩ 1 1 (encR [r]) hl1 (row_cells hv) (encR_one _) hroom (by rw [hz1]; exact hfit)
      rw [hz1] at hrun
      refine ⟨_, _, insert_end (some ⟨b, 0, none⟩) n c vb _ W _ (by omega) (fun e => by cases e) hcap (fun a e => by cases e; exact ⟨b, rfl⟩) hrun, ⟨⟨_, _, by rw [hL], ?_⟩, ?_⟩⟩
      · have hsz : (splice cur (n * 3) (encR [r])).size = cur.size := splice_size _ _ _ hfit
        refine Holds.rows (cur := splice cur (n * 3) (encR [r])) ⟨by rw [hL], setRow_heap W b cur _ 80 _ hh.2.1, fun q u hq => ?_⟩ (.inl hk) (by rw [hL]; exact hroom) hbig (by omega)
        have hq := hL3 q u hq
        have hlt := (List.getElem?_eq_some_iff.1 hq).1
        rw [List.length_append, hel] at hlt
        rw [splice_get _ _ _ hfit]
        by_cases g : q < n * 3
        · rw [if_pos g]
          rw [List.getElem?_append_left (by omega)] at hq
          exact hh.2.2 q u hq
        · rw [if_neg g, if_pos hlt]
          rw [List.getElem?_append_right (by omega), hel] at hq
          exact hq
      · exact (Mod.refl (fun q => (some (⟨b, 0, none⟩ : Addr)) = some ⟨q, 0, none⟩) W).setRow b _ (.inl rfl)
    · have hrun := fun ty => run_append_grow (P := Try.prog) (w := W) 53 ty 80 i0 _ Try.underlying53 hi0 hz0 ⟨b, 0, none⟩ n c (encR l) (by rw [hel, hz1]) (fun j v hj => by rw [addr_add, Nat.zero_add]; exact hh.cell j v hj) ⟨vb, 0, none⟩ 1 1 (encR [r]) hl1 (row_cells hv) (by omega) (by omega) (by rw [hz2]; exact growslice_fits (by omega) (by omega))
      refine ⟨_, _, insert_end (some ⟨b, 0, none⟩) n c vb _ W _ (by omega) (fun e => by cases e) hcap (fun a e => by cases e; exact ⟨b, rfl⟩) hrun, ⟨⟨_, _, by rw [hL], ?_⟩, ?_⟩⟩
      · have hg := grownCap_ge W (n + 1) c 80
        refine Holds.rows (cur := _) ⟨by rw [hL], alloc_blk_new W.drew _, fun q u hq => ?_⟩ (.inr ⟨Nat.le_refl _, by simp [heap_drew]⟩) (by rw [hL]; exact hg) (grownCap_le_maxLen W _ _ _ (by unfold maxLen; omega)) ?_
        · have hq := hL3 q u hq
          have hlt := (List.getElem?_eq_some_iff.1 hq).1
          rw [Array.getElem?_append_left (by simpa using hlt)]
          have e : (encR l).toArray ++ (encR [r]).toArray = (encR l ++ encR [r]).toArray := by simp
          rw [e]
          simpa using hq
        · simp [Builtin.zeroCells, Value.cells, encR_len]
          omega
      · exact ((Mod.refl _ W).drew).alloc _
theorem insert43_in (h : RowsIn K W ao n c l) (hn : n < 8192) (i : Nat) (hi : i < n) (r : Rw) (vb : Nat) (hv : W.heap[vb]? = some (.cells #[.int .i64 r.k, .int .u64 r.i, .int .u64 r.d] 80 (0, 0))) (hvb : ∀ a, ao = some a → vb ≠ a.block) :
    ∃ v w9, Calls Try.prog 43 #[.slice ao n c, .int .i64 i, .slice (some ⟨vb, 0, none⟩) 1 1] W (fun e w' => e = .returned v ∧ w' = w9) ∧ InsAt K W w9 (l.take i ++ r :: l.drop i) ao v := by
  obtain ⟨i0, hi0, hz0, hz1, hz2⟩ := inf80
  have hlen := h.len
  have hcap := h.cap
  have hbig := h.big
  have hL : (l.take i ++ r :: l.drop i).length = n + 1 := by simp; omega
  have h3 : (encR [r]).length = 3 := rfl
  have hdl : (encR (l.drop i)).length = (n - i) * 3 := by rw [encR_len, List.length_drop, ← hlen]
  have htl : (encR (l.take i)).length = i * 3 := by rw [encR_len, List.length_take]; omega
  cases ao with
  | none => have := h.none_ rfl; omega
  | some a =>
    obtain ⟨b, cur, rfl, hk, hh, hs⟩ := h.holds
    have hvb' : vb ≠ b := hvb _ rfl
    have hblt := blk_lt hh.2.1
    have hvlt := blk_lt hv
    by_cases hroom : n + 1 ≤ c
    · have fit1 : (i + 1) * 3 + (encR (l.drop i)).length ≤ cur.size := by rw [hdl]; omega
      have hW1 : (W.drew.setRow b (splice cur ((i + 1) * 3) (encR (l.drop i)))).heap[b]? = some (.cells (splice cur ((i + 1) * 3) (encR (l.drop i))) 80 (0, 0)) := setRow_heap W.drew b cur _ 80 _ hh.2.1
      have s1 := splice_size cur _ _ fit1
      have fit2 : i * 3 + (encR [r]).length ≤ (splice cur ((i + 1) * 3) (encR (l.drop i))).size := by rw [s1, h3]; omega
      have s2 := splice_size _ _ _ fit2
      have hcA := fun ty => run_copy_row (P := Try.prog) W.drew 53 53 ty 80 b ((i + 1) * 3) (n + 1 - (i + 1)) (c - (i + 1)) ⟨b, i * 3, none⟩ (n + 1 - i) (c - i) (encR (l.drop i)) 3 (n - i) cur 80 Try.underlying53 sz80 (by simp only [Nat.min_def]; split <;> omega) hdl hh.2.1
        (fun j v hj => by
          rw [addr_add]
          rw [encR_drop, List.getElem?_drop] at hj
          exact hh.cell _ v hj) fit1 (encR_one _)
      have hcB := fun ty => run_copy_row (P := Try.prog) _ 53 53 ty 80 b (i * 3) (n + 1 - i) (c - i) ⟨vb, 0, none⟩ 1 1 (encR [r]) 3 1 _ 80 Try.underlying53 sz80 (by simp only [Nat.min_def]; split <;> omega) (by rw [h3]) hW1
        (row_cells ((setRow_other W.drew b vb _ hvb').trans hv)) fit2 (encR_one _)
      refine ⟨_, _, insert_shift b n c i vb _ _ W _ _ (by omega) hi hroom (by unfold maxLen at hbig; omega) hvb' 80 80 3 cur.size (by simp [World.shape?, hv]) (by simp [World.shape?, hh.2.1]) (by omega) (frozen_blk hv 0) (frozen_blk hv 3) hcA hcB, ⟨⟨_, _, by rw [hL], ?_⟩, ?_⟩⟩
      · refine Holds.rows (cur := _) ⟨by rw [hL], setRow_heap _ b _ _ 80 _ hW1, fun q u hq => ?_⟩ (.inl hk) (by rw [hL]; exact hroom) hbig (by omega)
        obtain ⟨q1, q2, q3, q4⟩ := encR_three l i r (by omega) q u hq
        rw [splice_get _ _ _ fit2, h3]
        by_cases g : q < i * 3
        · rw [if_pos g, splice_get _ _ _ fit1, if_pos (by omega)]
          exact hh.2.2 q u (q1 g)
        · rw [if_neg g]
          by_cases g2 : q < i * 3 + 3
          · rw [if_pos g2]
            exact q2 (by omega) (by omega)
          · rw [if_neg g2, splice_get _ _ _ fit1, if_neg (by omega), if_pos (by rw [hdl]; omega)]
            exact q3 (by omega)
      · exact (((Mod.refl (fun q => (some (⟨b, 0, none⟩ : Addr)) = some ⟨q, 0, none⟩) W).drew).setRow b _ (.inl rfl)).setRow b _ (.inl rfl)
    · have hkk : (n : Int) + 1 - (i : Int) = ((n + 1 - i : Nat) : Int) := by omega
      have hik : i + (n + 1 - i) = n + 1 := by omega
      have hold : (Builtin.firstCells i0.size i (.slice (some ⟨b, 0, none⟩) i c)).run Try.prog W.drew = .ok (encR (l.take i)).toArray W.drew := by
        rw [hz1]
        exact run_firstCells_some W.drew 3 i ⟨b, 0, none⟩ i c (encR (l.take i)) htl (fun j v hj => by
          rw [addr_add, Nat.zero_add]
          rw [encR_take, List.getElem?_take] at hj
          split at hj
          · exact hh.cell j v hj
          · cases hj)
      have hrz := fun ty => Lib.run_append_grow_zeros W 53 3 ty 80 i0 _ .i64 .i64 Try.underlying53 Try.underlying3 hi0 hz0 (some ⟨b, 0, none⟩) i c (encR (l.take i)) hold (n + 1 - i) (by omega) (by omega) (by omega) (by omega) (by rw [hz2]; omega) (by rw [hz2, hik]; exact growslice_fits (by omega) (by omega))
      rw [hik, ← hkk] at hrz
      obtain ⟨G, hG⟩ : ∃ G, G = grownCap W (n + 1) c 80 := ⟨_, rfl⟩
      have hG1 : n + 1 ≤ G := by rw [hG]; exact grownCap_ge W _ _ _
      have hG2 : G ≤ maxLen := by rw [hG]; exact grownCap_le_maxLen W _ _ _ (by unfold maxLen; omega)
      rw [← hG] at hrz
      obtain ⟨ROW, hROW⟩ : ∃ ROW : Array Value, ROW = (encR (l.take i)).toArray ++ Builtin.zeroCells (Value.agg #[.int .i64 0, .int .u64 0, .int .u64 0]).cells (n + 1 - i) ++ Builtin.zeroCells (Value.agg #[.int .i64 0, .int .u64 0, .int .u64 0]).cells (G - (n + 1)) := ⟨_, rfl⟩
      rw [← hROW] at hrz
      have hRs : ROW.size = G * 3 := by
        rw [hROW]
        simp [Builtin.zeroCells, Value.cells, htl]
        omega
      have hRt : ∀ (q : Nat) (u : Value), q < i * 3 → (encR l)[q]? = some u → ROW[q]? = some u := fun q u hq hu => by
        rw [hROW, Array.append_assoc, Array.getElem?_append_left (by simp [htl]; omega)]
        rw [encR_take]
        simp [List.getElem?_take_of_lt hq, hu]
      obtain ⟨N, hN⟩ : ∃ N, N = W.heap.size := ⟨_, rfl⟩
      obtain ⟨W1, hW1⟩ : ∃ W1, W1 = W.drew.alloc (.cells ROW 80) := ⟨_, rfl⟩
      have b1 : W1.heap[N]? = some (.cells ROW 80 (0, 0)) := by rw [hW1, hN]; exact alloc_blk_new W.drew _
      have m1 : Mod (fun q => (some (⟨b, 0, none⟩ : Addr)) = some ⟨q, 0, none⟩) W W1 := by rw [hW1]; exact ((Mod.refl _ W).drew).alloc _
      have z1 : W1.heap.size = N + 1 := by rw [hW1, hN]; simp [heap_drew]
      have k1 : ∀ q, q < N → W1.heap[q]? = W.heap[q]? := fun q hq => by rw [hW1]; exact Below.heap_alloc W.drew _ q (by rw [heap_drew]; omega)
      rw [← hN, ← hW1] at hrz
      clear hROW hW1
      have fit1 : i * 3 + (encR [r]).length ≤ ROW.size := by rw [hRs, h3]; omega
      have s1 := splice_size _ _ _ fit1
      have hW2 := setRow_heap W1 N ROW (splice ROW (i * 3) (encR [r])) 80 _ b1
      have fit2 : (i + 1) * 3 + (encR (l.drop i)).length ≤ (splice ROW (i * 3) (encR [r])).size := by rw [s1, hRs, hdl]; omega
      have s2 := splice_size _ _ _ fit2
      have hcA := fun ty => run_copy_row (P := Try.prog) W1 53 53 ty 80 N (i * 3) (n + 1 - i) (G - i) ⟨vb, 0, none⟩ 1 1 (encR [r]) 3 1 ROW 80 Try.underlying53 sz80 (by simp only [Nat.min_def]; split <;> omega) (by rw [h3]) b1
        (row_cells ((k1 vb (by omega)).trans hv)) fit1 (encR_one _)
      have hcB := fun ty => run_copy_row (P := Try.prog) (W1.setRow N (splice ROW (i * 3) (encR [r]))).drew 53 53 ty 80 N ((i + 1) * 3) (n + 1 - (i + 1)) (G - (i + 1)) ⟨b, i * 3, none⟩ (n - i) (c - i) (encR (l.drop i)) 3 (n - i) _ 80 Try.underlying53 sz80 (by simp only [Nat.min_def]; split <;> omega) hdl hW2
        (fun j v hj => by
          rw [addr_add]
          rw [encR_drop, List.getElem?_drop] at hj
          have hb2 : (W1.setRow N (splice ROW (i * 3) (encR [r]))).drew.heap[b]? = some (.cells cur 80 (0, 0)) := (setRow_other W1 N b _ (by omega)).trans ((k1 b (by omega)).trans hh.2.1)
          exact cell_blk hb2 _ v (hh.2.2 _ v hj)) fit2 (encR_one _)
      refine ⟨_, _, insert_grow b n c i vb N G _ _ W W1 _ _ (by omega) hi hcap (by omega) hG1 (by unfold maxLen at hG2; omega) hrz hcA hcB, ⟨⟨_, _, by rw [hL], ?_⟩, ?_⟩⟩
      · refine Holds.rows (cur := _) ⟨by rw [hL], setRow_heap (W1.setRow N (splice ROW (i * 3) (encR [r]))).drew N _ _ 80 _ hW2, fun q u hq => ?_⟩ (.inr ⟨by omega, by simp [heap_drew, z1]⟩) (by rw [hL]; exact hG1) hG2 (by omega)
        obtain ⟨q1, q2, q3, q4⟩ := encR_three l i r (by omega) q u hq
        rw [splice_get _ _ _ fit2, hdl]
        by_cases g : q < (i + 1) * 3
        · rw [if_pos g, splice_get _ _ _ fit1, h3]
          by_cases g2 : q < i * 3
          · rw [if_pos g2]
            exact hRt q u g2 (q1 g2)
          · rw [if_neg g2, if_pos (by omega)]
            exact q2 (by omega) g
        · rw [if_neg g, if_pos (by omega)]
          exact q3 (by omega)
      · exact ((m1.setRow _ _ (.inr (by omega))).drew).setRow _ _ (.inr (by omega))
/-- One row more, at its place. -/
theorem insert43 (h : RowsIn K W ao n c l) (hn : n < 8192) (i : Nat) (hi : i ≤ n) (r : Rw) (vb : Nat) (hv : W.heap[vb]? = some (.cells #[.int .i64 r.k, .int .u64 r.i, .int .u64 r.d] 80 (0, 0))) (hvb : ∀ a, ao = some a → vb ≠ a.block) :
    ∃ v w9, Calls Try.prog 43 #[.slice ao n c, .int .i64 i, .slice (some ⟨vb, 0, none⟩) 1 1] W (fun e w' => e = .returned v ∧ w' = w9) ∧ InsAt K W w9 (l.take i ++ r :: l.drop i) ao v := by
  by_cases e : i = n
  · subst e; exact insert43_end h hn r vb hv
  · exact insert43_in h hn i (by omega) r vb hv hvb
end
end Go.Proofs.Ytnmbhcekcdicnaa
