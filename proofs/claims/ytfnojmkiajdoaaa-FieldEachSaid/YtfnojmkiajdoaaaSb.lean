/-
  What counts of lines: the iterators.
-/
import Derived.Test.YtfnojmkiajdoaaaSa
import Derived.Test.YtfnojmkiajdoaaaN
namespace Go.Proofs.Ytfnojmkiajdoaaa
open Go.RowKit Go.Shelf
set_option linter.unusedVariables false
set_option linter.unusedSimpArgs false
attribute [local go_sem] Oper.semAt_some

/-- What has come when k rounds are over. -/
def fins (n k : Nat) : List (Fin n) := (List.finRange n).take k
theorem fins_succ {n k : Nat} (h : k < n) : fins n (k + 1) = fins n k ++ [⟨k, h⟩] := by
  unfold fins
  rw [List.take_succ_eq_append_getElem (by simpa using h)]
  simp
theorem fins_length {n k : Nat} (h : k ≤ n) : (fins n k).length = k := by simp [fins, h]
theorem fins_all (n : Nat) : fins n n = List.finRange n := List.take_of_length_le (by simp)
theorem fins_prefix (n k : Nat) : fins n k <+: List.finRange n := List.take_prefix _ _

theorem YieldAt.deep {m k : Nat} {P : Program} {l l' : Nat} {args : Array Value} {W : World} {R : Ending → World → Prop} (h : YieldAt Fence.wide m P l args W R) : YieldAt (Fence.wide.inRound l') k P l args W R := by
  obtain ⟨fn, tmps, assign, body, hy, hR⟩ := h
  exact ⟨fn, tmps, assign, body, hy, hR.1, fun c cs _ => hR.2 c cs (room_wide _)⟩

section
variable {F : Fence} {n : Nat} {P : Program} {b : Frame} {a : Act} {k : List Item} {cs : List Frame} {w : World} {Q : Exit → Act → World → Prop}
theorem stepR_scope {c : Code} : step P (lone (b.atR a (.code (.scope c) :: k)) cs w) = .next (lone (b.atR a (.code c :: .inScope c :: k)) cs w) :=
  step_lone_go (by simp [stepG, stepG.exec, Frame.atR])
theorem stepR_inScope {c : Code} : step P (lone (b.atR a (.inScope c :: k)) cs w) = .next (lone (b.atR a k) cs w) :=
  step_lone_go (by simp [stepG, stepG.exec, Frame.atR])
end
/-- The j-th text. -/
def ssAt (l : List ByteArray) (j : Nat) : ByteArray := l.getD j ⟨#[]⟩
/-- Texts that lie ahead of n₀. -/
def SAhead (n₀ : Nat) (w : World) (ao : Option Addr) (len : Nat) (l : List ByteArray) : Prop := 0 < len → ∃ b off, ao = some ⟨b, off, none⟩ ∧ b < n₀ ∧ ∀ j, j < len → w.cell? ⟨b, off + j, none⟩ = some (.string (ssAt l j))
theorem SAhead.below {n₀ : Nat} {w w' : World} {ao : Option Addr} {len : Nat} {l : List ByteArray} (h : SAhead n₀ w ao len l) (hb : Below n₀ w w') : SAhead n₀ w' ao len l := fun hp => by
  obtain ⟨b, off, e, hl, hc⟩ := h hp
  exact ⟨b, off, e, hl, fun j hj => (hb.cell (p := ⟨b, off + j, none⟩) hl).trans (hc j hj)⟩
/-- What the j-th line says. -/
def sayF (l : List ByteArray) (j : Nat) : Fd := ofF (nums (ssAt l j))
/-- Which of the first i lines count. -/
def cnts (l : List ByteArray) : Nat → List Nat
  | 0 => []
  | i + 1 => cnts l i ++ (if countsF (sayF l i) = true then [i] else [])
theorem cnts_len (l : List ByteArray) : ∀ i, (cnts l i).length ≤ i
  | 0 => by simp [cnts]
  | i + 1 => by
    have := cnts_len l i
    unfold cnts
    rw [List.length_append]
    split <;> simp <;> omega
theorem cnts_prefix (l : List ByteArray) (i : Nat) : ∀ k, cnts l i <+: cnts l (i + k)
  | 0 => List.prefix_refl _
  | k + 1 => (cnts_prefix l i k).trans ⟨_, rfl⟩
theorem cnts_at (l : List ByteArray) {i n : Nat} (h : i < n) (hc : countsF (sayF l i) = true) : (cnts l i).length < (cnts l n).length ∧ (cnts l n).getD (cnts l i).length 0 = i ∧ (cnts l (i + 1)).length = (cnts l i).length + 1 := by
  have e1 : cnts l (i + 1) = cnts l i ++ [i] := by rw [cnts, if_pos hc]
  obtain ⟨r, hr⟩ := cnts_prefix l (i + 1) (n - (i + 1))
  have e2 : i + 1 + (n - (i + 1)) = n := by omega
  rw [e2, e1] at hr
  refine ⟨by rw [← hr]; simp, ?_, by rw [e1]; simp⟩
  rw [← hr, List.getD_eq_getElem?_getD, List.getElem?_append_left (by simp)]
  simp
theorem cnts_skip (l : List ByteArray) {i : Nat} (hc : countsF (sayF l i) = false) : cnts l (i + 1) = cnts l i := by
  rw [cnts, if_neg (by rw [hc]; simp), List.append_nil]
/-- The index that came x-th, and what is said there. -/
def cAt (l : List ByteArray) (n x : Nat) : Nat := (cnts l n).getD x 0
/-- What is handed over. -/
def cEnc (l : List ByteArray) (n : Nat) (x : Fin (cnts l n).length) : Array Value := #[.int .i64 (cAt l n x.val : Int), .agg #[.int .i64 (sayF l (cAt l n x.val)).k, .string (strOfNums (sayF l (cAt l n x.val)).n), .string (strOfNums (sayF l (cAt l n x.val)).v)]]

set_option maxRecDepth 100000 in
set_option maxHeartbeats 4000000 in
theorem every42_deep (m : Nat) (hm : 4 ≤ m) (A n₀ : Nat) (ao : Option Addr) (len cap : Nat) (L : List ByteArray) (hreach : len ≤ 1000) (hsz : ∀ j, (ssAt L j).size ≤ 1000) (w : World) (hA : A < w.heap.size) (hn₀ : n₀ ≤ w.heap.size)
    (hc : w.cell? ⟨A, 0, none⟩ = some (.slice ao len cap)) (hI : SAhead n₀ w ao len L) :
    SeqDeep Fence.wide m Try.prog 42 #[.pointer (some ⟨A, 0, none⟩)] (cEnc L len) n₀ (fun ys => ys = List.finRange (cnts L len).length) (fun pre => pre <+: List.finRange (cnts L len).length) (cnts L len).length w := by
  intro l J Jx W hW hJ hJx hY h0
  have hBs := (hW.cell (p := ⟨A, 0, none⟩) hA).trans hc
  have hI' := hI.below (hW.mono hn₀)
  have hnW := Nat.le_trans hn₀ hW.size
  show CallsIn Fence.wide m Try.prog 42 #[.func (.yield l) #[] #[], .pointer (some ⟨A, 0, none⟩)] W _
  refine callsIn_of_wp Try.func42 rfl trivial ?_ rfl
  simp only [Try.ntmps42, List.size_toArray, List.length_cons, List.length_nil, Nat.reduceAdd, Nat.reduceSub, Array.replicate_succ, Array.replicate_zero, List.push_toArray, List.append_toArray, List.nil_append, List.cons_append]
  gi_wp2
  gi_loopw [8] (fun i wr => ∃ k : Nat, k ≤ len ∧ i = .int .i64 k ∧ J (fins (cnts L len).length (cnts L k).length) wr ∧ Below n₀ W wr ∧ W.heap.size ≤ wr.heap.size)
    (fun i _ => len - (intOf i).toNat)
  case atStart => exact ⟨0, Nat.zero_le _, rfl, by simpa [fins, cnts] using h0, Below.refl _ _, Nat.le_refl _⟩
  case round =>
    obtain ⟨k, hk, rfl, hJs, hnx, hsz2⟩ := hrel
    by_cases hlt : k < len
    · obtain ⟨b, off, rfl, hb, hcz⟩ := hI'.below hnx (by omega)
      have c1 := hcz k hlt
      have hbl : b < wr.heap.size := by omega
      obtain ⟨s, hs⟩ : ∃ s, s = ssAt L k := ⟨_, rfl⟩
      rw [← hs] at c1
      obtain ⟨f, hf⟩ : ∃ f, f = sayF L k := ⟨_, rfl⟩
      have hsn : (nums s).length ≤ 1000 := by rw [nums_len, hs]; exact hsz k
      have hfo : f = ofF (nums s) := by rw [hf, hs]; rfl
      have hok : f.Ok := by rw [hfo]; exact Fd.Ok.of (nums_byt s) (by omega)
      obtain ⟨fk, hfk⟩ : ∃ x, x = f.k := ⟨_, rfl⟩
      obtain ⟨fN, hfN⟩ : ∃ x, x = strOfNums f.n := ⟨_, rfl⟩
      obtain ⟨fV, hfV⟩ : ∃ x, x = strOfNums f.v := ⟨_, rfl⟩
      have eF : fdV f = .agg #[.int .i64 fk, .string fN, .string fV] := by rw [hfk, hfN, hfV]; rfl
      obtain ⟨c, hcc⟩ : ∃ c, c = countsF f := ⟨_, rfl⟩
      have HOf : Hid (∀ W, Calls Try.prog 8 #[.string s] W fun e w' => e = .returned (.agg #[.int .i64 fk, .string fN, .string fV]) ∧ Below W.heap.size W w') := Lib.hid fun W => by
        have := Of8 (nums s) (nums_byt s) (by omega) W
        rw [str_nums, ← hfo, eF] at this
        exact this
      have HCo : Hid (∀ W, Calls Try.prog 13 #[.agg #[.int .i64 fk, .string fN, .string fV]] W fun e w' => e = .returned (.bool c) ∧ Below W.heap.size W w') := Lib.hid fun W => by
        rw [hcc, ← eF]; exact Counts13 f hok W
      have HNx := Lib.hid hnx
      have HJs := Lib.hid hJs
      have HSt := Lib.hid (And.intro hf (And.intro hfk (And.intro hfN (And.intro hfV hcc))))
      have hwn : n₀ ≤ wr.heap.size := by omega
      clear hnx hJs hf hfk hfN hfV hcc hs hsn hfo hok eF hcz
      gi_wp2_with (gi_at_call 8; fail)
      refine ⟨trivial, fun _ => by omega, (callsIn_wide.2 (HOf.out wr)).mono ?_⟩
      rintro e w1 ⟨rfl, hb1⟩
      obtain ⟨w2, hw2⟩ : ∃ X, X = w1.alloc (.cells #[.int .i64 fk, .string fN, .string fV] 25) := ⟨_, rfl⟩
      have hb2 : Below wr.heap.size wr w2 := by rw [hw2]; exact hb1.alloc hb1.size _
      have k2 : w2.heap[w1.heap.size]? = some (.cells #[.int .i64 fk, .string fN, .string fV] 25 (0, 0)) := by rw [hw2]; exact alloc_blk_new _ _
      have E2 := Lib.hid hw2
      have B2 := Lib.hid hb2
      have K2 := Lib.hid k2
      clear hb1 hw2 hb2 k2
      gi_wp2_with (gi_at_call 13; fail)
      rw [← E2.out]
      refine ⟨trivial, fun _ => by omega, (callsIn_wide.2 (HCo.out w2)).mono ?_⟩
      rintro e w3 ⟨rfl, hb3⟩
      have K3 := Lib.hid ((hb3.block _ (blk_lt K2.out)).trans K2.out)
      have B3 := Lib.hid (B2.out.trans (hb3.mono B2.out.size))
      have q0 := cell_blk K3.out 0 _ rfl
      have q1 := cell_blk K3.out 1 _ rfl
      have q2 := cell_blk K3.out 2 _ rfl
      have ql := blk_lt K3.out
      have hs3 := B3.out.size
      clear hb3
      cases c with
      | false =>
        have HSk := Lib.hid (cnts_skip L (i := k) (by rw [← HSt.out.1]; exact HSt.out.2.2.2.2.symm))
        gi_wp2
        refine ⟨fun _ h => (by cases h), ?_⟩
        gi_wp2
        go_roundw
        case rel => exact ⟨k + 1, by omega, by simp, by rw [HSk.out]; exact hJ _ _ _ HJs.out (B3.out.mono hsz2), HNx.out.trans (B3.out.mono hwn), Nat.le_trans hsz2 hs3⟩
        case measure => simp [intOf]; omega
      | true =>
        obtain ⟨hN1, hN2, hN3⟩ := cnts_at L hlt (by rw [← HSt.out.1]; exact HSt.out.2.2.2.2.symm)
        have hY1 := hY _ ⟨(cnts L k).length, hN1⟩ w3 (Nat.le_trans hsz2 hs3) (hJ _ _ _ HJs.out (B3.out.mono hsz2)) (by rw [fins_length (Nat.le_of_lt hN1)]; exact hN1)
        have hcA : cAt L len (cnts L k).length = k := hN2
        unfold cEnc at hY1
        dsimp only at hY1
        rw [hcA, ← HSt.out.1, ← HSt.out.2.1, ← HSt.out.2.2.1, ← HSt.out.2.2.2.1] at hY1
        obtain ⟨fn, tmps, assign, body, hy, hR⟩ := hY1
        clear hcA hN2
        gi_wp2
        refine ⟨fun _ => by omega, ?_⟩
        refine hR.mono ?_
        rintro e W3 ⟨hst, ⟨rfl, hJ3, hk3⟩ | ⟨rfl, hJx3⟩⟩
        · gi_wp2
          go_roundw
          case rel => exact ⟨k + 1, by omega, by simp, by rw [hN3, fins_succ hN1]; exact hJ3, (HNx.out.trans (B3.out.mono hwn)).trans hk3, Nat.le_trans (Nat.le_trans hsz2 hs3) hst.1⟩
          case measure => simp [intOf]; omega
        · gi_wp2
          refine bodyPost_ret (results_none rfl _ _ _) rfl ?_
          exact ⟨⟨_, rfl⟩, .inr ⟨_, by rw [← fins_succ hN1]; exact fins_prefix _ _, hJx3⟩⟩
    · obtain rfl : k = len := by omega
      gi_wp2
      go_end0
      exact ⟨⟨_, rfl⟩, .inl ⟨_, fins_all _, hJs⟩⟩
end Go.Proofs.Ytfnojmkiajdoaaa
