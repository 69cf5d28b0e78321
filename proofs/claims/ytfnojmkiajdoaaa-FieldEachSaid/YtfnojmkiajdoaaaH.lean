/-
  A field's line; does a line say it.
-/
import Derived.Test.YtfnojmkiajdoaaaG
namespace Go.Proofs.Ytfnojmkiajdoaaa
open Go.RowKit
set_option linter.unusedVariables false
set_option linter.unusedSimpArgs false

/-- Bytes, and not too many. -/
structure Fd.Ok (f : Fd) : Prop where
  n : Byt f.n
  v : Byt f.v
  l : f.n.length + f.v.length ≤ 2000
  k0 : -9223372036854775808 ≤ f.k
  k1 : f.k ≤ 9223372036854775807
theorem ofF_k (xs : List Int) : 1 ≤ (ofF xs).k ∧ (ofF xs).k ≤ 7 := by
  rcases ofF_cases xs with ⟨_, e⟩ | ⟨r, _, e⟩ | ⟨h0, h1, _, e⟩ | ⟨k, n, v, _, _, _, _, _, h0, h1, e⟩
  · rw [e]; decide
  · rw [e]; simp
  · rw [e]; have := kindOf_range xs; simp only; omega
  · rw [e]; have := kindOf_range n; simp only; omega
theorem Fd.Ok.of {xs : List Int} (hb : Byt xs) (hl : xs.length ≤ 2000) : (ofF xs).Ok :=
  ⟨(ofF_byt hb).1, (ofF_byt hb).2, Nat.le_trans (ofF_len xs) hl, by have := ofF_k xs; omega, by have := ofF_k xs; omega⟩
theorem refOf9 (xs : List Int) (hb : Byt xs) (hl : xs.length ≤ 100000) (w : World) : Calls Try.prog 9 #[.string (strOfNums xs)] w fun e w' => e = .returned (fdV (ofF xs)) ∧ Below w.heap.size w w' := by
  rcases ofF_cases xs with ⟨e1, e2⟩ | ⟨r, e1, e2⟩ | ⟨h0, h1, ha, e2⟩ | ⟨k, n, v, ha, hn, hv, hk, hs, h0, h1, e2⟩
  · rw [e2, e1]; exact refOf_empty w
  · rw [e2, e1]
    rw [e1] at hb hl
    simp only [List.length_cons] at hl
    exact refOf_comment r (Byt.cons.1 hb).2 (by omega) w
  · rw [e2]; exact refOf_name xs hb hl h0 h1 w
  · rw [e2]; exact refOf_both xs hb hl k n v hk hs (by rw [hn, List.length_take]; omega) h0 h1 w
def fdNe (a : Int) (s t : ByteArray) (b : Int) (s' t' : ByteArray) : Bool := !(decide ((a, s, t) = (b, s', t')))
def fdEq (a : Int) (s t : ByteArray) (b : Int) (s' t' : ByteArray) : Bool := decide ((a, s, t) = (b, s', t'))
theorem neq25 (a : Int) (s t : ByteArray) (b : Int) (s' t' : ByteArray) (w : World) :
    (binOp .neq 25 (.agg #[.int .i64 a, .string s, .string t]) (.agg #[.int .i64 b, .string s', .string t'])).run Try.prog w = .ok (.bool (fdNe a s t b s' t')) w := by
  have hs : ∀ x y : ByteArray, x.toList = y.toList ↔ x = y := fun x y => by
    have h := toList_beq x y (x = y) Iff.rfl
    rw [Bool.eq_iff_iff] at h
    simpa using h
  unfold fdNe
  go_simp
  by_cases h1 : a = b <;> by_cases h2 : s = s' <;> by_cases h3 : t = t' <;> simp [h1, h2, h3, hs]
theorem eql25 (a : Int) (s t : ByteArray) (b : Int) (s' t' : ByteArray) (w : World) :
    (binOp .eql 25 (.agg #[.int .i64 a, .string s, .string t]) (.agg #[.int .i64 b, .string s', .string t'])).run Try.prog w = .ok (.bool (fdEq a s t b s' t')) w := by
  have hs : ∀ x y : ByteArray, x.toList = y.toList ↔ x = y := fun x y => by
    have h := toList_beq x y (x = y) Iff.rfl
    rw [Bool.eq_iff_iff] at h
    simpa using h
  unfold fdEq
  go_simp
  by_cases h1 : a = b <;> by_cases h2 : s = s' <;> by_cases h3 : t = t' <;> simp [h1, h2, h3, hs]
attribute [local go_sem high] neq25 eql25
theorem fd_eq {f g : Fd} (hf : Byt f.n ∧ Byt f.v) (hg : Byt g.n ∧ Byt g.v) : fdEq f.k (strOfNums f.n) (strOfNums f.v) g.k (strOfNums g.n) (strOfNums g.v) = decide (f = g) := by
  unfold fdEq
  have : (f.k, strOfNums f.n, strOfNums f.v) = (g.k, strOfNums g.n, strOfNums g.v) ↔ f = g := by
    rw [Prod.mk.injEq, Prod.mk.injEq, str_eq hf.1 hg.1, str_eq hf.2 hg.2]
    cases f; cases g
    simp
  simp only [this]
theorem fd_ne {f g : Fd} (hf : Byt f.n ∧ Byt f.v) (hg : Byt g.n ∧ Byt g.v) : fdNe f.k (strOfNums f.n) (strOfNums f.v) g.k (strOfNums g.n) (strOfNums g.v) = !decide (f = g) := by
  have := fd_eq hf hg
  unfold fdEq at this
  unfold fdNe
  rw [this]
/-- Does a line say it? -/
def rightF (f : Fd) : Bool := decide (ofF (lineF f) = f)
/-- The parts of a field's line, as texts. -/
theorem line_cases (f : Fd) (h : f.Ok) : ∃ (N V L : ByteArray), N = strOfNums f.n ∧ V = strOfNums f.v ∧ L = strOfNums (lineF f) ∧ N.size ≤ 2000 ∧ V.size ≤ 2000 ∧ ((f.k = 2 ∧ (⟨#[58]⟩ : ByteArray) ++ V = L) ∨ (f.k ≠ 2 ∧ (V.toList == []) = true ∧ L = N) ∨ (f.k ≠ 2 ∧ (V.toList == []) = false ∧ N ++ ((⟨#[58, 32]⟩ : ByteArray) ++ V) = L ∧ (N ++ (⟨#[58, 32]⟩ : ByteArray)) ++ V = L)) := by
  have hl := h.l
  refine ⟨_, _, _, rfl, rfl, rfl, by rw [strOfNums_size]; omega, by rw [strOfNums_size]; omega, ?_⟩
  by_cases hk : f.k = 2
  · refine .inl ⟨hk, ?_⟩
    have : (⟨#[58]⟩ : ByteArray) = strOfNums [58] := rfl
    rw [this, str_append]
    unfold lineF
    rw [if_pos hk]
    rfl
  · by_cases hv : f.v = []
    · refine .inr (.inl ⟨hk, str_isnil true (by simp [hv]), ?_⟩)
      unfold lineF
      rw [if_neg hk, if_pos hv]
    · have e : (⟨#[58, 32]⟩ : ByteArray) = strOfNums [58, 32] := rfl
      refine .inr (.inr ⟨hk, str_isnil false (by simp [hv]), ?_, ?_⟩)
      · rw [e, str_append, str_append]
        unfold lineF
        rw [if_neg hk, if_neg hv]
        rfl
      · rw [e, str_append, str_append]
        unfold lineF
        rw [if_neg hk, if_neg hv, List.append_assoc]
        rfl

set_option maxHeartbeats 1600000 in
theorem refLine15 (f : Fd) (h : f.Ok) (w : World) : Calls Try.prog 15 #[fdV f] w fun e w' => e = .returned (.string (strOfNums (lineF f))) ∧ Below w.heap.size w w' := by
  obtain ⟨N, V, L, hN, hV, hL, hNs, hVs, hc⟩ := line_cases f h
  obtain ⟨k, hk⟩ : ∃ k, k = f.k := ⟨_, rfl⟩
  have hB : Below w.heap.size w (w.alloc (.cells #[.int .i64 k, .string N, .string V] 25)) := (Below.refl _ w).alloc (Nat.le_refl _) _
  unfold fdV
  rw [← hN, ← hV, ← hL, ← hk]
  rw [← hk] at hc
  have HB := Lib.hid hB
  clear hN hV hL hk hB
  rcases hc with ⟨rfl, hx⟩ | ⟨h2, hx, rfl⟩ | ⟨h2, hx, _, hy⟩
  · go_enter Try.func15, Try.ntmps15
    go_wp2
    go_ret
    exact ⟨rfl, HB.out⟩
  · have d : (k == 2) = false := by simpa using h2
    clear h2
    go_enter Try.func15, Try.ntmps15
    go_wp2
    go_ret
    exact ⟨rfl, HB.out⟩
  · have d : (k == 2) = false := by simpa using h2
    clear h2
    go_enter Try.func15, Try.ntmps15
    go_wp2
    go_ret
    exact ⟨rfl, HB.out⟩
set_option maxHeartbeats 3200000 in
theorem Line12 (f : Fd) (h : f.Ok) (w : World) : Calls Try.prog 12 #[fdV f] w fun e w' => e = .returned (.tuple #[.string (strOfNums (if rightF f = true then lineF f else [])), .int .i64 (if rightF f = true then 0 else 2)]) ∧ Below w.heap.size w w' := by
  obtain ⟨N, V, L, hN, hV, hL, hNs, hVs, hc⟩ := line_cases f h
  obtain ⟨k, hk⟩ : ∃ k, k = f.k := ⟨_, rfl⟩
  obtain ⟨A, hA⟩ : ∃ A, A = w.heap.size := ⟨_, rfl⟩
  obtain ⟨w1, hw1⟩ : ∃ W, W = w.alloc (.cells #[.int .i64 k, .string N, .string V] 25) := ⟨_, rfl⟩
  obtain ⟨w2, hw2⟩ : ∃ W, W = w1.alloc (.cells #[.int .i64 k, .string N, .string V] 48) := ⟨_, rfl⟩
  have s1 : w1.heap.size = A + 1 := by rw [hw1, hA]; simp
  have b1 : Below w.heap.size w w1 := by rw [hw1]; exact (Below.refl _ w).alloc (Nat.le_refl _) _
  have b2 : Below w.heap.size w w2 := by rw [hw2]; exact b1.alloc b1.size _
  have k1 : w2.heap[A]? = some (.cells #[.int .i64 k, .string N, .string V] 25 (0, 0)) := by rw [hw2]; refine alloc_blk ?_ _; rw [hw1, hA]; exact alloc_blk_new _ _
  have k2 : w2.heap[A + 1]? = some (.cells #[.int .i64 k, .string N, .string V] 48 (0, 0)) := by rw [hw2, ← s1]; exact alloc_blk_new _ _
  have hlb := lineF_byt h.n h.v
  have hll : (lineF f).length ≤ 2010 := by have := lineF_len f; have := h.l; omega
  obtain ⟨g, hg⟩ : ∃ g, g = ofF (lineF f) := ⟨_, rfl⟩
  obtain ⟨gk, hgk⟩ : ∃ x, x = g.k := ⟨_, rfl⟩
  obtain ⟨gn, hgn⟩ : ∃ x, x = strOfNums g.n := ⟨_, rfl⟩
  obtain ⟨gv, hgv⟩ : ∃ x, x = strOfNums g.v := ⟨_, rfl⟩
  have HOf : Hid (∀ W, Calls Try.prog 8 #[.string L] W fun e w' => e = .returned (.agg #[.int .i64 gk, .string gn, .string gv]) ∧ Below W.heap.size W w') := Lib.hid fun W => by
    rw [hL, hgk, hgn, hgv, hg]; exact Of8 (lineF f) hlb (by omega) W
  obtain ⟨r, hr⟩ : ∃ r, r = rightF f := ⟨_, rfl⟩
  have hne : fdNe gk gn gv k N V = !r := by
    rw [hgk, hgn, hgv, hk, hN, hV, fd_ne (by rw [hg]; exact ofF_byt hlb) ⟨h.n, h.v⟩, hr, hg]; rfl
  have HCP : Hid (∀ W, Below w2.heap.size w2 W → W.cell? ⟨A, 0, none⟩ = some (.int .i64 k) ∧ W.cell? ⟨A, 1, none⟩ = some (.string N) ∧ W.cell? ⟨A, 2, none⟩ = some (.string V)) := Lib.hid fun W hW => by
    have q := (hW.block _ (blk_lt k1)).trans k1
    exact ⟨cell_blk q 0 _ rfl, cell_blk q 1 _ rfl, cell_blk q 2 _ rfl⟩
  have hres : ∀ (w' : World) (v : Value), v = .tuple #[.string (if r = true then L else ⟨#[]⟩), .int .i64 (if r = true then 0 else 2)] → v = .tuple #[.string (strOfNums (if rightF f = true then lineF f else [])), .int .i64 (if rightF f = true then 0 else 2)] := fun w' v e => by
    rw [e, ← hr, hL]
    cases r <;> rfl
  unfold fdV
  rw [← hN, ← hV, ← hk]
  rw [← hk] at hc
  have EA := Lib.hid hA
  have E1 := Lib.hid hw1
  have E2 := Lib.hid hw2
  have S1 := Lib.hid s1
  have B2 := Lib.hid b2
  have HRes := Lib.hid hres
  have c0 := cell_blk k2 0 _ rfl
  have c1 := cell_blk k2 1 _ rfl
  have c2 := cell_blk k2 2 _ rfl
  have cl := blk_lt k2
  clear hN hV hL hk hA hw1 hw2 s1 b1 b2 k1 k2 hlb hll hg hgk hgn hgv hr hres h
  rcases hc with ⟨rfl, hx⟩ | ⟨h2, hx, rfl⟩ | ⟨h2, hx, hy, _⟩
  · cases r with
    | true =>
      simp only [Bool.not_true] at hne
      go_enter Try.func12, Try.ntmps12
      go_wp2
      refine wp_scope_fwd 0 rfl ?_
      go_upto_region 7 with fail
      rw [← EA.out, ← E1.out, ← E2.out]
      refine wp_region_held_drew (S := fun W => Below w2.heap.size w2 W) (by kernel_rfl) (Below.drewN' w2 1) (fun hHeld => ?_)
      generalize w2.drew = wd at hHeld ⊢
      refine' wpAnyH_take (i := 0) (oi := { dst := some 30, op := Op.move (Operand.tmp 2), type := 9, pos := "field.go:70", after := #[], guard := none }) (v := ?v2001) rfl (by kernel_rfl) (by kernel_rfl) (by kernel_rfl) (fun _ _ _ h => h) (.inl ⟨by first | rfl | simp [Region.wanted, yielded], ?hy2001⟩) (by assumption) ?rest2001
      case hy2001 => (intro W hW; obtain ⟨f1, f2, f3⟩ := HCP.out _ hW; go_simp; try with_reducible rfl)
      simp only [Act.put, List.setIfInBounds_toArray, List.set_cons_zero, List.set_cons_succ]
      refine' wpAnyH_take (i := 2) (oi := { dst := some 32, op := Op.load 25 (Operand.tmp 1), type := 25, pos := "field.go:70", after := #[], guard := none }) (v := ?v2002) rfl (by kernel_rfl) (by kernel_rfl) (by kernel_rfl) (fun _ _ _ h => h) (.inl ⟨by first | rfl | simp [Region.wanted, yielded], ?hy2002⟩) (by assumption) ?rest2002
      case hy2002 => (intro W hW; obtain ⟨f1, f2, f3⟩ := HCP.out _ hW; go_simp; try with_reducible rfl)
      simp only [Act.put, List.setIfInBounds_toArray, List.set_cons_zero, List.set_cons_succ]
      refine wpAnyH_ready (rs := [1]) (by kernel_rfl) (by simp) ?_
      refine AllReadyH.cons (o := { dst := some 31, op := Op.call { callee := Callee.value (Operand.func 8), args := #[Operand.tmp 30], argTypes := #[9] }, type := 25, pos := "field.go:70", after := #[{ on := 0, ground := Ground.data }], guard := none }) rfl (fun K hK => ?_) (AllReadyH.nil)
      try simp only [List.getElem_toArray, List.getElem_cons_succ, List.getElem_cons_zero]
      go_simp
      refine (HOf.out _).mono ?_
      rintro e w5 ⟨rfl, hb5⟩
      have HB5 := hHeld.trans (hb5.mono hHeld.size)
      refine hK.out _ _ HB5 (fun hHeld => ?_)
      clear hK K
      try simp only [Act.put, List.setIfInBounds_toArray, List.set_cons_zero, List.set_cons_succ]
      refine' wpAnyH_take (i := 3) (oi := { dst := some 33, op := Op.binOp BinOp.neq 25 (Operand.tmp 31) (Operand.tmp 32) 25, type := 4, pos := "field.go:70", after := #[{ on := 1, ground := Ground.data }, { on := 2, ground := Ground.data }], guard := none }) (v := ?v2003) rfl (by kernel_rfl) (by kernel_rfl) (by kernel_rfl) (fun _ _ _ h => h) (.inl ⟨by first | rfl | simp [Region.wanted, yielded], ?hy2003⟩) (by assumption) ?rest2003
      case hy2003 => (intro W hW; obtain ⟨f1, f2, f3⟩ := HCP.out _ hW; go_simp; try with_reducible rfl)
      simp only [Act.put, List.setIfInBounds_toArray, List.set_cons_zero, List.set_cons_succ]
      refine wpAnyH_done (by kernel_rfl) ?_ _
      have HBz := Lib.hid (B2.out.trans (hHeld.mono B2.out.size))
      go_wp2
      show Exit.noGoto _ Exit.ret _ _
      rw [Exit.noGoto_ret]
      go_ret2
      exact ⟨congrArg _ (HRes.out w5 _ rfl), HBz.out⟩
    | false =>
      simp only [Bool.not_false] at hne
      go_enter Try.func12, Try.ntmps12
      go_wp2
      refine wp_scope_fwd 0 rfl ?_
      go_upto_region 7 with fail
      rw [← EA.out, ← E1.out, ← E2.out]
      refine wp_region_held_drew (S := fun W => Below w2.heap.size w2 W) (by kernel_rfl) (Below.drewN' w2 1) (fun hHeld => ?_)
      generalize w2.drew = wd at hHeld ⊢
      refine' wpAnyH_take (i := 0) (oi := { dst := some 30, op := Op.move (Operand.tmp 2), type := 9, pos := "field.go:70", after := #[], guard := none }) (v := ?v4001) rfl (by kernel_rfl) (by kernel_rfl) (by kernel_rfl) (fun _ _ _ h => h) (.inl ⟨by first | rfl | simp [Region.wanted, yielded], ?hy4001⟩) (by assumption) ?rest4001
      case hy4001 => (intro W hW; obtain ⟨f1, f2, f3⟩ := HCP.out _ hW; go_simp; try with_reducible rfl)
      simp only [Act.put, List.setIfInBounds_toArray, List.set_cons_zero, List.set_cons_succ]
      refine' wpAnyH_take (i := 2) (oi := { dst := some 32, op := Op.load 25 (Operand.tmp 1), type := 25, pos := "field.go:70", after := #[], guard := none }) (v := ?v4002) rfl (by kernel_rfl) (by kernel_rfl) (by kernel_rfl) (fun _ _ _ h => h) (.inl ⟨by first | rfl | simp [Region.wanted, yielded], ?hy4002⟩) (by assumption) ?rest4002
      case hy4002 => (intro W hW; obtain ⟨f1, f2, f3⟩ := HCP.out _ hW; go_simp; try with_reducible rfl)
      simp only [Act.put, List.setIfInBounds_toArray, List.set_cons_zero, List.set_cons_succ]
      refine wpAnyH_ready (rs := [1]) (by kernel_rfl) (by simp) ?_
      refine AllReadyH.cons (o := { dst := some 31, op := Op.call { callee := Callee.value (Operand.func 8), args := #[Operand.tmp 30], argTypes := #[9] }, type := 25, pos := "field.go:70", after := #[{ on := 0, ground := Ground.data }], guard := none }) rfl (fun K hK => ?_) (AllReadyH.nil)
      try simp only [List.getElem_toArray, List.getElem_cons_succ, List.getElem_cons_zero]
      go_simp
      refine (HOf.out _).mono ?_
      rintro e w5 ⟨rfl, hb5⟩
      have HB5 := hHeld.trans (hb5.mono hHeld.size)
      refine hK.out _ _ HB5 (fun hHeld => ?_)
      clear hK K
      try simp only [Act.put, List.setIfInBounds_toArray, List.set_cons_zero, List.set_cons_succ]
      refine' wpAnyH_take (i := 3) (oi := { dst := some 33, op := Op.binOp BinOp.neq 25 (Operand.tmp 31) (Operand.tmp 32) 25, type := 4, pos := "field.go:70", after := #[{ on := 1, ground := Ground.data }, { on := 2, ground := Ground.data }], guard := none }) (v := ?v4003) rfl (by kernel_rfl) (by kernel_rfl) (by kernel_rfl) (fun _ _ _ h => h) (.inl ⟨by first | rfl | simp [Region.wanted, yielded], ?hy4003⟩) (by assumption) ?rest4003
      case hy4003 => (intro W hW; obtain ⟨f1, f2, f3⟩ := HCP.out _ hW; go_simp; try with_reducible rfl)
      simp only [Act.put, List.setIfInBounds_toArray, List.set_cons_zero, List.set_cons_succ]
      refine wpAnyH_done (by kernel_rfl) ?_ _
      have HBz := Lib.hid (B2.out.trans (hHeld.mono B2.out.size))
      go_wp2
      refine wp_goto ?_
      refine ⟨rfl, ?_⟩
      go_wp2
      rw [Exit.noGoto_ret]
      go_ret2
      exact ⟨congrArg _ (HRes.out w5 _ rfl), HBz.out⟩
  · have d : (k == 2) = false := by simpa using h2
    clear h2
    cases r with
    | true =>
      simp only [Bool.not_true] at hne
      go_enter Try.func12, Try.ntmps12
      go_wp2
      refine wp_scope_fwd 0 rfl ?_
      go_upto_region 7 with fail
      rw [← EA.out, ← E1.out, ← E2.out]
      refine wp_region_held_drew (S := fun W => Below w2.heap.size w2 W) (by kernel_rfl) (Below.drewN' w2 1) (fun hHeld => ?_)
      generalize w2.drew = wd at hHeld ⊢
      refine' wpAnyH_take (i := 0) (oi := { dst := some 30, op := Op.move (Operand.tmp 2), type := 9, pos := "field.go:70", after := #[], guard := none }) (v := ?v6001) rfl (by kernel_rfl) (by kernel_rfl) (by kernel_rfl) (fun _ _ _ h => h) (.inl ⟨by first | rfl | simp [Region.wanted, yielded], ?hy6001⟩) (by assumption) ?rest6001
      case hy6001 => (intro W hW; obtain ⟨f1, f2, f3⟩ := HCP.out _ hW; go_simp; try with_reducible rfl)
      simp only [Act.put, List.setIfInBounds_toArray, List.set_cons_zero, List.set_cons_succ]
      refine' wpAnyH_take (i := 2) (oi := { dst := some 32, op := Op.load 25 (Operand.tmp 1), type := 25, pos := "field.go:70", after := #[], guard := none }) (v := ?v6002) rfl (by kernel_rfl) (by kernel_rfl) (by kernel_rfl) (fun _ _ _ h => h) (.inl ⟨by first | rfl | simp [Region.wanted, yielded], ?hy6002⟩) (by assumption) ?rest6002
      case hy6002 => (intro W hW; obtain ⟨f1, f2, f3⟩ := HCP.out _ hW; go_simp; try with_reducible rfl)
      simp only [Act.put, List.setIfInBounds_toArray, List.set_cons_zero, List.set_cons_succ]
      refine wpAnyH_ready (rs := [1]) (by kernel_rfl) (by simp) ?_
      refine AllReadyH.cons (o := { dst := some 31, op := Op.call { callee := Callee.value (Operand.func 8), args := #[Operand.tmp 30], argTypes := #[9] }, type := 25, pos := "field.go:70", after := #[{ on := 0, ground := Ground.data }], guard := none }) rfl (fun K hK => ?_) (AllReadyH.nil)
      try simp only [List.getElem_toArray, List.getElem_cons_succ, List.getElem_cons_zero]
      go_simp
      refine (HOf.out _).mono ?_
      rintro e w5 ⟨rfl, hb5⟩
      have HB5 := hHeld.trans (hb5.mono hHeld.size)
      refine hK.out _ _ HB5 (fun hHeld => ?_)
      clear hK K
      try simp only [Act.put, List.setIfInBounds_toArray, List.set_cons_zero, List.set_cons_succ]
      refine' wpAnyH_take (i := 3) (oi := { dst := some 33, op := Op.binOp BinOp.neq 25 (Operand.tmp 31) (Operand.tmp 32) 25, type := 4, pos := "field.go:70", after := #[{ on := 1, ground := Ground.data }, { on := 2, ground := Ground.data }], guard := none }) (v := ?v6003) rfl (by kernel_rfl) (by kernel_rfl) (by kernel_rfl) (fun _ _ _ h => h) (.inl ⟨by first | rfl | simp [Region.wanted, yielded], ?hy6003⟩) (by assumption) ?rest6003
      case hy6003 => (intro W hW; obtain ⟨f1, f2, f3⟩ := HCP.out _ hW; go_simp; try with_reducible rfl)
      simp only [Act.put, List.setIfInBounds_toArray, List.set_cons_zero, List.set_cons_succ]
      refine wpAnyH_done (by kernel_rfl) ?_ _
      have HBz := Lib.hid (B2.out.trans (hHeld.mono B2.out.size))
      go_wp2
      show Exit.noGoto _ Exit.ret _ _
      rw [Exit.noGoto_ret]
      go_ret2
      exact ⟨congrArg _ (HRes.out w5 _ rfl), HBz.out⟩
    | false =>
      simp only [Bool.not_false] at hne
      go_enter Try.func12, Try.ntmps12
      go_wp2
      refine wp_scope_fwd 0 rfl ?_
      go_upto_region 7 with fail
      rw [← EA.out, ← E1.out, ← E2.out]
      refine wp_region_held_drew (S := fun W => Below w2.heap.size w2 W) (by kernel_rfl) (Below.drewN' w2 1) (fun hHeld => ?_)
      generalize w2.drew = wd at hHeld ⊢
      refine' wpAnyH_take (i := 0) (oi := { dst := some 30, op := Op.move (Operand.tmp 2), type := 9, pos := "field.go:70", after := #[], guard := none }) (v := ?v8001) rfl (by kernel_rfl) (by kernel_rfl) (by kernel_rfl) (fun _ _ _ h => h) (.inl ⟨by first | rfl | simp [Region.wanted, yielded], ?hy8001⟩) (by assumption) ?rest8001
      case hy8001 => (intro W hW; obtain ⟨f1, f2, f3⟩ := HCP.out _ hW; go_simp; try with_reducible rfl)
      simp only [Act.put, List.setIfInBounds_toArray, List.set_cons_zero, List.set_cons_succ]
      refine' wpAnyH_take (i := 2) (oi := { dst := some 32, op := Op.load 25 (Operand.tmp 1), type := 25, pos := "field.go:70", after := #[], guard := none }) (v := ?v8002) rfl (by kernel_rfl) (by kernel_rfl) (by kernel_rfl) (fun _ _ _ h => h) (.inl ⟨by first | rfl | simp [Region.wanted, yielded], ?hy8002⟩) (by assumption) ?rest8002
      case hy8002 => (intro W hW; obtain ⟨f1, f2, f3⟩ := HCP.out _ hW; go_simp; try with_reducible rfl)
      simp only [Act.put, List.setIfInBounds_toArray, List.set_cons_zero, List.set_cons_succ]
      refine wpAnyH_ready (rs := [1]) (by kernel_rfl) (by simp) ?_
      refine AllReadyH.cons (o := { dst := some 31, op := Op.call { callee := Callee.value (Operand.func 8), args := #[Operand.tmp 30], argTypes := #[9] }, type := 25, pos := "field.go:70", after := #[{ on := 0, ground := Ground.data }], guard := none }) rfl (fun K hK => ?_) (AllReadyH.nil)
      try simp only [List.getElem_toArray, List.getElem_cons_succ, List.getElem_cons_zero]
      go_simp
      refine (HOf.out _).mono ?_
      rintro e w5 ⟨rfl, hb5⟩
      have HB5 := hHeld.trans (hb5.mono hHeld.size)
      refine hK.out _ _ HB5 (fun hHeld => ?_)
      clear hK K
      try simp only [Act.put, List.setIfInBounds_toArray, List.set_cons_zero, List.set_cons_succ]
      refine' wpAnyH_take (i := 3) (oi := { dst := some 33, op := Op.binOp BinOp.neq 25 (Operand.tmp 31) (Operand.tmp 32) 25, type := 4, pos := "field.go:70", after := #[{ on := 1, ground := Ground.data }, { on := 2, ground := Ground.data }], guard := none }) (v := ?v8003) rfl (by kernel_rfl) (by kernel_rfl) (by kernel_rfl) (fun _ _ _ h => h) (.inl ⟨by first | rfl | simp [Region.wanted, yielded], ?hy8003⟩) (by assumption) ?rest8003
      case hy8003 => (intro W hW; obtain ⟨f1, f2, f3⟩ := HCP.out _ hW; go_simp; try with_reducible rfl)
      simp only [Act.put, List.setIfInBounds_toArray, List.set_cons_zero, List.set_cons_succ]
      refine wpAnyH_done (by kernel_rfl) ?_ _
      have HBz := Lib.hid (B2.out.trans (hHeld.mono B2.out.size))
      go_wp2
      refine wp_goto ?_
      refine ⟨rfl, ?_⟩
      go_wp2
      rw [Exit.noGoto_ret]
      go_ret2
      exact ⟨congrArg _ (HRes.out w5 _ rfl), HBz.out⟩
  · have d : (k == 2) = false := by simpa using h2
    clear h2
    cases r with
    | true =>
      simp only [Bool.not_true] at hne
      go_enter Try.func12, Try.ntmps12
      go_wp2
      refine wp_scope_fwd 0 rfl ?_
      go_upto_region 7 with fail
      rw [← EA.out, ← E1.out, ← E2.out]
      refine wp_region_held_drew (S := fun W => Below w2.heap.size w2 W) (by kernel_rfl) (Below.drewN' w2 1) (fun hHeld => ?_)
      generalize w2.drew = wd at hHeld ⊢
      refine' wpAnyH_take (i := 0) (oi := { dst := some 30, op := Op.move (Operand.tmp 2), type := 9, pos := "field.go:70", after := #[], guard := none }) (v := ?v10001) rfl (by kernel_rfl) (by kernel_rfl) (by kernel_rfl) (fun _ _ _ h => h) (.inl ⟨by first | rfl | simp [Region.wanted, yielded], ?hy10001⟩) (by assumption) ?rest10001
      case hy10001 => (intro W hW; obtain ⟨f1, f2, f3⟩ := HCP.out _ hW; go_simp; try with_reducible rfl)
      simp only [Act.put, List.setIfInBounds_toArray, List.set_cons_zero, List.set_cons_succ]
      refine' wpAnyH_take (i := 2) (oi := { dst := some 32, op := Op.load 25 (Operand.tmp 1), type := 25, pos := "field.go:70", after := #[], guard := none }) (v := ?v10002) rfl (by kernel_rfl) (by kernel_rfl) (by kernel_rfl) (fun _ _ _ h => h) (.inl ⟨by first | rfl | simp [Region.wanted, yielded], ?hy10002⟩) (by assumption) ?rest10002
      case hy10002 => (intro W hW; obtain ⟨f1, f2, f3⟩ := HCP.out _ hW; go_simp; try with_reducible rfl)
      simp only [Act.put, List.setIfInBounds_toArray, List.set_cons_zero, List.set_cons_succ]
      refine wpAnyH_ready (rs := [1]) (by kernel_rfl) (by simp) ?_
      refine AllReadyH.cons (o := { dst := some 31, op := Op.call { callee := Callee.value (Operand.func 8), args := #[Operand.tmp 30], argTypes := #[9] }, type := 25, pos := "field.go:70", after := #[{ on := 0, ground := Ground.data }], guard := none }) rfl (fun K hK => ?_) (AllReadyH.nil)
      try simp only [List.getElem_toArray, List.getElem_cons_succ, List.getElem_cons_zero]
      go_simp
      refine (HOf.out _).mono ?_
      rintro e w5 ⟨rfl, hb5⟩
      have HB5 := hHeld.trans (hb5.mono hHeld.size)
      refine hK.out _ _ HB5 (fun hHeld => ?_)
      clear hK K
      try simp only [Act.put, List.setIfInBounds_toArray, List.set_cons_zero, List.set_cons_succ]
      refine' wpAnyH_take (i := 3) (oi := { dst := some 33, op := Op.binOp BinOp.neq 25 (Operand.tmp 31) (Operand.tmp 32) 25, type := 4, pos := "field.go:70", after := #[{ on := 1, ground := Ground.data }, { on := 2, ground := Ground.data }], guard := none }) (v := ?v10003) rfl (by kernel_rfl) (by kernel_rfl) (by kernel_rfl) (fun _ _ _ h => h) (.inl ⟨by first | rfl | simp [Region.wanted, yielded], ?hy10003⟩) (by assumption) ?rest10003
      case hy10003 => (intro W hW; obtain ⟨f1, f2, f3⟩ := HCP.out _ hW; go_simp; try with_reducible rfl)
      simp only [Act.put, List.setIfInBounds_toArray, List.set_cons_zero, List.set_cons_succ]
      refine wpAnyH_done (by kernel_rfl) ?_ _
      have HBz := Lib.hid (B2.out.trans (hHeld.mono B2.out.size))
      go_wp2
      show Exit.noGoto _ Exit.ret _ _
      rw [Exit.noGoto_ret]
      go_ret2
      exact ⟨congrArg _ (HRes.out w5 _ rfl), HBz.out⟩
    | false =>
      simp only [Bool.not_false] at hne
      go_enter Try.func12, Try.ntmps12
      go_wp2
      refine wp_scope_fwd 0 rfl ?_
      go_upto_region 7 with fail
      rw [← EA.out, ← E1.out, ← E2.out]
      refine wp_region_held_drew (S := fun W => Below w2.heap.size w2 W) (by kernel_rfl) (Below.drewN' w2 1) (fun hHeld => ?_)
      generalize w2.drew = wd at hHeld ⊢
      refine' wpAnyH_take (i := 0) (oi := { dst := some 30, op := Op.move (Operand.tmp 2), type := 9, pos := "field.go:70", after := #[], guard := none }) (v := ?v12001) rfl (by kernel_rfl) (by kernel_rfl) (by kernel_rfl) (fun _ _ _ h => h) (.inl ⟨by first | rfl | simp [Region.wanted, yielded], ?hy12001⟩) (by assumption) ?rest12001
      case hy12001 => (intro W hW; obtain ⟨f1, f2, f3⟩ := HCP.out _ hW; go_simp; try with_reducible rfl)
      simp only [Act.put, List.setIfInBounds_toArray, List.set_cons_zero, List.set_cons_succ]
      refine' wpAnyH_take (i := 2) (oi := { dst := some 32, op := Op.load 25 (Operand.tmp 1), type := 25, pos := "field.go:70", after := #[], guard := none }) (v := ?v12002) rfl (by kernel_rfl) (by kernel_rfl) (by kernel_rfl) (fun _ _ _ h => h) (.inl ⟨by first | rfl | simp [Region.wanted, yielded], ?hy12002⟩) (by assumption) ?rest12002
      case hy12002 => (intro W hW; obtain ⟨f1, f2, f3⟩ := HCP.out _ hW; go_simp; try with_reducible rfl)
      simp only [Act.put, List.setIfInBounds_toArray, List.set_cons_zero, List.set_cons_succ]
      refine wpAnyH_ready (rs := [1]) (by kernel_rfl) (by simp) ?_
      refine AllReadyH.cons (o := { dst := some 31, op := Op.call { callee := Callee.value (Operand.func 8), args := #[Operand.tmp 30], argTypes := #[9] }, type := 25, pos := "field.go:70", after := #[{ on := 0, ground := Ground.data }], guard := none }) rfl (fun K hK => ?_) (AllReadyH.nil)
      try simp only [List.getElem_toArray, List.getElem_cons_succ, List.getElem_cons_zero]
      go_simp
      refine (HOf.out _).mono ?_
      rintro e w5 ⟨rfl, hb5⟩
      have HB5 := hHeld.trans (hb5.mono hHeld.size)
      refine hK.out _ _ HB5 (fun hHeld => ?_)
      clear hK K
      try simp only [Act.put, List.setIfInBounds_toArray, List.set_cons_zero, List.set_cons_succ]
      refine' wpAnyH_take (i := 3) (oi := { dst := some 33, op := Op.binOp BinOp.neq 25 (Operand.tmp 31) (Operand.tmp 32) 25, type := 4, pos := "field.go:70", after := #[{ on := 1, ground := Ground.data }, { on := 2, ground := Ground.data }], guard := none }) (v := ?v12003) rfl (by kernel_rfl) (by kernel_rfl) (by kernel_rfl) (fun _ _ _ h => h) (.inl ⟨by first | rfl | simp [Region.wanted, yielded], ?hy12003⟩) (by assumption) ?rest12003
      case hy12003 => (intro W hW; obtain ⟨f1, f2, f3⟩ := HCP.out _ hW; go_simp; try with_reducible rfl)
      simp only [Act.put, List.setIfInBounds_toArray, List.set_cons_zero, List.set_cons_succ]
      refine wpAnyH_done (by kernel_rfl) ?_ _
      have HBz := Lib.hid (B2.out.trans (hHeld.mono B2.out.size))
      go_wp2
      refine wp_goto ?_
      refine ⟨rfl, ?_⟩
      go_wp2
      rw [Exit.noGoto_ret]
      go_ret2
      exact ⟨congrArg _ (HRes.out w5 _ rfl), HBz.out⟩
end Go.Proofs.Ytfnojmkiajdoaaa
