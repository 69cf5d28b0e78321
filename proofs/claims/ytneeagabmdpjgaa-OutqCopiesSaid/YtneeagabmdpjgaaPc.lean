/-
  The document's queue: what it is to the queue's parts; Clear, Take.
-/
import Derived.Test.YtneeagabmdpjgaaPb
import Derived.BigQuiet
namespace Go.Proofs.Ytneeagabmdpjgaa
open Go.RowKit
set_option linter.unusedVariables false
set_option linter.unusedSimpArgs false

theorem goL_eq : ∀ (fs : List Int) (T t : Int) (j : Nat), (∀ x ∈ fs, 0 < x) → j ≤ fs.length → T = sumI (fs.take j) + t → 0 ≤ t → (∀ x l, fs.drop j = x :: l → t < x) → (fs.drop j = [] → t = 0) → goL fs T = (j, t)
  | [], T, t, j, _, hj, e, _, _, h => by
    simp only [List.length_nil, Nat.le_zero] at hj
    subst hj
    simp only [List.take_nil, sumI, Int.zero_add] at e
    rw [goL, e]
  | x :: fs, T, t, 0, hp, _, e, h0, h1, _ => by
    have := h1 x fs rfl
    simp only [List.take_zero, sumI, Int.zero_add] at e
    rw [goL, if_neg (by omega), e]
  | x :: fs, T, t, j + 1, hp, hj, e, h0, h1, h2 => by
    simp only [List.take_succ_cons, sumI] at e
    have hs : 0 ≤ sumI (fs.take j) := by
      have := sumI_len (l := fs.take j) (fun y hy => hp y (by simp [List.mem_of_mem_take hy]))
      omega
    have := goL_eq fs (T - x) t j (fun y hy => hp y (by simp [hy])) (by simpa using hj) (by omega) h0 (by simpa using h1) (by simpa using h2)
    rw [goL, if_pos (by omega), this]
theorem str_extract (xs : List Int) (a b : Nat) : (strOfNums xs).extract a b = strOfNums ((xs.take b).drop a) := by
  apply ByteArray.ext
  apply Array.ext'
  simp [strOfNums_data, List.drop_take, List.map_drop, List.map_take]
theorem str_from (xs : List Int) (a : Nat) (n : Nat) (h : xs.length = n) : (strOfNums xs).extract a n = strOfNums (xs.drop a) := by
  rw [str_extract, List.take_of_length_le (by omega)]
theorem str_to (xs : List Int) (b : Nat) : (strOfNums xs).extract 0 b = strOfNums (xs.take b) := by
  rw [str_extract, List.drop_zero]
theorem totS_map (ls : List (List Int)) : totS (ls.map strOfNums) = ls.flatten.length := by
  induction ls with
  | nil => rfl
  | cons l ls ih => simp only [List.map_cons, totS, ih, strOfNums_size, List.flatten_cons, List.length_append]
/-- The document's queue, as a value. -/
def dagg (a : Option Addr) (n c g : Nat) (m : Int) : Value := .agg #[.slice a n c, .int .i64 g, .int .i64 m]
/-- Its texts may be read. -/
structure DQ (T : Nat → Prop) (W : World) (a : Option Addr) (c : Nat) (ls : List (List Int)) : Prop where
  at_ : StrR T W a ls.length (ls.map strOfNums)
  cl : ls.length ≤ c
  cm : c ≤ maxLen
  nn : a = none → ls.length = 0 ∧ c = 0
/-- What it is to the parts of the queue. -/
structure Tie (ls : List (List Int)) (g : Nat) (fs : List Int) (part : Int) (bs : List Int) : Prop where
  fs : fs = lens ls
  part : part = g
  bs : bs = ls.flatten.drop g
section
variable {ls : List (List Int)} {g : Nat} {fs bs : List Int} {part : Int}
theorem Tie.g_le (h : Tie ls g fs part bs) (hi : OInv fs part bs) : g ≤ ls.flatten.length := by
  have h1 := hi.sum
  have h2 := h.bs
  rw [h.fs, sumI_lens, h.part, h2, List.length_drop] at h1
  omega
theorem Tie.big (h : Tie ls g fs part bs) (hi : OInv fs part bs) : ∀ l ∈ ls, l.length ≤ 1048576 := fun l hl => by
  have := hi.big l.length (by rw [h.fs]; exact List.mem_map.2 ⟨l, hl, rfl⟩)
  omega
theorem Tie.g_big (h : Tie ls g fs part bs) (hi : OInv fs part bs) : g ≤ 1048576 := by
  have := hi.part_big
  rw [h.part] at this
  omega
theorem Tie.len (h : Tie ls g fs part bs) (hi : OInv fs part bs) : (ls.flatten.length : Int) - g = bs.length := by
  have h1 := hi.sum
  rw [h.fs, sumI_lens, h.part] at h1
  omega
theorem Tie.n (h : Tie ls g fs part bs) (hi : OInv fs part bs) : ls.length ≤ bs.length := by
  have := hi.len
  rw [h.fs, lens_len] at this
  exact this
theorem Tie.flat (h : Tie ls g fs part bs) (hi : OInv fs part bs) : ls.flatten.length ≤ bs.length + 1048576 := by
  have := h.len hi
  have := h.g_big hi
  omega
theorem Tie.nil (h : Tie ls g fs part bs) : lens ls = fs := h.fs.symm
end

theorem refClear_any {T : Nat → Prop} (a : Option Addr) (n c g : Nat) (m : Int) (ls : List (List Int)) (w : World) (h : StrR T w a n (ls.map strOfNums)) (hn : n ≤ 2000000) (ht : ls.flatten.length ≤ 1000000000) (hg : g ≤ ls.flatten.length) (k : Int) (hk : (n : Int) - (if 0 < (g : Int) then 1 else 0) = k) (r : Int) (hr : (ls.flatten.length : Int) - g = r) :
    Calls Try.prog 43 #[dagg a n c g m] w fun e w' => e = .returned (.tuple #[.agg #[.slice none 0 0, .int .i64 0, .int .i64 m], .int .i64 k, .int .i64 r]) ∧ Below w.heap.size w w' := by
  have HLen : Hid (∀ W, Below w.heap.size w W → Calls Try.prog 44 #[.agg #[.slice a n c, .int .i64 g, .int .i64 m]] W fun e w' => e = .returned (.int .i64 r) ∧ Below W.heap.size W w') := Lib.hid (fun W hW => by
    have := refLen_any a n c g m (ls.map strOfNums) W (h.below hW) hn (by rw [totS_map]; exact ht) (by rw [totS_map]; exact hg)
    rw [totS_map, hr] at this
    exact this)
  have k0 := alloc_blk (alloc_blk_new w (.cells #[.slice a n c, .int .i64 g, .int .i64 m] 43)) (.cells #[.slice none 0 0, .int .i64 0, .int .i64 0] 43)
  have k1 := alloc_blk_new (w.alloc (.cells #[.slice a n c, .int .i64 g, .int .i64 m] 43)) (.cells #[.slice none 0 0, .int .i64 0, .int .i64 0] 43)
  have hb2 := (((Below.refl _ w).alloc (Nat.le_refl _) (.cells #[.slice a n c, .int .i64 g, .int .i64 m] 43)).alloc (by simp) (.cells #[.slice none 0 0, .int .i64 0, .int .i64 0] 43))
  obtain ⟨X, hX⟩ : ∃ X, X = w.heap.size := ⟨_, rfl⟩
  have s1 : (w.alloc (.cells #[.slice a n c, .int .i64 g, .int .i64 m] 43)).heap.size = X + 1 := by rw [hX]; simp
  obtain ⟨w2, hw2⟩ : ∃ W, W = (w.alloc (.cells #[.slice a n c, .int .i64 g, .int .i64 m] 43)).alloc (.cells #[.slice none 0 0, .int .i64 0, .int .i64 0] 43) := ⟨_, rfl⟩
  rw [s1] at k1
  rw [← hX] at k0
  rw [← hw2] at k0 k1 hb2
  have HB := Lib.hid hb2
  have K0 := Lib.hid k0
  have K1 := Lib.hid k1
  have E2 := Lib.hid hw2
  have EX := Lib.hid hX
  have c0 := cell_blk k0 0 _ rfl
  have c1 := cell_blk k0 1 _ rfl
  have c2 := cell_blk k0 2 _ rfl
  have lX := blk_lt k0
  have lX1 := blk_lt k1
  have d0 := cell_blk k1 0 _ rfl
  have d1 := cell_blk k1 1 _ rfl
  have d2 := cell_blk k1 2 _ rfl
  unfold dagg
  clear h k0 k1 hb2 hw2 hX s1
  by_cases hg0 : 0 < g
  · have t1 : decide ((0 : Int) < (g : Int)) = true := by simpa using hg0
    have t2 : decide (0 < g) = true := by simpa using hg0
    rw [if_pos (by omega)] at hk
    go_enter Try.func43, Try.ntmps43
    go_upto_region 4 with fail
    rw [← E2.out, ← EX.out]
    obtain ⟨wd, hwd⟩ : ∃ W, W = (w2).drew := ⟨_, rfl⟩
    have HBd : Hid (Below (w2).heap.size (w2) wd) := Lib.hid (by rw [hwd]; exact Below.drewN' (w2) 1)
    have hS0 : (fun W : World => W.cell? ⟨X, 0, none⟩ = some (.slice a n c) ∧ W.cell? ⟨X, 1, none⟩ = some (.int .i64 g) ∧ W.cell? ⟨X, 2, none⟩ = some (.int .i64 m)) wd := by rw [hwd]; exact ⟨c0, c1, c2⟩
    refine wp_region_held_drew (S := fun W => W.cell? ⟨X, 0, none⟩ = some (.slice a n c) ∧ W.cell? ⟨X, 1, none⟩ = some (.int .i64 g) ∧ W.cell? ⟨X, 2, none⟩ = some (.int .i64 m)) (by kernel_rfl) (by rw [← hwd]; exact hS0) (fun hHeld => ?_)
    rw [← hwd] at hHeld ⊢
    clear hwd hS0
    refine' wpAnyH_take (i := 0) (oi := { dst := some 14, op := Op.fieldAddr 43 (Operand.tmp 1) 2, type := 0, pos := "ref.go:80", after := #[], guard := none }) (v := ?v1001) rfl (by kernel_rfl) (by kernel_rfl) (by kernel_rfl) (fun _ _ _ h => h) (.inl ⟨by first | rfl | simp [Region.wanted, yielded], ?hy1001⟩) (by assumption) ?rest1001
    case hy1001 => (intro W hW; obtain ⟨f1, f2, f3⟩ := hW; go_simp; try with_reducible rfl)
    simp only [Act.put, List.setIfInBounds_toArray, List.set_cons_zero, List.set_cons_succ]
    refine' wpAnyH_take (i := 1) (oi := { dst := some 15, op := Op.load 3 (Operand.tmp 14), type := 3, pos := "ref.go:80", after := #[{ on := 0, ground := Ground.data }], guard := none }) (v := ?v1002) rfl (by kernel_rfl) (by kernel_rfl) (by kernel_rfl) (fun _ _ _ h => h) (.inl ⟨by first | rfl | simp [Region.wanted, yielded], ?hy1002⟩) (by assumption) ?rest1002
    case hy1002 => (intro W hW; obtain ⟨f1, f2, f3⟩ := hW; go_simp; try with_reducible rfl)
    simp only [Act.put, List.setIfInBounds_toArray, List.set_cons_zero, List.set_cons_succ]
    refine' wpAnyH_take (i := 2) (oi := { dst := some 16, op := Op.build 43 #[(2, Operand.tmp 15)], type := 43, pos := "ref.go:80", after := #[{ on := 1, ground := Ground.data }], guard := none }) (v := ?v1003) rfl (by kernel_rfl) (by kernel_rfl) (by kernel_rfl) (fun _ _ _ h => h) (.inl ⟨by first | rfl | simp [Region.wanted, yielded], ?hy1003⟩) (by assumption) ?rest1003
    case hy1003 => (intro W hW; obtain ⟨f1, f2, f3⟩ := hW; go_simp; try with_reducible rfl)
    simp only [Act.put, List.setIfInBounds_toArray, List.set_cons_zero, List.set_cons_succ]
    refine' wpAnyH_take (i := 3) (oi := { dst := some 17, op := Op.move (Operand.tmp 5), type := 3, pos := "ref.go:80", after := #[{ on := 6, ground := Ground.gcOnly Departure.lateStores }], guard := none }) (v := ?v1004) rfl (by kernel_rfl) (by kernel_rfl) (by kernel_rfl) (fun _ _ _ h => h) (.inl ⟨by first | rfl | simp [Region.wanted, yielded], ?hy1004⟩) (by assumption) ?rest1004
    case hy1004 => (intro W hW; obtain ⟨f1, f2, f3⟩ := hW; go_simp; try with_reducible rfl)
    simp only [Act.put, List.setIfInBounds_toArray, List.set_cons_zero, List.set_cons_succ]
    refine' wpAnyH_take (i := 4) (oi := { dst := some 18, op := Op.load 43 (Operand.tmp 1), type := 43, pos := "ref.go:80", after := #[], guard := none }) (v := ?v1005) rfl (by kernel_rfl) (by kernel_rfl) (by kernel_rfl) (fun _ _ _ h => h) (.inl ⟨by first | rfl | simp [Region.wanted, yielded], ?hy1005⟩) (by assumption) ?rest1005
    case hy1005 => (intro W hW; obtain ⟨f1, f2, f3⟩ := hW; go_simp; try with_reducible rfl)
    simp only [Act.put, List.setIfInBounds_toArray, List.set_cons_zero, List.set_cons_succ]
    refine wpAnyH_ready (rs := [5]) (by kernel_rfl) (by simp) ?_
    refine AllReadyH.cons (o := { dst := some 19, op := Op.call { callee := Callee.value (Operand.func 44), args := #[Operand.tmp 18], argTypes := #[43] }, type := 3, pos := "ref.go:80", after := #[{ on := 4, ground := Ground.data }], guard := none }) rfl (fun KK hK => ?_) (AllReadyH.nil)
    try simp only [List.getElem_toArray, List.getElem_cons_succ, List.getElem_cons_zero]
    go_simp
    refine (HLen.out wd (HB.out.trans (HBd.out.mono HB.out.size))).mono ?_
    rintro e w5 ⟨rfl, hb5⟩
    have hbb := HBd.out.trans (hb5.mono HBd.out.size)
    have kx5 := (hbb.block _ (blk_lt K0.out)).trans K0.out
    have kr5 := (hbb.block _ (blk_lt K1.out)).trans K1.out
    have HKX := Lib.hid kx5
    have HKR := Lib.hid kr5
    have HB5 := Lib.hid hbb
    have hSn : (fun W : World => W.cell? ⟨X, 0, none⟩ = some (.slice a n c) ∧ W.cell? ⟨X, 1, none⟩ = some (.int .i64 g) ∧ W.cell? ⟨X, 2, none⟩ = some (.int .i64 m)) w5 := ⟨cell_blk kx5 0 _ rfl, cell_blk kx5 1 _ rfl, cell_blk kx5 2 _ rfl⟩
    clear hb5 hbb kx5 kr5
    refine hK.out _ _ (by assumption) (fun hHeld => ?_)
    clear hK KK
    try simp only [Act.put, List.setIfInBounds_toArray, List.set_cons_zero, List.set_cons_succ]
    refine wpAnyH_ready (rs := [6]) (by kernel_rfl) (by simp) ?_
    refine AllReadyH.cons (o := { dst := none, op := Op.store 43 (Operand.tmp 2) (Operand.tmp 16), type := 0, pos := "ref.go:80", after := #[{ on := 2, ground := Ground.data }, { on := 5, ground := Ground.chain }, { on := 0, ground := Ground.phase }, { on := 1, ground := Ground.phase }, { on := 2, ground := Ground.phase }, { on := 3, ground := Ground.textOnly Departure.lateStores }, { on := 4, ground := Ground.textOnly Departure.lateStores }, { on := 5, ground := Ground.textOnly Departure.lateStoresUnsure }], guard := none }) rfl (fun KK hK => ?_) (AllReadyH.nil)
    try simp only [List.getElem_toArray, List.getElem_cons_succ, List.getElem_cons_zero]
    have e0 := cell_blk HKR.out 0 _ rfl
    have e1 := cell_blk HKR.out 1 _ rfl
    have e2 := cell_blk HKR.out 2 _ rfl
    have e3 := frozen_blk HKR.out 0
    have e4 := frozen_blk HKR.out 1
    have e5 := frozen_blk HKR.out 2
    have e6 := blk_lt HKR.out
    go_simp
    have kx6 := setCell_blk (setCell_blk (setCell_blk HKR.out 0 (.slice none 0 0)) 1 (.int .i64 0)) 2 (.int .i64 m)
    have ky6 := (Below.heap_setCell ((w5.setCell ⟨X + 1, 0, none⟩ (.slice none 0 0)).setCell ⟨X + 1, 1, none⟩ (.int .i64 0)) ⟨X + 1, 2, none⟩ (.int .i64 m) X (by simp)).trans ((Below.heap_setCell (w5.setCell ⟨X + 1, 0, none⟩ (.slice none 0 0)) ⟨X + 1, 1, none⟩ (.int .i64 0) X (by simp)).trans ((Below.heap_setCell w5 ⟨X + 1, 0, none⟩ (.slice none 0 0) X (by simp)).trans HKX.out))
    have hSn2 : (fun W : World => W.cell? ⟨X, 0, none⟩ = some (.slice a n c) ∧ W.cell? ⟨X, 1, none⟩ = some (.int .i64 g) ∧ W.cell? ⟨X, 2, none⟩ = some (.int .i64 m)) (((w5.setCell ⟨X + 1, 0, none⟩ (.slice none 0 0)).setCell ⟨X + 1, 1, none⟩ (.int .i64 0)).setCell ⟨X + 1, 2, none⟩ (.int .i64 m)) := ⟨cell_blk ky6 0 _ rfl, cell_blk ky6 1 _ rfl, cell_blk ky6 2 _ rfl⟩
    have HK6 := Lib.hid kx6
    clear e0 e1 e2 e3 e4 e5 kx6 ky6
    refine hK.out _ _ (by assumption) (fun hHeld => ?_)
    clear hK KK
    try simp only [Act.put, List.setIfInBounds_toArray, List.set_cons_zero, List.set_cons_succ]
    refine' wpAnyH_take (i := 7) (oi := { dst := some 3, op := Op.assign (Operand.tmp 17), type := 3, pos := "ref.go:80", after := #[{ on := 3, ground := Ground.data }, { on := 6, ground := Ground.chain }, { on := 0, ground := Ground.phase }, { on := 1, ground := Ground.phase }, { on := 2, ground := Ground.phase }, { on := 3, ground := Ground.phase }, { on := 4, ground := Ground.textOnly Departure.lateStores }, { on := 5, ground := Ground.textOnly Departure.lateStoresUnsure }, { on := 6, ground := Ground.phase }], guard := none }) (v := ?v1006) rfl (by kernel_rfl) (by kernel_rfl) (by kernel_rfl) (fun _ _ _ h => h) (.inl ⟨by first | rfl | simp [Region.wanted, yielded], ?hy1006⟩) (by assumption) ?rest1006
    case hy1006 => (intro W hW; obtain ⟨f1, f2, f3⟩ := hW; go_simp; try with_reducible rfl)
    simp only [Act.put, List.setIfInBounds_toArray, List.set_cons_zero, List.set_cons_succ]
    refine' wpAnyH_take (i := 8) (oi := { dst := some 4, op := Op.assign (Operand.tmp 19), type := 3, pos := "ref.go:80", after := #[{ on := 5, ground := Ground.data }, { on := 7, ground := Ground.chain }, { on := 0, ground := Ground.phase }, { on := 1, ground := Ground.phase }, { on := 2, ground := Ground.phase }, { on := 3, ground := Ground.phase }, { on := 4, ground := Ground.phase }, { on := 5, ground := Ground.phase }, { on := 6, ground := Ground.phase }, { on := 7, ground := Ground.phase }], guard := none }) (v := ?v1007) rfl (by kernel_rfl) (by kernel_rfl) (by kernel_rfl) (fun _ _ _ h => h) (.inl ⟨by first | rfl | simp [Region.wanted, yielded], ?hy1007⟩) (by assumption) ?rest1007
    case hy1007 => (intro W hW; obtain ⟨f1, f2, f3⟩ := hW; go_simp; try with_reducible rfl)
    simp only [Act.put, List.setIfInBounds_toArray, List.set_cons_zero, List.set_cons_succ]
    refine wpAnyH_done (by kernel_rfl) ?_ _
    have e0 := cell_blk HK6.out 0 _ rfl
    have e1 := cell_blk HK6.out 1 _ rfl
    have e2 := cell_blk HK6.out 2 _ rfl
    go_wp2
    refine bodyPost_ret (v := .tuple #[.agg #[.slice none 0 0, .int .i64 0, .int .i64 m], .int .i64 k, .int .i64 r]) (by simp [results, Try.results43, go_sem, *]) rfl ⟨rfl, ?_⟩
    have hX := EX.out
    exact (((HB.out.trans (HB5.out.mono HB.out.size)).setCell (p := ⟨X + 1, 0, none⟩) (by show w.heap.size ≤ X + 1; omega) _).setCell (p := ⟨X + 1, 1, none⟩) (by show w.heap.size ≤ X + 1; omega) _).setCell (p := ⟨X + 1, 2, none⟩) (by show w.heap.size ≤ X + 1; omega) _
  · have t1 : decide ((0 : Int) < (g : Int)) = false := by simp; omega
    have t2 : decide (0 < g) = false := by simp; omega
    rw [if_neg (by omega)] at hk
    obtain rfl : k = (n : Int) := by omega
    go_enter Try.func43, Try.ntmps43
    go_upto_region 4 with fail
    rw [← E2.out, ← EX.out]
    obtain ⟨wd, hwd⟩ : ∃ W, W = (w2).drew := ⟨_, rfl⟩
    have HBd : Hid (Below (w2).heap.size (w2) wd) := Lib.hid (by rw [hwd]; exact Below.drewN' (w2) 1)
    have hS0 : (fun W : World => W.cell? ⟨X, 0, none⟩ = some (.slice a n c) ∧ W.cell? ⟨X, 1, none⟩ = some (.int .i64 g) ∧ W.cell? ⟨X, 2, none⟩ = some (.int .i64 m)) wd := by rw [hwd]; exact ⟨c0, c1, c2⟩
    refine wp_region_held_drew (S := fun W => W.cell? ⟨X, 0, none⟩ = some (.slice a n c) ∧ W.cell? ⟨X, 1, none⟩ = some (.int .i64 g) ∧ W.cell? ⟨X, 2, none⟩ = some (.int .i64 m)) (by kernel_rfl) (by rw [← hwd]; exact hS0) (fun hHeld => ?_)
    rw [← hwd] at hHeld ⊢
    clear hwd hS0
    refine' wpAnyH_take (i := 0) (oi := { dst := some 14, op := Op.fieldAddr 43 (Operand.tmp 1) 2, type := 0, pos := "ref.go:80", after := #[], guard := none }) (v := ?v2001) rfl (by kernel_rfl) (by kernel_rfl) (by kernel_rfl) (fun _ _ _ h => h) (.inl ⟨by first | rfl | simp [Region.wanted, yielded], ?hy2001⟩) (by assumption) ?rest2001
    case hy2001 => (intro W hW; obtain ⟨f1, f2, f3⟩ := hW; go_simp; try with_reducible rfl)
    simp only [Act.put, List.setIfInBounds_toArray, List.set_cons_zero, List.set_cons_succ]
    refine' wpAnyH_take (i := 1) (oi := { dst := some 15, op := Op.load 3 (Operand.tmp 14), type := 3, pos := "ref.go:80", after := #[{ on := 0, ground := Ground.data }], guard := none }) (v := ?v2002) rfl (by kernel_rfl) (by kernel_rfl) (by kernel_rfl) (fun _ _ _ h => h) (.inl ⟨by first | rfl | simp [Region.wanted, yielded], ?hy2002⟩) (by assumption) ?rest2002
    case hy2002 => (intro W hW; obtain ⟨f1, f2, f3⟩ := hW; go_simp; try with_reducible rfl)
    simp only [Act.put, List.setIfInBounds_toArray, List.set_cons_zero, List.set_cons_succ]
    refine' wpAnyH_take (i := 2) (oi := { dst := some 16, op := Op.build 43 #[(2, Operand.tmp 15)], type := 43, pos := "ref.go:80", after := #[{ on := 1, ground := Ground.data }], guard := none }) (v := ?v2003) rfl (by kernel_rfl) (by kernel_rfl) (by kernel_rfl) (fun _ _ _ h => h) (.inl ⟨by first | rfl | simp [Region.wanted, yielded], ?hy2003⟩) (by assumption) ?rest2003
    case hy2003 => (intro W hW; obtain ⟨f1, f2, f3⟩ := hW; go_simp; try with_reducible rfl)
    simp only [Act.put, List.setIfInBounds_toArray, List.set_cons_zero, List.set_cons_succ]
    refine' wpAnyH_take (i := 3) (oi := { dst := some 17, op := Op.move (Operand.tmp 5), type := 3, pos := "ref.go:80", after := #[{ on := 6, ground := Ground.gcOnly Departure.lateStores }], guard := none }) (v := ?v2004) rfl (by kernel_rfl) (by kernel_rfl) (by kernel_rfl) (fun _ _ _ h => h) (.inl ⟨by first | rfl | simp [Region.wanted, yielded], ?hy2004⟩) (by assumption) ?rest2004
    case hy2004 => (intro W hW; obtain ⟨f1, f2, f3⟩ := hW; go_simp; try with_reducible rfl)
    simp only [Act.put, List.setIfInBounds_toArray, List.set_cons_zero, List.set_cons_succ]
    refine' wpAnyH_take (i := 4) (oi := { dst := some 18, op := Op.load 43 (Operand.tmp 1), type := 43, pos := "ref.go:80", after := #[], guard := none }) (v := ?v2005) rfl (by kernel_rfl) (by kernel_rfl) (by kernel_rfl) (fun _ _ _ h => h) (.inl ⟨by first | rfl | simp [Region.wanted, yielded], ?hy2005⟩) (by assumption) ?rest2005
    case hy2005 => (intro W hW; obtain ⟨f1, f2, f3⟩ := hW; go_simp; try with_reducible rfl)
    simp only [Act.put, List.setIfInBounds_toArray, List.set_cons_zero, List.set_cons_succ]
    refine wpAnyH_ready (rs := [5]) (by kernel_rfl) (by simp) ?_
    refine AllReadyH.cons (o := { dst := some 19, op := Op.call { callee := Callee.value (Operand.func 44), args := #[Operand.tmp 18], argTypes := #[43] }, type := 3, pos := "ref.go:80", after := #[{ on := 4, ground := Ground.data }], guard := none }) rfl (fun KK hK => ?_) (AllReadyH.nil)
    try simp only [List.getElem_toArray, List.getElem_cons_succ, List.getElem_cons_zero]
    go_simp
    refine (HLen.out wd (HB.out.trans (HBd.out.mono HB.out.size))).mono ?_
    rintro e w5 ⟨rfl, hb5⟩
    have hbb := HBd.out.trans (hb5.mono HBd.out.size)
    have kx5 := (hbb.block _ (blk_lt K0.out)).trans K0.out
    have kr5 := (hbb.block _ (blk_lt K1.out)).trans K1.out
    have HKX := Lib.hid kx5
    have HKR := Lib.hid kr5
    have HB5 := Lib.hid hbb
    have hSn : (fun W : World => W.cell? ⟨X, 0, none⟩ = some (.slice a n c) ∧ W.cell? ⟨X, 1, none⟩ = some (.int .i64 g) ∧ W.cell? ⟨X, 2, none⟩ = some (.int .i64 m)) w5 := ⟨cell_blk kx5 0 _ rfl, cell_blk kx5 1 _ rfl, cell_blk kx5 2 _ rfl⟩
    clear hb5 hbb kx5 kr5
    refine hK.out _ _ (by assumption) (fun hHeld => ?_)
    clear hK KK
    try simp only [Act.put, List.setIfInBounds_toArray, List.set_cons_zero, List.set_cons_succ]
    refine wpAnyH_ready (rs := [6]) (by kernel_rfl) (by simp) ?_
    refine AllReadyH.cons (o := { dst := none, op := Op.store 43 (Operand.tmp 2) (Operand.tmp 16), type := 0, pos := "ref.go:80", after := #[{ on := 2, ground := Ground.data }, { on := 5, ground := Ground.chain }, { on := 0, ground := Ground.phase }, { on := 1, ground := Ground.phase }, { on := 2, ground := Ground.phase }, { on := 3, ground := Ground.textOnly Departure.lateStores }, { on := 4, ground := Ground.textOnly Departure.lateStores }, { on := 5, ground := Ground.textOnly Departure.lateStoresUnsure }], guard := none }) rfl (fun KK hK => ?_) (AllReadyH.nil)
    try simp only [List.getElem_toArray, List.getElem_cons_succ, List.getElem_cons_zero]
    have e0 := cell_blk HKR.out 0 _ rfl
    have e1 := cell_blk HKR.out 1 _ rfl
    have e2 := cell_blk HKR.out 2 _ rfl
    have e3 := frozen_blk HKR.out 0
    have e4 := frozen_blk HKR.out 1
    have e5 := frozen_blk HKR.out 2
    have e6 := blk_lt HKR.out
    go_simp
    have kx6 := setCell_blk (setCell_blk (setCell_blk HKR.out 0 (.slice none 0 0)) 1 (.int .i64 0)) 2 (.int .i64 m)
    have ky6 := (Below.heap_setCell ((w5.setCell ⟨X + 1, 0, none⟩ (.slice none 0 0)).setCell ⟨X + 1, 1, none⟩ (.int .i64 0)) ⟨X + 1, 2, none⟩ (.int .i64 m) X (by simp)).trans ((Below.heap_setCell (w5.setCell ⟨X + 1, 0, none⟩ (.slice none 0 0)) ⟨X + 1, 1, none⟩ (.int .i64 0) X (by simp)).trans ((Below.heap_setCell w5 ⟨X + 1, 0, none⟩ (.slice none 0 0) X (by simp)).trans HKX.out))
    have hSn2 : (fun W : World => W.cell? ⟨X, 0, none⟩ = some (.slice a n c) ∧ W.cell? ⟨X, 1, none⟩ = some (.int .i64 g) ∧ W.cell? ⟨X, 2, none⟩ = some (.int .i64 m)) (((w5.setCell ⟨X + 1, 0, none⟩ (.slice none 0 0)).setCell ⟨X + 1, 1, none⟩ (.int .i64 0)).setCell ⟨X + 1, 2, none⟩ (.int .i64 m)) := ⟨cell_blk ky6 0 _ rfl, cell_blk ky6 1 _ rfl, cell_blk ky6 2 _ rfl⟩
    have HK6 := Lib.hid kx6
    clear e0 e1 e2 e3 e4 e5 kx6 ky6
    refine hK.out _ _ (by assumption) (fun hHeld => ?_)
    clear hK KK
    try simp only [Act.put, List.setIfInBounds_toArray, List.set_cons_zero, List.set_cons_succ]
    refine' wpAnyH_take (i := 7) (oi := { dst := some 3, op := Op.assign (Operand.tmp 17), type := 3, pos := "ref.go:80", after := #[{ on := 3, ground := Ground.data }, { on := 6, ground := Ground.chain }, { on := 0, ground := Ground.phase }, { on := 1, ground := Ground.phase }, { on := 2, ground := Ground.phase }, { on := 3, ground := Ground.phase }, { on := 4, ground := Ground.textOnly Departure.lateStores }, { on := 5, ground := Ground.textOnly Departure.lateStoresUnsure }, { on := 6, ground := Ground.phase }], guard := none }) (v := ?v2006) rfl (by kernel_rfl) (by kernel_rfl) (by kernel_rfl) (fun _ _ _ h => h) (.inl ⟨by first | rfl | simp [Region.wanted, yielded], ?hy2006⟩) (by assumption) ?rest2006
    case hy2006 => (intro W hW; obtain ⟨f1, f2, f3⟩ := hW; go_simp; try with_reducible rfl)
    simp only [Act.put, List.setIfInBounds_toArray, List.set_cons_zero, List.set_cons_succ]
    refine' wpAnyH_take (i := 8) (oi := { dst := some 4, op := Op.assign (Operand.tmp 19), type := 3, pos := "ref.go:80", after := #[{ on := 5, ground := Ground.data }, { on := 7, ground := Ground.chain }, { on := 0, ground := Ground.phase }, { on := 1, ground := Ground.phase }, { on := 2, ground := Ground.phase }, { on := 3, ground := Ground.phase }, { on := 4, ground := Ground.phase }, { on := 5, ground := Ground.phase }, { on := 6, ground := Ground.phase }, { on := 7, ground := Ground.phase }], guard := none }) (v := ?v2007) rfl (by kernel_rfl) (by kernel_rfl) (by kernel_rfl) (fun _ _ _ h => h) (.inl ⟨by first | rfl | simp [Region.wanted, yielded], ?hy2007⟩) (by assumption) ?rest2007
    case hy2007 => (intro W hW; obtain ⟨f1, f2, f3⟩ := hW; go_simp; try with_reducible rfl)
    simp only [Act.put, List.setIfInBounds_toArray, List.set_cons_zero, List.set_cons_succ]
    refine wpAnyH_done (by kernel_rfl) ?_ _
    have e0 := cell_blk HK6.out 0 _ rfl
    have e1 := cell_blk HK6.out 1 _ rfl
    have e2 := cell_blk HK6.out 2 _ rfl
    go_wp2
    refine bodyPost_ret (v := .tuple #[.agg #[.slice none 0 0, .int .i64 0, .int .i64 m], .int .i64 n, .int .i64 r]) (by simp [results, Try.results43, go_sem, *]) rfl ⟨rfl, ?_⟩
    have hX := EX.out
    exact (((HB.out.trans (HB5.out.mono HB.out.size)).setCell (p := ⟨X + 1, 0, none⟩) (by show w.heap.size ≤ X + 1; omega) _).setCell (p := ⟨X + 1, 1, none⟩) (by show w.heap.size ≤ X + 1; omega) _).setCell (p := ⟨X + 1, 2, none⟩) (by show w.heap.size ≤ X + 1; omega) _
end Go.Proofs.Ytneeagabmdpjgaa
