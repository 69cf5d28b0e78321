/-
  told: the points of what waits and of what comes.
-/
import Derived.Test.YtfkfooclapogjaaH
import Derived.Test.YtfkfooclapogjaaOrd
import Derived.Deep.RegionHeld3
import Derived.ArgAppend
namespace Go.Proofs.Ytfkfooclapogjaa
open Go.RowKit
set_option linter.unusedVariables false
set_option linter.unusedSimpArgs false

/-- append onto bytes without spare room: they stay as they were, or all lie in a block that is new. -/
theorem run_append_win (w : World) (ty : TypeId) (T U : Nat → Prop) (ao bo : Option Addr) (n m c : Nat) (xs ys : List Int) (h : Arg T w ao n xs) (ha : ao = none → n = 0) (g : Arg U w bo m ys) (hb : bo = none → m = 0 ∧ c = 0) (hl : n + m ≤ 140737488355328) :
    ∃ v w', (Builtin.append_ #[22, 22] ty #[.slice ao n n, .slice bo m c]).run Try.prog w = .ok v w' ∧ Below w.heap.size w w' ∧
      ((m = 0 ∧ v = .slice ao n n ∧ w' = w) ∨ (0 < m ∧ ∃ G cap, v = .slice (some ⟨G, 0, none⟩) (n + m) cap ∧ n + m ≤ cap ∧ cap ≤ maxLen ∧ w.heap.size ≤ G ∧ Arg (fun k => k = G) w' (some ⟨G, 0, none⟩) (n + m) (xs ++ ys))) := by
  obtain ⟨i0, hi, hz0, hz1, hz2⟩ := info_parts Try.info5
  by_cases hm : m = 0
  · subst hm
    refine ⟨_, w, ?_, Below.refl _ _, .inl ⟨rfl, rfl, rfl⟩⟩
    cases ao with
    | none =>
      obtain rfl := ha rfl
      cases bo with
      | none => simp [Builtin.append_, run_underlying Try.underlying22, sizeOf, typeInfo, hi, Builtin.lenOf, Builtin.firstCells]
      | some a => simp [Builtin.append_, run_underlying Try.underlying22, sizeOf, typeInfo, hi, hz1, Builtin.lenOf, Builtin.firstCells, loadCells, loadCellsFrom]
    | some a =>
      cases bo with
      | none => simp [Builtin.append_, run_underlying Try.underlying22, sizeOf, typeInfo, hi, hz1, Builtin.lenOf, Builtin.firstCells, storeCells]
      | some b => simp [Builtin.append_, run_underlying Try.underlying22, sizeOf, typeInfo, hi, hz1, Builtin.lenOf, Builtin.firstCells, loadCells, loadCellsFrom, storeCells]
  · cases bo with
    | none => have := (hb rfl).1; omega
    | some b =>
      obtain ⟨v', w', hr, h2, h3⟩ : ∃ v' w', (Builtin.append_ #[22, 22] ty #[.slice ao n n, .slice (some b) m c]).run Try.prog w = .ok v' w' ∧ w'.ownsRow w.heap.size 5 1 v' (n + m) (xs.map (.int .u8) ++ ys.map (.int .u8)) ∧ w.grownBy w' none := by
        cases ao with
        | none =>
          obtain rfl := ha rfl
          obtain rfl : xs = [] := List.eq_nil_of_length_eq_zero h.1
          obtain ⟨v', w', hr, h2, h3, _⟩ := run_append_own (P := Try.prog) w w.heap.size 22 ty 5 i0 (.int .u8 0) 1 1 Try.underlying22 hi hz0 hz1 hz2 rfl (by decide) (.slice none 0 0) 0 [] (World.ownsRow_nil w _ 5 1) b m c (ys.map (.int .u8)) (by simp [g.1]) (g.news b rfl) (one_u8 _) (by unfold maxLen; omega) (by omega) (Nat.le_refl _)
          exact ⟨v', w', hr, by simpa using h2, h3⟩
        | some a =>
          obtain ⟨v', w', hr, h2, h3⟩ := run_append_arg_grows (P := Try.prog) w 22 ty 5 i0 (.int .u8 0) 1 1 Try.underlying22 hi hz0 hz1 hz2 rfl (by decide) a n n (xs.map (.int .u8)) (by simp [h.1]) (h.news a rfl) b m c (ys.map (.int .u8)) (by simp [g.1]) (g.news b rfl) (by omega) (by unfold maxLen; omega) (by omega)
          exact ⟨v', w', hr, h2, h3⟩
      rw [← List.map_append] at h2
      have hb' : Below w.heap.size w w' := (Below.refl _ w).grown h3 (Nat.le_refl _) (fun k e => by cases e)
      obtain ⟨G, cap', cur, rfl, hG, hgg, hnc, hcm, _⟩ := row_some h2 (by omega)
      refine ⟨_, w', hr, hb', .inr ⟨by omega, G, cap', rfl, hnc, hcm, hG, ?_⟩⟩
      obtain ⟨_, hA, _⟩ := row_arg h2
      have hl2 : (xs ++ ys).length = n + m := by simp [h.1, g.1]
      rw [hl2] at hA
      exact ⟨hl2, fun hp => by
        obtain ⟨b1, off, e, hbl, _, hcz⟩ := hA.2 hp
        cases e
        exact ⟨G, 0, rfl, hbl, rfl, hcz⟩⟩
theorem step_append_win {ops : Array Oper} {o : Oper} {a : Act} {w : World} {K : Act → World → Prop} {Q : Exit → Act → World → Prop} {E : Prop} (hgd : o.guard = none) (s x : Operand) (hop : o.op = Op.call { callee := Callee.builtin Builtin.append, args := #[s, x], argTypes := #[22, 22] })
    (T U : Nat → Prop) (ao bo : Option Addr) (n m c : Nat) (xs ys : List Int) (hs : a.eval s = .slice ao n n) (hx : a.eval x = .slice bo m c) (h : Arg T w ao n xs) (ha : ao = none → n = 0) (g : Arg U w bo m ys) (hb : bo = none → m = 0 ∧ c = 0) (hl : n + m ≤ 140737488355328)
    (hK : ∀ v w', Below w.heap.size w w' → ((m = 0 ∧ v = .slice ao n n ∧ w' = w) ∨ (0 < m ∧ ∃ G cap, v = .slice (some ⟨G, 0, none⟩) (n + m) cap ∧ n + m ≤ cap ∧ cap ≤ maxLen ∧ w.heap.size ≤ G ∧ Arg (fun k => k = G) w' (some ⟨G, 0, none⟩) (n + m) (xs ++ ys))) → K (a.put o.dst v) w') :
    if Region.wanted o (yielded ops a.tmps) = true then Oper.wp Try.prog o a w K Q else E := by
  have hw : Region.wanted o (yielded ops a.tmps) = true := by simp [Region.wanted, hgd]
  rw [if_pos hw]
  obtain ⟨v', w', hrun, h2, h3⟩ := run_append_win w o.type T U ao bo n m c xs ys h ha g hb hl
  unfold Oper.wp
  simp [execOp, hop, resolve, invoke, builtin, hs, hx, hrun, Result.andThen]
  exact hK v' w' h2 h3

theorem cell1_set (W : World) (D : Nat) (v : Value) : (W.setCell ⟨D, 0, none⟩ v).cell? ⟨D, 1, none⟩ = W.cell? ⟨D, 1, none⟩ := World.cell?_setCell_other W _ _ v (by simp)
/-- Bytes that wait, in a variable's first cell. -/
structure Wb (T : Nat → Prop) (W : World) (D : Nat) (ao : Option Addr) (n cap : Nat) (zs : List Int) : Prop where
  c0 : W.cell? ⟨D, 0, none⟩ = some (.slice ao n cap)
  fz : W.frozen? ⟨D, 0, none⟩ = false
  lt : D < W.heap.size
  arg : Arg T W ao n zs
  none_ : ao = none → n = 0 ∧ cap = 0
  sp : ∀ ad, ao = some ad → ad.spot = none
  nc : n ≤ cap
  cm : cap ≤ maxLen
theorem Wb.mod {T S : Nat → Prop} {W W' : World} {D : Nat} {ao : Option Addr} {n cap : Nat} {zs : List Int} (h : Wb T W D ao n cap zs) (hm : Mod S W W') (hd : ¬ S D) (ht : ∀ k, T k → ¬ S k) : Wb T W' D ao n cap zs :=
  ⟨(hm.cell (p := ⟨D, 0, none⟩) h.lt hd).trans h.c0, (hm.frozen (p := ⟨D, 0, none⟩) h.lt hd).trans h.fz, Nat.lt_of_lt_of_le h.lt hm.size, h.arg.mod hm ht, h.none_, h.sp, h.nc, h.cm⟩
/-- So many blocks stay. -/
def Kp (S : Nat → Prop) (V V' : World) : Prop := V.heap.size ≤ V'.heap.size ∧ ∀ k, S k → k < V.heap.size → V'.heap[k]? = V.heap[k]?
theorem Kp.cell {S : Nat → Prop} {V V' : World} (h : Kp S V V') {p : Addr} (hl : p.block < V.heap.size) (hs : S p.block) : V'.cell? p = V.cell? p := by
  unfold World.cell?
  rw [h.2 _ hs hl]
theorem Kp.frozen {S : Nat → Prop} {V V' : World} (h : Kp S V V') {p : Addr} (hl : p.block < V.heap.size) (hs : S p.block) : V'.frozen? p = V.frozen? p := by
  unfold World.frozen?
  rw [h.2 _ hs hl]
theorem Wb.kp {T : Nat → Prop} {W W' : World} {D : Nat} {ao : Option Addr} {n cap : Nat} {zs : List Int} (h : Wb T W D ao n cap zs) (hk : Kp (fun k => k = D ∨ T k) W W') : Wb T W' D ao n cap zs :=
  ⟨(hk.cell (p := ⟨D, 0, none⟩) h.lt (.inl rfl)).trans h.c0, (hk.frozen (p := ⟨D, 0, none⟩) h.lt (.inl rfl)).trans h.fz, Nat.lt_of_lt_of_le h.lt hk.1, ⟨h.arg.1, fun hp => by
    obtain ⟨b, off, e, hb, hT, hc⟩ := h.arg.2 hp
    exact ⟨b, off, e, Nat.lt_of_lt_of_le hb hk.1, hT, fun j hj => (hk.cell (p := ⟨b, off + j, none⟩) hb (.inr hT)).trans (hc j hj)⟩⟩, h.none_, h.sp, h.nc, h.cm⟩
theorem Wb.below {T : Nat → Prop} {W W' : World} {D : Nat} {ao : Option Addr} {n cap : Nat} {zs : List Int} (h : Wb T W D ao n cap zs) (hb : Below W.heap.size W W') : Wb T W' D ao n cap zs := h.mod (Mod.of_below hb (fun _ => False)) (fun h => h) (fun _ _ h => h)

set_option maxHeartbeats 6400000 in
set_option maxRecDepth 100000 in
/-- told, whatever is told: J: what stands between two points; G: the block of the bytes, once it is new. -/
theorem told_33 {T U : Nat → Prop} (D : Nat) (X : Nat) (ao bo : Option Addr) (n cap m c : Nat) (r bs : List Int) (w : World) (h : Wb T w D ao n cap r) (hTD : ∀ k, T k → k ≠ D) (hr : Byt r) (hb : Arg U w bo m bs) (hbn : bo = none → m = 0 ∧ c = 0) (hby : Byt bs) (hl : n + m ≤ 2000000)
    (J Jx : (Nat → Prop) → List (Nat × Int) → World → Prop)
    (hA : ∀ B pre V V', J B pre V → Mod (fun k => k = D) V V' → V'.cell? ⟨D, 1, none⟩ = V.cell? ⟨D, 1, none⟩ → J B pre V')
    (h0 : ∀ B V, Mod (fun k => k = D) w V → V.cell? ⟨D, 1, none⟩ = w.cell? ⟨D, 1, none⟩ → ((∀ k, B k ↔ T k) ∨ ∃ G, w.heap.size ≤ G ∧ G < V.heap.size ∧ ∀ k, B k ↔ k = G) → J B [] V)
    (hT : ∀ B pre x V, J B pre V → pre ++ [x] <+: (told 0 (r ++ bs)).1 → Calls Try.prog 39 #[.int .i64 (x.1 : Nat), .int .i64 x.2, .pointer (some ⟨X, 0, none⟩)] V fun e V' => Kp (fun k => k = D ∨ B k) V V' ∧ ((e = .returned (.bool true) ∧ J B (pre ++ [x]) V') ∨ (e = .returned (.bool false) ∧ Jx B (pre ++ [x]) V'))) :
    Calls Try.prog 38 #[.pointer (some ⟨D, 0, none⟩), .func (.func 39) #[] #[.pointer (some ⟨X, 0, none⟩)], .slice bo m c] w fun e V => (∃ v, e = .returned v) ∧ ∃ B a' n' c' zs', Wb B V D a' n' c' zs' ∧ ((∀ k, B k ↔ T k) ∨ ∃ G, w.heap.size ≤ G ∧ ∀ k, B k ↔ k = G) ∧
      ((J B (told 0 (r ++ bs)).1 V ∧ zs' = (told 0 (r ++ bs)).2) ∨ ∃ pre, pre <+: (told 0 (r ++ bs)).1 ∧ Jx B pre V) := by
  have HH := Lib.hid h
  have HB := Lib.hid hb
  have hrl := h.arg.1
  have hbl := hb.1
  have hD := h.lt
  have hDw := h.lt
  have hnc := h.nc
  have hn2 : n ≤ 2000000 := by omega
  obtain ⟨L, hL⟩ : ∃ L, L = (told 0 (r ++ bs)).1 := ⟨_, rfl⟩
  obtain ⟨R, hR⟩ : ∃ R, R = (told 0 (r ++ bs)).2 := ⟨_, rfl⟩
  rw [← hL] at hT ⊢
  rw [← hR]
  have HLL := Lib.hid hL
  have HRR := Lib.hid hR
  have HA := Lib.hid hA
  have H0 := Lib.hid h0
  have HT := Lib.hid hT
  have HBy := Lib.hid (Byt.append.2 ⟨hr, hby⟩)
  have HLen : Hid ((r ++ bs).length = n + m) := Lib.hid (by rw [List.length_append, hrl, hbl])
  have c0 := h.c0
  have f0 := h.fz
  clear hA h0 hT h hb hr hby hL hR
  go_enter Try.func38, Try.ntmps38
  go_upto_region 0 with fail
  go_cut [] from 10 to 29 (fun wx => ∃ B a' n' c', Wb B wx D a' n' c' (r ++ bs) ∧ J B [] wx ∧ ((∀ k, B k ↔ T k) ∨ ∃ G, w.heap.size ≤ G ∧ ∀ k, B k ↔ k = G))
  case first =>
    have hsh : ao = none ∨ ∃ b off, ao = some ⟨b, off, none⟩ := by
      cases ao with
      | none => exact .inl rfl
      | some ad => obtain ⟨b, off, spot⟩ := ad; obtain rfl := HH.out.sp _ rfl; exact .inr ⟨b, off, rfl⟩
    rcases hsh with rfl | ⟨b0, off0, rfl⟩
    · obtain ⟨rfl, rfl⟩ := HH.out.none_ rfl
      refine wp_region_K 20 (fun W => W.cell? ⟨D, 0, none⟩ = some (.slice none 0 0)) (by kernel_rfl) ?_
      obtain ⟨wd, hwd⟩ : ∃ W, W = w.drew := ⟨_, rfl⟩
      rw [← hwd]
      have HWD := Lib.hid hwd
      have c0d : wd.cell? ⟨D, 0, none⟩ = some (.slice none 0 0) := by rw [hwd]; exact c0
      have hDd : D < wd.heap.size := by rw [hwd]; exact hD
      clear hwd
      refine wpAnyK_take (i := 0) (v := .pointer (some ⟨D, 0, none⟩)) rfl (by kernel_rfl) (by kernel_rfl) (by kernel_rfl) [] (by kernel_rfl) (by decide) (by kernel_rfl) (by kernel_rfl) (fun _ _ _ h => h) c0d (.inl ⟨by rfl, fun W hW => ?_⟩) ?_
      · obtain q0 := hW
        go_simp
      simp only [List.getElem_toArray, List.getElem_cons_succ, List.getElem_cons_zero, Act.put, List.setIfInBounds_toArray, List.set_cons_zero, List.set_cons_succ]
      refine wpAnyK_take (i := 1) (v := .pointer (some ⟨D, 0, none⟩)) rfl (by kernel_rfl) (by kernel_rfl) (by kernel_rfl) [] (by kernel_rfl) (by decide) (by kernel_rfl) (by kernel_rfl) (fun _ _ _ h => h) c0d (.inl ⟨by rfl, fun W hW => ?_⟩) ?_
      · obtain q0 := hW
        go_simp
      simp only [List.getElem_toArray, List.getElem_cons_succ, List.getElem_cons_zero, Act.put, List.setIfInBounds_toArray, List.set_cons_zero, List.set_cons_succ]
      refine wpAnyK_take (i := 2) (v := .pointer (some ⟨D, 0, none⟩)) rfl (by kernel_rfl) (by kernel_rfl) (by kernel_rfl) [] (by kernel_rfl) (by decide) (by kernel_rfl) (by kernel_rfl) (fun _ _ _ h => h) c0d (.inl ⟨by rfl, fun W hW => ?_⟩) ?_
      · obtain q0 := hW
        go_simp
      simp only [List.getElem_toArray, List.getElem_cons_succ, List.getElem_cons_zero, Act.put, List.setIfInBounds_toArray, List.set_cons_zero, List.set_cons_succ]
      refine wpAnyK_take (i := 3) (v := .pointer (some ⟨D, 0, none⟩)) rfl (by kernel_rfl) (by kernel_rfl) (by kernel_rfl) [] (by kernel_rfl) (by decide) (by kernel_rfl) (by kernel_rfl) (fun _ _ _ h => h) c0d (.inl ⟨by rfl, fun W hW => ?_⟩) ?_
      · obtain q0 := hW
        go_simp
      simp only [List.getElem_toArray, List.getElem_cons_succ, List.getElem_cons_zero, Act.put, List.setIfInBounds_toArray, List.set_cons_zero, List.set_cons_succ]
      refine wpAnyK_take (i := 4) (v := .slice none 0 0) rfl (by kernel_rfl) (by kernel_rfl) (by kernel_rfl) [] (by kernel_rfl) (by decide) (by kernel_rfl) (by kernel_rfl) (fun _ _ _ h => h) c0d (.inl ⟨by rfl, fun W hW => ?_⟩) ?_
      · obtain q0 := hW
        go_simp
      simp only [List.getElem_toArray, List.getElem_cons_succ, List.getElem_cons_zero, Act.put, List.setIfInBounds_toArray, List.set_cons_zero, List.set_cons_succ]
      refine wpAnyK_take (i := 5) (v := .pointer (some ⟨D, 0, none⟩)) rfl (by kernel_rfl) (by kernel_rfl) (by kernel_rfl) [] (by kernel_rfl) (by decide) (by kernel_rfl) (by kernel_rfl) (fun _ _ _ h => h) c0d (.inl ⟨by rfl, fun W hW => ?_⟩) ?_
      · obtain q0 := hW
        go_simp
      simp only [List.getElem_toArray, List.getElem_cons_succ, List.getElem_cons_zero, Act.put, List.setIfInBounds_toArray, List.set_cons_zero, List.set_cons_succ]
      refine wpAnyK_take (i := 6) (v := .pointer (some ⟨D, 0, none⟩)) rfl (by kernel_rfl) (by kernel_rfl) (by kernel_rfl) [] (by kernel_rfl) (by decide) (by kernel_rfl) (by kernel_rfl) (fun _ _ _ h => h) c0d (.inl ⟨by rfl, fun W hW => ?_⟩) ?_
      · obtain q0 := hW
        go_simp
      simp only [List.getElem_toArray, List.getElem_cons_succ, List.getElem_cons_zero, Act.put, List.setIfInBounds_toArray, List.set_cons_zero, List.set_cons_succ]
      refine wpAnyK_take (i := 7) (v := .pointer (some ⟨D, 0, none⟩)) rfl (by kernel_rfl) (by kernel_rfl) (by kernel_rfl) [] (by kernel_rfl) (by decide) (by kernel_rfl) (by kernel_rfl) (fun _ _ _ h => h) c0d (.inl ⟨by rfl, fun W hW => ?_⟩) ?_
      · obtain q0 := hW
        go_simp
      simp only [List.getElem_toArray, List.getElem_cons_succ, List.getElem_cons_zero, Act.put, List.setIfInBounds_toArray, List.set_cons_zero, List.set_cons_succ]
      refine wpAnyK_take (i := 8) (v := .slice none 0 0) rfl (by kernel_rfl) (by kernel_rfl) (by kernel_rfl) [] (by kernel_rfl) (by decide) (by kernel_rfl) (by kernel_rfl) (fun _ _ _ h => h) c0d (.inl ⟨by rfl, fun W hW => ?_⟩) ?_
      · obtain q0 := hW
        go_simp
      simp only [List.getElem_toArray, List.getElem_cons_succ, List.getElem_cons_zero, Act.put, List.setIfInBounds_toArray, List.set_cons_zero, List.set_cons_succ]
      refine wpAnyK_take (i := 9) (v := .int .i64 0) rfl (by kernel_rfl) (by kernel_rfl) (by kernel_rfl) [] (by kernel_rfl) (by decide) (by kernel_rfl) (by kernel_rfl) (fun _ _ _ h => h) c0d (.inl ⟨by rfl, fun W hW => ?_⟩) ?_
      · obtain q0 := hW
        go_simp
      simp only [List.getElem_toArray, List.getElem_cons_succ, List.getElem_cons_zero, Act.put, List.setIfInBounds_toArray, List.set_cons_zero, List.set_cons_succ]
      refine wpAnyK_take (i := 10) (v := .pointer (some ⟨D, 0, none⟩)) rfl (by kernel_rfl) (by kernel_rfl) (by kernel_rfl) [] (by kernel_rfl) (by decide) (by kernel_rfl) (by kernel_rfl) (fun _ _ _ h => h) c0d (.inl ⟨by rfl, fun W hW => ?_⟩) ?_
      · obtain q0 := hW
        go_simp
      simp only [List.getElem_toArray, List.getElem_cons_succ, List.getElem_cons_zero, Act.put, List.setIfInBounds_toArray, List.set_cons_zero, List.set_cons_succ]
      refine wpAnyK_take (i := 11) (v := .pointer (some ⟨D, 0, none⟩)) rfl (by kernel_rfl) (by kernel_rfl) (by kernel_rfl) [] (by kernel_rfl) (by decide) (by kernel_rfl) (by kernel_rfl) (fun _ _ _ h => h) c0d (.inl ⟨by rfl, fun W hW => ?_⟩) ?_
      · obtain q0 := hW
        go_simp
      simp only [List.getElem_toArray, List.getElem_cons_succ, List.getElem_cons_zero, Act.put, List.setIfInBounds_toArray, List.set_cons_zero, List.set_cons_succ]
      refine wpAnyK_take (i := 12) (v := .pointer (some ⟨D, 0, none⟩)) rfl (by kernel_rfl) (by kernel_rfl) (by kernel_rfl) [] (by kernel_rfl) (by decide) (by kernel_rfl) (by kernel_rfl) (fun _ _ _ h => h) c0d (.inl ⟨by rfl, fun W hW => ?_⟩) ?_
      · obtain q0 := hW
        go_simp
      simp only [List.getElem_toArray, List.getElem_cons_succ, List.getElem_cons_zero, Act.put, List.setIfInBounds_toArray, List.set_cons_zero, List.set_cons_succ]
      refine wpAnyK_take (i := 13) (v := .slice none 0 0) rfl (by kernel_rfl) (by kernel_rfl) (by kernel_rfl) [] (by kernel_rfl) (by decide) (by kernel_rfl) (by kernel_rfl) (fun _ _ _ h => h) c0d (.inl ⟨by rfl, fun W hW => ?_⟩) ?_
      · obtain q0 := hW
        go_simp
      simp only [List.getElem_toArray, List.getElem_cons_succ, List.getElem_cons_zero, Act.put, List.setIfInBounds_toArray, List.set_cons_zero, List.set_cons_succ]
      refine wpAnyK_take (i := 14) (v := .int .i64 0) rfl (by kernel_rfl) (by kernel_rfl) (by kernel_rfl) [] (by kernel_rfl) (by decide) (by kernel_rfl) (by kernel_rfl) (fun _ _ _ h => h) c0d (.inl ⟨by rfl, fun W hW => ?_⟩) ?_
      · obtain q0 := hW
        go_simp
      simp only [List.getElem_toArray, List.getElem_cons_succ, List.getElem_cons_zero, Act.put, List.setIfInBounds_toArray, List.set_cons_zero, List.set_cons_succ]
      refine wpAnyK_take (i := 15) (v := .slice none 0 0) rfl (by kernel_rfl) (by kernel_rfl) (by kernel_rfl) [] (by kernel_rfl) (by decide) (by kernel_rfl) (by kernel_rfl) (fun _ _ _ h => h) c0d (.inl ⟨by rfl, fun W hW => ?_⟩) ?_
      · obtain q0 := hW
        go_simp
      simp only [List.getElem_toArray, List.getElem_cons_succ, List.getElem_cons_zero, Act.put, List.setIfInBounds_toArray, List.set_cons_zero, List.set_cons_succ]
      refine wpAnyK_take (i := 16) (v := .slice bo m c) rfl (by kernel_rfl) (by kernel_rfl) (by kernel_rfl) [] (by kernel_rfl) (by decide) (by kernel_rfl) (by kernel_rfl) (fun _ _ _ h => h) c0d (.inl ⟨by rfl, fun W hW => ?_⟩) ?_
      · obtain q0 := hW
        go_simp
      simp only [List.getElem_toArray, List.getElem_cons_succ, List.getElem_cons_zero, Act.put, List.setIfInBounds_toArray, List.set_cons_zero, List.set_cons_succ]
      refine wpAnyK_ready (rs := [17]) (by kernel_rfl) (by simp) ?_
      refine AllReadyK.cons (o := { dst := some 27, op := Op.call { callee := Callee.builtin Builtin.append, args := #[Operand.tmp 25, Operand.tmp 26], argTypes := #[22, 22] }, type := 22, pos := "utf.go:83", after := #[{ on := 15, ground := Ground.data }, { on := 16, ground := Ground.data }], guard := none }) rfl (fun K hK => ?_) AllReadyK.nil
      refine step_append_win rfl (.tmp 25) (.tmp 26) rfl T U none bo 0 m c r bs (by go_simp) (by go_simp) (by have := HH.out.arg.drewN 1; rw [HWD.out]; exact this) (by simp) (by have := HB.out.drewN 1; rw [HWD.out]; exact this) hbn (by omega) ?_
      intro v w' hbw hcase
      have c0w := (hbw.cell (p := ⟨D, 0, none⟩) hDd).trans c0d
      refine hK.out _ _ (fun _ => c0w) ?_
      clear hK K
      try simp only [Act.put, List.setIfInBounds_toArray, List.set_cons_zero, List.set_cons_succ]
      have hbw0 : Below w.heap.size w w' := by
        have h1 : Below w.heap.size w wd := by rw [HWD.out]; exact Below.drewN' w 1
        exact h1.trans (hbw.mono h1.size)
      have hws : w.heap.size ≤ wd.heap.size := by rw [HWD.out]; exact Nat.le_refl _
      have hex : ∃ (B : Nat → Prop) (a' : Option Addr) (n' c' : Nat), v = .slice a' n' c' ∧ Arg B w' a' n' (r ++ bs) ∧ (a' = none → n' = 0 ∧ c' = 0) ∧ (∀ ad, a' = some ad → ad.spot = none) ∧ n' ≤ c' ∧ c' ≤ maxLen ∧ ((∀ k, B k ↔ T k) ∨ ∃ G, w.heap.size ≤ G ∧ G < w'.heap.size ∧ ∀ k, B k ↔ k = G) := by
        rcases hcase with ⟨hm, rfl, rfl⟩ | ⟨hm, G, cap', rfl, h1, h2, h3, h4⟩
        · subst hm
          obtain rfl : bs = [] := List.eq_nil_of_length_eq_zero hbl
          refine ⟨T, _, _, _, rfl, by rw [List.append_nil, HWD.out]; exact HH.out.arg.drewN 1, by simp, by simp, Nat.le_refl _, by unfold maxLen; omega, .inl fun k => Iff.rfl⟩
        · refine ⟨_, _, _, _, rfl, h4, by simp, fun ad e => by cases e; rfl, h1, h2, .inr ⟨G, by omega, ?_, fun k => Iff.rfl⟩⟩
          obtain ⟨b1, o1, e, hb1, hG, _⟩ := h4.2 (by omega)
          cases e
          exact hb1
      clear hcase
      obtain ⟨B, a', n', c', rfl, hA', hn', hs', hnc', hcm', hBB⟩ := hex
      have f0w : w'.frozen? ⟨D, 0, none⟩ = false := (hbw0.frozen (p := ⟨D, 0, none⟩) hD).trans f0
      have hDw := Nat.lt_of_lt_of_le hDd hbw.size
      have hMD : Mod (fun k => k = D) w' (w'.setCell ⟨D, 0, none⟩ (.slice a' n' c')) := (Mod.refl (fun k => k = D) w').setCell ⟨D, 0, none⟩ (.inl rfl) _
      have hBD : ∀ k, B k → k ≠ D := fun k hk e => by
        rcases hBB with h | ⟨G, h1, h2, h3⟩
        · exact hTD k ((h k).1 hk) e
        · have := (h3 k).1 hk; omega
      have HWb : Hid (Wb B (w'.setCell ⟨D, 0, none⟩ (.slice a' n' c')) D a' n' c' (r ++ bs)) := Lib.hid ⟨World.cell?_setCell_same' _ _ _ (by rw [c0w]; rfl), by rw [World.frozen?_setCell]; exact f0w, by simpa [World.setCell] using hDw, hA'.mod hMD hBD, hn', hs', hnc', hcm'⟩
      have HJ0 : Hid (J B [] (w'.setCell ⟨D, 0, none⟩ (.slice a' n' c'))) := Lib.hid (H0.out B _ ((Mod.of_below hbw0 _).trans hMD (fun _ _ e => e)) ((cell1_set w' D _).trans (hbw0.cell (p := ⟨D, 1, none⟩) hD)) (by
        rcases hBB with h | ⟨G, h1, h2, h3⟩
        · exact .inl h
        · exact .inr ⟨G, h1, by simpa [World.setCell] using h2, h3⟩))
      have HBB : Hid ((∀ k, B k ↔ T k) ∨ ∃ G, w.heap.size ≤ G ∧ ∀ k, B k ↔ k = G) := Lib.hid (by
        rcases hBB with h | ⟨G, h1, h2, h3⟩
        · exact .inl h
        · exact .inr ⟨G, h1, h3⟩)
      clear hbw hbw0 hA' hn' hs' hnc' hcm' hBB hMD hBD c0d
      refine wpAnyK_ready (rs := [18]) (by kernel_rfl) (by simp) ?_
      refine AllReadyK.cons rfl (fun K hK => ?_) AllReadyK.nil
      go_simp
      refine hK.out _ _ (fun _ => c0w) ?_
      clear hK K
      try simp only [Act.put, List.setIfInBounds_toArray, List.set_cons_zero, List.set_cons_succ]
      refine wpAnyK_ready (rs := [19]) (by kernel_rfl) (by simp) ?_
      refine AllReadyK.cons rfl (fun K hK => ?_) AllReadyK.nil
      go_simp
      refine hK.out _ _ (fun _ => c0w) ?_
      clear hK K
      try simp only [Act.put, List.setIfInBounds_toArray, List.set_cons_zero, List.set_cons_succ]
      refine wpAnyK_ready (rs := [20]) (by kernel_rfl) (by simp) ?_
      refine AllReadyK.cons rfl (fun K hK => ?_) AllReadyK.nil
      go_simp
      refine hK.out _ _ (fun h => absurd (show true = false from h) (by decide)) ?_
      clear hK K
      try simp only [Act.put, List.setIfInBounds_toArray, List.set_cons_zero, List.set_cons_succ]
      refine wpAnyK_done (by kernel_rfl) ?_ _
      go_wp2_with fail
      go_meet
      exact ⟨B, a', n', c', HWb.out, HJ0.out, HBB.out⟩
    · skip
      refine wp_region_K 20 (fun W => W.cell? ⟨D, 0, none⟩ = some (.slice (some ⟨b0, off0, none⟩) n cap)) (by kernel_rfl) ?_
      obtain ⟨wd, hwd⟩ : ∃ W, W = w.drew := ⟨_, rfl⟩
      rw [← hwd]
      have HWD := Lib.hid hwd
      have c0d : wd.cell? ⟨D, 0, none⟩ = some (.slice (some ⟨b0, off0, none⟩) n cap) := by rw [hwd]; exact c0
      have hDd : D < wd.heap.size := by rw [hwd]; exact hD
      clear hwd
      refine wpAnyK_take (i := 0) (v := .pointer (some ⟨D, 0, none⟩)) rfl (by kernel_rfl) (by kernel_rfl) (by kernel_rfl) [] (by kernel_rfl) (by decide) (by kernel_rfl) (by kernel_rfl) (fun _ _ _ h => h) c0d (.inl ⟨by rfl, fun W hW => ?_⟩) ?_
      · obtain q0 := hW
        go_simp
      simp only [List.getElem_toArray, List.getElem_cons_succ, List.getElem_cons_zero, Act.put, List.setIfInBounds_toArray, List.set_cons_zero, List.set_cons_succ]
      refine wpAnyK_take (i := 1) (v := .pointer (some ⟨D, 0, none⟩)) rfl (by kernel_rfl) (by kernel_rfl) (by kernel_rfl) [] (by kernel_rfl) (by decide) (by kernel_rfl) (by kernel_rfl) (fun _ _ _ h => h) c0d (.inl ⟨by rfl, fun W hW => ?_⟩) ?_
      · obtain q0 := hW
        go_simp
      simp only [List.getElem_toArray, List.getElem_cons_succ, List.getElem_cons_zero, Act.put, List.setIfInBounds_toArray, List.set_cons_zero, List.set_cons_succ]
      refine wpAnyK_take (i := 2) (v := .pointer (some ⟨D, 0, none⟩)) rfl (by kernel_rfl) (by kernel_rfl) (by kernel_rfl) [] (by kernel_rfl) (by decide) (by kernel_rfl) (by kernel_rfl) (fun _ _ _ h => h) c0d (.inl ⟨by rfl, fun W hW => ?_⟩) ?_
      · obtain q0 := hW
        go_simp
      simp only [List.getElem_toArray, List.getElem_cons_succ, List.getElem_cons_zero, Act.put, List.setIfInBounds_toArray, List.set_cons_zero, List.set_cons_succ]
      refine wpAnyK_take (i := 3) (v := .pointer (some ⟨D, 0, none⟩)) rfl (by kernel_rfl) (by kernel_rfl) (by kernel_rfl) [] (by kernel_rfl) (by decide) (by kernel_rfl) (by kernel_rfl) (fun _ _ _ h => h) c0d (.inl ⟨by rfl, fun W hW => ?_⟩) ?_
      · obtain q0 := hW
        go_simp
      simp only [List.getElem_toArray, List.getElem_cons_succ, List.getElem_cons_zero, Act.put, List.setIfInBounds_toArray, List.set_cons_zero, List.set_cons_succ]
      refine wpAnyK_take (i := 4) (v := .slice (some ⟨b0, off0, none⟩) n cap) rfl (by kernel_rfl) (by kernel_rfl) (by kernel_rfl) [] (by kernel_rfl) (by decide) (by kernel_rfl) (by kernel_rfl) (fun _ _ _ h => h) c0d (.inl ⟨by rfl, fun W hW => ?_⟩) ?_
      · obtain q0 := hW
        go_simp
      simp only [List.getElem_toArray, List.getElem_cons_succ, List.getElem_cons_zero, Act.put, List.setIfInBounds_toArray, List.set_cons_zero, List.set_cons_succ]
      refine wpAnyK_take (i := 5) (v := .pointer (some ⟨D, 0, none⟩)) rfl (by kernel_rfl) (by kernel_rfl) (by kernel_rfl) [] (by kernel_rfl) (by decide) (by kernel_rfl) (by kernel_rfl) (fun _ _ _ h => h) c0d (.inl ⟨by rfl, fun W hW => ?_⟩) ?_
      · obtain q0 := hW
        go_simp
      simp only [List.getElem_toArray, List.getElem_cons_succ, List.getElem_cons_zero, Act.put, List.setIfInBounds_toArray, List.set_cons_zero, List.set_cons_succ]
      refine wpAnyK_take (i := 6) (v := .pointer (some ⟨D, 0, none⟩)) rfl (by kernel_rfl) (by kernel_rfl) (by kernel_rfl) [] (by kernel_rfl) (by decide) (by kernel_rfl) (by kernel_rfl) (fun _ _ _ h => h) c0d (.inl ⟨by rfl, fun W hW => ?_⟩) ?_
      · obtain q0 := hW
        go_simp
      simp only [List.getElem_toArray, List.getElem_cons_succ, List.getElem_cons_zero, Act.put, List.setIfInBounds_toArray, List.set_cons_zero, List.set_cons_succ]
      refine wpAnyK_take (i := 7) (v := .pointer (some ⟨D, 0, none⟩)) rfl (by kernel_rfl) (by kernel_rfl) (by kernel_rfl) [] (by kernel_rfl) (by decide) (by kernel_rfl) (by kernel_rfl) (fun _ _ _ h => h) c0d (.inl ⟨by rfl, fun W hW => ?_⟩) ?_
      · obtain q0 := hW
        go_simp
      simp only [List.getElem_toArray, List.getElem_cons_succ, List.getElem_cons_zero, Act.put, List.setIfInBounds_toArray, List.set_cons_zero, List.set_cons_succ]
      refine wpAnyK_take (i := 8) (v := .slice (some ⟨b0, off0, none⟩) n cap) rfl (by kernel_rfl) (by kernel_rfl) (by kernel_rfl) [] (by kernel_rfl) (by decide) (by kernel_rfl) (by kernel_rfl) (fun _ _ _ h => h) c0d (.inl ⟨by rfl, fun W hW => ?_⟩) ?_
      · obtain q0 := hW
        go_simp
      simp only [List.getElem_toArray, List.getElem_cons_succ, List.getElem_cons_zero, Act.put, List.setIfInBounds_toArray, List.set_cons_zero, List.set_cons_succ]
      refine wpAnyK_take (i := 9) (v := .int .i64 (n : Nat)) rfl (by kernel_rfl) (by kernel_rfl) (by kernel_rfl) [] (by kernel_rfl) (by decide) (by kernel_rfl) (by kernel_rfl) (fun _ _ _ h => h) c0d (.inl ⟨by rfl, fun W hW => ?_⟩) ?_
      · obtain q0 := hW
        go_simp
      simp only [List.getElem_toArray, List.getElem_cons_succ, List.getElem_cons_zero, Act.put, List.setIfInBounds_toArray, List.set_cons_zero, List.set_cons_succ]
      refine wpAnyK_take (i := 10) (v := .pointer (some ⟨D, 0, none⟩)) rfl (by kernel_rfl) (by kernel_rfl) (by kernel_rfl) [] (by kernel_rfl) (by decide) (by kernel_rfl) (by kernel_rfl) (fun _ _ _ h => h) c0d (.inl ⟨by rfl, fun W hW => ?_⟩) ?_
      · obtain q0 := hW
        go_simp
      simp only [List.getElem_toArray, List.getElem_cons_succ, List.getElem_cons_zero, Act.put, List.setIfInBounds_toArray, List.set_cons_zero, List.set_cons_succ]
      refine wpAnyK_take (i := 11) (v := .pointer (some ⟨D, 0, none⟩)) rfl (by kernel_rfl) (by kernel_rfl) (by kernel_rfl) [] (by kernel_rfl) (by decide) (by kernel_rfl) (by kernel_rfl) (fun _ _ _ h => h) c0d (.inl ⟨by rfl, fun W hW => ?_⟩) ?_
      · obtain q0 := hW
        go_simp
      simp only [List.getElem_toArray, List.getElem_cons_succ, List.getElem_cons_zero, Act.put, List.setIfInBounds_toArray, List.set_cons_zero, List.set_cons_succ]
      refine wpAnyK_take (i := 12) (v := .pointer (some ⟨D, 0, none⟩)) rfl (by kernel_rfl) (by kernel_rfl) (by kernel_rfl) [] (by kernel_rfl) (by decide) (by kernel_rfl) (by kernel_rfl) (fun _ _ _ h => h) c0d (.inl ⟨by rfl, fun W hW => ?_⟩) ?_
      · obtain q0 := hW
        go_simp
      simp only [List.getElem_toArray, List.getElem_cons_succ, List.getElem_cons_zero, Act.put, List.setIfInBounds_toArray, List.set_cons_zero, List.set_cons_succ]
      refine wpAnyK_take (i := 13) (v := .slice (some ⟨b0, off0, none⟩) n cap) rfl (by kernel_rfl) (by kernel_rfl) (by kernel_rfl) [] (by kernel_rfl) (by decide) (by kernel_rfl) (by kernel_rfl) (fun _ _ _ h => h) c0d (.inl ⟨by rfl, fun W hW => ?_⟩) ?_
      · obtain q0 := hW
        go_simp
      simp only [List.getElem_toArray, List.getElem_cons_succ, List.getElem_cons_zero, Act.put, List.setIfInBounds_toArray, List.set_cons_zero, List.set_cons_succ]
      refine wpAnyK_take (i := 14) (v := .int .i64 (n : Nat)) rfl (by kernel_rfl) (by kernel_rfl) (by kernel_rfl) [] (by kernel_rfl) (by decide) (by kernel_rfl) (by kernel_rfl) (fun _ _ _ h => h) c0d (.inl ⟨by rfl, fun W hW => ?_⟩) ?_
      · obtain q0 := hW
        go_simp
      simp only [List.getElem_toArray, List.getElem_cons_succ, List.getElem_cons_zero, Act.put, List.setIfInBounds_toArray, List.set_cons_zero, List.set_cons_succ]
      refine wpAnyK_take (i := 15) (v := .slice (some ⟨b0, off0, none⟩) n n) rfl (by kernel_rfl) (by kernel_rfl) (by kernel_rfl) [] (by kernel_rfl) (by decide) (by kernel_rfl) (by kernel_rfl) (fun _ _ _ h => h) c0d (.inl ⟨by rfl, fun W hW => ?_⟩) ?_
      · obtain q0 := hW
        go_simp
      simp only [List.getElem_toArray, List.getElem_cons_succ, List.getElem_cons_zero, Act.put, List.setIfInBounds_toArray, List.set_cons_zero, List.set_cons_succ]
      refine wpAnyK_take (i := 16) (v := .slice bo m c) rfl (by kernel_rfl) (by kernel_rfl) (by kernel_rfl) [] (by kernel_rfl) (by decide) (by kernel_rfl) (by kernel_rfl) (fun _ _ _ h => h) c0d (.inl ⟨by rfl, fun W hW => ?_⟩) ?_
      · obtain q0 := hW
        go_simp
      simp only [List.getElem_toArray, List.getElem_cons_succ, List.getElem_cons_zero, Act.put, List.setIfInBounds_toArray, List.set_cons_zero, List.set_cons_succ]
      refine wpAnyK_ready (rs := [17]) (by kernel_rfl) (by simp) ?_
      refine AllReadyK.cons (o := { dst := some 27, op := Op.call { callee := Callee.builtin Builtin.append, args := #[Operand.tmp 25, Operand.tmp 26], argTypes := #[22, 22] }, type := 22, pos := "utf.go:83", after := #[{ on := 15, ground := Ground.data }, { on := 16, ground := Ground.data }], guard := none }) rfl (fun K hK => ?_) AllReadyK.nil
      refine step_append_win rfl (.tmp 25) (.tmp 26) rfl T U (some ⟨b0, off0, none⟩) bo n m c r bs (by go_simp) (by go_simp) (by have := HH.out.arg.drewN 1; rw [HWD.out]; exact this) (by simp) (by have := HB.out.drewN 1; rw [HWD.out]; exact this) hbn (by omega) ?_
      intro v w' hbw hcase
      have c0w := (hbw.cell (p := ⟨D, 0, none⟩) hDd).trans c0d
      refine hK.out _ _ (fun _ => c0w) ?_
      clear hK K
      try simp only [Act.put, List.setIfInBounds_toArray, List.set_cons_zero, List.set_cons_succ]
      have hbw0 : Below w.heap.size w w' := by
        have h1 : Below w.heap.size w wd := by rw [HWD.out]; exact Below.drewN' w 1
        exact h1.trans (hbw.mono h1.size)
      have hws : w.heap.size ≤ wd.heap.size := by rw [HWD.out]; exact Nat.le_refl _
      have hex : ∃ (B : Nat → Prop) (a' : Option Addr) (n' c' : Nat), v = .slice a' n' c' ∧ Arg B w' a' n' (r ++ bs) ∧ (a' = none → n' = 0 ∧ c' = 0) ∧ (∀ ad, a' = some ad → ad.spot = none) ∧ n' ≤ c' ∧ c' ≤ maxLen ∧ ((∀ k, B k ↔ T k) ∨ ∃ G, w.heap.size ≤ G ∧ G < w'.heap.size ∧ ∀ k, B k ↔ k = G) := by
        rcases hcase with ⟨hm, rfl, rfl⟩ | ⟨hm, G, cap', rfl, h1, h2, h3, h4⟩
        · subst hm
          obtain rfl : bs = [] := List.eq_nil_of_length_eq_zero hbl
          refine ⟨T, _, _, _, rfl, by rw [List.append_nil, HWD.out]; exact HH.out.arg.drewN 1, by simp, fun ad e => by cases e; rfl, Nat.le_refl _, by unfold maxLen; omega, .inl fun k => Iff.rfl⟩
        · refine ⟨_, _, _, _, rfl, h4, by simp, fun ad e => by cases e; rfl, h1, h2, .inr ⟨G, by omega, ?_, fun k => Iff.rfl⟩⟩
          obtain ⟨b1, o1, e, hb1, hG, _⟩ := h4.2 (by omega)
          cases e
          exact hb1
      clear hcase
      obtain ⟨B, a', n', c', rfl, hA', hn', hs', hnc', hcm', hBB⟩ := hex
      have f0w : w'.frozen? ⟨D, 0, none⟩ = false := (hbw0.frozen (p := ⟨D, 0, none⟩) hD).trans f0
      have hDw := Nat.lt_of_lt_of_le hDd hbw.size
      have hMD : Mod (fun k => k = D) w' (w'.setCell ⟨D, 0, none⟩ (.slice a' n' c')) := (Mod.refl (fun k => k = D) w').setCell ⟨D, 0, none⟩ (.inl rfl) _
      have hBD : ∀ k, B k → k ≠ D := fun k hk e => by
        rcases hBB with h | ⟨G, h1, h2, h3⟩
        · exact hTD k ((h k).1 hk) e
        · have := (h3 k).1 hk; omega
      have HWb : Hid (Wb B (w'.setCell ⟨D, 0, none⟩ (.slice a' n' c')) D a' n' c' (r ++ bs)) := Lib.hid ⟨World.cell?_setCell_same' _ _ _ (by rw [c0w]; rfl), by rw [World.frozen?_setCell]; exact f0w, by simpa [World.setCell] using hDw, hA'.mod hMD hBD, hn', hs', hnc', hcm'⟩
      have HJ0 : Hid (J B [] (w'.setCell ⟨D, 0, none⟩ (.slice a' n' c'))) := Lib.hid (H0.out B _ ((Mod.of_below hbw0 _).trans hMD (fun _ _ e => e)) ((cell1_set w' D _).trans (hbw0.cell (p := ⟨D, 1, none⟩) hD)) (by
        rcases hBB with h | ⟨G, h1, h2, h3⟩
        · exact .inl h
        · exact .inr ⟨G, h1, by simpa [World.setCell] using h2, h3⟩))
      have HBB : Hid ((∀ k, B k ↔ T k) ∨ ∃ G, w.heap.size ≤ G ∧ ∀ k, B k ↔ k = G) := Lib.hid (by
        rcases hBB with h | ⟨G, h1, h2, h3⟩
        · exact .inl h
        · exact .inr ⟨G, h1, h3⟩)
      clear hbw hbw0 hA' hn' hs' hnc' hcm' hBB hMD hBD c0d
      refine wpAnyK_ready (rs := [18]) (by kernel_rfl) (by simp) ?_
      refine AllReadyK.cons rfl (fun K hK => ?_) AllReadyK.nil
      go_simp
      refine hK.out _ _ (fun _ => c0w) ?_
      clear hK K
      try simp only [Act.put, List.setIfInBounds_toArray, List.set_cons_zero, List.set_cons_succ]
      refine wpAnyK_ready (rs := [19]) (by kernel_rfl) (by simp) ?_
      refine AllReadyK.cons rfl (fun K hK => ?_) AllReadyK.nil
      go_simp
      refine hK.out _ _ (fun _ => c0w) ?_
      clear hK K
      try simp only [Act.put, List.setIfInBounds_toArray, List.set_cons_zero, List.set_cons_succ]
      refine wpAnyK_ready (rs := [20]) (by kernel_rfl) (by simp) ?_
      refine AllReadyK.cons rfl (fun K hK => ?_) AllReadyK.nil
      go_simp
      refine hK.out _ _ (fun h => absurd (show true = false from h) (by decide)) ?_
      clear hK K
      try simp only [Act.put, List.setIfInBounds_toArray, List.set_cons_zero, List.set_cons_succ]
      refine wpAnyK_done (by kernel_rfl) ?_ _
      go_wp2_with fail
      go_meet
      exact ⟨B, a', n', c', HWb.out, HJ0.out, HBB.out⟩

  case rest =>
    obtain ⟨B, a0, n0, q0, hwb0, hj0, hbb⟩ := hcut
    have HBB := Lib.hid hbb
    have HW0 := Lib.hid hwb0
    have HJ0 := Lib.hid hj0
    clear hbb hwb0 hj0 c0 f0 HB HH hnc hD H0
    go_wp2_with fail
    go_loopg [6] (n + m) (fun gk v6 wr => ∃ (a : Nat) (pre : List (Nat × Int)) (zs : List Int) (a' : Option Addr) (n' c' : Nat), v6 = .int .i64 (a : Nat) ∧ gk = n' ∧ Wb B wr D a' n' c' zs ∧ J B pre wr ∧ L = pre ++ (told a zs).1 ∧ R = (told a zs).2 ∧ Byt zs ∧ a + n' = n + m)
    case atStart => exact ⟨0, [], r ++ bs, a0, n0, q0, rfl, by rw [← HW0.out.arg.1, HLen.out], HW0.out, HJ0.out, HLL.out, HRR.out, HBy.out, by rw [← HW0.out.arg.1, HLen.out]; omega⟩
    case round =>
      obtain ⟨a, pre, zs, a', n', c', rfl, hgk, hwb, hj, hL, hR, hbz, han⟩ := hrel
      have HGK := Lib.hid hgk
      clear hgk
      have HWB := Lib.hid hwb
      have HJ := Lib.hid hj
      have HL := Lib.hid hL
      have HR := Lib.hid hR
      have HBZ := Lib.hid hbz
      have c0 := hwb.c0
      have f0 := hwb.fz
      have hD := hwb.lt
      have hnc := hwb.nc
      have hzl := hwb.arg.1
      clear hwb hj hL hR hbz HW0 HJ0
      by_cases hz : n' = 0
      · subst hz
        obtain rfl : zs = [] := List.eq_nil_of_length_eq_zero hzl
        have HL2 := HL.out
        have HR2 := HR.out
        rw [told_nil, List.append_nil] at HL2
        rw [told_nil] at HR2
        have HL3 := Lib.hid HL2
        have HR3 := Lib.hid HR2
        clear HL2 HR2
        go_wp2
        go_end0
        exact ⟨⟨_, rfl⟩, B, _, _, _, _, HWB.out, HBB.out, .inl ⟨by rw [HL3.out]; exact HJ.out, HR3.out.symm⟩⟩
      · have hpos : 0 < n' := by omega
        have d1 : decide (0 < n') = true := by simpa using hpos
        obtain ⟨b0, off0, rfl⟩ : ∃ b off, a' = some ⟨b, off, none⟩ := by
          obtain ⟨b, off, e, _⟩ := HWB.out.arg.2 hpos
          exact ⟨b, off, e⟩
        obtain ⟨⟨p, k, wh⟩, hF⟩ : ∃ x, x = F zs := ⟨_, rfl⟩
        have hFl := F_len zs (by omega)
        have HFi := Lib.hid (first_any B _ n' c' zs wr HWB.out.arg hpos HBZ.out)
        rw [← hF] at HFi hFl
        obtain ⟨hk1, hk2, hk4, _⟩ := hFl
        dsimp only at hk1 hk2 hk4
        rw [hzl] at hk2
        have HF := Lib.hid hF
        clear hF hz
        go_wp2_with (go_at_call 51; fail)
        refine HFi.out.mono ?_
        rintro e w1 ⟨rfl, hb1⟩
        have HWB1 := Lib.hid (HWB.out.below hb1)
        have HJ1 := Lib.hid (HA.out B pre wr w1 HJ.out (Mod.of_below hb1 _) (hb1.cell (p := ⟨D, 1, none⟩) hD))
        dsimp only
        clear hb1 HFi c0 f0 hD HWB HJ
        have c0 := HWB1.out.c0
        have f0 := HWB1.out.fz
        have hD := HWB1.out.lt
        cases wh with
        | false =>
          have hw := told_wait a zs (by omega) (by rw [← HF.out])
          have HL2 := HL.out
          have HR2 := HR.out
          rw [hw, List.append_nil] at HL2
          rw [hw] at HR2
          have HL3 := Lib.hid HL2
          have HR3 := Lib.hid HR2
          clear HL2 HR2 hw
          go_wp2
          refine bodyPost_ret (results_none rfl _ _ _) rfl ?_
          exact ⟨⟨_, rfl⟩, B, _, _, _, _, HWB1.out, HBB.out, .inl ⟨by rw [HL3.out]; exact HJ1.out, HR3.out.symm⟩⟩
        | true =>
          have hw := told_step a zs (by omega) (by rw [← HF.out])
          rw [← HF.out] at hw
          dsimp only at hw
          have hp : pre ++ [(a, p)] <+: L := by rw [HL.out, hw]; exact ⟨(told (a + k) (zs.drop k)).1, by simp⟩
          have HTl := Lib.hid (HT.out B pre (a, p) w1 HJ1.out hp)
          dsimp only at HTl
          have HP := Lib.hid hp
          have HWs := Lib.hid hw
          clear hp hw
          go_wp2_with (go_at_call 39; fail)
          refine HTl.out.mono ?_
          rintro e w2 ⟨hm2, ⟨rfl, hj2⟩ | ⟨rfl, hjx⟩⟩
          · have HWB2 := Lib.hid (HWB1.out.kp hm2)
            have HJ2 := Lib.hid hj2
            clear hm2 hj2 HTl c0 f0 hD HWB1 HJ1
            have c0 := HWB2.out.c0
            have f0 := HWB2.out.fz
            have hD := HWB2.out.lt
            have hck : k ≤ c' := by omega
            have hgo : ∀ (a2 : Option Addr), (k < c' → a2 = some ⟨b0, off0 + k, none⟩) → (k = c' → a2 = some ⟨b0, off0, none⟩) → ∃ (wx : World), wx = w2.setCell ⟨D, 0, none⟩ (.slice a2 (n' - k) (c' - k)) ∧ Wb B wx D a2 (n' - k) (c' - k) (zs.drop k) ∧ J B (pre ++ [(a, p)]) wx := fun a2 e1 e2 => by
              have hMD : Mod (fun k => k = D) w2 (w2.setCell ⟨D, 0, none⟩ (.slice a2 (n' - k) (c' - k))) := (Mod.refl (fun k => k = D) w2).setCell ⟨D, 0, none⟩ (.inl rfl) _
              have hBD : ∀ k, B k → k ≠ D := fun k hk e => by
                rcases HBB.out with h | ⟨G, h1, h3⟩
                · exact hTD k ((h k).1 hk) e
                · have := (h3 k).1 hk
                  have := hDw
                  omega
              refine ⟨_, rfl, ⟨World.cell?_setCell_same' _ _ _ (by rw [c0]; rfl), by rw [World.frozen?_setCell]; exact f0, by simpa [World.setCell] using hD, ⟨by rw [List.length_drop, hzl], fun hp => ?_⟩, fun e => ?_, fun ad e => ?_, by omega, by have := HWB2.out.cm; omega⟩, HA.out B _ w2 _ HJ2.out hMD (cell1_set w2 D _)⟩
              · obtain ⟨b, off, e, hb, hB, hc⟩ := HWB2.out.arg.2 hpos
                cases e
                refine ⟨b0, off0 + k, e1 (by omega), by simpa [World.setCell] using hb, hB, fun j hj => ?_⟩
                have h2 := (hMD.cell (p := ⟨b0, off0 + (k + j), none⟩) hb (hBD _ hB)).trans (hc (k + j) (by omega))
                rw [← Nat.add_assoc] at h2
                rw [h2]
                simp [List.getD, List.getElem?_drop]
              · rcases Nat.lt_or_ge k c' with h | h
                · rw [e1 h] at e; cases e
                · rw [e2 (by omega)] at e; cases e
              · rcases Nat.lt_or_ge k c' with h | h
                · rw [e1 h] at e; cases e; rfl
                · rw [e2 (by omega)] at e; cases e; rfl
            have HGo := Lib.hid hgo
            have HW2 := HWs.out
            have HL4 : Hid (L = (pre ++ [(a, p)]) ++ (told (a + k) (zs.drop k)).1) := Lib.hid (by rw [HL.out, HW2]; simp)
            have HR4 : Hid (R = (told (a + k) (zs.drop k)).2) := Lib.hid (by rw [HR.out, HW2])
            clear hgo HW2
            rcases Nat.lt_or_ge k c' with hkc | hkc
            · have hne : ¬ c' = k := by omega
              have hne2 : ¬ k = c' := by omega
              go_wp2
              go_roundg (n' - k)
              case measure => have := HGK.out; omega
              case rel =>
                obtain ⟨wx, rfl, h1, h2⟩ := HGo.out (some ⟨b0, off0 + k, none⟩) (fun _ => rfl) (fun e => by omega)
                exact ⟨a + k, pre ++ [(a, p)], zs.drop k, some ⟨b0, off0 + k, none⟩, n' - k, c' - k, by go_num, rfl, h1, h2, HL4.out, HR4.out, HBZ.out.drop k, by omega⟩
            · obtain rfl : k = c' := by omega
              obtain rfl : n' = k := by omega
              go_wp2
              go_roundg 0
              case measure => have := HGK.out; omega
              case rel =>
                obtain ⟨wx, rfl, h1, h2⟩ := HGo.out (some ⟨b0, off0, none⟩) (fun e => by omega) (fun _ => rfl)
                rw [Nat.sub_self] at h1 h2
                exact ⟨a + n', pre ++ [(a, p)], zs.drop n', some ⟨b0, off0, none⟩, 0, 0, by go_num, rfl, h1, h2, HL4.out, HR4.out, HBZ.out.drop n', by omega⟩
          · have HWB2 := Lib.hid (HWB1.out.kp hm2)
            have HJx := Lib.hid hjx
            clear hm2 hjx HTl
            go_wp2
            refine bodyPost_ret (results_none rfl _ _ _) rfl ?_
            exact ⟨⟨_, rfl⟩, B, _, _, _, _, HWB2.out, HBB.out, .inr ⟨_, HP.out, HJx.out⟩⟩
end Go.Proofs.Ytfkfooclapogjaa
