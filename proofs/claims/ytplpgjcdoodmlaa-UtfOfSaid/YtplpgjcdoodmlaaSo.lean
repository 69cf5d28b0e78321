/-
  UtfOf, walked.
-/
import Derived.Test.YtplpgjcdoodmlaaSn
import Derived.Deep.RegionHeld3
namespace Go.Proofs.Ytplpgjcdoodmlaa
open Go.RowKit
set_option linter.unusedVariables false
set_option linter.unusedSimpArgs false

set_option maxHeartbeats 6400000 in
set_option maxRecDepth 100000 in
theorem of_any (a : Option Addr) (n cap : Nat) (zs : List Int) (w : World) (h : InB w a n cap zs) :
    Calls Try.prog 4 #[.slice a n cap] w fun e w' => e = .returned (.bool true) ∧ Below w.heap.size w w' := by
  have HWk := Lib.hid works_true
  by_cases hbig : 300 < n
  · have d1 : decide (300 < n) = true := by simpa using hbig
    have d2 : decide ((300 : Int) < n) = true := by simp; omega
    clear h hbig
    go_enter Try.func4, Try.ntmps4
    go_wp2_with (go_at_call 8; fail)
    refine (HWk.out _).mono ?_
    rintro e w1 ⟨rfl, hb⟩
    have HB := Lib.hid hb
    clear hb
    go_wp2
    go_ret
    exact ⟨rfl, HB.out⟩
  obtain ⟨i0, hi0, hz0, hz1, hz2⟩ := info_parts Try.info5
  have hn300 : n ≤ 300 := by omega
  have d1 : decide (300 < n) = false := by simp; omega
  have d2 : decide ((300 : Int) < n) = false := by simp; omega
  have HA := Lib.hid h.1
  have HNn := Lib.hid h.2.1
  have hcap := h.2.2.1
  have HBy := Lib.hid h.2.2.2.2
  have HZL := Lib.hid h.1.1
  have HR0 : Hid ((w.alloc (.cells #[] 5)).ownsRow w.heap.size 5 1 (.slice (some ⟨w.heap.size, 0, none⟩) 0 0) 0 []) := Lib.hid (World.ownsRow_lit w #[] 0 (Nat.le_refl _) (by simp) rfl)
  have HB0 : Hid (Below w.heap.size w (w.alloc (.cells #[] 5))) := Lib.hid ((Below.refl _ w).alloc (Nat.le_refl _) _)
  have HA0 := Lib.hid (HA.out.below HB0.out)
  clear h hbig
  go_enter Try.func4, Try.ntmps4
  go_wp2_with (at_builtin; go_loud (refine wpList_append_f _ rfl (.tmp 9) (.tmp 10) 25 rfl w.heap.size 5 i0 (.int .u8 0) 1 1 Try.underlying25 hi0 hz0 hz1 hz2 rfl (by decide) _ _ _ rfl HR0.out a n cap (zs.map (.int .u8)) rfl (by simpa using HZL.out) HNn.out HA0.out.news (one_u8 zs) ?c3 ?c4 (by simp) ?_))
  case c3 => unfold maxLen; omega
  case c4 => omega
  intro v1 w1 hown hg hf _
  have hb1 : Below w.heap.size w w1 := HB0.out.grown hg (by simp) (fun k e => by cases e; exact Nat.le_refl _)
  try rw [Nat.zero_add, List.nil_append] at hown
  obtain ⟨a1, c1, rfl⟩ := row_slice hown
  have HR1 := Lib.hid hown
  have HB1 := Lib.hid hb1
  obtain ⟨w2, hw2⟩ : ∃ W, W = w1.alloc (.cells #[.int .u8 77] 5) := ⟨_, rfl⟩
  have b2 : Below w1.heap.size w1 w2 := by rw [hw2]; exact (Below.refl _ w1).alloc (Nat.le_refl _) _
  have k2 : w2.heap[w1.heap.size]? = some (.cells #[.int .u8 77] 5 (0, 0)) := by rw [hw2]; exact alloc_blk_new _ _
  have HR2 := Lib.hid ((Mod.of_below b2 (fun _ => False)).row hown (fun _ _ h => h))
  have HB2 := Lib.hid (hb1.trans (b2.mono hb1.size))
  have HN := Lib.hid (fun (ad : Addr) (e : some (⟨w1.heap.size, 0, none⟩ : Addr) = some ad) j u (hj : [Value.int .u8 77][j]? = some u) => (show w2.cell? (ad.add j) = some u by
    cases e
    match j, hj with
    | 0, hj => cases hj; exact cell_blk k2 0 _ rfl))
  have E2 := Lib.hid hw2
  have hs2 := HB2.out.size
  clear hown hg hf hb1 hw2 b2 k2
  go_wp2_with (at_builtin; go_loud (rw [← E2.out]); go_loud (refine wpList_append_f _ rfl (.tmp 11) (.tmp 12) 25 rfl w.heap.size 5 i0 (.int .u8 0) 1 1 Try.underlying25 hi0 hz0 hz1 hz2 rfl (by decide) _ _ _ rfl HR2.out (some ⟨w1.heap.size, 0, none⟩) 1 1 [.int .u8 77] rfl rfl (fun e => by cases e) HN.out (by simp [Value.oneCell']) ?c3 ?c4 (by omega) ?_))
  case c3 => unfold maxLen; omega
  case c4 => omega
  intro v3 w3 hown hg hf _
  have hb3 : Below w.heap.size w w3 := HB2.out.grown hg hs2 (fun k e => (HR2.out.lt k e).1)
  have hown2 : w3.ownsRow w.heap.size 5 1 v3 (n + 1) ((zs ++ [77]).map (.int .u8)) := by simpa using hown
  obtain ⟨g, c3, cur, rfl, hgl, hgg, hnc, hcm, _⟩ := row_some hown2 (by omega)
  have hzl := HZL.out
  have hAw : Arg (fun k => w.heap.size ≤ k) w3 (some ⟨g, 0, none⟩) n zs := by
    have hl := hown2.1
    refine ⟨hzl, fun hp => ?_⟩
    obtain ⟨b, e, hb⟩ := row_window hown2 0 n (by omega) hp
    cases e
    obtain ⟨_, h2⟩ := hb
    obtain ⟨b', off, e, hbl, _, hc⟩ := h2 hp
    cases e
    refine ⟨g, 0, rfl, hbl, hgl, fun j hj => ?_⟩
    rw [hc j hj]
    have : j < zs.length := by omega
    simp [List.getD, List.getElem?_take_of_lt hj, List.getElem?_append_left this]
  have c77 : w3.cell? ⟨g, n, none⟩ = some (.int .u8 77) := by
    have := hown2.cellAt n (by omega)
    rw [this]
    simp [hzl]
  have hn1 : n ≤ c3 := by omega
  have hn2 : (n : Int) ≤ c3 := by omega
  have hn3 : n + 1 ≤ c3 := by omega
  have HA3 := Lib.hid hAw
  have H77 := Lib.hid c77
  have HB3 := Lib.hid hb3
  have HG := Lib.hid hgg
  clear hown hown2 hg hf hb3 hAw c77 hgg HR2 HB2 HN HR1 HB1 HR0 HB0 HA0 hzl E2 hs2
  obtain ⟨X, hX⟩ : ∃ X, X = strOfNums (ofL zs) := ⟨_, rfl⟩
  have hby := HBy.out
  have HOf := Lib.hid (Of_any (some ⟨g, 0, none⟩) n c3 zs w3 HA3.out (fun e => by cases e) hby (by omega))
  rw [← hX] at HOf
  go_wp2_with (go_at_call 11; fail)
  refine HOf.out.mono ?_
  rintro e w4 ⟨rfl, hb4⟩
  have HB34 := Lib.hid hb4
  obtain ⟨Z, hZ⟩ : ∃ Z, Z = strOfNums zs := ⟨_, rfl⟩
  have hZs : Z.size ≤ 300 := by rw [hZ, strOfNums_size, HZL.out]; exact hn300
  have hXl : (ofL zs).length ≤ 3000 := by
    rw [ofL_split, List.length_append]
    have h1 := enc_len (pts zs)
    have h2 := pts_len zs
    have h3 := HZL.out
    have h4 := bytesL_len 65533
    split <;> simp <;> omega
  have hXs : X.size ≤ 3000 := by rw [hX, strOfNums_size]; exact hXl
  have hXn : nums X = ofL zs := by rw [hX, nums_str (ofL_byt hby)]
  have hXo : ofL (nums X) = nums X := by rw [hXn]; exact ofL_ofL hby
  have hZn : nums Z = zs := by rw [hZ, nums_str hby]
  obtain ⟨bz, hbz⟩ : ∃ bz, bz = decide (ofL (nums Z) = nums Z) := ⟨_, rfl⟩
  have HSX : Hid (∀ W, Calls Try.prog 13 #[.string X] W fun e w' => e = .returned (.bool true) ∧ Below W.heap.size W w') := Lib.hid fun W => (Sound_any X W (by omega)).mono fun e w' q => ⟨by rw [q.1, hXo]; simp, q.2⟩
  have HSZ : Hid (∀ W, Calls Try.prog 13 #[.string Z] W fun e w' => e = .returned (.bool bz) ∧ Below W.heap.size W w') := Lib.hid fun W => (Sound_any Z W (by omega)).mono fun e w' q => ⟨by rw [q.1, hbz], q.2⟩
  have HRZ : Hid (∀ W, Calls Try.prog 14 #[.string Z] W fun e w' => e = .returned (.bool bz) ∧ Below W.heap.size W w') := Lib.hid fun W => (refSound_any Z W (by omega)).mono fun e w' q => ⟨by rw [q.1, hbz], q.2⟩
  have HRO : Hid (∀ W, Below w3.heap.size w3 W → Calls Try.prog 12 #[.slice a n cap] W fun e w' => e = .returned (.string X) ∧ Below W.heap.size W w') := Lib.hid fun W hW => by
    rw [hX]; exact refOf_any a n cap zs W (HA.out.below (HB3.out.trans (hW.mono HB3.out.size))) HNn.out hcap hby (by omega)
  have HC1 : Hid (∀ W, Below w3.heap.size w3 W → (convert 25 9 (.slice a n cap)).run Try.prog W = .ok (.string Z) W) := Lib.hid fun W hW => by
    have := HA.out.below (HB3.out.trans (hW.mono HB3.out.size))
    rw [hZ]
    have e := HZL.out
    subst e
    exact conv_any cap this HNn.out
  have HC2 : Hid (∀ W, Below w3.heap.size w3 W → (convert 25 9 (.slice (some ⟨g, 0, none⟩) n c3)).run Try.prog W = .ok (.string Z) W) := Lib.hid fun W hW => by
    have := HA3.out.below hW
    rw [hZ]
    have e := HZL.out
    subst e
    exact conv_any c3 this (fun e => by cases e)
  have HCX : Hid (∀ W, ∃ c w', (convert 9 25 (.string X)).run Try.prog W = .ok (.slice (some ⟨W.heap.size, 0, none⟩) X.size c) w' ∧ Below W.heap.size W w' ∧ Calls Try.prog 11 #[.slice (some ⟨W.heap.size, 0, none⟩) X.size c] w' fun e w'' => e = .returned (.string X) ∧ Below w'.heap.size w' w'') := Lib.hid fun W => by
    obtain ⟨c, w', h1, h2, h3, h4⟩ := conv_new X W
    refine ⟨c, w', h1, h2, (Of_any _ _ _ _ _ h4 (fun e => by cases e) (nums_byt X) (by omega)).mono ?_⟩
    rintro e w'' ⟨rfl, hb⟩
    exact ⟨by rw [hXo, str_nums], hb⟩
  have HGL := Lib.hid (blk_lt HG.out)
  have H7 : Hid (∀ W, Below w3.heap.size w3 W → W.cell? ⟨g, n, none⟩ = some (.int .u8 77) ∧ g < W.heap.size) := Lib.hid fun W hW => ⟨(hW.cell (p := ⟨g, n, none⟩) HGL.out).trans H77.out, Nat.lt_of_lt_of_le HGL.out hW.size⟩
  clear hX hZ hZs hXl hXn hXo hZn hbz hb4 hby HOf
  have hwr : IntKind.i64.wrap ((n : Int) + 1) = (n : Int) + 1 := by rw [IntKind.wrap_i64]; omega
  have hn4 : (n : Int) + 1 ≤ c3 := by omega
  have hn5 : (0 : Int) ≤ (n : Int) + 1 := by omega
  have hn6 : (n : Int) < (n : Int) + 1 := by omega
  go_upto_region 5 with fail
  refine wp_region_held_drew (S := fun W => Below w3.heap.size w3 W) (by kernel_rfl) (HB34.out.trans ((Below.drewN' w4 1).mono HB34.out.size)) (fun hHeld => ?_)
  refine' wpAnyH_take (i := 0) (oi := { dst := some 19, op := Op.move (Operand.tmp 4), type := 9, pos := "law.go:43", after := #[], guard := none }) (v := ?v1) rfl (by kernel_rfl) (by kernel_rfl) (by kernel_rfl) (fun _ _ _ h => h) (.inl ⟨by first | rfl | simp [Region.wanted, yielded], ?hy1⟩) (by assumption) ?rest1
  case hy1 => (intro W hW; have f1 := HC1.out _ hW; have f2 := HC2.out _ hW; obtain ⟨f3, f4⟩ := H7.out _ hW; go_simp; try with_reducible rfl)
  simp only [Act.put, List.setIfInBounds_toArray, List.set_cons_zero, List.set_cons_succ]
  refine' wpAnyH_take (i := 1) (oi := { dst := some 20, op := Op.move (Operand.tmp 0), type := 25, pos := "law.go:43", after := #[], guard := none }) (v := ?v2) rfl (by kernel_rfl) (by kernel_rfl) (by kernel_rfl) (fun _ _ _ h => h) (.inl ⟨by first | rfl | simp [Region.wanted, yielded], ?hy2⟩) (by assumption) ?rest2
  case hy2 => (intro W hW; have f1 := HC1.out _ hW; have f2 := HC2.out _ hW; obtain ⟨f3, f4⟩ := H7.out _ hW; go_simp; try with_reducible rfl)
  simp only [Act.put, List.setIfInBounds_toArray, List.set_cons_zero, List.set_cons_succ]
  refine wpAnyH_ready (rs := [2]) (by kernel_rfl) (by simp) ?_
  refine AllReadyH.cons (o := { dst := some 21, op := Op.call { callee := Callee.value (Operand.func 12), args := #[Operand.tmp 20], argTypes := #[25] }, type := 9, pos := "law.go:43", after := #[{ on := 1, ground := Ground.data }], guard := none }) rfl (fun K hK => ?_) (AllReadyH.nil)
  try simp only [List.getElem_toArray, List.getElem_cons_succ, List.getElem_cons_zero]
  go_simp
  refine (HRO.out _ (by assumption)).mono ?_
  rintro e w5 ⟨rfl, hb5⟩
  have Hhb5 := (show Below w3.heap.size w3 _ from by assumption).trans (hb5.mono (show Below w3.heap.size w3 _ from by assumption).size)
  clear hb5
  refine hK.out _ _ (by assumption) (fun hHeld => ?_)
  clear hK K
  try simp only [Act.put, List.setIfInBounds_toArray, List.set_cons_zero, List.set_cons_succ]
  refine' wpAnyH_take (i := 3) (oi := { dst := some 22, op := Op.binOp BinOp.eql 9 (Operand.tmp 19) (Operand.tmp 21) 9, type := 4, pos := "law.go:43", after := #[{ on := 0, ground := Ground.data }, { on := 2, ground := Ground.data }], guard := none }) (v := ?v3) rfl (by kernel_rfl) (by kernel_rfl) (by kernel_rfl) (fun _ _ _ h => h) (.inl ⟨by first | rfl | simp [Region.wanted, yielded], ?hy3⟩) (by assumption) ?rest3
  case hy3 => (intro W hW; have f1 := HC1.out _ hW; have f2 := HC2.out _ hW; obtain ⟨f3, f4⟩ := H7.out _ hW; go_simp; try with_reducible rfl)
  simp only [Act.put, List.setIfInBounds_toArray, List.set_cons_zero, List.set_cons_succ]
  refine' wpAnyH_take (i := 4) (oi := { dst := some 23, op := Op.move (Operand.tmp 22), type := 4, pos := "law.go:43", after := #[{ on := 3, ground := Ground.data }, { on := 2, ground := Ground.chain }], guard := none }) (v := ?v4) rfl (by kernel_rfl) (by kernel_rfl) (by kernel_rfl) (fun _ _ _ h => h) (.inl ⟨by first | rfl | simp [Region.wanted, yielded], ?hy4⟩) (by assumption) ?rest4
  case hy4 => (intro W hW; have f1 := HC1.out _ hW; have f2 := HC2.out _ hW; obtain ⟨f3, f4⟩ := H7.out _ hW; go_simp; try with_reducible rfl)
  simp only [Act.put, List.setIfInBounds_toArray, List.set_cons_zero, List.set_cons_succ]
  refine' wpAnyH_take (i := 5) (oi := { dst := some 24, op := Op.move (Operand.tmp 0), type := 25, pos := "law.go:43", after := #[{ on := 4, ground := Ground.guard }], guard := some (4, true) }) (v := ?v5) rfl (by kernel_rfl) (by kernel_rfl) (by kernel_rfl) (fun _ _ _ h => h) (.inl ⟨by first | rfl | simp [Region.wanted, yielded], ?hy5⟩) (by assumption) ?rest5
  case hy5 => (intro W hW; have f1 := HC1.out _ hW; have f2 := HC2.out _ hW; obtain ⟨f3, f4⟩ := H7.out _ hW; go_simp; try with_reducible rfl)
  simp only [Act.put, List.setIfInBounds_toArray, List.set_cons_zero, List.set_cons_succ]
  refine' wpAnyH_take (i := 6) (oi := { dst := some 25, op := Op.convert 25 9 (Operand.tmp 24), type := 9, pos := "law.go:43", after := #[{ on := 5, ground := Ground.data }, { on := 4, ground := Ground.guard }], guard := some (4, true) }) (v := ?v6) rfl (by kernel_rfl) (by kernel_rfl) (by kernel_rfl) (fun _ _ _ h => h) (.inl ⟨by first | rfl | simp [Region.wanted, yielded], ?hy6⟩) (by assumption) ?rest6
  case hy6 => (intro W hW; have f1 := HC1.out _ hW; have f2 := HC2.out _ hW; obtain ⟨f3, f4⟩ := H7.out _ hW; go_simp; try with_reducible rfl)
  simp only [Act.put, List.setIfInBounds_toArray, List.set_cons_zero, List.set_cons_succ]
  refine' wpAnyH_take (i := 8) (oi := { dst := some 27, op := Op.move (Operand.tmp 0), type := 25, pos := "law.go:43", after := #[{ on := 4, ground := Ground.guard }], guard := some (4, true) }) (v := ?v7) rfl (by kernel_rfl) (by kernel_rfl) (by kernel_rfl) (fun _ _ _ h => h) (.inl ⟨by first | rfl | simp [Region.wanted, yielded], ?hy7⟩) (by assumption) ?rest7
  case hy7 => (intro W hW; have f1 := HC1.out _ hW; have f2 := HC2.out _ hW; obtain ⟨f3, f4⟩ := H7.out _ hW; go_simp; try with_reducible rfl)
  simp only [Act.put, List.setIfInBounds_toArray, List.set_cons_zero, List.set_cons_succ]
  refine' wpAnyH_take (i := 9) (oi := { dst := some 28, op := Op.convert 25 9 (Operand.tmp 27), type := 9, pos := "law.go:43", after := #[{ on := 8, ground := Ground.data }, { on := 4, ground := Ground.guard }], guard := some (4, true) }) (v := ?v8) rfl (by kernel_rfl) (by kernel_rfl) (by kernel_rfl) (fun _ _ _ h => h) (.inl ⟨by first | rfl | simp [Region.wanted, yielded], ?hy8⟩) (by assumption) ?rest8
  case hy8 => (intro W hW; have f1 := HC1.out _ hW; have f2 := HC2.out _ hW; obtain ⟨f3, f4⟩ := H7.out _ hW; go_simp; try with_reducible rfl)
  simp only [Act.put, List.setIfInBounds_toArray, List.set_cons_zero, List.set_cons_succ]
  refine wpAnyH_ready (rs := [7]) (by kernel_rfl) (by simp) ?_
  refine AllReadyH.cons (o := { dst := some 26, op := Op.call { callee := Callee.value (Operand.func 13), args := #[Operand.tmp 25], argTypes := #[9] }, type := 4, pos := "law.go:43", after := #[{ on := 6, ground := Ground.data }, { on := 4, ground := Ground.chain }, { on := 4, ground := Ground.guard }], guard := some (4, true) }) rfl (fun K hK => ?_) (AllReadyH.nil)
  try simp only [List.getElem_toArray, List.getElem_cons_succ, List.getElem_cons_zero]
  go_simp
  refine (HSZ.out _).mono ?_
  rintro e w6 ⟨rfl, hb6⟩
  have Hhb6 := (show Below w3.heap.size w3 _ from by assumption).trans (hb6.mono (show Below w3.heap.size w3 _ from by assumption).size)
  clear hb6
  refine hK.out _ _ (by assumption) (fun hHeld => ?_)
  clear hK K
  try simp only [Act.put, List.setIfInBounds_toArray, List.set_cons_zero, List.set_cons_succ]
  refine wpAnyH_ready (rs := [10]) (by kernel_rfl) (by simp) ?_
  refine AllReadyH.cons (o := { dst := some 29, op := Op.call { callee := Callee.value (Operand.func 14), args := #[Operand.tmp 28], argTypes := #[9] }, type := 4, pos := "law.go:43", after := #[{ on := 9, ground := Ground.data }, { on := 7, ground := Ground.chain }, { on := 4, ground := Ground.guard }], guard := some (4, true) }) rfl (fun K hK => ?_) (AllReadyH.nil)
  try simp only [List.getElem_toArray, List.getElem_cons_succ, List.getElem_cons_zero]
  go_simp
  refine (HRZ.out _).mono ?_
  rintro e w7 ⟨rfl, hb7⟩
  have Hhb7 := (show Below w3.heap.size w3 _ from by assumption).trans (hb7.mono (show Below w3.heap.size w3 _ from by assumption).size)
  clear hb7
  refine hK.out _ _ (by assumption) (fun hHeld => ?_)
  clear hK K
  try simp only [Act.put, List.setIfInBounds_toArray, List.set_cons_zero, List.set_cons_succ]
  refine' wpAnyH_take (i := 11) (oi := { dst := some 30, op := Op.binOp BinOp.eql 4 (Operand.tmp 26) (Operand.tmp 29) 4, type := 4, pos := "law.go:43", after := #[{ on := 7, ground := Ground.data }, { on := 10, ground := Ground.data }, { on := 4, ground := Ground.guard }], guard := some (4, true) }) (v := ?v9) rfl (by kernel_rfl) (by kernel_rfl) (by kernel_rfl) (fun _ _ _ h => h) (.inl ⟨by first | rfl | simp [Region.wanted, yielded], ?hy9⟩) (by assumption) ?rest9
  case hy9 => (intro W hW; have f1 := HC1.out _ hW; have f2 := HC2.out _ hW; obtain ⟨f3, f4⟩ := H7.out _ hW; go_simp; try with_reducible rfl)
  simp only [Act.put, List.setIfInBounds_toArray, List.set_cons_zero, List.set_cons_succ]
  refine' wpAnyH_take (i := 12) (oi := { dst := some 31, op := Op.pick (Operand.tmp 23) (Operand.tmp 30) (Operand.const (Value.bool false)), type := 4, pos := "law.go:43", after := #[{ on := 4, ground := Ground.data }, { on := 11, ground := Ground.data }], guard := none }) (v := ?v10) rfl (by kernel_rfl) (by kernel_rfl) (by kernel_rfl) (fun _ _ _ h => h) (.inl ⟨by first | rfl | simp [Region.wanted, yielded], ?hy10⟩) (by assumption) ?rest10
  case hy10 => (intro W hW; have f1 := HC1.out _ hW; have f2 := HC2.out _ hW; obtain ⟨f3, f4⟩ := H7.out _ hW; go_simp; try with_reducible rfl)
  simp only [Act.put, List.setIfInBounds_toArray, List.set_cons_zero, List.set_cons_succ]
  refine' wpAnyH_take (i := 13) (oi := { dst := some 32, op := Op.move (Operand.tmp 31), type := 4, pos := "law.go:43", after := #[{ on := 12, ground := Ground.data }, { on := 10, ground := Ground.chain }], guard := none }) (v := ?v11) rfl (by kernel_rfl) (by kernel_rfl) (by kernel_rfl) (fun _ _ _ h => h) (.inl ⟨by first | rfl | simp [Region.wanted, yielded], ?hy11⟩) (by assumption) ?rest11
  case hy11 => (intro W hW; have f1 := HC1.out _ hW; have f2 := HC2.out _ hW; obtain ⟨f3, f4⟩ := H7.out _ hW; go_simp; try with_reducible rfl)
  simp only [Act.put, List.setIfInBounds_toArray, List.set_cons_zero, List.set_cons_succ]
  refine' wpAnyH_take (i := 14) (oi := { dst := some 33, op := Op.move (Operand.tmp 4), type := 9, pos := "law.go:43", after := #[{ on := 13, ground := Ground.guard }], guard := some (13, true) }) (v := ?v12) rfl (by kernel_rfl) (by kernel_rfl) (by kernel_rfl) (fun _ _ _ h => h) (.inl ⟨by first | rfl | simp [Region.wanted, yielded], ?hy12⟩) (by assumption) ?rest12
  case hy12 => (intro W hW; have f1 := HC1.out _ hW; have f2 := HC2.out _ hW; obtain ⟨f3, f4⟩ := H7.out _ hW; go_simp; try with_reducible rfl)
  simp only [Act.put, List.setIfInBounds_toArray, List.set_cons_zero, List.set_cons_succ]
  refine wpAnyH_ready (rs := [15]) (by kernel_rfl) (by simp) ?_
  refine AllReadyH.cons (o := { dst := some 34, op := Op.call { callee := Callee.value (Operand.func 13), args := #[Operand.tmp 33], argTypes := #[9] }, type := 4, pos := "law.go:43", after := #[{ on := 14, ground := Ground.data }, { on := 13, ground := Ground.chain }, { on := 13, ground := Ground.guard }], guard := some (13, true) }) rfl (fun K hK => ?_) (AllReadyH.nil)
  try simp only [List.getElem_toArray, List.getElem_cons_succ, List.getElem_cons_zero]
  go_simp
  refine (HSX.out _).mono ?_
  rintro e w8 ⟨rfl, hb8⟩
  have Hhb8 := (show Below w3.heap.size w3 _ from by assumption).trans (hb8.mono (show Below w3.heap.size w3 _ from by assumption).size)
  clear hb8
  obtain ⟨c8, w9, hrun, hb9, hof⟩ := HCX.out w8
  have Hb9 := Hhb8.trans (hb9.mono Hhb8.size)
  have HO9 := Lib.hid hof
  clear hof hb9
  refine hK.out _ _ (by assumption) (fun hHeld => ?_)
  clear hK K
  try simp only [Act.put, List.setIfInBounds_toArray, List.set_cons_zero, List.set_cons_succ]
  refine' wpAnyH_take (i := 16) (oi := { dst := some 35, op := Op.pick (Operand.tmp 32) (Operand.tmp 34) (Operand.const (Value.bool false)), type := 4, pos := "law.go:43", after := #[{ on := 13, ground := Ground.data }, { on := 15, ground := Ground.data }], guard := none }) (v := ?v13) rfl (by kernel_rfl) (by kernel_rfl) (by kernel_rfl) (fun _ _ _ h => h) (.inl ⟨by first | rfl | simp [Region.wanted, yielded], ?hy13⟩) (by assumption) ?rest13
  case hy13 => (intro W hW; have f1 := HC1.out _ hW; have f2 := HC2.out _ hW; obtain ⟨f3, f4⟩ := H7.out _ hW; go_simp; try with_reducible rfl)
  simp only [Act.put, List.setIfInBounds_toArray, List.set_cons_zero, List.set_cons_succ]
  refine' wpAnyH_take (i := 17) (oi := { dst := some 36, op := Op.move (Operand.tmp 35), type := 4, pos := "law.go:43", after := #[{ on := 16, ground := Ground.data }, { on := 15, ground := Ground.chain }], guard := none }) (v := ?v14) rfl (by kernel_rfl) (by kernel_rfl) (by kernel_rfl) (fun _ _ _ h => h) (.inl ⟨by first | rfl | simp [Region.wanted, yielded], ?hy14⟩) (by assumption) ?rest14
  case hy14 => (intro W hW; have f1 := HC1.out _ hW; have f2 := HC2.out _ hW; obtain ⟨f3, f4⟩ := H7.out _ hW; go_simp; try with_reducible rfl)
  simp only [Act.put, List.setIfInBounds_toArray, List.set_cons_zero, List.set_cons_succ]
  refine' wpAnyH_take (i := 18) (oi := { dst := some 37, op := Op.move (Operand.tmp 4), type := 9, pos := "law.go:43", after := #[{ on := 17, ground := Ground.guard }], guard := some (17, true) }) (v := ?v15) rfl (by kernel_rfl) (by kernel_rfl) (by kernel_rfl) (fun _ _ _ h => h) (.inl ⟨by first | rfl | simp [Region.wanted, yielded], ?hy15⟩) (by assumption) ?rest15
  case hy15 => (intro W hW; have f1 := HC1.out _ hW; have f2 := HC2.out _ hW; obtain ⟨f3, f4⟩ := H7.out _ hW; go_simp; try with_reducible rfl)
  simp only [Act.put, List.setIfInBounds_toArray, List.set_cons_zero, List.set_cons_succ]
  refine' wpAnyH_take (i := 21) (oi := { dst := some 40, op := Op.move (Operand.tmp 4), type := 9, pos := "law.go:43", after := #[{ on := 17, ground := Ground.guard }], guard := some (17, true) }) (v := ?v16) rfl (by kernel_rfl) (by kernel_rfl) (by kernel_rfl) (fun _ _ _ h => h) (.inl ⟨by first | rfl | simp [Region.wanted, yielded], ?hy16⟩) (by assumption) ?rest16
  case hy16 => (intro W hW; have f1 := HC1.out _ hW; have f2 := HC2.out _ hW; obtain ⟨f3, f4⟩ := H7.out _ hW; go_simp; try with_reducible rfl)
  simp only [Act.put, List.setIfInBounds_toArray, List.set_cons_zero, List.set_cons_succ]
  refine wpAnyH_ready (rs := [19]) (by kernel_rfl) (by simp) ?_
  refine AllReadyH.cons (o := { dst := some 38, op := Op.convert 9 25 (Operand.tmp 37), type := 25, pos := "law.go:43", after := #[{ on := 18, ground := Ground.data }, { on := 17, ground := Ground.guard }], guard := some (17, true) }) rfl (fun K hK => ?_) (AllReadyH.nil)
  try simp only [List.getElem_toArray, List.getElem_cons_succ, List.getElem_cons_zero]
  go_simp
  refine hK.out _ _ (by assumption) (fun hHeld => ?_)
  clear hK K
  try simp only [Act.put, List.setIfInBounds_toArray, List.set_cons_zero, List.set_cons_succ]
  refine wpAnyH_ready (rs := [20]) (by kernel_rfl) (by simp) ?_
  refine AllReadyH.cons (o := { dst := some 39, op := Op.call { callee := Callee.value (Operand.func 11), args := #[Operand.tmp 38], argTypes := #[25] }, type := 9, pos := "law.go:43", after := #[{ on := 19, ground := Ground.data }, { on := 17, ground := Ground.chain }, { on := 17, ground := Ground.guard }], guard := some (17, true) }) rfl (fun K hK => ?_) (AllReadyH.nil)
  try simp only [List.getElem_toArray, List.getElem_cons_succ, List.getElem_cons_zero]
  go_simp
  refine (HO9.out).mono ?_
  rintro e w10 ⟨rfl, hb10⟩
  have Hhb10 := (show Below w3.heap.size w3 _ from by assumption).trans (hb10.mono (show Below w3.heap.size w3 _ from by assumption).size)
  clear hb10
  refine hK.out _ _ (by assumption) (fun hHeld => ?_)
  clear hK K
  try simp only [Act.put, List.setIfInBounds_toArray, List.set_cons_zero, List.set_cons_succ]
  refine' wpAnyH_take (i := 22) (oi := { dst := some 41, op := Op.binOp BinOp.eql 9 (Operand.tmp 39) (Operand.tmp 40) 9, type := 4, pos := "law.go:43", after := #[{ on := 20, ground := Ground.data }, { on := 21, ground := Ground.data }, { on := 17, ground := Ground.guard }], guard := some (17, true) }) (v := ?v17) rfl (by kernel_rfl) (by kernel_rfl) (by kernel_rfl) (fun _ _ _ h => h) (.inl ⟨by first | rfl | simp [Region.wanted, yielded], ?hy17⟩) (by assumption) ?rest17
  case hy17 => (intro W hW; have f1 := HC1.out _ hW; have f2 := HC2.out _ hW; obtain ⟨f3, f4⟩ := H7.out _ hW; go_simp; try with_reducible rfl)
  simp only [Act.put, List.setIfInBounds_toArray, List.set_cons_zero, List.set_cons_succ]
  refine' wpAnyH_take (i := 23) (oi := { dst := some 42, op := Op.pick (Operand.tmp 36) (Operand.tmp 41) (Operand.const (Value.bool false)), type := 4, pos := "law.go:43", after := #[{ on := 17, ground := Ground.data }, { on := 22, ground := Ground.data }], guard := none }) (v := ?v18) rfl (by kernel_rfl) (by kernel_rfl) (by kernel_rfl) (fun _ _ _ h => h) (.inl ⟨by first | rfl | simp [Region.wanted, yielded], ?hy18⟩) (by assumption) ?rest18
  case hy18 => (intro W hW; have f1 := HC1.out _ hW; have f2 := HC2.out _ hW; obtain ⟨f3, f4⟩ := H7.out _ hW; go_simp; try with_reducible rfl)
  simp only [Act.put, List.setIfInBounds_toArray, List.set_cons_zero, List.set_cons_succ]
  refine' wpAnyH_take (i := 24) (oi := { dst := some 43, op := Op.move (Operand.tmp 42), type := 4, pos := "law.go:43", after := #[{ on := 23, ground := Ground.data }, { on := 20, ground := Ground.chain }], guard := none }) (v := ?v19) rfl (by kernel_rfl) (by kernel_rfl) (by kernel_rfl) (fun _ _ _ h => h) (.inl ⟨by first | rfl | simp [Region.wanted, yielded], ?hy19⟩) (by assumption) ?rest19
  case hy19 => (intro W hW; have f1 := HC1.out _ hW; have f2 := HC2.out _ hW; obtain ⟨f3, f4⟩ := H7.out _ hW; go_simp; try with_reducible rfl)
  simp only [Act.put, List.setIfInBounds_toArray, List.set_cons_zero, List.set_cons_succ]
  refine' wpAnyH_take (i := 25) (oi := { dst := some 44, op := Op.move (Operand.tmp 3), type := 25, pos := "law.go:43", after := #[{ on := 24, ground := Ground.guard }], guard := some (24, true) }) (v := ?v20) rfl (by kernel_rfl) (by kernel_rfl) (by kernel_rfl) (fun _ _ _ h => h) (.inl ⟨by first | rfl | simp [Region.wanted, yielded], ?hy20⟩) (by assumption) ?rest20
  case hy20 => (intro W hW; have f1 := HC1.out _ hW; have f2 := HC2.out _ hW; obtain ⟨f3, f4⟩ := H7.out _ hW; go_simp; try with_reducible rfl)
  simp only [Act.put, List.setIfInBounds_toArray, List.set_cons_zero, List.set_cons_succ]
  refine' wpAnyH_take (i := 26) (oi := { dst := some 45, op := Op.convert 25 9 (Operand.tmp 44), type := 9, pos := "law.go:43", after := #[{ on := 25, ground := Ground.data }, { on := 24, ground := Ground.guard }], guard := some (24, true) }) (v := ?v21) rfl (by kernel_rfl) (by kernel_rfl) (by kernel_rfl) (fun _ _ _ h => h) (.inl ⟨by first | rfl | simp [Region.wanted, yielded], ?hy21⟩) (by assumption) ?rest21
  case hy21 => (intro W hW; have f1 := HC1.out _ hW; have f2 := HC2.out _ hW; obtain ⟨f3, f4⟩ := H7.out _ hW; go_simp; try with_reducible rfl)
  simp only [Act.put, List.setIfInBounds_toArray, List.set_cons_zero, List.set_cons_succ]
  refine' wpAnyH_take (i := 27) (oi := { dst := some 46, op := Op.move (Operand.tmp 0), type := 25, pos := "law.go:43", after := #[{ on := 24, ground := Ground.guard }], guard := some (24, true) }) (v := ?v22) rfl (by kernel_rfl) (by kernel_rfl) (by kernel_rfl) (fun _ _ _ h => h) (.inl ⟨by first | rfl | simp [Region.wanted, yielded], ?hy22⟩) (by assumption) ?rest22
  case hy22 => (intro W hW; have f1 := HC1.out _ hW; have f2 := HC2.out _ hW; obtain ⟨f3, f4⟩ := H7.out _ hW; go_simp; try with_reducible rfl)
  simp only [Act.put, List.setIfInBounds_toArray, List.set_cons_zero, List.set_cons_succ]
  refine' wpAnyH_take (i := 28) (oi := { dst := some 47, op := Op.convert 25 9 (Operand.tmp 46), type := 9, pos := "law.go:43", after := #[{ on := 27, ground := Ground.data }, { on := 24, ground := Ground.guard }], guard := some (24, true) }) (v := ?v23) rfl (by kernel_rfl) (by kernel_rfl) (by kernel_rfl) (fun _ _ _ h => h) (.inl ⟨by first | rfl | simp [Region.wanted, yielded], ?hy23⟩) (by assumption) ?rest23
  case hy23 => (intro W hW; have f1 := HC1.out _ hW; have f2 := HC2.out _ hW; obtain ⟨f3, f4⟩ := H7.out _ hW; go_simp; try with_reducible rfl)
  simp only [Act.put, List.setIfInBounds_toArray, List.set_cons_zero, List.set_cons_succ]
  refine' wpAnyH_take (i := 29) (oi := { dst := some 48, op := Op.binOp BinOp.eql 9 (Operand.tmp 45) (Operand.tmp 47) 9, type := 4, pos := "law.go:43", after := #[{ on := 26, ground := Ground.data }, { on := 28, ground := Ground.data }, { on := 24, ground := Ground.guard }], guard := some (24, true) }) (v := ?v24) rfl (by kernel_rfl) (by kernel_rfl) (by kernel_rfl) (fun _ _ _ h => h) (.inl ⟨by first | rfl | simp [Region.wanted, yielded], ?hy24⟩) (by assumption) ?rest24
  case hy24 => (intro W hW; have f1 := HC1.out _ hW; have f2 := HC2.out _ hW; obtain ⟨f3, f4⟩ := H7.out _ hW; go_simp; try with_reducible rfl)
  simp only [Act.put, List.setIfInBounds_toArray, List.set_cons_zero, List.set_cons_succ]
  refine' wpAnyH_take (i := 30) (oi := { dst := some 49, op := Op.pick (Operand.tmp 43) (Operand.tmp 48) (Operand.const (Value.bool false)), type := 4, pos := "law.go:43", after := #[{ on := 24, ground := Ground.data }, { on := 29, ground := Ground.data }], guard := none }) (v := ?v25) rfl (by kernel_rfl) (by kernel_rfl) (by kernel_rfl) (fun _ _ _ h => h) (.inl ⟨by first | rfl | simp [Region.wanted, yielded], ?hy25⟩) (by assumption) ?rest25
  case hy25 => (intro W hW; have f1 := HC1.out _ hW; have f2 := HC2.out _ hW; obtain ⟨f3, f4⟩ := H7.out _ hW; go_simp; try with_reducible rfl)
  simp only [Act.put, List.setIfInBounds_toArray, List.set_cons_zero, List.set_cons_succ]
  refine' wpAnyH_take (i := 31) (oi := { dst := some 50, op := Op.move (Operand.tmp 49), type := 4, pos := "law.go:43", after := #[{ on := 30, ground := Ground.data }, { on := 24, ground := Ground.chain }], guard := none }) (v := ?v26) rfl (by kernel_rfl) (by kernel_rfl) (by kernel_rfl) (fun _ _ _ h => h) (.inl ⟨by first | rfl | simp [Region.wanted, yielded], ?hy26⟩) (by assumption) ?rest26
  case hy26 => (intro W hW; have f1 := HC1.out _ hW; have f2 := HC2.out _ hW; obtain ⟨f3, f4⟩ := H7.out _ hW; go_simp; try with_reducible rfl)
  simp only [Act.put, List.setIfInBounds_toArray, List.set_cons_zero, List.set_cons_succ]
  refine' wpAnyH_take (i := 32) (oi := { dst := some 51, op := Op.move (Operand.tmp 3), type := 25, pos := "law.go:43", after := #[{ on := 31, ground := Ground.guard }], guard := some (31, true) }) (v := ?v27) rfl (by kernel_rfl) (by kernel_rfl) (by kernel_rfl) (fun _ _ _ h => h) (.inl ⟨by first | rfl | simp [Region.wanted, yielded], ?hy27⟩) (by assumption) ?rest27
  case hy27 => (intro W hW; have f1 := HC1.out _ hW; have f2 := HC2.out _ hW; obtain ⟨f3, f4⟩ := H7.out _ hW; go_simp; try with_reducible rfl)
  simp only [Act.put, List.setIfInBounds_toArray, List.set_cons_zero, List.set_cons_succ]
  refine' wpAnyH_take (i := 33) (oi := { dst := some 52, op := Op.move (Operand.tmp 0), type := 25, pos := "law.go:43", after := #[{ on := 31, ground := Ground.guard }], guard := some (31, true) }) (v := ?v28) rfl (by kernel_rfl) (by kernel_rfl) (by kernel_rfl) (fun _ _ _ h => h) (.inl ⟨by first | rfl | simp [Region.wanted, yielded], ?hy28⟩) (by assumption) ?rest28
  case hy28 => (intro W hW; have f1 := HC1.out _ hW; have f2 := HC2.out _ hW; obtain ⟨f3, f4⟩ := H7.out _ hW; go_simp; try with_reducible rfl)
  simp only [Act.put, List.setIfInBounds_toArray, List.set_cons_zero, List.set_cons_succ]
  refine' wpAnyH_take (i := 34) (oi := { dst := some 53, op := Op.call { callee := Callee.builtin Builtin.len, args := #[Operand.tmp 52], argTypes := #[25] }, type := 3, pos := "law.go:43", after := #[{ on := 33, ground := Ground.data }, { on := 31, ground := Ground.guard }], guard := some (31, true) }) (v := ?v29) rfl (by kernel_rfl) (by kernel_rfl) (by kernel_rfl) (fun _ _ _ h => h) (.inl ⟨by first | rfl | simp [Region.wanted, yielded], ?hy29⟩) (by assumption) ?rest29
  case hy29 => (intro W hW; have f1 := HC1.out _ hW; have f2 := HC2.out _ hW; obtain ⟨f3, f4⟩ := H7.out _ hW; go_simp; try with_reducible rfl)
  simp only [Act.put, List.setIfInBounds_toArray, List.set_cons_zero, List.set_cons_succ]
  refine' wpAnyH_take (i := 35) (oi := { dst := some 54, op := Op.binOp BinOp.add 3 (Operand.tmp 53) (Operand.const (Value.int IntKind.i64 1)) 3, type := 3, pos := "law.go:43", after := #[{ on := 34, ground := Ground.data }, { on := 31, ground := Ground.guard }], guard := some (31, true) }) (v := ?v30) rfl (by kernel_rfl) (by kernel_rfl) (by kernel_rfl) (fun _ _ _ h => h) (.inl ⟨by first | rfl | simp [Region.wanted, yielded], ?hy30⟩) (by assumption) ?rest30
  case hy30 => (intro W hW; have f1 := HC1.out _ hW; have f2 := HC2.out _ hW; obtain ⟨f3, f4⟩ := H7.out _ hW; go_simp; try with_reducible rfl)
  simp only [Act.put, List.setIfInBounds_toArray, List.set_cons_zero, List.set_cons_succ]
  refine' wpAnyH_take (i := 36) (oi := { dst := some 55, op := Op.slice 25 (Operand.tmp 51) none (some (Operand.tmp 54)) none, type := 25, pos := "law.go:43", after := #[{ on := 32, ground := Ground.data }, { on := 35, ground := Ground.data }, { on := 31, ground := Ground.guard }], guard := some (31, true) }) (v := ?v31) rfl (by kernel_rfl) (by kernel_rfl) (by kernel_rfl) (fun _ _ _ h => h) (.inl ⟨by first | rfl | simp [Region.wanted, yielded], ?hy31⟩) (by assumption) ?rest31
  case hy31 => (intro W hW; have f1 := HC1.out _ hW; have f2 := HC2.out _ hW; obtain ⟨f3, f4⟩ := H7.out _ hW; go_simp; try with_reducible rfl)
  simp only [Act.put, List.setIfInBounds_toArray, List.set_cons_zero, List.set_cons_succ]
  refine' wpAnyH_take (i := 37) (oi := { dst := some 56, op := Op.move (Operand.tmp 0), type := 25, pos := "law.go:43", after := #[{ on := 31, ground := Ground.guard }], guard := some (31, true) }) (v := ?v32) rfl (by kernel_rfl) (by kernel_rfl) (by kernel_rfl) (fun _ _ _ h => h) (.inl ⟨by first | rfl | simp [Region.wanted, yielded], ?hy32⟩) (by assumption) ?rest32
  case hy32 => (intro W hW; have f1 := HC1.out _ hW; have f2 := HC2.out _ hW; obtain ⟨f3, f4⟩ := H7.out _ hW; go_simp; try with_reducible rfl)
  simp only [Act.put, List.setIfInBounds_toArray, List.set_cons_zero, List.set_cons_succ]
  refine' wpAnyH_take (i := 38) (oi := { dst := some 57, op := Op.call { callee := Callee.builtin Builtin.len, args := #[Operand.tmp 56], argTypes := #[25] }, type := 3, pos := "law.go:43", after := #[{ on := 37, ground := Ground.data }, { on := 31, ground := Ground.guard }], guard := some (31, true) }) (v := ?v33) rfl (by kernel_rfl) (by kernel_rfl) (by kernel_rfl) (fun _ _ _ h => h) (.inl ⟨by first | rfl | simp [Region.wanted, yielded], ?hy33⟩) (by assumption) ?rest33
  case hy33 => (intro W hW; have f1 := HC1.out _ hW; have f2 := HC2.out _ hW; obtain ⟨f3, f4⟩ := H7.out _ hW; go_simp; try with_reducible rfl)
  simp only [Act.put, List.setIfInBounds_toArray, List.set_cons_zero, List.set_cons_succ]
  refine' wpAnyH_take (i := 39) (oi := { dst := some 58, op := Op.indexAddr 25 (Operand.tmp 55) (Operand.tmp 57), type := 0, pos := "law.go:43", after := #[{ on := 36, ground := Ground.data }, { on := 38, ground := Ground.data }, { on := 31, ground := Ground.guard }], guard := some (31, true) }) (v := ?v34) rfl (by kernel_rfl) (by kernel_rfl) (by kernel_rfl) (fun _ _ _ h => h) (.inl ⟨by first | rfl | simp [Region.wanted, yielded], ?hy34⟩) (by assumption) ?rest34
  case hy34 => (intro W hW; have f1 := HC1.out _ hW; have f2 := HC2.out _ hW; obtain ⟨f3, f4⟩ := H7.out _ hW; go_simp; try with_reducible rfl)
  simp only [Act.put, List.setIfInBounds_toArray, List.set_cons_zero, List.set_cons_succ]
  refine' wpAnyH_take (i := 40) (oi := { dst := some 59, op := Op.load 5 (Operand.tmp 58), type := 5, pos := "law.go:43", after := #[{ on := 39, ground := Ground.data }, { on := 31, ground := Ground.guard }], guard := some (31, true) }) (v := ?v35) rfl (by kernel_rfl) (by kernel_rfl) (by kernel_rfl) (fun _ _ _ h => h) (.inl ⟨by first | rfl | simp [Region.wanted, yielded], ?hy35⟩) (by assumption) ?rest35
  case hy35 => (intro W hW; have f1 := HC1.out _ hW; have f2 := HC2.out _ hW; obtain ⟨f3, f4⟩ := H7.out _ hW; go_simp; try with_reducible rfl)
  simp only [Act.put, List.setIfInBounds_toArray, List.set_cons_zero, List.set_cons_succ]
  refine' wpAnyH_take (i := 41) (oi := { dst := some 60, op := Op.binOp BinOp.eql 5 (Operand.tmp 59) (Operand.const (Value.int IntKind.u8 77)) 5, type := 4, pos := "law.go:43", after := #[{ on := 40, ground := Ground.data }, { on := 31, ground := Ground.guard }], guard := some (31, true) }) (v := ?v36) rfl (by kernel_rfl) (by kernel_rfl) (by kernel_rfl) (fun _ _ _ h => h) (.inl ⟨by first | rfl | simp [Region.wanted, yielded], ?hy36⟩) (by assumption) ?rest36
  case hy36 => (intro W hW; have f1 := HC1.out _ hW; have f2 := HC2.out _ hW; obtain ⟨f3, f4⟩ := H7.out _ hW; go_simp; try with_reducible rfl)
  simp only [Act.put, List.setIfInBounds_toArray, List.set_cons_zero, List.set_cons_succ]
  refine' wpAnyH_take (i := 42) (oi := { dst := some 61, op := Op.pick (Operand.tmp 50) (Operand.tmp 60) (Operand.const (Value.bool false)), type := 4, pos := "law.go:43", after := #[{ on := 31, ground := Ground.data }, { on := 41, ground := Ground.data }], guard := none }) (v := ?v37) rfl (by kernel_rfl) (by kernel_rfl) (by kernel_rfl) (fun _ _ _ h => h) (.inl ⟨by first | rfl | simp [Region.wanted, yielded], ?hy37⟩) (by assumption) ?rest37
  case hy37 => (intro W hW; have f1 := HC1.out _ hW; have f2 := HC2.out _ hW; obtain ⟨f3, f4⟩ := H7.out _ hW; go_simp; try with_reducible rfl)
  simp only [Act.put, List.setIfInBounds_toArray, List.set_cons_zero, List.set_cons_succ]
  refine' wpAnyH_take (i := 43) (oi := { dst := some 62, op := Op.move (Operand.tmp 61), type := 4, pos := "law.go:43", after := #[{ on := 42, ground := Ground.data }, { on := 31, ground := Ground.chain }], guard := none }) (v := ?v38) rfl (by kernel_rfl) (by kernel_rfl) (by kernel_rfl) (fun _ _ _ h => h) (.inl ⟨by first | rfl | simp [Region.wanted, yielded], ?hy38⟩) (by assumption) ?rest38
  case hy38 => (intro W hW; have f1 := HC1.out _ hW; have f2 := HC2.out _ hW; obtain ⟨f3, f4⟩ := H7.out _ hW; go_simp; try with_reducible rfl)
  simp only [Act.put, List.setIfInBounds_toArray, List.set_cons_zero, List.set_cons_succ]
  refine wpAnyH_ready (rs := [44]) (by kernel_rfl) (by simp) ?_
  refine AllReadyH.cons (o := { dst := some 63, op := Op.call { callee := Callee.value (Operand.func 8), args := #[], argTypes := #[] }, type := 4, pos := "law.go:43", after := #[{ on := 43, ground := Ground.chain }, { on := 43, ground := Ground.guard }], guard := some (43, true) }) rfl (fun K hK => ?_) (AllReadyH.nil)
  try simp only [List.getElem_toArray, List.getElem_cons_succ, List.getElem_cons_zero]
  go_simp
  refine (HWk.out _).mono ?_
  rintro e w11 ⟨rfl, hb11⟩
  have Hhb11 := (show Below w3.heap.size w3 _ from by assumption).trans (hb11.mono (show Below w3.heap.size w3 _ from by assumption).size)
  clear hb11
  refine hK.out _ _ (by assumption) (fun hHeld => ?_)
  clear hK K
  try simp only [Act.put, List.setIfInBounds_toArray, List.set_cons_zero, List.set_cons_succ]
  refine' wpAnyH_take (i := 45) (oi := { dst := some 64, op := Op.pick (Operand.tmp 62) (Operand.tmp 63) (Operand.const (Value.bool false)), type := 4, pos := "law.go:43", after := #[{ on := 43, ground := Ground.data }, { on := 44, ground := Ground.data }], guard := none }) (v := ?v39) rfl (by kernel_rfl) (by kernel_rfl) (by kernel_rfl) (fun _ _ _ h => h) (.inl ⟨by first | rfl | simp [Region.wanted, yielded], ?hy39⟩) (by assumption) ?rest39
  case hy39 => (intro W hW; have f1 := HC1.out _ hW; have f2 := HC2.out _ hW; obtain ⟨f3, f4⟩ := H7.out _ hW; go_simp; try with_reducible rfl)
  simp only [Act.put, List.setIfInBounds_toArray, List.set_cons_zero, List.set_cons_succ]
  refine' wpAnyH_take (i := 46) (oi := { dst := some 2, op := Op.assign (Operand.tmp 64), type := 4, pos := "law.go:43", after := #[{ on := 45, ground := Ground.data }, { on := 44, ground := Ground.chain }, { on := 0, ground := Ground.phase }, { on := 1, ground := Ground.phase }, { on := 2, ground := Ground.phase }, { on := 3, ground := Ground.phase }, { on := 4, ground := Ground.phase }, { on := 5, ground := Ground.phase }, { on := 6, ground := Ground.phase }, { on := 7, ground := Ground.phase }, { on := 8, ground := Ground.phase }, { on := 9, ground := Ground.phase }, { on := 10, ground := Ground.phase }, { on := 11, ground := Ground.phase }, { on := 12, ground := Ground.phase }, { on := 13, ground := Ground.phase }, { on := 14, ground := Ground.phase }, { on := 15, ground := Ground.phase }, { on := 16, ground := Ground.phase }, { on := 17, ground := Ground.phase }, { on := 18, ground := Ground.phase }, { on := 19, ground := Ground.phase }, { on := 20, ground := Ground.phase }, { on := 21, ground := Ground.phase }, { on := 22, ground := Ground.phase }, { on := 23, ground := Ground.phase }, { on := 24, ground := Ground.phase }, { on := 25, ground := Ground.phase }, { on := 26, ground := Ground.phase }, { on := 27, ground := Ground.phase }, { on := 28, ground := Ground.phase }, { on := 29, ground := Ground.phase }, { on := 30, ground := Ground.phase }, { on := 31, ground := Ground.phase }, { on := 32, ground := Ground.phase }, { on := 33, ground := Ground.phase }, { on := 34, ground := Ground.phase }, { on := 35, ground := Ground.phase }, { on := 36, ground := Ground.phase }, { on := 37, ground := Ground.phase }, { on := 38, ground := Ground.phase }, { on := 39, ground := Ground.phase }, { on := 40, ground := Ground.phase }, { on := 41, ground := Ground.phase }, { on := 42, ground := Ground.phase }, { on := 43, ground := Ground.phase }, { on := 44, ground := Ground.phase }, { on := 45, ground := Ground.phase }], guard := none }) (v := ?v40) rfl (by kernel_rfl) (by kernel_rfl) (by kernel_rfl) (fun _ _ _ h => h) (.inl ⟨by first | rfl | simp [Region.wanted, yielded], ?hy40⟩) (by assumption) ?rest40
  case hy40 => (intro W hW; have f1 := HC1.out _ hW; have f2 := HC2.out _ hW; obtain ⟨f3, f4⟩ := H7.out _ hW; go_simp; try with_reducible rfl)
  simp only [Act.put, List.setIfInBounds_toArray, List.set_cons_zero, List.set_cons_succ]
  refine wpAnyH_done (by kernel_rfl) ?_ _
  go_wp2
  go_ret
  exact ⟨rfl, HB3.out.trans (Hhb11.mono HB3.out.size)⟩
end Go.Proofs.Ytplpgjcdoodmlaa
