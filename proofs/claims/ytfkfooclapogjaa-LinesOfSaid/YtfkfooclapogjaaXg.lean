/-
  slices.All's iterator over lines, and Each's over it.
-/
import Derived.Test.YtfkfooclapogjaaXf
namespace Go.Proofs.Ytfkfooclapogjaa
open Go.RowKit Go.Shelf
set_option linter.unusedVariables false
set_option linter.unusedSimpArgs false
attribute [local go_sem] Oper.semAt_some

/-- What has come when k rounds are over. -/
def fins (n k : Nat) : List (Fin n) := (List.finRange n).take k
theorem fins_succ {n k : Nat} (h : k < n) : fins n (k + 1) = fins n k ++ [⟨k, h⟩] := by
  unfold fins
  rw [List.take_succ_eq_append_getElem (by simpa using h)]
  simp
theorem fins_length {n k : Nat} (h : k ≤ n) : (fins n k).length = k := by simp [fins, h]
theorem fins_all (n : Nat) : fins n n = List.finRange n := List.take_of_length_le (by simp)
theorem fins_prefix (n k : Nat) : fins n k <+: List.finRange n := List.take_prefix _ _

theorem YieldAt.deep {m k : Nat} {P : Program} {l l' : Nat} {args : Array Value} {W : World} {R : Ending → World → Prop} (h : YieldAt Fence.wide m P l args W R) : YieldAt (Fence.wide.inRound l') k P l args W R := by
  obtain ⟨fn, tmps, assign, body, hy, hR⟩ := h
  exact ⟨fn, tmps, assign, body, hy, hR.1, fun c cs _ => hR.2 c cs (room_wide _)⟩

section
variable {F : Fence} {n : Nat} {P : Program} {b : Frame} {a : Act} {k : List Item} {cs : List Frame} {w : World} {Q : Exit → Act → World → Prop}
theorem stepR_scope {c : Code} : step P (lone (b.atR a (.code (.scope c) :: k)) cs w) = .next (lone (b.atR a (.code c :: .inScope c :: k)) cs w) :=
  step_lone_go (by simp [stepG, stepG.exec, Frame.atR])
theorem stepR_inScope {c : Code} : step P (lone (b.atR a (.inScope c :: k)) cs w) = .next (lone (b.atR a k) cs w) :=
  step_lone_go (by simp [stepG, stepG.exec, Frame.atR])
/-- Within a fence: a scope without a goto. -/
theorem wpIn_scope_straight {c : Code} (h : c.wpIn F n P (Exit.noGoto Q) a w) : (Code.scope c).wpIn F n P Q a w := by
  intro b k cs hro hb hr
  have h0 : (lone (b.atR a (.code (.scope c) :: k)) cs w).fenced P F := fenced_calm hb hr rfl
  obtain ⟨e, a₁, w₁, hq, harr⟩ := h b (.inScope c :: k) cs hro hb hr
  cases e with
  | normal => exact ⟨.normal, a₁, w₁, hq, .head h0 stepR_scope (StepsIn.trans harr (.one (fenced_calm hb hr rfl) stepR_inScope))⟩
  | exit id =>
    have hx : exitTo id (.inScope c :: k) = exitTo id k := by simp [exitTo]
    exact ⟨_, a₁, w₁, hq, fun k' hk => .head h0 stepR_scope (harr.1 k' (by rw [hx]; exact hk)),
      fun hr' hk => let ⟨k₁, h1, h2⟩ := harr.2 hr' (by rw [hx]; exact hk); ⟨k₁, h1, .head h0 stepR_scope h2⟩⟩
  | goto l => exact hq.elim
  | ret => exact ⟨_, a₁, w₁, hq, .of_steps (.one h0 stepR_scope) harr⟩
  | panic ch => exact ⟨_, a₁, w₁, hq, .of_steps (.one h0 stepR_scope) harr⟩
  | outgrown => exact ⟨_, a₁, w₁, hq, .of_steps (.one h0 stepR_scope) harr⟩
end
/-- The j-th line. -/
def lvAt (l : List LV) (j : Nat) : LV := l.getD j (⟨#[]⟩, false)
/-- Lines that lie ahead of n₀. -/
def LAhead (n₀ : Nat) (w : World) (ao : Option Addr) (len : Nat) (l : List LV) : Prop := 0 < len → ∃ b, ao = some ⟨b, 0, none⟩ ∧ b < n₀ ∧ ∀ j, j < len → w.cell? ⟨b, j * 2, none⟩ = some (.string (lvAt l j).1) ∧ w.cell? ⟨b, j * 2 + 1, none⟩ = some (.bool (lvAt l j).2)
theorem LAhead.below {n₀ : Nat} {w w' : World} {ao : Option Addr} {len : Nat} {l : List LV} (h : LAhead n₀ w ao len l) (hb : Below n₀ w w') : LAhead n₀ w' ao len l := fun hp => by
  obtain ⟨b, e, hl, hc⟩ := h hp
  exact ⟨b, e, hl, fun j hj => ⟨(hb.cell (p := ⟨b, j * 2, none⟩) hl).trans (hc j hj).1, (hb.cell (p := ⟨b, j * 2 + 1, none⟩) hl).trans (hc j hj).2⟩⟩
theorem LRow.ahead {w : World} {ao : Option Addr} {len : Nat} {l : List LV} (h : LRow w ao len l) : LAhead w.heap.size w ao len l := fun hp => by
  obtain ⟨b, e, hl, hc⟩ := h.2 hp
  have hlen := h.1
  refine ⟨b, e, hl, fun j hj => ?_⟩
  have hx : l[j]? = some (lvAt l j) := by
    unfold lvAt
    rw [List.getD_eq_getElem?_getD, List.getElem?_eq_getElem (by omega)]
    rfl
  exact hc j _ hx

set_option maxRecDepth 100000 in
set_option maxHeartbeats 2000000 in
theorem All48_deep (m : Nat) (hm : 1 ≤ m) (A n₀ : Nat) (ao : Option Addr) (len cap : Nat) (L : List LV) (hreach : len ≤ 4000000) (w : World) (hA : A < w.heap.size) (hn₀ : n₀ ≤ w.heap.size)
    (hc : w.cell? ⟨A, 0, none⟩ = some (.slice ao len cap)) (hI : LAhead n₀ w ao len L) :
    SeqDeep Fence.wide m Try.prog 48 #[.pointer (some ⟨A, 0, none⟩)] (fun x : Fin len => #[.int .i64 (x.val : Int), .agg #[.string (lvAt L x.val).1, .bool (lvAt L x.val).2]]) n₀ (fun ys => ys = List.finRange len) (fun pre => pre <+: List.finRange len) len w := by
  intro l J Jx W hW hJ hJx hY h0
  have hBs := (hW.cell (p := ⟨A, 0, none⟩) hA).trans hc
  have hI' := hI.below (hW.mono hn₀)
  have hnW := Nat.le_trans hn₀ hW.size
  show CallsIn Fence.wide m Try.prog 48 #[.func (.yield l) #[] #[], .pointer (some ⟨A, 0, none⟩)] W _
  refine callsIn_of_wp Try.func48 rfl trivial ?_ rfl
  simp only [Try.ntmps48, List.size_toArray, List.length_cons, List.length_nil, Nat.reduceAdd, Nat.reduceSub, Array.replicate_succ, Array.replicate_zero, List.push_toArray, List.append_toArray, List.nil_append, List.cons_append]
  gi_wp2
  gi_loopw [7] (fun i wr => ∃ k : Nat, k ≤ len ∧ i = .int .i64 k ∧ J (fins len k) wr ∧ Below n₀ W wr ∧ W.heap.size ≤ wr.heap.size)
    (fun i _ => len - (intOf i).toNat)
  case atStart => exact ⟨0, Nat.zero_le _, rfl, by simpa [fins] using h0, Below.refl _ _, Nat.le_refl _⟩
  case round =>
    obtain ⟨k, hk, rfl, hJs, hnx, hsz⟩ := hrel
    by_cases hlt : k < len
    · obtain ⟨b, rfl, hb, hcz⟩ := hI'.below hnx (by omega)
      obtain ⟨c1, c2⟩ := hcz k hlt
      obtain ⟨ts, hts⟩ : ∃ s, s = (lvAt L k).1 := ⟨_, rfl⟩
      obtain ⟨tb, htb⟩ : ∃ s, s = (lvAt L k).2 := ⟨_, rfl⟩
      rw [← hts] at c1
      rw [← htb] at c2
      have hbl : b < wr.heap.size := by omega
      have hB1 : Below wr.heap.size wr (wr.alloc (.cells #[.string ts, .bool tb] 35)) := (Below.refl _ wr).alloc (Nat.le_refl _) _
      have hsz1 := Nat.le_trans hsz hB1.size
      have hY1 := hY _ ⟨k, hlt⟩ _ hsz1 (hJ _ _ _ hJs (hB1.mono hsz)) (by rw [fins_length hk]; exact hlt)
      dsimp only at hY1
      rw [← hts, ← htb] at hY1
      obtain ⟨fn, tmps, assign, body, hy, hR⟩ := hY1
      have HB1 := Lib.hid (And.intro hB1 hsz1)
      clear hts htb hcz hB1 hsz1
      gi_wp2
      refine hR.mono ?_
      rintro e W3 ⟨hst, ⟨rfl, hJ3, hk3⟩ | ⟨rfl, hJx3⟩⟩
      · gi_wp2
        go_roundw
        case rel => exact ⟨k + 1, by omega, by simp, by rw [fins_succ hlt]; exact hJ3, (hnx.trans (HB1.out.1.mono (by omega))).trans hk3, Nat.le_trans HB1.out.2 hst.1⟩
        case measure => simp [intOf]; omega
      · gi_wp2
        refine bodyPost_ret (results_none rfl _ _ _) rfl ?_
        exact ⟨⟨_, rfl⟩, .inr ⟨_, by rw [← fins_succ hlt]; exact fins_prefix _ _, hJx3⟩⟩
    · obtain rfl : k = len := by omega
      gi_wp2
      go_end0
      exact ⟨⟨_, rfl⟩, .inl ⟨_, fins_all _, hJs⟩⟩
theorem All_in (ao : Option Addr) (len cap : Nat) (w : World) : Calls Try.prog 28 #[.slice ao len cap] w fun e w' => e = .returned (.func (.func 48) #[] #[.pointer (some ⟨w.heap.size, 0, none⟩)]) ∧ w' = w.alloc (.cells #[.slice ao len cap] 28) := by
  go_enter Try.func28, Try.ntmps28
  go_wp2
  go_ret
  exact ⟨rfl, rfl⟩
set_option maxRecDepth 100000 in
set_option maxHeartbeats 2000000 in
theorem Each27_deep (m : Nat) (hm : 4 ≤ m) (B n₀ : Nat) (ao : Option Addr) (len cap : Nat) (L : List LV) (hreach : len ≤ 4000000) (w : World) (hB : B < n₀) (hn₀ : n₀ ≤ w.heap.size)
    (hcB : w.cell? ⟨B, 0, none⟩ = some (.slice ao len cap)) (hI : LAhead n₀ w ao len L) :
    SeqDeep Fence.wide m Try.prog 27 #[.pointer (some ⟨B, 0, none⟩)] (fun x : Fin len => #[.int .i64 (x.val : Int), .agg #[.string (lvAt L x.val).1, .bool (lvAt L x.val).2]]) n₀ (fun ys => ys = List.finRange len) (fun pre => pre <+: List.finRange len) len w := by
  intro l J Jx W hW hJ hJx hY hj0
  show CallsIn Fence.wide m Try.prog 27 #[.func (.yield l) #[] #[], .pointer (some ⟨B, 0, none⟩)] W _
  have hWs := hW.size
  have HBx := Lib.hid ((Below.refl _ W).alloc (Nat.le_refl _) (.cells #[.func (.yield l) #[] #[]] 68))
  have hk76 := alloc_blk_new W (.cells #[.func (.yield l) #[] #[]] 68)
  refine callsIn_of_wp_marks Try.func27 rfl trivial ?_ rfl
  simp only [Try.ntmps27, List.size_toArray, List.length_cons, List.length_nil, Nat.reduceAdd, Nat.reduceSub, Array.replicate_succ, Array.replicate_zero, List.push_toArray, List.append_toArray, List.nil_append, List.cons_append]
  refine wpIn_wide.2 ?_
  go_wp2
  refine wp_scope_straight ?_
  go_wp2_with fail
  refine wp_label ?_
  obtain ⟨W1, hW1⟩ : ∃ X, X = W.alloc (.cells #[.func (.yield l) #[] #[]] 68) := ⟨_, rfl⟩
  have hs1 : W1.heap.size = W.heap.size + 1 := by rw [hW1]; simp
  rw [← hW1] at HBx hk76 ⊢
  have hBB := ((hW.trans (HBx.out.mono hWs)).cell (p := ⟨B, 0, none⟩) (by show B < _; omega)).trans hcB
  have HW1 := Lib.hid hW1
  clear hW1
  go_wp2_with fail
  refine (All_in ao len cap W1).mono ?_
  rintro e W2 ⟨rfl, hW2⟩
  obtain ⟨A, hA⟩ : ∃ A, A = W1.heap.size := ⟨_, rfl⟩
  have hk := alloc_blk_new W1 (.cells #[.slice ao len cap] 28)
  have hb2 := (Below.refl _ W1).alloc (Nat.le_refl _) (.cells #[.slice ao len cap] 28)
  rw [← hW2] at hk hb2
  rw [← hA] at hk ⊢
  have HK2 := Lib.hid (cell_blk hk 0 (.slice ao len cap) rfl)
  have hAl : A < W2.heap.size := blk_lt hk
  have HBW := Lib.hid (HBx.out.trans (hb2.mono HBx.out.size))
  have hs2 : W.heap.size + 1 < W2.heap.size := by omega
  have h76 := cell_blk ((hb2.block _ (by omega)).trans hk76) 0 (.func (.yield l) #[] #[]) rfl
  have HBw := Lib.hid (hW.trans (HBW.out.mono hWs))
  have hj2 : J [] W2 := hJ [] W W2 hj0 HBW.out
  have hI2 := hI.below (HBw.out.mono hn₀)
  have HJ := Lib.hid hJ
  have HJx := Lib.hid hJx
  have HY := Lib.hid hY
  have HI2 := Lib.hid hI2
  have H76 := Lib.hid h76
  have HJ2 := Lib.hid hj2
  clear hk hb2 hW2 hA hBB HBx hk76 h76 hj2 hI2 hJ hJx hY hI hj0 HW1
  go_wp2_with fail
  refine (wpIn_wide (n := m)).1 ?_
  refine' wpIn_range_deepA (F := Fence.wide) rfl (by omega) (gf := 48) (lb := #[.pointer (some ⟨A, 0, none⟩)]) rfl trivial (enters_of Try.func48 (by kernel_rfl) rfl) (n₀ := n₀) (by omega)
    (All48_deep (m - 1) (by omega) A n₀ ao len cap L hreach W2 hAl (by omega) HK2.out HI2.out) (fun _ => rfl)
    (fun pre V => J pre V ∧ V.cell? ⟨W.heap.size, 0, none⟩ = some (.func (.yield l) #[] #[]))
    (fun c pre V => c = .exit 0 ∧ Jx pre V)
    (fun s U V hs hb => ⟨HJ.out s U V hs.1 (hb.mono (by omega)), (hb.cell (p := ⟨W.heap.size, 0, none⟩) (by show W.heap.size < _; omega)).trans hs.2⟩)
    (fun c s U V hs hb => ⟨hs.1, HJx.out s U V hs.2 (hb.mono (by omega))⟩)
    ⟨HJ2.out, H76.out⟩ (fun x => .cells #[.string (lvAt L x.val).1, .bool (lvAt L x.val).2] 35) _ ?assign ?body ?done ?stop
  case assign =>
    intro l x W X K hX hK
    gi_wp2
    rw [← hX]
    exact hK _ rfl
  case body =>
    rintro l' pre x V X hX hXb ⟨hj, c76⟩ hlt
    have hR := YieldAt.deep (l' := l') (k := m - 1 - 1 - 1) (HY.out pre x V (by have := blk_lt hXb; omega) hj hlt)
    try dsimp only at hR hXb
    obtain ⟨ts, hts⟩ : ∃ s, s = (lvAt L x.val).1 := ⟨_, rfl⟩
    obtain ⟨tb, htb⟩ : ∃ s, s = (lvAt L x.val).2 := ⟨_, rfl⟩
    rw [← hts, ← htb] at hR hXb
    obtain ⟨fn, tmps, assign, body, hy, hR⟩ := hR
    have x0 := cell_blk hXb 0 (.string ts) rfl
    have x1 := cell_blk hXb 1 (.bool tb) rfl
    have xl := blk_lt hXb
    have hx1 : 0 ≤ (x.val : Int) := by omega
    have hx2 : (x.val : Int) ≤ 4000000 := by have := x.isLt; omega
    have vl : W.heap.size < V.heap.size := by omega
    clear hts htb hXb
    gi_wp2
    refine ⟨fun h => by simp [Fence.wide] at h, ?_⟩
    refine hR.mono ?_
    rintro e V' ⟨hst, ⟨rfl, hj', hb'⟩ | ⟨rfl, hjx⟩⟩
    · gi_wp2
      exact ⟨hst.mono (by omega), hb', hj', (World.cell?_of_block (w := V) (w' := V') (hst.2 W.heap.size (Nat.le_refl _) (by omega))).trans c76⟩
    · gi_wp2
      exact ⟨hst.mono (by omega), rfl, hjx⟩
  case stop =>
    rintro D c pre V hD hSp ⟨rfl, hjx⟩ hKd
    refine wpIn_exit ?_
    simp only [Exit.inBlock, if_true]
    go_wp2
    simp only [Exit.noGoto]
    refine ⟨by simp, .inl ⟨_, _, rfl, run_takeDeferred hKd, ?_⟩⟩
    exact ⟨_, results_none rfl _ _ _, ⟨_, rfl⟩, .inr ⟨pre, hSp, HJx.out _ _ _ hjx (below_put (by omega))⟩⟩
  case done =>
    rintro D ys V hD rfl ⟨hj, _⟩ hKd
    go_wp2
    simp only [Exit.noGoto]
    refine ⟨by simp, .inl ⟨_, _, rfl, run_takeDeferred hKd, ?_⟩⟩
    exact ⟨_, results_none rfl _ _ _, ⟨_, rfl⟩, .inl ⟨_, rfl, HJ.out _ _ _ hj (below_put (by omega))⟩⟩
end Go.Proofs.Ytfkfooclapogjaa
