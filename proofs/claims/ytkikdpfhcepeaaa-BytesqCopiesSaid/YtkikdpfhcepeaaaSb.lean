/-
  slices.All's iterator, and From's over it.
-/
import Derived.Test.YtkikdpfhcepeaaaSa
namespace Go.Proofs.Ytkikdpfhcepeaaa
open Go.RowKit Go.Shelf
set_option linter.unusedVariables false
set_option linter.unusedSimpArgs false
attribute [local go_sem] Oper.semAt_some

/-- What has come when k rounds are over. -/
def fins (n k : Nat) : List (Fin n) := (List.finRange n).take k
theorem fins_succ {n k : Nat} (h : k < n) : fins n (k + 1) = fins n k ++ [⟨k, h⟩] := by
  unfold fins
  rw [List.take_succ_eq_append_getElem (by simpa using h)]
  simp
theorem fins_length {n k : Nat} (h : k ≤ n) : (fins n k).length = k := by simp [fins, h]
theorem fins_all (n : Nat) : fins n n = List.finRange n := List.take_of_length_le (by simp)
theorem fins_prefix (n k : Nat) : fins n k <+: List.finRange n := List.take_prefix _ _

theorem YieldAt.deep {m k : Nat} {P : Program} {l l' : Nat} {args : Array Value} {W : World} {R : Ending → World → Prop} (h : YieldAt Fence.wide m P l args W R) : YieldAt (Fence.wide.inRound l') k P l args W R := by
  obtain ⟨fn, tmps, assign, body, hy, hR⟩ := h
  exact ⟨fn, tmps, assign, body, hy, hR.1, fun c cs _ => hR.2 c cs (room_wide _)⟩

theorem All_in (a : Option Addr) (n c : Nat) (w : World) : Calls Try.prog 32 #[.slice a n c] w fun e w' => e = .returned (.func (.func 33) #[] #[.pointer (some ⟨w.heap.size, 0, none⟩)]) ∧ w' = w.alloc (.cells #[.slice a n c] 29) := by
  go_enter Try.func32, Try.ntmps32
  go_wp2
  go_ret
  exact ⟨rfl, rfl⟩

set_option maxRecDepth 100000 in
set_option maxHeartbeats 2000000 in
theorem All1_deep (m : Nat) (hm : 1 ≤ m) (A n₀ : Nat) (ao : Option Addr) (len cap : Nat) (zs : List Int) (hreach : len ≤ 2000000) (w : World) (hA : A < w.heap.size) (hn₀ : n₀ ≤ w.heap.size)
    (hc : w.cell? ⟨A, 0, none⟩ = some (.slice ao len cap)) (hI : 0 < len → ∃ b off, ao = some ⟨b, off, none⟩ ∧ b < n₀ ∧ ∀ j, j < len → w.cell? ⟨b, off + j, none⟩ = some (.int .u8 (zs[j]?.getD 0))) :
    SeqDeep Fence.wide m Try.prog 33 #[.pointer (some ⟨A, 0, none⟩)] (fun x : Fin len => #[.int .i64 (x.val : Int), .int .u8 (zs[x.val]?.getD 0)]) n₀ (fun ys => ys = List.finRange len) (fun pre => pre <+: List.finRange len) len w := by
  intro l J Jx W hW hJ hJx hY h0
  have hBs := (hW.cell (p := ⟨A, 0, none⟩) hA).trans hc
  have hI' : 0 < len → ∃ b off, ao = some ⟨b, off, none⟩ ∧ b < n₀ ∧ ∀ j, j < len → W.cell? ⟨b, off + j, none⟩ = some (.int .u8 (zs[j]?.getD 0)) := fun hp => by
    obtain ⟨b, off, e, hb, hcs⟩ := hI hp
    exact ⟨b, off, e, hb, fun j hj => (hW.cell (p := ⟨b, off + j, none⟩) (by show b < _; omega)).trans (hcs j hj)⟩
  show CallsIn Fence.wide m Try.prog 33 #[.func (.yield l) #[] #[], .pointer (some ⟨A, 0, none⟩)] W _
  refine callsIn_of_wp Try.func33 rfl trivial ?_ rfl
  simp only [Try.ntmps33, List.size_toArray, List.length_cons, List.length_nil, Nat.reduceAdd, Nat.reduceSub, Array.replicate_succ, Array.replicate_zero, List.push_toArray, List.append_toArray, List.nil_append, List.cons_append]
  gi_wp2
  gi_loopw [7] (fun i wr => ∃ k : Nat, k ≤ len ∧ i = .int .i64 k ∧ J (fins len k) wr ∧ Below n₀ W wr ∧ W.heap.size ≤ wr.heap.size)
    (fun i _ => len - (intOf i).toNat)
  case atStart => exact ⟨0, Nat.zero_le _, rfl, by simpa [fins] using h0, Below.refl _ _, Nat.le_refl _⟩
  case round =>
    obtain ⟨k, hk, rfl, hJs, hnx, hsz⟩ := hrel
    by_cases hlt : k < len
    · obtain ⟨b, off, rfl, hb, hcz⟩ := hI' (by omega)
      have hcx' : wr.cell? ⟨b, off + k, none⟩ = some (.int .u8 (zs[k]?.getD 0)) := (hnx.cell (p := ⟨b, off + k, none⟩) hb).trans (hcz k hlt)
      obtain ⟨fn, tmps, assign, body, hy, hR⟩ := hY _ ⟨k, hlt⟩ wr hsz hJs (by rw [fins_length hk]; exact hlt)
      dsimp only at hy
      gi_wp2
      refine hR.mono ?_
      rintro e W3 ⟨hst, ⟨rfl, hJ3, hk3⟩ | ⟨rfl, hJx3⟩⟩
      · gi_wp2
        go_roundw
        case rel => exact ⟨k + 1, by omega, by simp, by rw [fins_succ hlt]; exact hJ3, hnx.trans hk3, Nat.le_trans hsz hst.1⟩
        case measure => simp [intOf]; omega
      · gi_wp2
        refine bodyPost_ret (results_none rfl _ _ _) rfl ?_
        exact ⟨⟨_, rfl⟩, .inr ⟨_, by rw [← fins_succ hlt]; exact fins_prefix _ _, hJx3⟩⟩
    · obtain rfl : k = len := by omega
      gi_wp2
      go_end0
      exact ⟨⟨_, rfl⟩, .inl ⟨_, fins_all _, hJs⟩⟩

set_option maxRecDepth 100000 in
set_option maxHeartbeats 2000000 in
theorem All31_deep (m : Nat) (hm : 4 ≤ m) (B n₀ : Nat) (ao : Option Addr) (len cap : Nat) (zs : List Int) (hreach : len ≤ 2000000) (w : World) (hB : B < n₀) (hn₀ : n₀ ≤ w.heap.size)
    (hcB : w.cell? ⟨B, 0, none⟩ = some (.slice ao len cap)) (hI : 0 < len → ∃ b off, ao = some ⟨b, off, none⟩ ∧ b < n₀ ∧ ∀ j, j < len → w.cell? ⟨b, off + j, none⟩ = some (.int .u8 (zs[j]?.getD 0))) :
    SeqDeep Fence.wide m Try.prog 31 #[.pointer (some ⟨B, 0, none⟩)] (fun x : Fin len => #[.int .i64 (x.val : Int), .int .u8 (zs[x.val]?.getD 0)]) n₀ (fun ys => ys = List.finRange len) (fun pre => pre <+: List.finRange len) len w := by
  intro l J Jx W hW hJ hJx hY hj0
  show CallsIn Fence.wide m Try.prog 31 #[.func (.yield l) #[] #[], .pointer (some ⟨B, 0, none⟩)] W _
  have hWs := hW.size
  have HBx := Lib.hid ((Below.refl _ W).alloc (Nat.le_refl _) (.cells #[.func (.yield l) #[] #[]] 69))
  have hk76 := alloc_blk_new W (.cells #[.func (.yield l) #[] #[]] 69)
  refine callsIn_of_wp_marks Try.func31 rfl trivial ?_ rfl
  simp only [Try.ntmps31, List.size_toArray, List.length_cons, List.length_nil, Nat.reduceAdd, Nat.reduceSub, Array.replicate_succ, Array.replicate_zero, List.push_toArray, List.append_toArray, List.nil_append, List.cons_append]
  refine wpIn_wide.2 ?_
  go_wp2
  refine wp_scope_straight ?_
  go_wp2_with fail
  refine wp_label ?_
  obtain ⟨W1, hW1⟩ : ∃ X, X = W.alloc (.cells #[.func (.yield l) #[] #[]] 69) := ⟨_, rfl⟩
  have hs1 : W1.heap.size = W.heap.size + 1 := by rw [hW1]; simp
  rw [← hW1] at HBx hk76 ⊢
  have hBB := ((hW.trans (HBx.out.mono hWs)).cell (p := ⟨B, 0, none⟩) (by show B < _; omega)).trans hcB
  have HW1 := Lib.hid hW1
  clear hW1
  go_wp2_with fail
  refine (All_in ao len cap W1).mono ?_
  rintro e W2 ⟨rfl, hW2⟩
  obtain ⟨A, hA⟩ : ∃ A, A = W1.heap.size := ⟨_, rfl⟩
  have hk := alloc_blk_new W1 (.cells #[.slice ao len cap] 29)
  have hb2 := (Below.refl _ W1).alloc (Nat.le_refl _) (.cells #[.slice ao len cap] 29)
  rw [← hW2] at hk hb2
  rw [← hA] at hk ⊢
  have HK2 := Lib.hid (cell_blk hk 0 (.slice ao len cap) rfl)
  have hAl : A < W2.heap.size := blk_lt hk
  have HBW := Lib.hid (HBx.out.trans (hb2.mono HBx.out.size))
  have hs2 : W.heap.size + 1 < W2.heap.size := by omega
  have h76 := cell_blk ((hb2.block _ (by omega)).trans hk76) 0 (.func (.yield l) #[] #[]) rfl
  have HBw := Lib.hid (hW.trans (HBW.out.mono hWs))
  have hj2 : J [] W2 := hJ [] W W2 hj0 HBW.out
  have hI2 : 0 < len → ∃ b off, ao = some ⟨b, off, none⟩ ∧ b < n₀ ∧ ∀ j, j < len → W2.cell? ⟨b, off + j, none⟩ = some (.int .u8 (zs[j]?.getD 0)) := fun hp => by
    obtain ⟨b, off, e, hb, hcs⟩ := hI hp
    exact ⟨b, off, e, hb, fun j hj => (HBw.out.cell (p := ⟨b, off + j, none⟩) (by show b < _; omega)).trans (hcs j hj)⟩
  have HJ := Lib.hid hJ
  have HJx := Lib.hid hJx
  have HY := Lib.hid hY
  have HI2 := Lib.hid hI2
  have H76 := Lib.hid h76
  have HJ2 := Lib.hid hj2
  clear hk hb2 hW2 hA hBB HBx hk76 h76 hj2 hI2 hJ hJx hY hI hj0 HW1
  go_wp2_with fail
  refine (wpIn_wide (n := m)).1 ?_
  refine' wpIn_range_deep (F := Fence.wide) rfl (by omega) (gf := 33) (lb := #[.pointer (some ⟨A, 0, none⟩)]) rfl trivial (enters_of Try.func33 (by kernel_rfl) rfl) (n₀ := n₀) (by omega)
    (All1_deep (m - 1) (by omega) A n₀ ao len cap zs hreach W2 hAl (by omega) HK2.out HI2.out) (fun _ => rfl)
    (fun pre V => J pre V ∧ V.cell? ⟨W.heap.size, 0, none⟩ = some (.func (.yield l) #[] #[]))
    (fun c pre V => c = .exit 0 ∧ Jx pre V)
    (fun s U V hs hb => ⟨HJ.out s U V hs.1 (hb.mono (by omega)), (hb.cell (p := ⟨W.heap.size, 0, none⟩) (by show W.heap.size < _; omega)).trans hs.2⟩)
    (fun c s U V hs hb => ⟨hs.1, HJx.out s U V hs.2 (hb.mono (by omega))⟩)
    ⟨HJ2.out, H76.out⟩ _ ?assign ?body ?done ?stop
  case assign =>
    intro l x W K hK
    gi_wp2
    exact hK
  case body =>
    rintro l' pre x V hV ⟨hj, c76⟩ hlt
    have hR := YieldAt.deep (l' := l') (k := m - 1 - 1 - 1) (HY.out pre x V (by omega) hj hlt)
    obtain ⟨fn, tmps, assign, body, hy, hR⟩ := hR
    have hx1 : 0 ≤ (x.val : Int) := by omega
    have hx2 : (x.val : Int) ≤ 2000000 := by have := x.isLt; omega
    gi_wp2
    refine ⟨fun h => by simp [Fence.wide] at h, ?_⟩
    refine hR.mono ?_
    rintro e V' ⟨hst, ⟨rfl, hj', hb'⟩ | ⟨rfl, hjx⟩⟩
    · gi_wp2
      exact ⟨hst.mono (by omega), hb', hj', (World.cell?_of_block (w := V) (w' := V') (hst.2 W.heap.size (Nat.le_refl _) (by omega))).trans c76⟩
    · gi_wp2
      exact ⟨hst.mono (by omega), rfl, hjx⟩
  case stop =>
    rintro D c pre V hD hSp ⟨rfl, hjx⟩ hKd
    refine wpIn_exit ?_
    simp only [Exit.inBlock, if_true]
    go_wp2
    simp only [Exit.noGoto]
    refine ⟨by simp, .inl ⟨_, _, rfl, run_takeDeferred hKd, ?_⟩⟩
    exact ⟨_, results_none rfl _ _ _, ⟨_, rfl⟩, .inr ⟨pre, hSp, HJx.out _ _ _ hjx (below_put (by omega))⟩⟩
  case done =>
    rintro D ys V hD rfl ⟨hj, _⟩ hKd
    go_wp2
    simp only [Exit.noGoto]
    refine ⟨by simp, .inl ⟨_, _, rfl, run_takeDeferred hKd, ?_⟩⟩
    exact ⟨_, results_none rfl _ _ _, ⟨_, rfl⟩, .inl ⟨_, rfl, HJ.out _ _ _ hj (below_put (by omega))⟩⟩
end Go.Proofs.Ytkikdpfhcepeaaa
