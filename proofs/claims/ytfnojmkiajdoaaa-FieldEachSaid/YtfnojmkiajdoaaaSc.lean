/-
  Clone of texts; Each, and its iterator.
-/
import Derived.Test.YtfnojmkiajdoaaaSb
namespace Go.Proofs.Ytfnojmkiajdoaaa
open Go.RowKit Go.Shelf
set_option linter.unusedVariables false
set_option linter.unusedSimpArgs false
attribute [local go_sem] Oper.semAt_some

theorem addr_add (b off j : Nat) : (⟨b, off, none⟩ : Addr).add j = ⟨b, off + j, none⟩ := by
  unfold Addr.add
  split <;> simp_all
/-- n texts, as cells. -/
def sCells (L : List ByteArray) (n : Nat) : List Value := (List.range n).map fun j => .string (ssAt L j)
theorem sCells_len (L : List ByteArray) (n : Nat) : (sCells L n).length = n := by simp [sCells]
theorem sCells_at (L : List ByteArray) (n j : Nat) (h : j < n) : (sCells L n)[j]? = some (.string (ssAt L j)) := by
  unfold sCells
  rw [List.getElem?_map, List.getElem?_range h]
  rfl
theorem SAhead.news {n₀ : Nat} {w : World} {ao : Option Addr} {len : Nat} {L : List ByteArray} (h : SAhead n₀ w ao len L) : ∀ ad, ao = some ad → ∀ j u, (sCells L len)[j]? = some u → w.cell? (ad.add j) = some u := by
  intro ad e j u hj
  have hjl : j < len := by
    have := (List.getElem?_eq_some_iff.1 hj).1
    rwa [sCells_len] at this
  obtain ⟨b, off, e2, _, hc⟩ := h (by omega)
  rw [e] at e2
  cases e2
  rw [sCells_at L len j hjl] at hj
  cases hj
  rw [addr_add]
  exact hc j hjl
theorem sCells_one (L : List ByteArray) (n : Nat) : ∀ u ∈ sCells L n, u.oneCell' = true := by
  intro u hu
  simp only [sCells, List.mem_map] at hu
  obtain ⟨j, _, rfl⟩ := hu
  rfl
set_option maxHeartbeats 800000 in
theorem Clone31 (ao : Option Addr) (n cap : Nat) (L : List ByteArray) (w : World) (h : SAhead w.heap.size w ao n L) (hc : ao = none → n = 0 ∧ cap = 0) (hn : n ≤ 4194304) :
    Calls Try.prog 31 #[.slice ao n cap] w fun e w' => ∃ a c, e = .returned (.slice a n c) ∧ SAhead w'.heap.size w' a n L ∧ Below w.heap.size w w' := by
  obtain ⟨i0, hi, hz0, hz1, hz2⟩ : ∃ i, Try.prog.info? 9 = some i ∧ i.zero = some (.string ⟨#[]⟩) ∧ i.size = 1 ∧ i.bytes = 16 := info_parts (by kernel_rfl)
  have hnil := fun (W : World) => Lib.run_eql_slice_nil (P := Try.prog) W 40 9 ao n cap 0 0 Try.underlying40
  cases ao with
  | none =>
    obtain ⟨rfl, rfl⟩ := hc rfl
    clear h
    go_enter Try.func31, Try.ntmps31
    go_wp2
    go_ret
    exact ⟨none, ⟨0, rfl⟩, fun hp => absurd hp (by omega), Below.refl _ _⟩
  | some ad =>
    have HR : Hid ((w.alloc (.cells #[] 9)).ownsRow w.heap.size 9 1 (.slice (some ⟨w.heap.size, 0, none⟩) 0 0) 0 []) := Lib.hid (World.ownsRow_lit w #[] 0 (Nat.le_refl _) (by simp) rfl)
    have HA := Lib.hid (h.below ((Below.refl _ w).alloc (Nat.le_refl _) (.cells #[] 9)))
    clear h
    go_enter Try.func31, Try.ntmps31
    go_wp2_with (at_builtin; refine wpList_append_f _ rfl (.tmp 5) (.tmp 6) 40 rfl w.heap.size 9 i0 (.string ⟨#[]⟩) 1 16 Try.underlying40 hi hz0 hz1 hz2 rfl (by decide) _ _ _ rfl HR.out (some ad) n cap (sCells L n) rfl (by rw [sCells_len]; omega) (fun e => by cases e) HA.out.news (sCells_one L n) ?c3 ?c4 (by simp) ?_)
    case c3 => unfold maxLen; omega
    case c4 => omega
    intro v' w1 hown hg hf _
    have hb : Below w.heap.size w w1 := ((Below.refl _ w).alloc (Nat.le_refl _) (.cells #[] 9)).grown hg (by simp) (fun k e => by cases e; exact Nat.le_refl _)
    have hown : w1.ownsRow w.heap.size 9 1 v' n (sCells L n) := by simpa using hown
    obtain ⟨a1, c1, rfl⟩ := row_slice hown
    have HO := Lib.hid hown
    have HB := Lib.hid hb
    clear hown hg hf hb
    go_wp2
    go_ret
    refine ⟨a1, c1, rfl, fun hp => ?_, HB.out⟩
    obtain ⟨g, c3, cur, e, hgl, hgg, _⟩ := row_some HO.out hp
    cases e
    refine ⟨g, 0, rfl, blk_lt hgg, fun j hj => ?_⟩
    have := HO.out.cells (g := g) rfl j _ (sCells_at L n j hj)
    rw [addr_add] at this
    exact this
theorem every33 (ao : Option Addr) (len cap : Nat) (w : World) : Calls Try.prog 33 #[.slice ao len cap] w fun e w' => e = .returned (.func (.func 42) #[] #[.pointer (some ⟨w.heap.size, 0, none⟩)]) ∧ w' = w.alloc (.cells #[.slice ao len cap] 40) := by
  go_enter Try.func33, Try.ntmps33
  go_wp2
  go_ret
  exact ⟨rfl, rfl⟩
theorem Each20 (ao : Option Addr) (n cap : Nat) (L : List ByteArray) (w : World) (h : SAhead w.heap.size w ao n L) (hc : ao = none → n = 0 ∧ cap = 0) (hn : n ≤ 4194304) :
    Calls Try.prog 20 #[.slice ao n cap] w fun e w' => ∃ B ra rc, e = .returned (.func (.func 32) #[] #[.pointer (some ⟨B, 0, none⟩)]) ∧ w'.heap[B]? = some (.cells #[.slice ra n rc] 40 (0, 0)) ∧ SAhead w'.heap.size w' ra n L ∧ Below w.heap.size w w' := by
  have HO := Lib.hid (Clone31 ao n cap L w h hc hn)
  clear h hc
  go_enter Try.func20, Try.ntmps20
  go_wp2_with (go_at_call 31; fail)
  refine HO.out.mono ?_
  rintro e w1 ⟨ra, rc, rfl, hla, hb1⟩
  have HLA := Lib.hid hla
  have HB1 := Lib.hid hb1
  clear hla hb1 HO
  go_wp2
  go_ret
  have hbx : Below w1.heap.size w1 (w1.alloc (.cells #[.slice ra n rc] 40)) := (Below.refl _ w1).alloc (Nat.le_refl _) _
  refine ⟨w1.heap.size, ra, rc, rfl, alloc_blk_new _ _, fun hp => ?_, HB1.out.trans (hbx.mono HB1.out.size)⟩
  obtain ⟨b, off, e, hbl, hc⟩ := (HLA.out.below hbx) hp
  exact ⟨b, off, e, by simp; omega, hc⟩
set_option maxRecDepth 100000 in
set_option maxHeartbeats 2000000 in
theorem Each32_deep (m : Nat) (hm : 7 ≤ m) (B n₀ : Nat) (ao : Option Addr) (len cap : Nat) (L : List ByteArray) (hreach : len ≤ 1000) (hsz : ∀ j, (ssAt L j).size ≤ 1000) (w : World) (hB : B < n₀) (hn₀ : n₀ ≤ w.heap.size)
    (hcB : w.cell? ⟨B, 0, none⟩ = some (.slice ao len cap)) (hI : SAhead n₀ w ao len L) :
    SeqDeep Fence.wide m Try.prog 32 #[.pointer (some ⟨B, 0, none⟩)] (cEnc L len) n₀ (fun ys => ys = List.finRange (cnts L len).length) (fun pre => pre <+: List.finRange (cnts L len).length) (cnts L len).length w := by
  intro l J Jx W hW hJ hJx hY hj0
  show CallsIn Fence.wide m Try.prog 32 #[.func (.yield l) #[] #[], .pointer (some ⟨B, 0, none⟩)] W _
  have hWs := hW.size
  have HBx := Lib.hid ((Below.refl _ W).alloc (Nat.le_refl _) (.cells #[.func (.yield l) #[] #[]] 65))
  have hk76 := alloc_blk_new W (.cells #[.func (.yield l) #[] #[]] 65)
  refine callsIn_of_wp_marks Try.func32 rfl trivial ?_ rfl
  simp only [Try.ntmps32, List.size_toArray, List.length_cons, List.length_nil, Nat.reduceAdd, Nat.reduceSub, Array.replicate_succ, Array.replicate_zero, List.push_toArray, List.append_toArray, List.nil_append, List.cons_append]
  refine wpIn_wide.2 ?_
  go_wp2
  refine wp_scope_straight ?_
  go_wp2_with fail
  refine wp_label ?_
  obtain ⟨W1, hW1⟩ : ∃ X, X = W.alloc (.cells #[.func (.yield l) #[] #[]] 65) := ⟨_, rfl⟩
  have hs1 : W1.heap.size = W.heap.size + 1 := by rw [hW1]; simp
  rw [← hW1] at HBx hk76 ⊢
  have hBB := ((hW.trans (HBx.out.mono hWs)).cell (p := ⟨B, 0, none⟩) (by show B < _; omega)).trans hcB
  have HW1 := Lib.hid hW1
  clear hW1
  go_wp2_with fail
  refine (every33 ao len cap W1).mono ?_
  rintro e W2 ⟨rfl, hW2⟩
  obtain ⟨A, hA⟩ : ∃ A, A = W1.heap.size := ⟨_, rfl⟩
  have hk := alloc_blk_new W1 (.cells #[.slice ao len cap] 40)
  have hb2 := (Below.refl _ W1).alloc (Nat.le_refl _) (.cells #[.slice ao len cap] 40)
  rw [← hW2] at hk hb2
  rw [← hA] at hk ⊢
  have HK2 := Lib.hid (cell_blk hk 0 (.slice ao len cap) rfl)
  have hAl : A < W2.heap.size := blk_lt hk
  have HBW := Lib.hid (HBx.out.trans (hb2.mono HBx.out.size))
  have hs2 : W.heap.size + 1 < W2.heap.size := by omega
  have h76 := cell_blk ((hb2.block _ (by omega)).trans hk76) 0 (.func (.yield l) #[] #[]) rfl
  have HBw := Lib.hid (hW.trans (HBW.out.mono hWs))
  have hj2 : J [] W2 := hJ [] W W2 hj0 HBW.out
  have hI2 := hI.below (HBw.out.mono hn₀)
  have HJ := Lib.hid hJ
  have HJx := Lib.hid hJx
  have HY := Lib.hid hY
  have HI2 := Lib.hid hI2
  have H76 := Lib.hid h76
  have HJ2 := Lib.hid hj2
  clear hk hb2 hW2 hA hBB HBx hk76 h76 hj2 hI2 hJ hJx hY hI hj0 HW1
  go_wp2_with fail
  refine (wpIn_wide (n := m)).1 ?_
  refine' wpIn_range_deepA (F := Fence.wide) rfl (by omega) (gf := 42) (lb := #[.pointer (some ⟨A, 0, none⟩)]) rfl trivial (enters_of Try.func42 (by kernel_rfl) rfl) (n₀ := n₀) (by omega)
    (every42_deep (m - 1) (by omega) A n₀ ao len cap L hreach hsz W2 hAl (by omega) HK2.out HI2.out) (fun _ => rfl)
    (fun pre V => J pre V ∧ V.cell? ⟨W.heap.size, 0, none⟩ = some (.func (.yield l) #[] #[]))
    (fun c pre V => c = .exit 0 ∧ Jx pre V)
    (fun s U V hs hb => ⟨HJ.out s U V hs.1 (hb.mono (by omega)), (hb.cell (p := ⟨W.heap.size, 0, none⟩) (by show W.heap.size < _; omega)).trans hs.2⟩)
    (fun c s U V hs hb => ⟨hs.1, HJx.out s U V hs.2 (hb.mono (by omega))⟩)
    ⟨HJ2.out, H76.out⟩ (fun x => .cells #[.int .i64 (sayF L (cAt L len x.val)).k, .string (strOfNums (sayF L (cAt L len x.val)).n), .string (strOfNums (sayF L (cAt L len x.val)).v)] 25) _ ?assign ?body ?done ?stop
  case assign =>
    intro l x W X K hX hK
    unfold cEnc
    dsimp only
    gi_wp2
    rw [← hX]
    exact hK _ rfl
  case body =>
    rintro l' pre x V X hX hXb ⟨hj, c76⟩ hlt
    have hR := YieldAt.deep (l' := l') (k := m - 1 - 1 - 1) (HY.out pre x V (by have := blk_lt hXb; omega) hj hlt)
    unfold cEnc at hR
    try dsimp only at hR hXb
    obtain ⟨fk, hfk⟩ : ∃ s, s = (sayF L (cAt L len x.val)).k := ⟨_, rfl⟩
    obtain ⟨fN, hfN⟩ : ∃ s, s = strOfNums (sayF L (cAt L len x.val)).n := ⟨_, rfl⟩
    obtain ⟨fV, hfV⟩ : ∃ s, s = strOfNums (sayF L (cAt L len x.val)).v := ⟨_, rfl⟩
    rw [← hfk, ← hfN, ← hfV] at hR hXb
    obtain ⟨fn, tmps, assign, body, hy, hR⟩ := hR
    have x0 := cell_blk hXb 0 (.int .i64 fk) rfl
    have x1 := cell_blk hXb 1 (.string fN) rfl
    have x2 := cell_blk hXb 2 (.string fV) rfl
    have xl := blk_lt hXb
    have hx1 : 0 ≤ (cAt L len x.val : Int) := by omega
    have vl : W.heap.size < V.heap.size := by omega
    clear hfk hfN hfV hXb
    gi_wp2
    refine ⟨fun h => by simp [Fence.wide] at h, ?_⟩
    refine hR.mono ?_
    rintro e V' ⟨hst, ⟨rfl, hj', hb'⟩ | ⟨rfl, hjx⟩⟩
    · gi_wp2
      exact ⟨hst.mono (by omega), hb', hj', (World.cell?_of_block (w := V) (w' := V') (hst.2 W.heap.size (Nat.le_refl _) (by omega))).trans c76⟩
    · gi_wp2
      exact ⟨hst.mono (by omega), rfl, hjx⟩
  case stop =>
    rintro D c pre V hD hSp ⟨rfl, hjx⟩ hKd
    refine wpIn_exit ?_
    simp only [Exit.inBlock, if_true]
    go_wp2
    simp only [Exit.noGoto]
    refine ⟨by simp, .inl ⟨_, _, rfl, run_takeDeferred hKd, ?_⟩⟩
    exact ⟨_, results_none rfl _ _ _, ⟨_, rfl⟩, .inr ⟨pre, hSp, HJx.out _ _ _ hjx (below_put (by omega))⟩⟩
  case done =>
    rintro D ys V hD rfl ⟨hj, _⟩ hKd
    go_wp2
    simp only [Exit.noGoto]
    refine ⟨by simp, .inl ⟨_, _, rfl, run_takeDeferred hKd, ?_⟩⟩
    exact ⟨_, results_none rfl _ _ _, ⟨_, rfl⟩, .inl ⟨_, rfl, HJ.out _ _ _ hj (below_put (by omega))⟩⟩
end Go.Proofs.Ytfnojmkiajdoaaa
