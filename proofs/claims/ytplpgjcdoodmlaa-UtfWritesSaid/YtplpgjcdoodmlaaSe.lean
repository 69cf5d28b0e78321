/-
  Each, Sound.
-/
import Derived.Test.YtplpgjcdoodmlaaSd
namespace Go.Proofs.Ytplpgjcdoodmlaa
open Go.RowKit Go.Shelf
set_option linter.unusedVariables false
set_option linter.unusedSimpArgs false
attribute [local go_sem] Oper.semAt_some

theorem Each_any (s : ByteArray) (w : World) : Calls Try.prog 10 #[.string s] w fun e w' => e = .returned (.func (.func 27) #[] #[.pointer (some ⟨w.heap.size, 0, none⟩)]) ∧ w' = w.alloc (.cells #[.string s] 9) := by
  go_enter Try.func10, Try.ntmps10
  go_wp2
  go_ret
  exact ⟨rfl, rfl⟩

set_option maxHeartbeats 1600000 in
theorem Sound_any (s : ByteArray) (w : World) (hn : s.size ≤ 1000000) : Calls Try.prog 13 #[.string s] w fun e w' => e = .returned (.bool (decide (ofL (nums s) = nums s))) ∧ Below w.heap.size w w' := by
  obtain ⟨c, w1, hrun, hb1, hs1, hA⟩ := conv_new s w
  have HOf := Lib.hid (Of_any (some ⟨w.heap.size, 0, none⟩) s.size c (nums s) w1 hA (fun e => by cases e) (nums_byt s) hn)
  have HB1 := Lib.hid hb1
  have HS1 := Lib.hid hs1
  obtain ⟨b, hb⟩ : ∃ b, b = decide (ofL (nums s) = nums s) := ⟨_, rfl⟩
  obtain ⟨X, hX⟩ : ∃ X, X = strOfNums (ofL (nums s)) := ⟨_, rfl⟩
  have hd : (X.toList == s.toList) = b := by
    rw [hb]
    refine toList_beq X s _ ?_
    rw [hX]
    conv => lhs; rhs; rw [← str_nums s]
    exact str_eq (ofL_byt (nums_byt s)) (nums_byt s)
  rw [← hb]
  rw [← hX] at HOf
  clear hA hb1 hs1 hX hb
  go_enter Try.func13, Try.ntmps13
  go_wp2_with (go_at_call 11; fail)
  refine HOf.out.mono ?_
  rintro e w2 ⟨rfl, hb2⟩
  have HB2 := Lib.hid (HB1.out.trans (hb2.mono HB1.out.size))
  clear hb2 HOf
  go_wp2
  go_ret
  exact ⟨rfl, HB2.out⟩

theorem YieldAt.deep {m k : Nat} {P : Program} {l l' : Nat} {args : Array Value} {W : World} {R : Ending → World → Prop} (h : YieldAt Fence.wide m P l args W R) : YieldAt (Fence.wide.inRound l') k P l args W R := by
  obtain ⟨fn, tmps, assign, body, hy, hR⟩ := h
  exact ⟨fn, tmps, assign, body, hy, hR.1, fun c cs _ => hR.2 c cs (room_wide _)⟩
/-- What stands between two points that Each hands on. -/
structure Gj (W : World) (H0 : Nat → Prop) (X : Nat) (J : (Nat → Prop) → List (Nat × Int) → World → Prop) (H : Nat → Prop) (pre : List (Nat × Int)) (V : World) : Prop where
  j : J (fun k => H k ∨ k = X) pre V
  hh : ∀ k, H k → H0 k ∨ W.heap.size ≤ k
  sz : W.heap.size ≤ V.heap.size
theorem Gj.steady {W : World} {H0 : Nat → Prop} {X : Nat} {J : (Nat → Prop) → List (Nat × Int) → World → Prop} (hJ : Steady J) : Steady (Gj W H0 X J) := by
  intro H H' s U V h hs hn hm
  refine ⟨hJ _ _ _ _ _ h.j (fun k hk => hk.imp (hs k) id) (fun k hk => ?_) (hm.mono fun k _ hk => .inl hk), fun k hk => ?_, Nat.le_trans h.sz hm.size⟩
  · rcases hk with hk | hk
    · exact (hn k hk).imp .inl id
    · exact .inl (.inr hk)
  · rcases hn k hk with hk | hk
    · exact h.hh k hk
    · exact .inr (Nat.le_trans h.sz hk)
/-- With Each's box. -/
structure Gi (W : World) (H0 : Nat → Prop) (X l : Nat) (J : (Nat → Prop) → List (Nat × Int) → World → Prop) (H : Nat → Prop) (pre : List (Nat × Int)) (V : World) : Prop where
  g : Gj W H0 X J H pre V
  nx : ¬ H X
  x : V.heap[X]? = some (.cells #[.func (.yield l) #[] #[]] 63 (0, 0))
theorem Gi.steady {W : World} {H0 : Nat → Prop} {X l : Nat} {J : (Nat → Prop) → List (Nat × Int) → World → Prop} (hJ : Steady J) : Steady (Gi W H0 X l J) := by
  intro H H' s U V h hs hn hm
  have nX : ¬ H' X := fun e => (hn X e).elim h.nx (fun e => by have := blk_lt h.x; omega)
  exact ⟨Gj.steady hJ _ _ _ _ _ h.g hs hn hm, nX, (hm.block X (blk_lt h.x) nX).trans h.x⟩

set_option maxRecDepth 100000 in
set_option maxHeartbeats 4000000 in
theorem Each1_held (m : Nat) (hm : 4 ≤ m) (S n₀ : Nat) (H0 : Nat → Prop) (s : ByteArray) (hn : s.size ≤ 1000000) (w : World) (hS : S < w.heap.size) (hH0 : ∀ k, H0 k → k < w.heap.size) (hn₀ : n₀ ≤ w.heap.size)
    (hc : w.cell? ⟨S, 0, none⟩ = some (.string s)) :
    SeqHeld Fence.wide m Try.prog 27 #[.pointer (some ⟨S, 0, none⟩)] (fun x : Nat × Int => #[.int .i64 (x.1 : Nat), .int .i64 x.2]) H0 n₀ (fun ys => ys = allP (nums s)) (fun pre => pre <+: allP (nums s)) (allP (nums s)).length w := by
  intro l J Jx W hW hJ hJx hY hj0
  show CallsIn Fence.wide m Try.prog 27 #[.func (.yield l) #[] #[], .pointer (some ⟨S, 0, none⟩)] W _
  have hWs := hW.size
  obtain ⟨X, hXe⟩ : ∃ X, X = W.heap.size := ⟨_, rfl⟩
  obtain ⟨W1, hW1⟩ : ∃ U, U = W.alloc (.cells #[.func (.yield l) #[] #[]] 63) := ⟨_, rfl⟩
  have s1 : W1.heap.size = X + 1 := by rw [hW1, hXe]; simp
  have b1 : Below W.heap.size W W1 := by rw [hW1]; exact (Below.refl _ W).alloc (Nat.le_refl _) _
  have k1 : W1.heap[X]? = some (.cells #[.func (.yield l) #[] #[]] 63 (0, 0)) := by rw [hW1, hXe]; exact alloc_blk_new _ _
  have cS := ((hW.trans (b1.mono hWs)).cell (p := ⟨S, 0, none⟩) hS).trans hc
  obtain ⟨c, W2, hrun, b2', s2, hA⟩ := conv_new s W1
  have b2 : Below W.heap.size W W2 := b1.trans (b2'.mono b1.size)
  have k2 := (b2'.block X (by omega)).trans k1
  obtain ⟨W3, hW3⟩ : ∃ U, U = W2.alloc (.cells #[.slice (some ⟨W1.heap.size, 0, none⟩) s.size c] 25) := ⟨_, rfl⟩
  have s3 : W3.heap.size = X + 3 := by rw [hW3]; simp [s2, s1]
  have b3' : Below W2.heap.size W2 W3 := by rw [hW3]; exact (Below.refl _ W2).alloc (Nat.le_refl _) _
  have b3 : Below W.heap.size W W3 := b2.trans (b3'.mono b2.size)
  have k3 : W3.heap[X + 2]? = some (.cells #[.slice (some ⟨W1.heap.size, 0, none⟩) s.size c] 25 (0, 0)) := by rw [hW3, show X + 2 = W2.heap.size by omega]; exact alloc_blk_new _ _
  have k31 := (b3'.block X (by omega)).trans k2
  have HE := Lib.hid (every_any (some ⟨W1.heap.size, 0, none⟩) s.size c W2)
  have HSeq := Lib.hid (every1_held (m - 1) (by omega) (X + 2) n₀ (fun k => H0 k ∨ k = X + 2) (some ⟨W1.heap.size, 0, none⟩) s.size c (nums s) hn (nums_byt s) W3 (.inr rfl) (fun k hk => by
    rcases hk with hk | hk
    · have := hH0 k hk; omega
    · omega) (cell_blk k3 0 _ rfl) (hA.below b3') (fun e => by cases e))
  have HG0 : Hid (Gi W H0 X l J (fun k => H0 k ∨ k = X + 2) [] W3) := Lib.hid ⟨⟨hJ _ _ _ _ _ hj0 (fun k hk => .inl (.inl hk)) (fun k hk => by
      rcases hk with (hk | hk) | hk
      · exact .inl hk
      · exact .inr (by omega)
      · exact .inr (by omega)) (Mod.of_below b3 _), fun k hk => by
      rcases hk with hk | hk
      · exact .inl hk
      · exact .inr (by omega), b3.size⟩, fun h => by
      rcases h with h | h
      · have := hH0 _ h; omega
      · omega, k31⟩
  have HJ := Lib.hid hJ
  have HJx := Lib.hid hJx
  have HY := Lib.hid hY
  have E1 := Lib.hid hW1
  have E3 := Lib.hid hW3
  have EX := Lib.hid hXe
  have S1 := Lib.hid s1
  have S2 := Lib.hid (show W2.heap.size = X + 2 by omega)
  have S3 := Lib.hid s3
  have HH0 := Lib.hid hH0
  have hSl : S < W1.heap.size := by omega
  clear hJ hJx hY hj0 hW1 hW3 hXe s1 s2 s3 b1 b2 b2' b3 b3' k1 k2 k3 k31 hA hc hH0
  refine callsIn_of_wp_marks Try.func27 rfl trivial ?_ rfl
  simp only [Try.ntmps27, List.size_toArray, List.length_cons, List.length_nil, Nat.reduceAdd, Nat.reduceSub, Array.replicate_succ, Array.replicate_zero, List.push_toArray, List.append_toArray, List.nil_append, List.cons_append]
  refine wpIn_wide.2 ?_
  go_wp2
  rw [← E1.out, ← EX.out]
  refine wp_scope_straight ?_
  go_wp2_with fail
  refine wp_label ?_
  go_wp2_with (go_at_call 28; fail)
  refine HE.out.mono ?_
  rintro e w' ⟨rfl, rfl⟩
  rw [← E3.out, S2.out]
  clear HE
  go_wp2_with fail
  refine (wpIn_wide (n := m)).1 ?_
  refine' wpIn_range_held (F := Fence.wide) rfl (by omega) (gf := 37) (lb := #[.pointer (some ⟨X + 2, 0, none⟩)]) rfl trivial (enters_of Try.func37 (by kernel_rfl) rfl) (H0 := fun k => H0 k ∨ k = X + 2) (fun k hk => by
      have := S3.out
      have := EX.out
      rcases hk with hk | hk
      · have := HH0.out k hk; omega
      · omega) (n₀ := n₀) (by have := S3.out; have := EX.out; omega)
    HSeq.out (fun _ => rfl) (Gi W H0 X l J) (fun c H pre V => c = .exit 0 ∧ Gj W H0 X Jx H pre V) (Gi.steady HJ.out) (fun c H H' s U V h hs hn hm => ⟨h.1, Gj.steady HJx.out _ _ _ _ _ h.2 hs hn hm⟩) HG0.out _ ?assign ?body ?done ?stop
  case assign =>
    intro l x W K hK
    gi_wp2
    exact hK
  case body =>
    rintro l' H pre x V hG hHl hlt
    have hXl := blk_lt hG.x
    have hR := YieldAt.deep (l' := l') (k := m - 1 - 1 - 1) (HY.out (fun k => H k ∨ k = X) pre x V hG.g.j (fun k hk => by
      rcases hk with hk | hk
      · exact hHl k hk
      · omega) hlt)
    obtain ⟨fn, tmps, assign, body, hy, hR⟩ := hR
    have cX := cell_blk hG.x 0 _ rfl
    have HGG := Lib.hid hG
    clear hG
    gi_wp2
    refine ⟨fun h => by simp [Fence.wide] at h, ?_⟩
    refine hR.mono ?_
    rintro e V' ⟨hst, ⟨rfl, hj', hb'⟩ | ⟨rfl, hjx⟩⟩
    · gi_wp2
      exact ⟨hst.mono (fun k hk => .inl hk), hb', ⟨hj', HGG.out.g.hh, Nat.le_trans HGG.out.g.sz hst.1⟩, HGG.out.nx, (hst.2 X (.inr rfl) hXl).trans HGG.out.x⟩
    · gi_wp2
      exact ⟨hst.mono (fun k hk => .inl hk), rfl, hjx, HGG.out.g.hh, Nat.le_trans HGG.out.g.sz hst.1⟩
  case stop =>
    rintro D H c pre V hD hHD hSp ⟨rfl, hg⟩ hKd
    refine wpIn_exit ?_
    simp only [Exit.inBlock, if_true]
    go_wp2
    simp only [Exit.noGoto]
    refine ⟨by simp, .inl ⟨_, _, rfl, run_takeDeferred hKd, ?_⟩⟩
    exact ⟨_, results_none rfl _ _ _, ⟨_, rfl⟩, _, fun k hk => hk.elim (hg.hh k) (fun e => .inr (by have := EX.out; omega)), .inr ⟨pre, hSp, HJx.out _ _ _ _ _ hg.j (fun _ e => e) (fun _ e => .inl e) (mod_put (.inl hHD))⟩⟩
  case done =>
    rintro D H ys V hD hHD rfl hg hKd
    go_wp2
    simp only [Exit.noGoto]
    refine ⟨by simp, .inl ⟨_, _, rfl, run_takeDeferred hKd, ?_⟩⟩
    exact ⟨_, results_none rfl _ _ _, ⟨_, rfl⟩, _, fun k hk => hk.elim (hg.g.hh k) (fun e => .inr (by have := EX.out; omega)), .inl ⟨_, rfl, HJ.out _ _ _ _ _ hg.g.j (fun _ e => e) (fun _ e => .inl e) (mod_put (.inl hHD))⟩⟩
end Go.Proofs.Ytplpgjcdoodmlaa
