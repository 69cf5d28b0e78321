/-
  Timers as their callers know them: Set.
-/
import Derived.Test.YtnmbhcekcdicnaaVa
import Derived.Test.YtnmbhcekcdicnaaT
namespace Go.Proofs.Ytnmbhcekcdicnaa
open Go.RowKit
set_option linter.unusedVariables false
set_option linter.unusedSimpArgs false

section
variable {K K' : Nat → Prop} {p : Nat} {most : Int} {l : List Rw} {W W' : World}
theorem TAt.len_eq {ao : Option Addr} {n c mb : Nat} (h : TAt K p most l ao n c mb W) : n = l.length := h.rows.len
theorem TS.srt (h : TS K p most l W) : Srt l := by obtain ⟨ao, n, c, mb, g⟩ := h.ex; exact g.srt
theorem TS.m0 (h : TS K p most l W) : 1 ≤ most := by obtain ⟨ao, n, c, mb, g⟩ := h.ex; exact g.m0
theorem TS.m1 (h : TS K p most l W) : most ≤ 8192 := by obtain ⟨ao, n, c, mb, g⟩ := h.ex; exact g.m1
theorem TS.le (h : TS K p most l W) : (l.length : Int) ≤ most := by obtain ⟨ao, n, c, mb, g⟩ := h.ex; have := g.le; rw [g.len_eq] at this; exact this
theorem TS.kp (h : TS K p most l W) : K p := by obtain ⟨ao, n, c, mb, g⟩ := h.ex; exact g.kp
theorem TS.lt (h : TS K p most l W) : p < W.heap.size := by obtain ⟨ao, n, c, mb, g⟩ := h.ex; exact blk_lt g.blk
/-- Only blocks that lie there count. -/
theorem TS.old (h : TS K p most l W) : TS (fun q => K q ∧ q < W.heap.size) p most l W := by
  obtain ⟨ao, n, c, mb, g⟩ := h.ex
  exact ⟨ao, n, c, mb, g.blk, g.map, ⟨g.rows.len, g.rows.cap, g.rows.none_, g.rows.big, fun a e => by
    obtain ⟨b, cur, e1, e2, e3, e4⟩ := g.rows.some_ a e
    exact ⟨b, cur, e1, ⟨e2, blk_lt e3⟩, e3, e4⟩⟩, ⟨g.kp, blk_lt g.blk⟩, ⟨g.km, g.map.lt⟩, g.srt, g.m0, g.m1, g.le⟩
theorem Turned.wide {K K' : Nat → Prop} {p : Nat} {most : Int} {l : List Rw} {W W' : World} (h : Turned K p most l W W') (hk : ∀ q, K q → K' q) : Turned K' p most l W W' :=
  ⟨h.st.keep (fun b e => e.imp (hk b) id) fun _ _ _ => rfl, h.mod.mono fun k _ e => hk k e⟩
theorem Turned.below {K : Nat → Prop} {p : Nat} {most : Int} {l : List Rw} {W W' W'' : World} (h : Turned K p most l W W') (hb : Below W'.heap.size W' W'') : Turned K p most l W W'' :=
  ⟨h.st.keep (fun b e => e.imp id fun e => ⟨e.1, Nat.lt_of_lt_of_le e.2 hb.size⟩) fun b _ hl => hb.block b hl, h.mod.trans (Mod.of_below hb K) fun _ _ e => e⟩
theorem TS.due (h : TS K p most l W) {k i : Int} (k0 : -9223372036854775808 ≤ k) (k1 : k ≤ 9223372036854775807) (i0 : 0 ≤ i) (i1 : i ≤ 18446744073709551615) :
    Calls Try.prog 20 #[.pointer (some ⟨p, 0, none⟩), tmV k i] W fun e w' => e = .returned (.tuple #[.int .u64 ((dueOf l k i).getD 0), .bool (dueOf l k i).isSome]) ∧ Below W.heap.size W w' := by
  obtain ⟨ao, n, c, mb, g⟩ := h.ex
  exact g.due k0 k1 i0 i1
theorem TS.isT (h : TS K p most l W) : Calls Try.prog 30 #[.pointer (some ⟨p, 0, none⟩)] W fun e w' => e = .returned (.bool false) ∧ W = w' := by
  obtain ⟨ao, n, c, mb, g⟩ := h.ex
  exact g.isT
theorem TS.length (h : TS K p most l W) : Calls Try.prog 23 #[.pointer (some ⟨p, 0, none⟩)] W fun e w' => e = .returned (.int .i64 l.length) ∧ W = w' := by
  obtain ⟨ao, n, c, mb, g⟩ := h.ex
  have := g.length
  rw [g.len_eq] at this
  exact this
theorem TS.ahead (h : TS K p most l W) : Calls Try.prog 39 #[.pointer (some ⟨p, 0, none⟩)] W fun e w' => e = .returned (.tuple #[rwV (rAt l 0), .bool (decide (0 < l.length))]) ∧ Below W.heap.size W w' := by
  obtain ⟨ao, n, c, mb, g⟩ := h.ex
  have := g.ahead
  rw [g.len_eq] at this
  exact this
theorem TS.next (h : TS K p most l W) : Calls Try.prog 22 #[.pointer (some ⟨p, 0, none⟩)] W fun e w' => e = .returned (.tuple #[.int .u64 (rAt l 0).d, .bool (decide (0 < l.length))]) ∧ Below W.heap.size W w' := by
  obtain ⟨ao, n, c, mb, g⟩ := h.ex
  have := g.next
  rw [g.len_eq] at this
  exact this
theorem TS.stop (h : TS K p most l W) {k i : Int} (k0 : -9223372036854775808 ≤ k) (k1 : k ≤ 9223372036854775807) (i0 : 0 ≤ i) (i1 : i ≤ 18446744073709551615) :
    Calls Try.prog 19 #[.pointer (some ⟨p, 0, none⟩), tmV k i] W fun e w' => e = .returned (.tuple #[.int .u64 ((dueOf l k i).getD 0), .bool (dueOf l k i).isSome]) ∧ Turned K p most (wo l k i) W w' := by
  obtain ⟨ao, n, c, mb, g⟩ := h.ex
  cases hd : dueOf l k i with
  | none =>
    refine (g.stop_no k0 k1 i0 i1 hd).mono ?_
    rintro e w' ⟨rfl, hb⟩
    rw [wo_none hd]
    exact ⟨rfl, h.turned hb⟩
  | some d => exact g.stop_yes hd
theorem TS.put (h : TS K p most l W) (hn : (l.length : Int) < most) (r : Rw) (hr : r.Ok) (hnew : ∀ x ∈ l, x.is r.k r.i = false) (vb : Nat) (hv : W.heap[vb]? = some (.cells #[.int .i64 r.k, .int .u64 r.i, .int .u64 r.d] 80 (0, 0))) :
    Calls Try.prog 36 #[.pointer (some ⟨p, 0, none⟩), .slice (some ⟨vb, 0, none⟩) 1 1] W fun e w' => e = .returned (.tuple #[]) ∧ Turned K p most (ins l r) W w' := by
  obtain ⟨ao, n, c, mb, g⟩ := h.ex
  exact g.put (by rw [g.len_eq]; exact hn) r hr hnew vb hv
set_option maxHeartbeats 3200000 in
theorem TS.set_kind (h : TS K p most l W) {k i d : Int} (hk : isKind k = false) :
    Calls Try.prog 18 #[.pointer (some ⟨p, 0, none⟩), tmV k i, .int .u64 d] W fun e w' => e = .returned (.tuple #[.int .u64 0, .bool false, .int .i64 2]) ∧ Below W.heap.size W w' := by
  obtain ⟨u, hu⟩ : ∃ X, X = W.alloc (.cells #[.int .i64 k, .int .u64 i] 26) := ⟨_, rfl⟩
  obtain ⟨X, hX⟩ : ∃ X, X = W.heap.size := ⟨_, rfl⟩
  have b1 : Below W.heap.size W u := by rw [hu]; exact (Below.refl _ W).alloc (Nat.le_refl _) _
  have kk : u.heap[X]? = some (.cells #[.int .i64 k, .int .u64 i] 26 (0, 0)) := by rw [hu, hX]; exact alloc_blk_new _ _
  have HN := Lib.hid (h.below b1).isT
  have HK0 := kind35 k
  rw [hk] at HK0
  have HKD := Lib.hid HK0
  have x0 := cell_blk kk 0 _ rfl
  have x1 := cell_blk kk 1 _ rfl
  have lx := blk_lt kk
  have KX := Lib.hid kk
  have EU := Lib.hid hu
  have EX := Lib.hid hX
  have B1 := Lib.hid b1
  have H := Lib.hid h
  unfold tmV
  clear h hu hX b1 kk HK0 hk
  go_enter Try.func18, Try.ntmps18
  go_wp2_with fail
  refine wp_scope_fwd 0 rfl ?_
  go_wp2_with (go_at_call 30; fail)
  rw [← EU.out, ← EX.out]
  refine HN.out.mono ?_
  rintro e w' ⟨rfl, rfl⟩
  go_wp2_with (go_at_call 35; fail)
  refine (HKD.out _).mono ?_
  rintro e w1 ⟨rfl, hb⟩
  have HB1 := Lib.hid hb
  clear hb
  go_wp2
  refine wp_goto ?_
  refine ⟨rfl, ?_⟩
  go_wp2
  try rw [Exit.noGoto_ret]
  refine bodyPost_ret (v := .tuple #[.int .u64 0, .bool false, .int .i64 2]) (by simp [results, Try.f18, go_sem]) rfl ⟨rfl, ?_⟩
  exact B1.out.trans (HB1.out.mono B1.out.size)
set_option maxHeartbeats 3200000 in
theorem TS.set_long (h : TS K p most l W) {k i d : Int} (hk : isKind k = true) (i0 : 0 ≤ i) (i1 : i ≤ 18446744073709551615) (d0 : 0 ≤ d) (d1 : d ≤ 18446744073709551615) (hd : dueOf l k i = none ∧ (l.length : Int) = most) :
    Calls Try.prog 18 #[.pointer (some ⟨p, 0, none⟩), tmV k i, .int .u64 d] W fun e w' => e = .returned (.tuple #[.int .u64 0, .bool false, .int .i64 3]) ∧ Turned K p most l W w' := by
  obtain ⟨u, hu⟩ : ∃ X, X = W.alloc (.cells #[.int .i64 k, .int .u64 i] 26) := ⟨_, rfl⟩
  obtain ⟨X, hX⟩ : ∃ X, X = W.heap.size := ⟨_, rfl⟩
  have b1 : Below W.heap.size W u := by rw [hu]; exact (Below.refl _ W).alloc (Nat.le_refl _) _
  have kk : u.heap[X]? = some (.cells #[.int .i64 k, .int .u64 i] 26 (0, 0)) := by rw [hu, hX]; exact alloc_blk_new _ _
  have HN := Lib.hid (h.below b1).isT
  have HK0 := kind35 k
  rw [hk] at HK0
  have HKD := Lib.hid HK0
  have x0 := cell_blk kk 0 _ rfl
  have x1 := cell_blk kk 1 _ rfl
  have lx := blk_lt kk
  have KX := Lib.hid kk
  have EU := Lib.hid hu
  have EX := Lib.hid hX
  have B1 := Lib.hid b1
  have H := Lib.hid h
  have k0 : -9223372036854775808 ≤ k := by unfold isKind at hk; simp at hk; omega
  have k1 : k ≤ 9223372036854775807 := by unfold isKind at hk; simp at hk; omega
  have hR := And.intro (And.intro k0 k1) (And.intro (And.intro i0 i1) (And.intro d0 d1))
  have HR := Lib.hid hR
  have HD := Lib.hid hd
  obtain ⟨was, hwas⟩ : ∃ x, x = (dueOf l k i).getD 0 := ⟨_, rfl⟩
  obtain ⟨had, hhad⟩ : ∃ x, x = (dueOf l k i).isSome := ⟨_, rfl⟩
  have HWas := Lib.hid hwas
  have HHad := Lib.hid hhad
  unfold tmV
  clear h hu hX b1 kk HK0 hk i0 i1 d0 d1 hd hwas hhad k0 k1 hR
  go_enter Try.func18, Try.ntmps18
  go_wp2_with fail
  refine wp_scope_fwd 0 rfl ?_
  go_wp2_with (go_at_call 30; fail)
  rw [← EU.out, ← EX.out]
  refine HN.out.mono ?_
  rintro e w' ⟨rfl, rfl⟩
  go_wp2_with (go_at_call 35; fail)
  refine (HKD.out _).mono ?_
  rintro e w1 ⟨rfl, hb⟩
  have HB1 := Lib.hid hb
  have k5 := (hb.block _ (blk_lt KX.out)).trans KX.out
  have x0 := cell_blk k5 0 _ rfl
  have x1 := cell_blk k5 1 _ rfl
  have lx := blk_lt k5
  clear k5 hb
  go_wp2_with (go_at_call 19; fail)
  have hw1 := B1.out.trans (HB1.out.mono B1.out.size)
  have hst := (H.out.old.below hw1).stop (k := k) (i := i) HR.out.1.1 HR.out.1.2 HR.out.2.1.1 HR.out.2.1.2
  rw [← HWas.out, ← HHad.out] at hst
  unfold tmV at hst
  refine hst.mono ?_
  rintro e w2 ⟨rfl, hT⟩
  have hT' := (Turned.trans ⟨H.out.old.turned hw1 |>.st, H.out.old.turned hw1 |>.mod⟩ (hT.wide fun q e => .inl e))
  have k6 := (hT.mod.block X (Nat.lt_of_lt_of_le (blk_lt KX.out) HB1.out.size) (fun e => by have := EX.out; have := e.2; omega)).trans ((HB1.out.block _ (blk_lt KX.out)).trans KX.out)
  obtain ⟨ao, n, c, mb, g⟩ := hT'.st.ex
  have c0 := cell_blk g.blk 0 _ rfl
  have c1 := cell_blk g.blk 1 _ rfl
  have c2 := cell_blk g.blk 2 _ rfl
  have lp := blk_lt g.blk
  have x0 := cell_blk k6 0 _ rfl
  have x1 := cell_blk k6 1 _ rfl
  have lx := blk_lt k6
  have HT := Lib.hid hT'
  have G := Lib.hid g
  have KY := Lib.hid k6
  clear hst hT hT' g k6 hw1
  have hne : ((n : Int) == most) = true := by
    have := G.out.len_eq
    rw [wo_none HD.out.1] at this
    have := HD.out.2
    simp
    omega
  have hne2 : decide ((n : Int) = most) = true := by simpa using hne
  go_wp2_with fail
  go_quiet (fail)
  go_wp2
  refine wp_goto ?_
  refine ⟨rfl, ?_⟩
  go_wp2
  try rw [Exit.noGoto_ret]
  refine bodyPost_ret (v := .tuple #[.int .u64 0, .bool false, .int .i64 3]) (by simp [results, Try.f18, go_sem]) rfl ⟨rfl, ?_⟩
  have hz := HT.out.wide (K' := K) fun q e => e.1
  rw [wo_none HD.out.1] at hz
  exact ⟨hz.st.below (Below.drewN' _ _), hz.mod.drewN _⟩
set_option maxHeartbeats 3200000 in
theorem TS.set_ok (h : TS K p most l W) {k i d : Int} (hk : isKind k = true) (i0 : 0 ≤ i) (i1 : i ≤ 18446744073709551615) (d0 : 0 ≤ d) (d1 : d ≤ 18446744073709551615) (hd : dueOf l k i = none → (l.length : Int) < most) :
    Calls Try.prog 18 #[.pointer (some ⟨p, 0, none⟩), tmV k i, .int .u64 d] W fun e w' => e = .returned (.tuple #[.int .u64 ((dueOf l k i).getD 0), .bool (dueOf l k i).isSome, .int .i64 0]) ∧ Turned K p most (ins (wo l k i) ⟨k, i, d⟩) W w' := by
  obtain ⟨u, hu⟩ : ∃ X, X = W.alloc (.cells #[.int .i64 k, .int .u64 i] 26) := ⟨_, rfl⟩
  obtain ⟨X, hX⟩ : ∃ X, X = W.heap.size := ⟨_, rfl⟩
  have b1 : Below W.heap.size W u := by rw [hu]; exact (Below.refl _ W).alloc (Nat.le_refl _) _
  have kk : u.heap[X]? = some (.cells #[.int .i64 k, .int .u64 i] 26 (0, 0)) := by rw [hu, hX]; exact alloc_blk_new _ _
  have HN := Lib.hid (h.below b1).isT
  have HK0 := kind35 k
  rw [hk] at HK0
  have HKD := Lib.hid HK0
  have x0 := cell_blk kk 0 _ rfl
  have x1 := cell_blk kk 1 _ rfl
  have lx := blk_lt kk
  have KX := Lib.hid kk
  have EU := Lib.hid hu
  have EX := Lib.hid hX
  have B1 := Lib.hid b1
  have H := Lib.hid h
  have k0 : -9223372036854775808 ≤ k := by unfold isKind at hk; simp at hk; omega
  have k1 : k ≤ 9223372036854775807 := by unfold isKind at hk; simp at hk; omega
  have hR := And.intro (And.intro k0 k1) (And.intro (And.intro i0 i1) (And.intro d0 d1))
  have HR := Lib.hid hR
  have HD := Lib.hid hd
  obtain ⟨was, hwas⟩ : ∃ x, x = (dueOf l k i).getD 0 := ⟨_, rfl⟩
  obtain ⟨had, hhad⟩ : ∃ x, x = (dueOf l k i).isSome := ⟨_, rfl⟩
  have HWas := Lib.hid hwas
  have HHad := Lib.hid hhad
  rw [← hwas, ← hhad]
  unfold tmV
  clear h hu hX b1 kk HK0 hk i0 i1 d0 d1 hd hwas hhad k0 k1 hR
  go_enter Try.func18, Try.ntmps18
  go_wp2_with fail
  refine wp_scope_fwd 0 rfl ?_
  go_wp2_with (go_at_call 30; fail)
  rw [← EU.out, ← EX.out]
  refine HN.out.mono ?_
  rintro e w' ⟨rfl, rfl⟩
  go_wp2_with (go_at_call 35; fail)
  refine (HKD.out _).mono ?_
  rintro e w1 ⟨rfl, hb⟩
  have HB1 := Lib.hid hb
  have k5 := (hb.block _ (blk_lt KX.out)).trans KX.out
  have x0 := cell_blk k5 0 _ rfl
  have x1 := cell_blk k5 1 _ rfl
  have lx := blk_lt k5
  clear k5 hb
  go_wp2_with (go_at_call 19; fail)
  have hw1 := B1.out.trans (HB1.out.mono B1.out.size)
  have hst := (H.out.old.below hw1).stop (k := k) (i := i) HR.out.1.1 HR.out.1.2 HR.out.2.1.1 HR.out.2.1.2
  rw [← HWas.out, ← HHad.out] at hst
  unfold tmV at hst
  refine hst.mono ?_
  rintro e w2 ⟨rfl, hT⟩
  have hT' := (Turned.trans ⟨H.out.old.turned hw1 |>.st, H.out.old.turned hw1 |>.mod⟩ (hT.wide fun q e => .inl e))
  have k6 := (hT.mod.block X (Nat.lt_of_lt_of_le (blk_lt KX.out) HB1.out.size) (fun e => by have := EX.out; have := e.2; omega)).trans ((HB1.out.block _ (blk_lt KX.out)).trans KX.out)
  obtain ⟨ao, n, c, mb, g⟩ := hT'.st.ex
  have c0 := cell_blk g.blk 0 _ rfl
  have c1 := cell_blk g.blk 1 _ rfl
  have c2 := cell_blk g.blk 2 _ rfl
  have lp := blk_lt g.blk
  have x0 := cell_blk k6 0 _ rfl
  have x1 := cell_blk k6 1 _ rfl
  have lx := blk_lt k6
  have HT := Lib.hid hT'
  have G := Lib.hid g
  have KY := Lib.hid k6
  clear hst hT hT' g k6 hw1
  have hlt : ((wo l k i).length : Int) < most := by
    have := H.out.le
    cases hq : dueOf l k i with
    | none => rw [wo_none hq]; exact HD.out hq
    | some dd =>
      obtain ⟨q1, _, q3⟩ := wo_at H.out.srt hq
      rw [q3, List.length_append, List.length_take, List.length_drop]
      omega
  have hnlt : (n : Int) < most := by rw [G.out.len_eq]; exact hlt
  have HLT := Lib.hid hlt
  have hne : ((n : Int) == most) = false := by
    simp
    omega
  have hne2 : decide ((n : Int) = most) = false := by simpa using hne
  clear hlt
  go_wp2_with fail
  go_quiet (fail)
  rename_i nq
  go_wp2_with (go_at_call 36; fail)
  obtain ⟨w4, hw4⟩ : ∃ Y, Y = (w2.drewN nq).alloc (.cells #[.int .i64 k, .int .u64 i, .int .u64 d] 80) := ⟨_, rfl⟩
  obtain ⟨V, hV⟩ : ∃ V, V = w2.heap.size := ⟨_, rfl⟩
  rw [← hw4, ← hV]
  have hB4 : Below w2.heap.size w2 w4 := by rw [hw4]; exact (Below.drewN' w2 nq).alloc (Nat.le_refl _) _
  have hV4 : w4.heap[V]? = some (.cells #[.int .i64 k, .int .u64 i, .int .u64 d] 80 (0, 0)) := by rw [hw4, hV]; exact alloc_blk_new (w2.drewN nq) _
  have hT4 := HT.out.below hB4
  have hput := hT4.st.put HLT.out ⟨k, i, d⟩ ⟨HR.out.1.1, HR.out.1.2, HR.out.2.1.1, HR.out.2.1.2, HR.out.2.2.1, HR.out.2.2.2⟩ (fun x hx => wo_not l k i x hx) V hV4
  refine hput.mono ?_
  rintro e w5 ⟨rfl, hT5⟩
  have HT5 := Lib.hid ((hT4.trans hT5).wide (K' := K) fun q e => e.1)
  clear hT5 hput hT4 hV4 hB4 hw4 hV
  go_wp2
  try rw [Exit.noGoto_ret]
  simp only [Exit.jump]
  refine bodyPost_ret (v := .tuple #[.int .u64 was, .bool had, .int .i64 0]) (by simp [results, Try.f18, go_sem]) rfl ⟨rfl, HT5.out⟩
end
end Go.Proofs.Ytnmbhcekcdicnaa
