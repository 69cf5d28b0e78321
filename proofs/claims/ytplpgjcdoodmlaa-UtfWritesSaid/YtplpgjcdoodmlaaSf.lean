/-
  works() answers true.
-/
import Derived.Test.YtplpgjcdoodmlaaSe
import Derived.Lib.SlBytesConst
import Derived.Lib.SmallJoins
namespace Go.Proofs.Ytplpgjcdoodmlaa
open Go.RowKit Go.Shelf
set_option linter.unusedVariables false
set_option linter.unusedSimpArgs false
attribute [local go_sem] Oper.semAt_some

theorem run_eql_func27 (f : Fn) (x y : Array Value) (w : World) : (binOp .eql 27 (.func f x y) .nilFunc).run Try.prog w = .ok (.bool false) w := by
  have h : ∀ d : Nat, (Op.equalIn (d + 1) 27 (.func f x y) .nilFunc).run Try.prog w = .ok false w := fun d => by
    simp [Op.equalIn, run_underlying Try.underlying27]
  simp only [binOp]
  simp [Op.equal, Op.maxDepth, h 9999]
attribute [local go_sem] run_eql_func27

theorem byt_dec {zs : List Int} (h : zs.all (fun x => decide (0 ≤ x ∧ x < 256)) = true) : Byt zs := fun x hx => by simpa using List.all_eq_true.1 h x hx
/-- Bytes laid out in a block of their own. -/
theorem arg_own {T : Nat → Prop} {w : World} {b : Nat} {zs : List Int} {fz : Nat × Nat} {e : TypeId} (h : w.heap[b]? = some (.cells (zs.map (Value.int .u8)).toArray e fz)) (hT : T b) : Arg T w (some ⟨b, 0, none⟩) zs.length zs :=
  ⟨rfl, fun _ => ⟨b, 0, rfl, blk_lt h, hT, fun j hj => cell_blk h _ _ (by simp [List.getD, hj])⟩⟩
/-- Of of bytes that are laid out. -/
theorem Of_lay (W : World) (zs : List Int) (n : Nat) (fz : Nat × Nat) (hn : zs.length = n) (hb : Byt zs) (hl : n ≤ 1000000) (C : Array Value) (hC : C = (zs.map (Value.int .u8)).toArray) (s : ByteArray) (hs : strOfNums (ofL zs) = s) :
    Calls Try.prog 11 #[.slice (some ⟨W.heap.size, 0, none⟩) n n] (W.alloc (.cells C 5 fz)) fun e w' => e = .returned (.string s) ∧ Below W.heap.size W w' := by
  subst hn hC hs
  refine (Of_any (T := fun _ => True) _ _ _ zs _ (arg_own (alloc_blk_new W _) trivial) (fun e => by cases e) hb hl).mono ?_
  rintro e w' ⟨rfl, h⟩
  exact ⟨rfl, ((Below.refl _ W).alloc (Nat.le_refl _) _).trans (h.mono (by simp))⟩
/-- Write of bytes that are laid out. -/
theorem DS.write_lay {w wr : World} {K : Nat → Prop} {D : Nat} {zs : List Int} (h : DS w K D zs wr) (bs : List Int) (n : Nat) (fz : Nat × Nat) (hn : bs.length = n) (hb : Byt bs) (hl : n ≤ 1000000) (C : Array Value) (hC : C = (bs.map (Value.int .u8)).toArray) (s : ByteArray) (hs : strOfNums (enc (pts (zs ++ bs))) = s) (ys : List Int) (hy : wts (zs ++ bs) = ys) :
    Calls Try.prog 19 #[.pointer (some ⟨D, 0, none⟩), .slice (some ⟨wr.heap.size, 0, none⟩) n n] (wr.alloc (.cells C 5 fz)) fun e w' => e = .returned (.tuple #[.string s, .int .i64 0]) ∧ DS w K D ys w' ∧ Mod (fun k => k = D) wr w' := by
  subst hn hC hs hy
  have hb1 := (Below.refl _ wr).alloc (Nat.le_refl _) (.cells (bs.map (Value.int .u8)).toArray 5 fz)
  refine ((h.grow hb1).write (U := fun _ => True) _ _ _ (arg_own (alloc_blk_new wr _) trivial) (fun e => by cases e) hb hl).mono ?_
  rintro e w' ⟨rfl, h1, h2⟩
  exact ⟨rfl, h1.mono (fun k e => .inl e), (Mod.of_below hb1 _).trans h2 (fun _ _ e => e)⟩

/-- Between two points that the caller counts: T: what is to come; Nb: the count. -/
structure Rh (wn : World) (Nb : Nat) (T : List (Nat × Int)) (H : Nat → Prop) (pre : List (Nat × Int)) (V : World) : Prop where
  pf : pre <+: T
  hl : ∀ k, H k → wn.heap.size ≤ k
  md : Mod (fun k => k = Nb) wn V
  n : V.heap[Nb]? = some (.cells #[.int .i64 pre.length] 3 (0, 0))
  nl : Nb < wn.heap.size
theorem Rh.steady (wn : World) (Nb : Nat) (T : List (Nat × Int)) : Steady (Rh wn Nb T) := by
  intro H H' s U V h hs hn hm
  have hl' : ∀ k, H' k → wn.heap.size ≤ k := fun k hk => (hn k hk).elim (h.hl k) (fun e => Nat.le_trans h.md.size e)
  have hnl := h.nl
  exact ⟨h.pf, hl', h.md.trans (hm.mono (T := fun k => wn.heap.size ≤ k) (fun k _ e => hl' k e)) (fun k hk e => by omega), (hm.block Nb (blk_lt h.n) (fun e => by have := hl' Nb e; omega)).trans h.n, h.nl⟩
theorem prefix_more {α : Type} (T l : List α) (x : α) (h : l <+: T) : (l ++ [x] <+: T) ↔ T[l.length]? = some x := by
  obtain ⟨r, rfl⟩ := h
  rw [List.prefix_append_right_inj]
  cases r with
  | nil => simp
  | cons y ys => simp [List.cons_prefix_cons, eq_comm]

theorem Rh.more {wn V : World} {Nb : Nat} {T : List (Nat × Int)} {H : Nat → Prop} {pre : List (Nat × Int)} {x : Nat × Int} (h : Rh wn Nb T H pre V) (hp : pre ++ [x] <+: T) {k : Int} (hk : k = (pre.length : Int) + 1) :
    Kp H V (V.setCell ⟨Nb, 0, none⟩ (.int .i64 k)) ∧ Rh wn Nb T H (pre ++ [x]) (V.setCell ⟨Nb, 0, none⟩ (.int .i64 k)) := by
  subst hk
  have hm : Mod (fun k => k = Nb) V (V.setCell ⟨Nb, 0, none⟩ (.int .i64 ((pre.length : Int) + 1))) := (Mod.refl (fun k => k = Nb) V).setCell ⟨Nb, 0, none⟩ (.inl rfl) _
  refine ⟨Kp.of_mod hm fun k _ hk e => by have := h.hl k hk; have := h.nl; omega, hp, h.hl, h.md.trans hm (fun _ _ e => e), ?_, h.nl⟩
  have := setCell_blk h.n 0 (.int .i64 ((pre.length : Int) + 1))
  rw [List.length_append]
  exact this
theorem Rh.kp {wn V : World} {Nb : Nat} {T : List (Nat × Int)} {H : Nat → Prop} {pre : List (Nat × Int)} (h : Rh wn Nb T H pre V) {b : Nat} (hb : b < wn.heap.size) (v : Value) : Kp H V (V.setCell ⟨b, 0, none⟩ v) :=
  Kp.of_mod ((Mod.refl (fun k => k = b) V).setCell ⟨b, 0, none⟩ (.inl rfl) v) fun k _ hk e => by have := h.hl k hk; omega

theorem arr59 (d : Nat) (a b c e : Int) (w : World) : (Op.equalIn (d + 2) 59 (.agg #[.int .i64 a, .int .i64 b]) (.agg #[.int .i64 c, .int .i64 e])).run Try.prog w = .ok (a == c && b == e) w := by
  obtain ⟨i, hi⟩ : ∃ i, Try.prog.info? 3 = some i := Option.isSome_iff_exists.1 (by kernel_rfl)
  have hc : Try.prog.cellsOf 3 = 1 := by kernel_rfl
  rw [show d + 2 = (d + 1) + 1 from rfl, run_equalIn_array w (d + 1) _ _ Try.underlying59 hi, hc, show List.range 2 = [0, 1] from rfl]
  simp only [Op.eqItems]
  go_simp
  by_cases h1 : a = c <;> by_cases h2 : b = e <;> simp [h1, h2]
attribute [local go_sem high] arr59

set_option maxHeartbeats 6400000 in
set_option maxRecDepth 100000 in
theorem works_true (w : World) : Calls Try.prog 8 #[] w fun e w' => e = .returned (.bool true) ∧ Below w.heap.size w w' := by
  obtain ⟨W0, hW0⟩ : ∃ W, W = w.alloc (.cells #[.bool false] 4) := ⟨_, rfl⟩
  have b0 : Below w.heap.size w W0 := by rw [hW0]; exact (Below.refl _ w).alloc (Nat.le_refl _) _
  have k0 : W0.heap[w.heap.size]? = some (.cells #[.bool false] 4 (0, 0)) := by rw [hW0]; exact alloc_blk_new _ _
  have s0 : W0.heap.size = w.heap.size + 1 := by rw [hW0]; simp
  have HNew := Lib.hid (New_ds W0 W0 (Below.refl _ _))
  have HNum := Lib.hid num_any
  have kc := fun (W : World) (C : Array Value) (n c : Nat) => Lib.run_convert_bytes_const (P := Try.prog) W 25 5 C n c Try.underlying25 Try.underlying5
  have E0 := Lib.hid hW0
  have B0 := Lib.hid b0
  have K0 := Lib.hid k0
  have S0 := Lib.hid s0
  clear hW0 b0 k0 s0
  refine (callsIn_wide (n := 7)).1 ?_
  refine callsIn_of_wp_marks Try.func8 rfl trivial ?_ rfl
  simp only [Try.ntmps8, List.size_toArray, List.length_cons, List.length_nil, Nat.reduceAdd, Nat.reduceSub, Array.replicate_succ, Array.replicate_zero, List.push_toArray, List.append_toArray, List.nil_append, List.cons_append]
  refine wpIn_wide.2 ?_
  go_wp2_with fail
  rw [← E0.out]
  refine HNew.out.mono ?_
  rintro e w1 ⟨D, rfl, hq, hb, hD⟩
  have Q1 := Lib.hid (hq.mono (L := fun _ => False) (fun k e => e.elim))
  clear hq hb HNew
  go_wp2_with fail
  refine (Q1.out.write_lay [226, 130] 2 _ rfl (byt_dec rfl) (by decide) _ rfl ⟨#[]⟩ (by decide +kernel) [226, 130] (by decide +kernel)).mono ?_
  rintro e w2 ⟨rfl, hq, hm⟩
  have Q2 := Lib.hid hq
  clear hq hm Q1
  go_wp2_with fail
  refine Q2.out.waits.mono ?_
  rintro e w3 ⟨a, c, rfl, hr, hb⟩
  obtain ⟨_, hA, hnn⟩ := row_arg hr
  have cv := conv_any c hA hnn
  have Q3 := Lib.hid ((Q2.out.grow hb).mono (L := fun _ => False) (fun k e => e.elim))
  simp only [List.length_cons, List.length_nil, Nat.zero_add, Nat.reduceAdd] at cv
  rw [show strOfNums [226, 130] = ⟨#[226, 130]⟩ from rfl] at cv
  clear hr hb hA hnn Q2
  go_wp2_with fail
  refine (Q3.out.write_lay [172, 97] 2 _ rfl (byt_dec rfl) (by decide) _ rfl ⟨#[226, 130, 172, 97]⟩ (by decide +kernel) [] (by decide +kernel)).mono ?_
  rintro e w4 ⟨rfl, hq, hm⟩
  have Q4 := Lib.hid hq
  clear hq hm Q3 cv
  go_wp2_with fail
  refine Q4.out.end_.mono ?_
  rintro e w5 ⟨rfl, hq, hm⟩
  rw [show strOfNums (if ([] : List Int) = [] then [] else bytesL 65533) = ⟨#[]⟩ from rfl]
  have Q5 := Lib.hid hq
  clear hq hm Q4
  go_wp2_with fail
  obtain ⟨g, hg⟩ : ∃ g, g = w5.heap.size := ⟨_, rfl⟩
  obtain ⟨W6, hW6⟩ : ∃ W, W = w5.alloc (.cells #[.int .i64 0, .int .i64 97, .int .i64 1, .int .i64 65533, .int .i64 2, .int .i64 233] 59) := ⟨_, rfl⟩
  have s6 : W6.heap.size = g + 1 := by rw [hW6, hg]; simp
  have b6 : Below w5.heap.size w5 W6 := by rw [hW6]; exact (Below.refl _ w5).alloc (Nat.le_refl _) _
  have k6 : W6.heap[g]? = some (.cells #[.int .i64 0, .int .i64 97, .int .i64 1, .int .i64 65533, .int .i64 2, .int .i64 233] 59 (0, 0)) := by rw [hW6, hg]; exact alloc_blk_new _ _
  obtain ⟨W7, hW7⟩ : ∃ W, W = W6.alloc (.cells #[.slice (some ⟨g, 0, none⟩) 3 3] 60) := ⟨_, rfl⟩
  have s7 : W7.heap.size = g + 2 := by rw [hW7]; simp [s6]
  have b7 : Below w5.heap.size w5 W7 := by rw [hW7]; exact b6.alloc b6.size _
  have k7 : W7.heap[g]? = some (.cells #[.int .i64 0, .int .i64 97, .int .i64 1, .int .i64 65533, .int .i64 2, .int .i64 233] 59 (0, 0)) := by rw [hW7]; exact alloc_blk k6 _
  have k71 : W7.heap[g + 1]? = some (.cells #[.slice (some ⟨g, 0, none⟩) 3 3] 60 (0, 0)) := by rw [hW7, ← s6]; exact alloc_blk_new _ _
  obtain ⟨W8, hW8⟩ : ∃ W, W = W7.alloc (.cells #[.string ⟨#[97, 255, 195, 169]⟩] 9) := ⟨_, rfl⟩
  have s8 : W8.heap.size = g + 3 := by rw [hW8]; simp [s7]
  have b8 : Below w5.heap.size w5 W8 := by rw [hW8]; exact b7.alloc b7.size _
  have k8 : W8.heap[g + 2]? = some (.cells #[.string ⟨#[97, 255, 195, 169]⟩] 9 (0, 0)) := by rw [hW8, ← s7]; exact alloc_blk_new _ _
  obtain ⟨wn, hwn⟩ : ∃ W, W = W8.alloc (.cells #[.int .i64 0] 3) := ⟨_, rfl⟩
  have sn : wn.heap.size = g + 4 := by rw [hwn]; simp [s8]
  have bn : Below w5.heap.size w5 wn := by rw [hwn]; exact b8.alloc b8.size _
  have kn : wn.heap[g + 3]? = some (.cells #[.int .i64 0] 3 (0, 0)) := by rw [hwn, ← s8]; exact alloc_blk_new _ _
  have b89 : Below W8.heap.size W8 wn := by rw [hwn]; exact (Below.refl _ W8).alloc (Nat.le_refl _) _
  have b78 : Below W7.heap.size W7 W8 := by rw [hW8]; exact (Below.refl _ W7).alloc (Nat.le_refl _) _
  have k9 := (b89.block (g + 2) (by omega)).trans k8
  have kG := (b89.block g (by omega)).trans ((b78.block g (by omega)).trans k7)
  have kW := (b89.block (g + 1) (by omega)).trans ((b78.block (g + 1) (by omega)).trans k71)
  have hT : allP (nums ⟨#[97, 255, 195, 169]⟩) = [(0, 97), (1, 65533), (2, 233)] := by decide +kernel
  have HEach := Lib.hid (Each_any ⟨#[97, 255, 195, 169]⟩ W7)
  have hwg : w.heap.size + 1 ≤ g := by rw [hg, ← S0.out]; exact Q5.out.below.size
  have HSeq := Lib.hid (Each1_held 6 (by omega) (g + 2) w.heap.size (fun _ => False) ⟨#[97, 255, 195, 169]⟩ (by decide) wn (by omega) (fun k hk => hk.elim) (by omega) (cell_blk k9 0 _ rfl))
  have HR0 : Hid (Rh wn (g + 3) (allP (nums ⟨#[97, 255, 195, 169]⟩)) (fun _ => False) [] wn) := Lib.hid ⟨List.nil_prefix, fun k hk => hk.elim, Mod.refl _ _, kn, by omega⟩
  have EG := Lib.hid hg
  have E6 := Lib.hid hW6
  have E7 := Lib.hid hW7
  have E8 := Lib.hid hW8
  have EN := Lib.hid hwn
  have S6 := Lib.hid s6
  have S7 := Lib.hid s7
  have S8 := Lib.hid s8
  have SN := Lib.hid sn
  have KG := Lib.hid kG
  have KW := Lib.hid kW
  have HT := Lib.hid hT
  have BN : Hid (Below w.heap.size w wn) := Lib.hid (B0.out.trans ((Q5.out.below.trans (bn.mono Q5.out.below.size)).mono B0.out.size))
  have KR : Hid (wn.heap[w.heap.size]? = some (.cells #[.bool false] 4 (0, 0))) := Lib.hid (((Q5.out.below.trans (bn.mono Q5.out.below.size)).block _ (blk_lt K0.out)).trans K0.out)
  clear hg hW6 hW7 hW8 hwn s6 s7 s8 sn kG kW hT b6 b7 b8 bn b89 b78 k6 k7 k71 k8 k9 kn
  rw [← EG.out, ← E6.out, ← E7.out]
  refine HEach.out.mono ?_
  rintro e w' ⟨rfl, rfl⟩
  rw [← E8.out, S7.out]
  clear HEach
  go_wp2_with fail
  rw [← EN.out, S8.out]
  refine (wpIn_wide (n := 7)).1 ?_
  refine' wpIn_range_held (F := Fence.wide) rfl (by omega) (gf := 27) (lb := #[.pointer (some ⟨g + 2, 0, none⟩)]) rfl trivial (enters_of Try.func27 (by kernel_rfl) rfl) (H0 := fun _ => False) (fun k hk => hk.elim) (n₀ := w.heap.size) BN.out.size
    HSeq.out (fun _ => rfl) (Rh wn (g + 3) (allP (nums ⟨#[97, 255, 195, 169]⟩))) (fun c H pre V => c = .ret ∧ ¬ pre <+: allP (nums ⟨#[97, 255, 195, 169]⟩)) (Rh.steady _ _ _) (fun c H H' s U V h _ _ _ => h) HR0.out _ ?assign ?body ?done ?stop
  case assign =>
    intro l x W K hK
    gi_wp2
    exact hK
  case stop =>
    rintro D2 H c pre V hD hHD hSp ⟨rfl, hn⟩ hKd
    exact absurd hSp hn
  case body =>
    rintro l H pre ⟨xa, xp⟩ V hR hHl hlt
    have hmd := hR.md
    have hSN := SN.out
    have cn := cell_blk hR.n 0 _ rfl
    have fn := frozen_blk hR.n 0
    have nl := blk_lt hR.n
    have kG := (hmd.block g (by omega) (by omega)).trans KG.out
    have kW := (hmd.block (g + 1) (by omega) (by omega)).trans KW.out
    have kR := (hmd.block w.heap.size (blk_lt KR.out) (by omega)).trans KR.out
    have cW := cell_blk kW 0 _ rfl
    have lW := blk_lt kW
    have lG := blk_lt kG
    have g0 := cell_blk kG 0 _ rfl
    have g1 := cell_blk kG 1 _ rfl
    have g2 := cell_blk kG 2 _ rfl
    have g3 := cell_blk kG 3 _ rfl
    have g4 := cell_blk kG 4 _ rfl
    have g5 := cell_blk kG 5 _ rfl
    have cR := cell_blk kR 0 _ rfl
    have fR := frozen_blk kR 0
    have lR := blk_lt kR
    have hmore := prefix_more _ pre (xa, xp) hR.pf
    rw [HT.out] at hmore hlt
    simp only [List.length_cons, List.length_nil, Nat.zero_add, Nat.reduceAdd] at hlt
    obtain ⟨pl, hpl⟩ : ∃ pl, pl = pre.length := ⟨_, rfl⟩
    rw [← hpl] at cn hmore hlt
    have HPL := Lib.hid hpl
    have HR := Lib.hid hR
    have HMore := Lib.hid hmore
    have hRl : w.heap.size < wn.heap.size := blk_lt KR.out
    have HRl := Lib.hid hRl
    have hgw : w.heap.size ≤ g + 3 := by omega
    clear hmd hSN kG kW kR hmore hR hpl hHl
    have hpl3 : pl = 0 ∨ pl = 1 ∨ pl = 2 := by omega
    obtain ⟨za, hza⟩ : ∃ za : Int, za = (xa : Int) := ⟨_, rfl⟩
    have HZ := Lib.hid hza
    dsimp only
    simp only [← hza]
    clear hza
    rcases hpl3 with rfl | rfl | rfl
    · by_cases e1 : 0 = za
      · by_cases e2 : 97 = xp
        · have hp := Lib.hid (HMore.out.2 (by have := HZ.out; simp; omega))
          subst e1 e2
          gi_wp2
          obtain ⟨h1, h2⟩ := HR.out.more (by rw [HT.out]; exact hp.out) (k := 1) (by rw [← HPL.out]; rfl)
          exact ⟨h1, (Below.refl _ V).setCell (p := ⟨g + 3, 0, none⟩) hgw _, h2⟩
        · have d1 : ((97 : Int) == xp) = false := by simpa using e2
          subst e1
          gi_wp2
          exact ⟨HR.out.kp HRl.out _, rfl, by rw [HT.out, HMore.out]; simp; omega⟩
      · have d1 : ((0 : Int) == za) = false := by simpa using e1
        gi_wp2
        exact ⟨HR.out.kp HRl.out _, rfl, by rw [HT.out, HMore.out]; have := HZ.out; simp; omega⟩
    · by_cases e1 : 1 = za
      · by_cases e2 : 65533 = xp
        · have hp := Lib.hid (HMore.out.2 (by have := HZ.out; simp; omega))
          subst e1 e2
          gi_wp2
          obtain ⟨h1, h2⟩ := HR.out.more (by rw [HT.out]; exact hp.out) (k := 2) (by rw [← HPL.out]; rfl)
          exact ⟨h1, (Below.refl _ V).setCell (p := ⟨g + 3, 0, none⟩) hgw _, h2⟩
        · have d1 : ((65533 : Int) == xp) = false := by simpa using e2
          subst e1
          gi_wp2
          exact ⟨HR.out.kp HRl.out _, rfl, by rw [HT.out, HMore.out]; simp; omega⟩
      · have d1 : ((1 : Int) == za) = false := by simpa using e1
        gi_wp2
        exact ⟨HR.out.kp HRl.out _, rfl, by rw [HT.out, HMore.out]; have := HZ.out; simp; omega⟩
    · by_cases e1 : 2 = za
      · by_cases e2 : 233 = xp
        · have hp := Lib.hid (HMore.out.2 (by have := HZ.out; simp; omega))
          subst e1 e2
          gi_wp2
          obtain ⟨h1, h2⟩ := HR.out.more (by rw [HT.out]; exact hp.out) (k := 3) (by rw [← HPL.out]; rfl)
          exact ⟨h1, (Below.refl _ V).setCell (p := ⟨g + 3, 0, none⟩) hgw _, h2⟩
        · have d1 : ((233 : Int) == xp) = false := by simpa using e2
          subst e1
          gi_wp2
          exact ⟨HR.out.kp HRl.out _, rfl, by rw [HT.out, HMore.out]; simp; omega⟩
      · have d1 : ((2 : Int) == za) = false := by simpa using e1
        gi_wp2
        exact ⟨HR.out.kp HRl.out _, rfl, by rw [HT.out, HMore.out]; have := HZ.out; simp; omega⟩
  case done =>
    rintro DM H ys V hD hHD rfl hR hKd
    have hmd := hR.md
    have hn := hR.n
    rw [HT.out] at hn
    have cn := cell_blk hn 0 _ rfl
    have nl := blk_lt hn
    have hRl := blk_lt KR.out
    have hwg2 := hwg
    have kR := (hmd.block w.heap.size hRl (by omega)).trans KR.out
    have BV := Lib.hid ((Mod.trans (S := fun k => w.heap.size ≤ k) (Mod.of_below BN.out _) hmd (fun k _ e => by omega)).below (fun k hk => by omega))
    have KV := Lib.hid kR
    have HKd := Lib.hid hKd
    have hDl := blk_lt hKd
    clear hmd hn kR hR HSeq HR0 KG KW KR hKd hHD HT EG E6 E7 E8 EN hRl hwg2
    simp only [List.length_cons, List.length_nil, Nat.zero_add, Nat.reduceAdd] at cn
    have c1 : ((⟨#[97, 195, 169]⟩ : ByteArray) ++ ⟨#[239, 191, 189]⟩) = ⟨#[97, 195, 169, 239, 191, 189]⟩ := by decide +kernel
    have c2 : ((⟨#[97, 195, 169, 239, 191, 189]⟩ : ByteArray) ++ ⟨#[98]⟩) = ⟨#[97, 195, 169, 239, 191, 189, 98]⟩ := by decide +kernel
    have c3 : ((⟨#[239, 191, 189]⟩ : ByteArray) ++ ⟨#[98]⟩) = ⟨#[239, 191, 189, 98]⟩ := by decide +kernel
    have c4 : ((⟨#[239, 191, 189]⟩ : ByteArray) ++ ⟨#[239, 191, 189]⟩) = ⟨#[239, 191, 189, 239, 191, 189]⟩ := by decide +kernel
    have c5 : ((⟨#[239, 191, 189, 239, 191, 189]⟩ : ByteArray) ++ ⟨#[239, 191, 189]⟩) = ⟨#[239, 191, 189, 239, 191, 189, 239, 191, 189]⟩ := by decide +kernel
    go_wp2_with (first | (go_at_call 20; refine (HNum.out _ _).mono ?_; rintro e w' ⟨rfl, rfl⟩) | (go_at_call 11; fail))
    refine (Of_lay V [97, 195, 169, 255, 98] 5 _ rfl (byt_dec rfl) (by decide) _ rfl ⟨#[97, 195, 169, 239, 191, 189, 98]⟩ (by decide +kernel)).mono ?_
    rintro e V1 ⟨rfl, hb⟩
    have B1 := Lib.hid (BV.out.trans (hb.mono BV.out.size))
    have R1 := Lib.hid ((hb.block _ (blk_lt KV.out)).trans KV.out)
    have D1 := Lib.hid ((hb.block _ (blk_lt HKd.out)).trans HKd.out)
    clear hb
    go_wp2_with (go_at_call 11; fail)
    refine (Of_lay V1 [226, 130, 98] 3 _ rfl (byt_dec rfl) (by decide) _ rfl ⟨#[239, 191, 189, 98]⟩ (by decide +kernel)).mono ?_
    rintro e V2 ⟨rfl, hb⟩
    have B2 := Lib.hid (B1.out.trans (hb.mono B1.out.size))
    have R2 := Lib.hid ((hb.block _ (blk_lt R1.out)).trans R1.out)
    have D2 := Lib.hid ((hb.block _ (blk_lt D1.out)).trans D1.out)
    clear hb
    go_wp2_with (go_at_call 11; fail)
    refine (Of_lay V2 [240, 159, 152] 3 _ rfl (byt_dec rfl) (by decide) _ rfl ⟨#[239, 191, 189]⟩ (by decide +kernel)).mono ?_
    rintro e V3 ⟨rfl, hb⟩
    have B3 := Lib.hid (B2.out.trans (hb.mono B2.out.size))
    have R3 := Lib.hid ((hb.block _ (blk_lt R2.out)).trans R2.out)
    have D3 := Lib.hid ((hb.block _ (blk_lt D2.out)).trans D2.out)
    clear hb
    go_wp2_with (go_at_call 11; fail)
    refine (Of_lay V3 [237, 160, 128] 3 _ rfl (byt_dec rfl) (by decide) _ rfl ⟨#[239, 191, 189, 239, 191, 189, 239, 191, 189]⟩ (by decide +kernel)).mono ?_
    rintro e V4 ⟨rfl, hb⟩
    have B4 := Lib.hid (B3.out.trans (hb.mono B3.out.size))
    have R4 := Lib.hid ((hb.block _ (blk_lt R3.out)).trans R3.out)
    have D4 := Lib.hid ((hb.block _ (blk_lt D3.out)).trans D3.out)
    clear hb
    go_wp2_with (go_at_call 11; fail)
    refine (Of_lay V4 [192, 128] 2 _ rfl (byt_dec rfl) (by decide) _ rfl ⟨#[239, 191, 189, 239, 191, 189]⟩ (by decide +kernel)).mono ?_
    rintro e V5 ⟨rfl, hb⟩
    have B5 := Lib.hid (B4.out.trans (hb.mono B4.out.size))
    have R5 := Lib.hid ((hb.block _ (blk_lt R4.out)).trans R4.out)
    have D5 := Lib.hid ((hb.block _ (blk_lt D4.out)).trans D4.out)
    clear hb
    have cR := cell_blk R5.out 0 _ rfl
    have fR := frozen_blk R5.out 0
    have lR := blk_lt R5.out
    have hDw : DM ≠ w.heap.size := fun e => by
      have h1 := R5.out
      have h2 := D5.out
      rw [e, h1] at h2
      cases h2
    go_wp2_with fail
    have hk1 := (setCell_blk_ne (w := V5) (a := ⟨w.heap.size, 0, none⟩) hDw (.bool true)).trans D5.out
    have hk2 : ((V5.setCell ⟨w.heap.size, 0, none⟩ (.bool true)).putObj DM (.deferred none)).cell? ⟨w.heap.size, 0, none⟩ = some (.bool true) :=
      cell_blk ((World.putObj_heap_other (fun e => hDw e.symm)).trans (setCell_blk R5.out 0 (.bool true))) 0 _ rfl
    refine ⟨by simp, .inl ⟨_, _, rfl, run_takeDeferred hk1, ?_⟩⟩
    refine ⟨.bool true, ?_, rfl, (B5.out.setCell (p := ⟨w.heap.size, 0, none⟩) (Nat.le_refl _) _).trans (below_put (by have := BN.out.size; omega))⟩
    simp [results, Try.f8, go_sem, hk2]
end Go.Proofs.Ytplpgjcdoodmlaa
