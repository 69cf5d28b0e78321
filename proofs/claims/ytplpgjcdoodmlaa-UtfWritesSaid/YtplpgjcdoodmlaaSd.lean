/-
  every, Of, Sound.
-/
import Derived.Test.YtplpgjcdoodmlaaSb
import Derived.Lib.ConvBytes
namespace Go.Proofs.Ytplpgjcdoodmlaa
open Go.RowKit Go.Shelf
set_option linter.unusedVariables false
set_option linter.unusedSimpArgs false
attribute [local go_sem] Oper.semAt_some

/-- A text's bytes. -/
def nums (s : ByteArray) : List Int := s.data.toList.map fun b => (b.toNat : Int)
theorem nums_byt (s : ByteArray) : Byt (nums s) := fun x hx => by
  obtain ⟨b, _, rfl⟩ := List.mem_map.1 hx
  have := b.toNat_lt
  omega
theorem nums_len (s : ByteArray) : (nums s).length = s.size := by
  rw [nums, List.length_map, Array.length_toList]
  rfl
theorem str_nums (s : ByteArray) : strOfNums (nums s) = s := by
  apply ByteArray.ext
  simp [strOfNums, nums, Function.comp_def]
theorem nums_str {zs : List Int} (h : Byt zs) : nums (strOfNums zs) = zs := by
  unfold nums strOfNums
  rw [List.map_map]
  conv => rhs; rw [← List.map_id zs]
  refine List.map_congr_left fun x hx => ?_
  have := h x hx
  simp
  omega
theorem str_eq {a b : List Int} (ha : Byt a) (hb : Byt b) : strOfNums a = strOfNums b ↔ a = b :=
  ⟨fun e => by rw [← nums_str ha, ← nums_str hb, e], fun e => by rw [e]⟩
theorem toList_beq (a b : ByteArray) (p : Prop) [Decidable p] (h : a = b ↔ p) : (a.toList == b.toList) = decide p := by
  have e : a.toList = b.toList ↔ p := by
    rw [← h]
    constructor
    · intro e
      apply ByteArray.ext
      apply Array.ext'
      simpa [ByteArray.toList_eq] using e
    · intro e; rw [e]
  by_cases hp : p
  · simp [hp, e.2 hp]
  · simp [hp]; exact fun h => hp (e.1 h)

theorem conv_new (s : ByteArray) (w : World) : ∃ c w', (convert 9 25 (.string s)).run Try.prog w = .ok (.slice (some ⟨w.heap.size, 0, none⟩) s.size c) w' ∧ Below w.heap.size w w' ∧ w'.heap.size = w.heap.size + 1 ∧
    Arg (fun k => k = w.heap.size) w' (some ⟨w.heap.size, 0, none⟩) s.size (nums s) := by
  refine ⟨_, _, Lib.run_convert_string_bytes w 9 25 5 s Try.underlying9 Try.underlying25 Try.underlying5, ⟨?_, ?_, ?_, by rw [Lib.bytesWorld_size]; omega, fun k hk => Lib.bytesWorld_at_old w 5 s k hk⟩, Lib.bytesWorld_size w 5 s, nums_len s, fun hp => ⟨_, 0, rfl, by rw [Lib.bytesWorld_size]; omega, rfl, fun j hj => ?_⟩⟩
  · simp only [Lib.bytesWorld, World.freeze, Nat.one_ne_zero, if_false]; rfl
  · simp only [Lib.bytesWorld, World.freeze, Nat.one_ne_zero, if_false]; rfl
  · simp only [Lib.bytesWorld, World.freeze, Nat.one_ne_zero, if_false]; rfl
  · rw [Nat.zero_add, Lib.bytesWorld_cell w 5 s j hj]
    have hl : j < s.data.toList.length := by rw [Array.length_toList]; exact hj
    simp only [nums, List.getD, List.getElem?_map, List.getElem?_eq_getElem hl, Option.map_some, Option.getD_some]

theorem every_any (a : Option Addr) (n c : Nat) (w : World) : Calls Try.prog 28 #[.slice a n c] w fun e w' => e = .returned (.func (.func 37) #[] #[.pointer (some ⟨w.heap.size, 0, none⟩)]) ∧ w' = w.alloc (.cells #[.slice a n c] 25) := by
  go_enter Try.func28, Try.ntmps28
  go_wp2
  go_ret
  exact ⟨rfl, rfl⟩

theorem wpListIn_append_f {F : Fence} {N : Nat} {P : Program} (w : World) {ops : Array Oper} {rest : List Oper} {o : Oper} {a : Act} {Q : Exit → Act → World → Prop} (hgd : o.guard = none) (s x : Operand) (t : TypeId)
    (ho : o.op = .call { callee := .builtin .append, args := #[s, x], argTypes := #[t, t] })
    (base : Nat) (e : TypeId) (i : TypeInfo) (z : Value) (size bytes : Nat) (ht : P.underlying t = some (.slice e)) (hi : P.info? e = some i) (hz : i.zero = some z)
    (hsize : i.size = size) (hby : i.bytes = bytes) (hzs : z.cells.size = size) (hsz : 0 < size)
    (v : Value) (n : Nat) (xs : List Value) (hs : a.eval s = v) (hown : w.ownsRow base e size v n xs)
    (ao : Option Addr) (m c : Nat) (news : List Value) (hx : a.eval x = .slice ao m c) (hl : news.length = m * size) (hnone : ao = none → m = 0 ∧ c = 0) (hnews : ∀ ad, ao = some ad → ∀ j u, news[j]? = some u → w.cell? (ad.add j) = some u) (h1 : ∀ u ∈ news, u.oneCell' = true)
    (h63 : n + m ≤ maxLen) (hbytes : (n + m) * bytes ≤ 140737488355328) (hbase : base ≤ w.heap.size)
    (h : ∀ v' w', w'.ownsRow base e size v' (n + m) (xs ++ news) → w.grownBy w' v.ownBlock → (∀ k, v'.ownBlock = some k → v.ownBlock = some k ∨ w.heap.size ≤ k) → (v' = .slice none 0 0 ↔ v = .slice none 0 0 ∧ m = 0) →
      wpListIn F N P ops Q rest (a.put o.dst v') w') : wpListIn F N P ops Q (o :: rest) a w := by
  refine wpListIn_plain hgd fun K hK => ?_
  obtain ⟨v', w', hr, h2, h3, h4, h5⟩ := run_append_f (P := P) w base t o.type e i z size bytes ht hi hz hsize hby hzs hsz v n xs hown ao m c news hl hnone hnews h1 h63 hbytes hbase
  unfold Oper.wpIn
  refine ⟨?_, ?_⟩
  · simp [Oper.about, ho, resolve, Target.leads, Sem.run_pure]
  · rw [Oper.semAt_plain F _ _ (by rw [ho]; intro c hc'; cases hc')]
    simp [execOp, ho, resolve, invoke, builtin, hs, hx, hr, Result.andThen]
    exact hK _ _ (h v' w' h2 h3 h4 h5)

/-- What Of has got between two points. -/
structure Oj (w : World) (X : Nat) (H : Nat → Prop) (pre : List (Nat × Int)) (V : World) : Prop where
  v : ∃ v, V.heap[X]? = some (.cells #[v] 65 (0, 0)) ∧ V.ownsRow w.heap.size 3 1 v (pre.map (·.2)).length ((pre.map (·.2)).map (.int .i64)) ∧ ∀ k, v.ownBlock = some k → k ≠ X ∧ ¬ H k
  nx : ¬ H X
  hl : ∀ k, H k → w.heap.size ≤ k
  xl : w.heap.size ≤ X
  below : Below w.heap.size w V
theorem Oj.steady (w : World) (X : Nat) : Steady (Oj w X) := by
  intro H H' s U V h hs hn hm
  obtain ⟨v, h1, h2, h3⟩ := h.v
  have nX : ¬ H' X := fun e => (hn X e).elim h.nx (fun e => by have := blk_lt h1; omega)
  have nv : ∀ k, v.ownBlock = some k → ¬ H' k := fun k hk e => (hn k e).elim (h3 k hk).2 (fun e => by have := (h2.lt k hk).2; omega)
  have hl' : ∀ k, H' k → w.heap.size ≤ k := fun k hk => (hn k hk).elim (h.hl k) (fun e => by have := h.below.size; omega)
  exact ⟨⟨v, (hm.block X (blk_lt h1) nX).trans h1, hm.row h2 nv, fun k hk => ⟨(h3 k hk).1, nv k hk⟩⟩, nX, hl', h.xl, (Mod.trans (S := fun k => w.heap.size ≤ k) (Mod.of_below h.below _) hm (fun k _ e => hl' k e)).below (fun k hk => by omega)⟩

theorem allP_len (zs : List Int) : (allP zs).length ≤ zs.length := by
  have h := told_len zs 0
  have hw : (told 0 zs).2 = wts zs := rfl
  rw [hw] at h
  unfold allP
  rw [List.length_append]
  by_cases e : wts zs = []
  · rw [if_pos e]; simp; omega
  · rw [if_neg e]
    have : 0 < (wts zs).length := by
      cases hh : wts zs with
      | nil => exact absurd hh e
      | cons a l => simp
    simp; omega

set_option maxRecDepth 100000 in
set_option maxHeartbeats 4000000 in
theorem Of_any {T : Nat → Prop} (ao : Option Addr) (n cap : Nat) (zs : List Int) (w : World) (h : Arg T w ao n zs) (hnn : ao = none → n = 0 ∧ cap = 0) (hby : Byt zs) (hn : n ≤ 1000000) :
    Calls Try.prog 11 #[.slice ao n cap] w fun e w' => e = .returned (.string (strOfNums (ofL zs))) ∧ Below w.heap.size w w' := by
  obtain ⟨i0, hi, hz0, hz1, hz2⟩ := info_parts Try.info3
  have hzl := h.1
  obtain ⟨X, hX⟩ : ∃ X, X = w.heap.size := ⟨_, rfl⟩
  obtain ⟨W1, hW1⟩ : ∃ W, W = w.alloc (.cells #[.slice none 0 0] 65) := ⟨_, rfl⟩
  have s1 : W1.heap.size = X + 1 := by rw [hW1, hX]; simp
  have b1 : Below w.heap.size w W1 := by rw [hW1]; exact (Below.refl _ w).alloc (Nat.le_refl _) _
  have k1 : W1.heap[X]? = some (.cells #[.slice none 0 0] 65 (0, 0)) := by rw [hW1, hX]; exact alloc_blk_new _ _
  obtain ⟨W2, hW2⟩ : ∃ W, W = W1.alloc (.cells #[.slice ao n cap] 25) := ⟨_, rfl⟩
  have s2 : W2.heap.size = X + 2 := by rw [hW2]; simp [s1]
  have b2 : Below w.heap.size w W2 := by rw [hW2]; exact b1.alloc b1.size _
  have k2 : W2.heap[X]? = some (.cells #[.slice none 0 0] 65 (0, 0)) := by rw [hW2]; exact alloc_blk k1 _
  have k3 : W2.heap[X + 1]? = some (.cells #[.slice ao n cap] 25 (0, 0)) := by rw [hW2, ← s1]; exact alloc_blk_new _ _
  have HE := Lib.hid (every_any ao n cap W1)
  have hseq := every1_held 4 (by omega) (X + 1) w.heap.size (fun k => k = X + 1) ao n cap zs hn hby W2 rfl (fun k hk => by omega) (cell_blk k3 0 _ rfl) (h.below b2) hnn
  have hI0 : Oj w X (fun k => k = X + 1) [] W2 := ⟨⟨_, k2, by simpa using World.ownsRow_nil W2 w.heap.size 3 1, fun k hk => by simp [Value.ownBlock] at hk⟩, by omega, fun k hk => by omega, by omega, b2⟩
  have HSeq := Lib.hid hseq
  have HI0 := Lib.hid hI0
  have E1 := Lib.hid hW1
  have E2 := Lib.hid hW2
  have EX := Lib.hid hX
  have S2 := Lib.hid s2
  have S1 := Lib.hid s1
  have hap := allP_len zs
  have HBy := Lib.hid hby
  clear hseq hI0 hW1 hW2 hX s1 s2 b1 b2 k1 k2 k3 h
  refine (callsIn_wide (n := 5)).1 ?_
  refine callsIn_of_wp_marks Try.func11 rfl trivial ?_ rfl
  simp only [Try.ntmps11, List.size_toArray, List.length_cons, List.length_nil, Nat.reduceAdd, Nat.reduceSub, Array.replicate_succ, Array.replicate_zero, List.push_toArray, List.append_toArray, List.nil_append, List.cons_append]
  refine wpIn_wide.2 ?_
  go_wp2_with (go_at_call 28; fail)
  rw [← E1.out, ← EX.out]
  refine HE.out.mono ?_
  rintro e w' ⟨rfl, rfl⟩
  rw [← E2.out, S1.out]
  clear HE
  go_wp2_with fail
  refine (wpIn_wide (n := 5)).1 ?_
  refine' wpIn_range_held (F := Fence.wide) rfl (by omega) (gf := 37) (lb := #[.pointer (some ⟨X + 1, 0, none⟩)]) rfl trivial (enters_of Try.func37 (by kernel_rfl) rfl) (H0 := fun k => k = X + 1) (fun k hk => by have := S2.out; omega) (n₀ := w.heap.size) (by have := S2.out; have := EX.out; omega)
    HSeq.out (fun _ => rfl) (Oj w X) (fun _ _ _ _ => False) (Oj.steady w X) (fun _ _ _ _ _ _ h _ _ _ => h) HI0.out _ ?assign ?body ?done ?stop
  case assign =>
    intro l x W K hK
    gi_wp2
    exact hK
  case stop =>
    rintro D H c pre W _ _ _ hf _
    exact hf.elim
  case body =>
    rintro l H pre x V hO hHl hlt
    obtain ⟨v, h1, h2, h3⟩ := hO.v
    obtain ⟨so, sc, rfl⟩ := row_slice h2
    have c0 := cell_blk h1 0 _ rfl
    have f0 := frozen_blk h1 0
    have hXl := blk_lt h1
    obtain ⟨V1, hV1⟩ : ∃ W, W = V.alloc (.cells #[.int .i64 x.2] 3) := ⟨_, rfl⟩
    have b1 : Below V.heap.size V V1 := by rw [hV1]; exact (Below.refl _ V).alloc (Nat.le_refl _) _
    have k1 : V1.heap[V.heap.size]? = some (.cells #[.int .i64 x.2] 3 (0, 0)) := by rw [hV1]; exact alloc_blk_new _ _
    have HR1 := Lib.hid ((Mod.of_below b1 (fun _ => False)).row h2 (fun _ _ h => h))
    have HX1 := Lib.hid ((b1.block _ hXl).trans h1)
    have HB1 := Lib.hid b1
    have HN := Lib.hid (fun (ad : Addr) (e : some (⟨V.heap.size, 0, none⟩ : Addr) = some ad) j u (hj : [Value.int .i64 x.2][j]? = some u) => (show V1.cell? (ad.add j) = some u by
      cases e
      match j, hj with
      | 0, hj => cases hj; exact cell_blk k1 0 _ rfl))
    have E1 := Lib.hid hV1
    have HO := Lib.hid hO
    have H3 := Lib.hid h3
    have HLo := Lib.hid (fun k hk => (h2.lt k hk).1)
    have hs1 : V1.heap.size = V.heap.size + 1 := by rw [hV1]; simp
    have hwV := hO.below.size
    have hlen : (pre.map (·.2)).length ≤ 1000000 := by rw [List.length_map]; omega
    obtain ⟨nn, hnn⟩ : ∃ nn, nn = (pre.map (·.2)).length := ⟨_, rfl⟩
    rw [← hnn] at c0 hlen HR1 HX1 H3 HLo
    have HNN := Lib.hid hnn
    clear h1 h2 h3 b1 k1 hV1 hO hnn
    gi_wp2_with (first
      | (gi_at_builtin; go_loud (rw [← E1.out]); go_loud (refine wpListIn_append_f _ rfl (.tmp 10) (.tmp 12) 65 rfl w.heap.size 3 i0 (.int .i64 0) 1 8 Try.underlying65 hi hz0 hz1 hz2 rfl (by decide) _ _ _ rfl HR1.out (some ⟨V.heap.size, 0, none⟩) 1 1 [.int .i64 x.2] rfl rfl (fun e => by cases e) HN.out (by simp [Value.oneCell']) ?c3 ?c4 (by omega) ?_))
      | gi_in)
    case c3 => unfold maxLen; omega
    case c4 => omega
    intro v' w2 hown hg hf _
    have hxb : w2.heap[X]? = some (.cells #[.slice so nn sc] 65 (0, 0)) := (hg.block X (blk_lt HX1.out) (fun e => (H3.out X e.symm).1 rfl)).trans HX1.out
    have c2 := cell_blk hxb 0 _ rfl
    have f2 := frozen_blk hxb 0
    have hX2 := blk_lt hxb
    have HX2 := Lib.hid hxb
    obtain ⟨so', sc', rfl⟩ := row_slice hown
    have hM2 : Mod (fun k => (Value.slice so nn sc).ownBlock = some k) V w2 := by
      have h1 : Mod (fun k => (Value.slice so nn sc).ownBlock = some k) V V1 := Mod.of_below HB1.out _
      exact h1.trans ((Mod.refl _ V1).grown hg (fun k e => .inl e)) (fun k _ e => e)
    have hS : Mod (fun k => k = X) w2 (w2.setCell ⟨X, 0, none⟩ (.slice so' (nn + 1) sc')) := (Mod.refl (fun k => k = X) w2).setCell ⟨X, 0, none⟩ (.inl rfl) _
    have hf2 : ∀ k, (Value.slice so' (nn + 1) sc').ownBlock = some k → k ≠ X ∧ ((Value.slice so nn sc).ownBlock = some k ∨ V.heap.size ≤ k) := fun k e => by
      rcases hf k e with h | h
      · exact ⟨(H3.out k h).1, .inl h⟩
      · exact ⟨by omega, .inr (by omega)⟩
    have HF2 := Lib.hid hf2
    have HO2 := Lib.hid (hS.row hown (fun k e h => (hf2 k e).1 h))
    have hM : Mod (fun k => k = X ∨ (Value.slice so nn sc).ownBlock = some k) V (w2.setCell ⟨X, 0, none⟩ (.slice so' (nn + 1) sc')) := (hM2.mono (T := fun k => k = X ∨ (Value.slice so nn sc).ownBlock = some k) (fun k _ e => .inr e)).trans hS (fun k _ e => .inl e)
    have HM := Lib.hid hM
    have HXX := Lib.hid (setCell_blk hxb 0 (.slice so' (nn + 1) sc'))
    have HHl := Lib.hid hHl
    clear hown hg hf hxb hM2 hS hf2 HR1 HX1 HB1 HN hM hHl
    gi_wp2
    have hnX := HO.out.nx
    have hwl := HO.out.below
    have hlo : ∀ k, (k = X ∨ (Value.slice so nn sc).ownBlock = some k) → w.heap.size ≤ k := fun k e => by
      rcases e with e | e
      · exact e ▸ HO.out.xl
      · exact HLo.out k e
    refine ⟨Kp.of_mod HM.out fun k _ hk e => ?_, ⟨HM.out.os, HM.out.tape, HM.out.output, HM.out.size, fun k hk => HM.out.block k (by omega) (fun e => by have := hlo k e; omega)⟩, ⟨⟨_, HXX.out, ?_, fun k hk => ?_⟩, hnX, HO.out.hl, HO.out.xl, ?_⟩⟩
    · rcases e with e | e
      · exact hnX (e ▸ hk)
      · exact (H3.out k e).2 hk
    · have := HO2.out
      rw [HNN.out] at this ⊢
      simpa using this
    · obtain ⟨e1, e2⟩ := HF2.out k hk
      refine ⟨e1, fun hh => ?_⟩
      rcases e2 with e2 | e2
      · exact (H3.out k e2).2 hh
      · have := HHl.out k hh; omega
    · exact (Mod.trans (S := fun k => w.heap.size ≤ k) (Mod.of_below hwl _) HM.out (fun k _ e => hlo k e)).below (fun k hk => by omega)
  case done =>
    rintro D H ys V hD hHD rfl hO hKd
    obtain ⟨v, h1, h2, h3⟩ := hO.v
    rw [allP_pts] at h2
    obtain ⟨so, sc, rfl⟩ := row_slice h2
    have hI := row_ints h2
    have c0 := cell_blk h1 0 (.slice so (ofP zs).length sc) rfl
    have hXl := blk_lt h1
    have hpl : (ofP zs).length ≤ 1000000 := by rw [← allP_pts, List.length_map]; omega
    have hjo := joined_any so _ sc (ofP zs) V hI (ofP_pt HBy.out) (by omega)
    have HJo := Lib.hid hjo
    obtain ⟨nn, hnn⟩ : ∃ nn, nn = (ofP zs).length := ⟨_, rfl⟩
    rw [← hnn] at c0 HJo
    have HB := Lib.hid hO.below
    have HKd := Lib.hid hKd
    have hKl := blk_lt hKd
    have hDw : w.heap.size ≤ D := by have := S2.out; have := EX.out; omega
    clear hjo hI h1 h2 h3 hO hnn hKd HI0 HSeq
    go_wp2_with (go_at_call 29; fail)
    refine HJo.out.mono ?_
    rintro e w3 ⟨rfl, hb3⟩
    have HK3 := Lib.hid ((hb3.block D hKl).trans HKd.out)
    have HB3 := Lib.hid (HB.out.trans (hb3.mono HB.out.size))
    clear hb3 HJo HKd
    go_wp2_with fail
    refine ⟨by simp, .inl ⟨_, _, rfl, run_takeDeferred HK3.out, ?_⟩⟩
    exact ⟨_, results_tmp rfl _ _ _, rfl, HB3.out.trans (below_put (by omega))⟩
end Go.Proofs.Ytplpgjcdoodmlaa
