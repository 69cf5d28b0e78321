/-
  The document's queue: Push.
-/
import Derived.Test.YtneeagabmdpjgaaPd
namespace Go.Proofs.Ytneeagabmdpjgaa
open Go.RowKit
set_option linter.unusedVariables false
set_option linter.unusedSimpArgs false

theorem Try.info9 : (Try.prog.info? 9).map (fun i => (i.zero, i.size, i.bytes)) = some (some (.string ⟨#[]⟩), 1, 16) := by kernel_rfl
def txt (l : List Int) : Value := .string (strOfNums l)
theorem StrR.news {T : Nat → Prop} {w : World} {a : Option Addr} {n : Nat} {ls : List (List Int)} (h : StrR T w a n (ls.map strOfNums)) : ∀ ad, a = some ad → ∀ j u, (ls.map txt)[j]? = some u → w.cell? (ad.add j) = some u := by
  rintro ad rfl j u hj
  have hl := h.1
  rw [List.length_map] at hl
  have hj1 := (List.getElem?_eq_some_iff.1 hj).1
  have hj' : j < n := by rw [List.length_map, hl] at hj1; exact hj1
  obtain ⟨b, off, e, hb, _, hc⟩ := h.2 (by omega)
  cases e
  have h1 : w.cell? ((⟨b, off, none⟩ : Addr).add j) = some (.string ((ls.map strOfNums).getD j ⟨#[]⟩)) := by
    have h2 := hc j hj'
    by_cases h0 : j = 0
    · subst h0
      exact h2
    · simpa [Addr.add, h0] using h2
  rw [h1]
  rw [List.getElem?_map] at hj
  have hjl : j < ls.length := by omega
  simp only [List.getElem?_eq_getElem hjl, Option.map_some] at hj
  cases hj
  simp [List.getD, hjl, txt]
theorem txt_one (ls : List (List Int)) : ∀ u ∈ ls.map txt, u.oneCell' = true := fun u hu => by
  obtain ⟨l, _, rfl⟩ := List.mem_map.1 hu
  rfl
/-- A row of one's own holds texts. -/
theorem row_str {w : World} {base : Nat} {a : Option Addr} {n c : Nat} {ls : List (List Int)} (h : w.ownsRow base 9 1 (.slice a n c) n (ls.map txt)) (hl : ls.length = n) : DQ (fun k => base ≤ k) w a c ls := by
  have hb : n ≤ c ∧ c ≤ maxLen ∧ (a = none → n = 0 ∧ c = 0) := by
    rcases h.2 with ⟨e, h0⟩ | ⟨g, cap', cur, e, _, _, h3, h4, _⟩
    · injection e with e1 e2 e3
      unfold maxLen
      exact ⟨by omega, by omega, fun _ => ⟨e2, e3⟩⟩
    · injection e with e1 e2 e3
      subst e3
      exact ⟨h3, h4, fun e => by rw [e] at e1; cases e1⟩
  refine ⟨⟨by simp, fun hp => ?_⟩, by rw [hl]; exact hb.1, hb.2.1, by rw [hl]; exact hb.2.2⟩
  rw [hl] at hp
  obtain ⟨g, cap, cur, e, hgb, hgg, _, _, _, htk⟩ := row_some h hp
  cases e
  refine ⟨g, 0, rfl, blk_lt hgg, hgb, fun j hj => ?_⟩
  rw [Nat.zero_add, h.cellAt j (by simp; omega)]
  simp [List.getD, show j < ls.length by omega, txt]

set_option maxHeartbeats 6400000 in
set_option maxRecDepth 100000 in
/-- Push, whatever comes: e tells what. -/
theorem refPush_any {T U : Nat → Prop} (a : Option Addr) (n c g : Nat) (m : Int) (ls : List (List Int)) (w : World) (h : DQ T w a c ls) (hnl : ls.length = n) {fs bs : List Int} {part : Int} (ht : Tie ls g fs part bs) (hi : OInv fs part bs) (hn : n ≤ 100000) (hm0 : (bs.length : Int) ≤ m) (hm1 : m ≤ 1048576)
    (pa : Option Addr) (pn pc : Nat) (ns : List (List Int)) (hpn : ns.length = pn) (hP : Parts U w pa ns) (hp8 : pn ≤ 1000) (hns : ∀ l ∈ ns, l.length ≤ 1000) (e : Int) (he : e = if ∃ l ∈ ns, l = [] then 2 else if m < (bs.length : Int) + ns.flatten.length then 120 else 0) :
    Calls Try.prog 41 #[dagg a n c g m, .slice pa pn pc] w fun r w' => ∃ a' c' ls', r = .returned (.tuple #[dagg a' ls'.length c' g m, .int .i64 e]) ∧ (ls' = if e = 0 then ls ++ ns else ls) ∧ DQ (fun k => T k ∨ w.heap.size ≤ k) w' a' c' ls' ∧ Below w.heap.size w w' := by
  obtain ⟨i0, hi0, hz0, hz1, hz2⟩ := info_parts Try.info9
  have k0 := alloc_blk (alloc_blk_new w (.cells #[.slice a n c, .int .i64 g, .int .i64 m] 43)) (.cells #[.slice none 0 0, .int .i64 0, .int .i64 0] 43)
  have k1 := alloc_blk_new (w.alloc (.cells #[.slice a n c, .int .i64 g, .int .i64 m] 43)) (.cells #[.slice none 0 0, .int .i64 0, .int .i64 0] 43)
  have hb2 := (((Below.refl _ w).alloc (Nat.le_refl _) (.cells #[.slice a n c, .int .i64 g, .int .i64 m] 43)).alloc (by simp) (.cells #[.slice none 0 0, .int .i64 0, .int .i64 0] 43))
  obtain ⟨X, hX⟩ : ∃ X, X = w.heap.size := ⟨_, rfl⟩
  have s1 : (w.alloc (.cells #[.slice a n c, .int .i64 g, .int .i64 m] 43)).heap.size = X + 1 := by rw [hX]; simp
  obtain ⟨w2, hw2⟩ : ∃ W, W = (w.alloc (.cells #[.slice a n c, .int .i64 g, .int .i64 m] 43)).alloc (.cells #[.slice none 0 0, .int .i64 0, .int .i64 0] 43) := ⟨_, rfl⟩
  rw [s1] at k1
  rw [← hX] at k0
  rw [← hw2] at k0 k1 hb2
  have HB := Lib.hid hb2
  have K0 := Lib.hid k0
  have K1 := Lib.hid k1
  have E2 := Lib.hid hw2
  have EX := Lib.hid hX
  have h2 := (h.at_.mono (U := fun k => T k ∧ k < w.heap.size) (fun k h1 h2 => ⟨h2, h1⟩)).below hb2
  have HH := Lib.hid (And.intro h2 (And.intro h.cl (And.intro h.cm h.nn)))
  have HPA := Lib.hid (hP.below hb2)
  have HT := Lib.hid ht
  have HI := Lib.hid hi
  have HNL := Lib.hid hnl
  have HPN := Lib.hid hpn
  have HNS := Lib.hid hns
  have HE := Lib.hid he
  have HLen : Hid (∀ W, Below w.heap.size w W → Calls Try.prog 44 #[.agg #[.slice a n c, .int .i64 g, .int .i64 m]] W fun e w' => e = .returned (.int .i64 (bs.length : Nat)) ∧ Below W.heap.size W w') := Lib.hid (fun W hW => by
    have h3 := h.at_.below hW
    rw [hnl] at h3
    have hfl := ht.flat hi
    have := refLen_any a n c g m (ls.map strOfNums) W h3 (by omega) (by rw [totS_map]; omega) (by rw [totS_map]; exact ht.g_le hi)
    rw [totS_map, ht.len hi] at this
    exact this)
  obtain ⟨w3, hw3⟩ : ∃ W, W = w2.alloc (.cells #[] 9) := ⟨_, rfl⟩
  have hb3 : Below w2.heap.size w2 w3 := by rw [hw3]; exact (Below.refl _ w2).alloc (Nat.le_refl _) _
  have hR3 : w3.ownsRow w2.heap.size 9 1 (.slice (some ⟨w2.heap.size, 0, none⟩) 0 0) 0 [] := by rw [hw3]; exact World.ownsRow_lit w2 #[] 0 (Nat.le_refl _) (by simp) rfl
  have HR3 := Lib.hid hR3
  have HB3 := Lib.hid hb3
  have E3 := Lib.hid hw3
  have h4 := h2.below hb3
  have HN3 := Lib.hid h4.news
  have c0 := cell_blk k0 0 _ rfl
  have c1 := cell_blk k0 1 _ rfl
  have c2 := cell_blk k0 2 _ rfl
  have lX := blk_lt k0
  have lX1 := blk_lt k1
  have hs3 : w2.heap.size ≤ w3.heap.size := hb3.size
  have hss : (ls.map txt).length = n * 1 := by simp [hnl]
  have hone := txt_one ls
  have HLT := Lib.hid (rfl : ls.map txt = ls.map txt)
  have hnn := h.nn
  rw [hnl] at hnn
  unfold dagg
  clear h k0 k1 hb2 hw2 hX s1 ht hi hnl hpn hns he hP h2 hw3 hb3 hR3 h4
  go_enter Try.func41, Try.ntmps41
  go_upto_region 1 with fail
  rw [← E2.out, ← EX.out]
  go_wp2_with (at_builtin; go_loud (rw [← E3.out]); go_loud (refine wpList_append_f _ rfl (.tmp 10) (.tmp 12) 41 rfl w2.heap.size 9 i0 (.string ⟨#[]⟩) 1 16 Try.underlying41 hi0 hz0 hz1 hz2 rfl (by decide) _ _ _ rfl HR3.out a n c (ls.map txt) rfl hss hnn HN3.out hone ?c3 ?c4 hs3 ?_))
  case c3 => unfold maxLen; omega
  case c4 => omega
  intro v4 w4 hown hg4 hf4 _
  have hown : w4.ownsRow w2.heap.size 9 1 v4 n (ls.map txt) := by simpa using hown
  have hb4 : Below w2.heap.size w2 w4 := HB3.out.grown hg4 hs3 (fun k e => (HR3.out.lt k e).1)
  obtain ⟨a4, c4, rfl⟩ := row_slice hown
  have HR4 := Lib.hid hown
  have HB4 := Lib.hid hb4
  have kx4 := (hb4.block X lX).trans K0.out
  have hs4 := hb4.size
  clear hown hg4 hf4 hb4 hone HLT HR3 HB3 HN3 E3 hs3 hss hnn
  replace c0 := cell_blk kx4 0 _ rfl
  replace c1 := cell_blk kx4 1 _ rfl
  replace c2 := cell_blk kx4 2 _ rfl
  replace lX := blk_lt kx4
  clear kx4
  obtain ⟨B, hB⟩ : ∃ B, B = bs.length := ⟨_, rfl⟩
  rw [← hB] at HLen hm0
  rw [← hB] at HE
  obtain ⟨R, hR⟩ : ∃ R : Int, R = m - (B : Int) := ⟨_, rfl⟩
  have hR0 : 0 ≤ R := by omega
  have hRm : R ≤ 1048576 := by omega
  have hRw : IntKind.i64.wrap (m - (B : Int)) = R := by rw [IntKind.wrap_i64]; omega
  have HRR := Lib.hid hR
  clear hB hR
  go_upto_region 2 with fail
  obtain ⟨wd, hwd⟩ : ∃ W, W = (w4).drew := ⟨_, rfl⟩
  have HBd : Hid (Below (w4).heap.size (w4) wd) := Lib.hid (by rw [hwd]; exact Below.drewN' (w4) 1)
  have hS0 : (fun W : World => W.cell? ⟨X, 0, none⟩ = some (.slice a n c) ∧ W.cell? ⟨X, 1, none⟩ = some (.int .i64 g) ∧ W.cell? ⟨X, 2, none⟩ = some (.int .i64 m)) wd := by rw [hwd]; exact ⟨c0, c1, c2⟩
  refine wp_region_held_drew (S := fun W => W.cell? ⟨X, 0, none⟩ = some (.slice a n c) ∧ W.cell? ⟨X, 1, none⟩ = some (.int .i64 g) ∧ W.cell? ⟨X, 2, none⟩ = some (.int .i64 m)) (by kernel_rfl) (by rw [← hwd]; exact hS0) (fun hHeld => ?_)
  rw [← hwd] at hHeld ⊢
  clear hwd hS0
  refine' wpAnyH_take (i := 0) (oi := { dst := some 14, op := Op.fieldAddr 43 (Operand.tmp 2) 2, type := 0, pos := "ref.go:38", after := #[], guard := none }) (v := ?v1001) rfl (by kernel_rfl) (by kernel_rfl) (by kernel_rfl) (fun _ _ _ h => h) (.inl ⟨by first | rfl | simp [Region.wanted, yielded], ?hy1001⟩) (by assumption) ?rest1001
  case hy1001 => (intro W hW; obtain ⟨f1, f2, f3⟩ := hW; go_simp; try with_reducible rfl)
  simp only [Act.put, List.setIfInBounds_toArray, List.set_cons_zero, List.set_cons_succ]
  refine' wpAnyH_take (i := 1) (oi := { dst := some 15, op := Op.load 3 (Operand.tmp 14), type := 3, pos := "ref.go:38", after := #[{ on := 0, ground := Ground.data }], guard := none }) (v := ?v1002) rfl (by kernel_rfl) (by kernel_rfl) (by kernel_rfl) (fun _ _ _ h => h) (.inl ⟨by first | rfl | simp [Region.wanted, yielded], ?hy1002⟩) (by assumption) ?rest1002
  case hy1002 => (intro W hW; obtain ⟨f1, f2, f3⟩ := hW; go_simp; try with_reducible rfl)
  simp only [Act.put, List.setIfInBounds_toArray, List.set_cons_zero, List.set_cons_succ]
  refine' wpAnyH_take (i := 2) (oi := { dst := some 16, op := Op.load 43 (Operand.tmp 2), type := 43, pos := "ref.go:38", after := #[], guard := none }) (v := ?v1003) rfl (by kernel_rfl) (by kernel_rfl) (by kernel_rfl) (fun _ _ _ h => h) (.inl ⟨by first | rfl | simp [Region.wanted, yielded], ?hy1003⟩) (by assumption) ?rest1003
  case hy1003 => (intro W hW; obtain ⟨f1, f2, f3⟩ := hW; go_simp; try with_reducible rfl)
  simp only [Act.put, List.setIfInBounds_toArray, List.set_cons_zero, List.set_cons_succ]
  refine wpAnyH_ready (rs := [3]) (by kernel_rfl) (by simp) ?_
  refine AllReadyH.cons (o := { dst := some 17, op := Op.call { callee := Callee.value (Operand.func 44), args := #[Operand.tmp 16], argTypes := #[43] }, type := 3, pos := "ref.go:38", after := #[{ on := 2, ground := Ground.data }], guard := none }) rfl (fun KK hK => ?_) (AllReadyH.nil)
  try simp only [List.getElem_toArray, List.getElem_cons_succ, List.getElem_cons_zero]
  go_simp
  have hb4w := HB.out.trans (((HB4.out).trans (HBd.out.mono hs4)).mono HB.out.size)
  refine (HLen.out wd hb4w).mono ?_
  rintro e1 w5 ⟨rfl, hb5⟩
  have hbb := HB4.out.trans ((HBd.out.trans (hb5.mono HBd.out.size)).mono hs4)
  have kx5 := (hbb.block X (blk_lt K0.out)).trans K0.out
  have HR5 := Lib.hid ((Mod.of_below (HBd.out.trans (hb5.mono HBd.out.size)) (fun _ => False)).row HR4.out (fun _ _ h => h))
  have HB5 := Lib.hid hbb
  have hSn : (fun W : World => W.cell? ⟨X, 0, none⟩ = some (.slice a n c) ∧ W.cell? ⟨X, 1, none⟩ = some (.int .i64 g) ∧ W.cell? ⟨X, 2, none⟩ = some (.int .i64 m)) w5 := ⟨cell_blk kx5 0 _ rfl, cell_blk kx5 1 _ rfl, cell_blk kx5 2 _ rfl⟩
  clear hb4w hb5 hbb kx5
  refine hK.out _ _ (by assumption) (fun hHeld => ?_)
  clear hK KK
  try simp only [Act.put, List.setIfInBounds_toArray, List.set_cons_zero, List.set_cons_succ]
  refine' wpAnyH_take (i := 4) (oi := { dst := some 18, op := Op.binOp BinOp.sub 3 (Operand.tmp 15) (Operand.tmp 17) 3, type := 3, pos := "ref.go:38", after := #[{ on := 1, ground := Ground.data }, { on := 3, ground := Ground.data }], guard := none }) (v := ?v1004) rfl (by kernel_rfl) (by kernel_rfl) (by kernel_rfl) (fun _ _ _ h => h) (.inl ⟨by first | rfl | simp [Region.wanted, yielded], ?hy1004⟩) (by assumption) ?rest1004
  case hy1004 => (intro W hW; obtain ⟨f1, f2, f3⟩ := hW; go_simp; try with_reducible rfl)
  simp only [Act.put, List.setIfInBounds_toArray, List.set_cons_zero, List.set_cons_succ]
  refine' wpAnyH_take (i := 5) (oi := { dst := some 7, op := Op.assign (Operand.tmp 18), type := 3, pos := "ref.go:38", after := #[{ on := 4, ground := Ground.data }, { on := 3, ground := Ground.chain }, { on := 0, ground := Ground.phase }, { on := 1, ground := Ground.phase }, { on := 2, ground := Ground.phase }, { on := 3, ground := Ground.phase }, { on := 4, ground := Ground.phase }], guard := none }) (v := ?v1005) rfl (by kernel_rfl) (by kernel_rfl) (by kernel_rfl) (fun _ _ _ h => h) (.inl ⟨by first | rfl | simp [Region.wanted, yielded], ?hy1005⟩) (by assumption) ?rest1005
  case hy1005 => (intro W hW; obtain ⟨f1, f2, f3⟩ := hW; go_simp; try with_reducible rfl)
  simp only [Act.put, List.setIfInBounds_toArray, List.set_cons_zero, List.set_cons_succ]
  refine wpAnyH_done (by kernel_rfl) ?_ _
  skip
  have SAME : Hid (∀ W, Mod (fun k => k = X + 1) w2 W → DQ (fun k => T k ∨ w.heap.size ≤ k) W a c ls) := Lib.hid (fun W hW => by
    obtain ⟨h1, h2, h3, h4⟩ := HH.out
    exact ⟨(h1.mod hW (fun k hk e => by have := hk.2; have := EX.out; omega)).mono (fun k _ hk => .inl hk.1), h2, h3, h4⟩)
  go_wp2_with fail
  go_loopg [6, 7, 8, 9] pn (fun gk v6 v7 v8 v9 wr => ∃ (i : Nat) (a' : Option Addr) (c' : Nat) (f : Bool) (r : Int), v6 = .slice a' (n + i) c' ∧ v7 = .int .i64 r ∧ v8 = .bool f ∧ v9 = .int .i64 i ∧ i ≤ pn ∧ gk = pn - i ∧
    wr.ownsRow w2.heap.size 9 1 (.slice a' (n + i) c') (n + i) ((ls ++ ns.take i).map txt) ∧ Below w2.heap.size w2 wr ∧ (∀ l ∈ ns.take i, l ≠ []) ∧ (r ≤ R ∧ R - (ns.take i).flatten.length ≤ r ∧ (f = true → r = R - (ns.take i).flatten.length ∧ 0 ≤ r) ∧ (f = false → R < (ns.take i).flatten.length)))
  case atStart => exact ⟨0, a4, c4, true, R, rfl, rfl, rfl, rfl, by omega, rfl, by simpa using HR5.out, HB5.out, (fun l hl => by simp at hl), by omega, by simp, (fun _ => ⟨by simp, hR0⟩), (fun h => by cases h)⟩
  case round =>
    obtain ⟨i, a', c', f, r, rfl, rfl, rfl, rfl, hi, hgk, hrow, hbw, hne, hri⟩ := hrel
    have HG := Lib.hid hgk
    have HRW := Lib.hid hrow
    have HBW := Lib.hid hbw
    have HIV := Lib.hid (And.intro hne hri)
    have hflb : (ns.take i).flatten.length ≤ 1000 * i := by
      have h : ∀ (q : List (List Int)), (∀ l ∈ q, l.length ≤ 1000) → q.flatten.length ≤ 1000 * q.length := fun q => by
        induction q with
        | nil => simp
        | cons l q ih =>
          intro h
          have h1 := h l (by simp)
          have h2 := ih (fun x hx => h x (by simp [hx]))
          simp only [List.flatten_cons, List.length_append, List.length_cons]; omega
      have h1 := h (ns.take i) (fun l hl => HNS.out l (List.mem_of_mem_take hl))
      rw [List.length_take] at h1
      omega
    have hr0 : R - 1000000 ≤ r := by have := hri.2.1; omega
    have hr1 := hri.1
    have kx := (hbw.block X (blk_lt K0.out)).trans K0.out
    have ky := (hbw.block (X + 1) lX1).trans K1.out
    have c0 := cell_blk kx 0 _ rfl
    have c1 := cell_blk kx 1 _ rfl
    have c2 := cell_blk kx 2 _ rfl
    have d0 := cell_blk ky 0 _ rfl
    have d1 := cell_blk ky 1 _ rfl
    have d2 := cell_blk ky 2 _ rfl
    have g0 := frozen_blk ky 0
    have g1 := frozen_blk ky 1
    have g2 := frozen_blk ky 2
    have lX := blk_lt kx
    have lX1 := blk_lt ky
    clear hgk hrow hbw hne hri kx ky hflb
    by_cases hlt : i < pn
    · have e1 : decide (i < pn) = true := by simpa using hlt
      have e2 : decide ((i : Int) < pn) = true := by simpa using hlt
      have hins : i < ns.length := by have := HPN.out; omega
      obtain ⟨pb, poff, rfl, hpb, _, hpc⟩ := (HPA.out.below HBW.out) (by omega)
      obtain ⟨fa, fc, f1, f2, f3⟩ := hpc i hins
      obtain ⟨l, hl⟩ : ∃ l, l = ns.getD i [] := ⟨_, rfl⟩
      rw [← hl] at f1 f2 f3
      have hcv := conv_any fc f2 f3
      have htk : ns.take (i + 1) = ns.take i ++ [l] := by
        rw [List.take_succ_eq_append_getElem hins, hl]
        simp [List.getD, hins]
      have hfl : (ns.take (i + 1)).flatten.length = (ns.take i).flatten.length + l.length := by
        rw [htk, List.flatten_append, List.length_append]
        simp
      have hlm : l ∈ ns := by
        rw [hl]
        simp [List.getD, hins]
      have hl1000 := HNS.out l hlm
      obtain ⟨L, hL⟩ : ∃ L, L = l.length := ⟨_, rfl⟩
      rw [← hL] at f1 hfl hcv hl1000
      obtain ⟨V, hV⟩ : ∃ V, V = strOfNums l := ⟨_, rfl⟩
      have hcw : ∀ W : World, Below wr.heap.size wr W → (convert 29 9 (.slice fa L fc)).run Try.prog W = .ok (.string V) W := fun W hW => by
        rw [hV, hL]
        exact conv_any fc (f2.below hW) f3
      have hc0 := hcw wr (Below.refl _ _)
      have HLM := Lib.hid hlm
      have HTK := Lib.hid htk
      have HFL := Lib.hid hfl
      have HLZ := Lib.hid hL
      have HVV : Hid (([Value.string V] : List Value) = [l].map txt) := Lib.hid (by rw [hV]; rfl)
      clear hcv hpc f2 f3 hl htk hfl hlm hL hV hcw
      by_cases hL0 : L = 0
      · subst hL0
        have he0 : e = 2 := by
          have hE := HE.out
          rw [if_pos ⟨l, HLM.out, List.eq_nil_of_length_eq_zero HLZ.out.symm⟩] at hE
          exact hE
        have hnl := HNL.out
        clear e1 e2
        go_wp2
        refine bodyPost_ret (v := .tuple #[.agg #[.slice a n c, .int .i64 g, .int .i64 m], .int .i64 2]) (by simp [results, Try.results41, go_sem, *]) rfl ⟨a, c, ls, by first | rw [he0, hnl] | rw [hnl], by first | rw [if_neg (by rw [he0]; decide)] | simp, SAME.out _ ?_, ?_⟩
        · exact (((Mod.of_below HBW.out (fun k => k = X + 1)).setCell ⟨X + 1, 0, none⟩ (.inl rfl) _).setCell ⟨X + 1, 1, none⟩ (.inl rfl) _).setCell ⟨X + 1, 2, none⟩ (.inl rfl) _
        · have hX := EX.out
          have hb := HB.out.trans (HBW.out.mono HB.out.size)
          exact ((hb.setCell (p := ⟨X + 1, 0, none⟩) (by show w.heap.size ≤ X + 1; omega) _).setCell (p := ⟨X + 1, 1, none⟩) (by show w.heap.size ≤ X + 1; omega) _).setCell (p := ⟨X + 1, 2, none⟩) (by show w.heap.size ≤ X + 1; omega) _
      have d3 : ((L : Int) == 0) = false := by simp; omega
      have d4 : (L == 0) = false := by simpa using hL0
      obtain ⟨w6, hw6⟩ : ∃ W, W = wr.alloc (.cells #[.string V] 9) := ⟨_, rfl⟩
      have hb6 : Below wr.heap.size wr w6 := by rw [hw6]; exact (Below.refl _ wr).alloc (Nat.le_refl _) _
      have k6 : w6.heap[wr.heap.size]? = some (.cells #[.string V] 9 (0, 0)) := by rw [hw6]; exact alloc_blk_new _ _
      have HN6 := Lib.hid (fun (ad : Addr) (e : some (⟨wr.heap.size, 0, none⟩ : Addr) = some ad) j u (hj : [Value.string V][j]? = some u) => (show w6.cell? (ad.add j) = some u by
        cases e
        match j, hj with
        | 0, hj => cases hj; exact cell_blk k6 0 _ rfl))
      have HR6 := Lib.hid ((Mod.of_below hb6 (fun _ => False)).row HRW.out (fun _ _ h => h))
      have hs6 : w2.heap.size ≤ w6.heap.size := by have := HBW.out.size; have := hb6.size; omega
      have HB6 := Lib.hid (HBW.out.trans (hb6.mono HBW.out.size))
      have E6 := Lib.hid hw6
      clear hb6 k6 hw6
      by_cases hgt : r < (L : Int)
      · have d5 : decide (r < (L : Int)) = true := by simpa using hgt
        go_wp2_with (at_builtin; go_loud (rw [← E6.out]); go_loud (refine wpList_append_f _ rfl (.tmp 46) (.tmp 52) 41 rfl w2.heap.size 9 i0 (.string ⟨#[]⟩) 1 16 Try.underlying41 hi0 hz0 hz1 hz2 rfl (by decide) _ _ _ rfl HR6.out (some ⟨wr.heap.size, 0, none⟩) 1 1 [.string V] rfl rfl (fun e => by cases e) HN6.out (fun u hu => by simp at hu; subst hu; rfl) ?c3_a ?c4_a hs6 ?_))
        case c3_a => unfold maxLen; omega
        case c4_a => omega
        intro v7 w7 hown hg7 hf7 _
        have HB7 := Lib.hid (HB6.out.grown hg7 hs6 (fun k e => (HR6.out.lt k e).1))
        obtain ⟨a7, c7, rfl⟩ := row_slice hown
        have HR7 := Lib.hid hown
        clear hown hg7 hf7
        go_wp2_with fail
        go_roundg (pn - (i + 1))
        case measure => have := HG.out; omega
        case rel =>
          have hfl := HFL.out
          have htk := HTK.out
          refine ⟨i + 1, a7, c7, false, r, by rw [← Nat.add_assoc], rfl, rfl, by go_num, by omega, rfl, ?_, HB7.out, ?_, ?_⟩
          · have h := HR7.out
            rw [HVV.out] at h
            rw [htk]
            simpa [List.map_append, List.map_take, Nat.add_assoc] using h
          · intro l hl
            rw [htk] at hl
            rcases List.mem_append.1 hl with hl | hl
            · exact HIV.out.1 l hl
            · simp at hl
              subst hl
              intro e
              have := HLZ.out
              rw [e] at this
              simp at this
              omega
          · have h4 := HIV.out.2
            rw [hfl]
            refine ⟨h4.1, by have := h4.2.1; omega, (fun h => by cases h), fun _ => ?_⟩
            cases f with
            | false => have := h4.2.2.2 rfl; omega
            | true => have := (h4.2.2.1 rfl).1; omega
      · have d5 : decide (r < (L : Int)) = false := by simpa using hgt
        have hrw : IntKind.i64.wrap (r - (L : Int)) = r - (L : Int) := by rw [IntKind.wrap_i64]; omega
        go_wp2_with (at_builtin; go_loud (rw [← E6.out]); go_loud (refine wpList_append_f _ rfl (.tmp 46) (.tmp 52) 41 rfl w2.heap.size 9 i0 (.string ⟨#[]⟩) 1 16 Try.underlying41 hi0 hz0 hz1 hz2 rfl (by decide) _ _ _ rfl HR6.out (some ⟨wr.heap.size, 0, none⟩) 1 1 [.string V] rfl rfl (fun e => by cases e) HN6.out (fun u hu => by simp at hu; subst hu; rfl) ?c3_b ?c4_b hs6 ?_))
        case c3_b => unfold maxLen; omega
        case c4_b => omega
        intro v7 w7 hown hg7 hf7 _
        have HB7 := Lib.hid (HB6.out.grown hg7 hs6 (fun k e => (HR6.out.lt k e).1))
        obtain ⟨a7, c7, rfl⟩ := row_slice hown
        have HR7 := Lib.hid hown
        clear hown hg7 hf7
        go_wp2_with fail
        go_roundg (pn - (i + 1))
        case measure => have := HG.out; omega
        case rel =>
          have hfl := HFL.out
          have htk := HTK.out
          refine ⟨i + 1, a7, c7, f, r - L, by rw [← Nat.add_assoc], rfl, rfl, by go_num, by omega, rfl, ?_, HB7.out, ?_, ?_⟩
          · have h := HR7.out
            rw [HVV.out] at h
            rw [htk]
            simpa [List.map_append, List.map_take, Nat.add_assoc] using h
          · intro l hl
            rw [htk] at hl
            rcases List.mem_append.1 hl with hl | hl
            · exact HIV.out.1 l hl
            · simp at hl
              subst hl
              intro e
              have := HLZ.out
              rw [e] at this
              simp at this
              omega
          · have h4 := HIV.out.2
            rw [hfl]
            refine ⟨by have := h4.1; omega, by have := h4.2.1; omega, fun h => ?_, fun h => ?_⟩
            · have := h4.2.2.1 h; omega
            · have := h4.2.2.2 h; omega
    · obtain rfl : i = pn := by omega
      have hnl := HNL.out
      have htk : ns.take i = ns := List.take_of_length_le (by have := HPN.out; omega)
      have hno : ¬ ∃ l ∈ ns, l = [] := fun ⟨l, hl, e⟩ => HIV.out.1 l (by rw [htk]; exact hl) e
      have hE := HE.out
      rw [if_neg hno] at hE
      have hri := HIV.out.2
      rw [htk] at hri
      have hR := HRR.out
      cases f with
      | false =>
        have he0 : e = 120 := by
          have := hri.2.2.2 rfl
          rw [if_pos (by omega)] at hE
          exact hE
        clear hri hR htk hE
        go_wp2
        refine bodyPost_ret (v := .tuple #[.agg #[.slice a n c, .int .i64 g, .int .i64 m], .int .i64 120]) (by simp [results, Try.results41, go_sem, *]) rfl ⟨a, c, ls, by first | rw [he0, hnl] | rw [hnl], by first | rw [if_neg (by rw [he0]; decide)] | simp, SAME.out _ ?_, ?_⟩
        · exact (((Mod.of_below HBW.out (fun k => k = X + 1)).setCell ⟨X + 1, 0, none⟩ (.inl rfl) _).setCell ⟨X + 1, 1, none⟩ (.inl rfl) _).setCell ⟨X + 1, 2, none⟩ (.inl rfl) _
        · have hX := EX.out
          have hb := HB.out.trans (HBW.out.mono HB.out.size)
          exact ((hb.setCell (p := ⟨X + 1, 0, none⟩) (by show w.heap.size ≤ X + 1; omega) _).setCell (p := ⟨X + 1, 1, none⟩) (by show w.heap.size ≤ X + 1; omega) _).setCell (p := ⟨X + 1, 2, none⟩) (by show w.heap.size ≤ X + 1; omega) _
      | true =>
        have he0 : e = 0 := by
          have := hri.2.2.1 rfl
          rw [if_neg (by omega)] at hE
          exact hE
        have hdq := row_str (by have h := HRW.out; rw [htk] at h; exact h) (by rw [List.length_append, HNL.out, HPN.out])
        have HDQ := Lib.hid hdq
        have HLL : Hid ((ls ++ ns).length = n + i) := Lib.hid (by rw [List.length_append, HNL.out, HPN.out])
        clear hri hR htk hE hdq
        go_wp2
        refine bodyPost_ret (v := .tuple #[.agg #[.slice a' (n + i) c', .int .i64 g, .int .i64 m], .int .i64 0]) (by simp [results, Try.results41, go_sem, *]) rfl ⟨a', c', ls ++ ns, by first | rw [he0, HLL.out] | rw [HLL.out], by first | rw [if_pos he0] | simp, ?_, ?_⟩
        · have hm : Mod (fun k => k = X + 1) wr (((wr.setCell ⟨X + 1, 0, none⟩ (.slice a' (n + i) c')).setCell ⟨X + 1, 1, none⟩ (.int .i64 g)).setCell ⟨X + 1, 2, none⟩ (.int .i64 m)) := (((Mod.refl (fun k => k = X + 1) wr).setCell ⟨X + 1, 0, none⟩ (.inl rfl) _).setCell ⟨X + 1, 1, none⟩ (.inl rfl) _).setCell ⟨X + 1, 2, none⟩ (.inl rfl) _
          have hd := HDQ.out
          have hl2 := blk_lt K1.out
          exact ⟨(hd.at_.mod hm (fun k hk e => by omega)).mono (fun k _ hk => .inr (by have := HB.out.size; omega)), hd.cl, hd.cm, hd.nn⟩
        · have hX := EX.out
          have hb := HB.out.trans (HBW.out.mono HB.out.size)
          exact ((hb.setCell (p := ⟨X + 1, 0, none⟩) (by show w.heap.size ≤ X + 1; omega) _).setCell (p := ⟨X + 1, 1, none⟩) (by show w.heap.size ≤ X + 1; omega) _).setCell (p := ⟨X + 1, 2, none⟩) (by show w.heap.size ≤ X + 1; omega) _
end Go.Proofs.Ytneeagabmdpjgaa
