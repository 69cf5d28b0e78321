/-
  BytesqCopies, walked.
-/
import Derived.Test.YtkikdpfhcepeaaaPb
import Derived.Test.YtkikdpfhcepeaaaSm
import Derived.Laws.Strings
namespace Go.Proofs.Ytkikdpfhcepeaaa
open Go.RowKit
set_option linter.unusedVariables false
set_option linter.unusedSimpArgs false

theorem Acts.below {w w' : World} {ao : Option Addr} {n : Nat} {zs : List AV} (h : Acts w ao n zs) (hb : Below w.heap.size w w') : Acts w' ao n zs :=
  ⟨h.1, h.2.1, fun hp => by
    obtain ⟨b, off, e, hl, hc⟩ := h.2.2 hp
    refine ⟨b, off, e, Nat.lt_of_lt_of_le hl hb.size, fun j hj => ?_⟩
    obtain ⟨z, hz, z0, z1, z2, z3, ho⟩ := hc j hj
    have ho' := ho.below hb
    have hs := hb.size
    exact ⟨z, hz, (hb.cell (p := ⟨b, off + j * 4, none⟩) hl).trans z0, (hb.cell (p := ⟨b, off + j * 4 + 1, none⟩) hl).trans z1, (hb.cell (p := ⟨b, off + j * 4 + 2, none⟩) hl).trans z2, (hb.cell (p := ⟨b, off + j * 4 + 3, none⟩) hl).trans z3, { ho' with ra := ho'.ra.mono (fun k h _ => h), rb := ho'.rb.mono (fun k h _ => h) }⟩⟩

/-- Where the two calls behind lie. -/
structure Bt (w : World) (x y : AV) (W : World) : Prop where
  b0 : W.heap[w.heap.size]? = some (.cells #[.int .i64 x.what, .int .i64 x.n, .slice x.a x.xa.length x.ca, .slice x.b x.xb.length x.cb, .int .i64 y.what, .int .i64 y.n, .slice y.a y.xa.length y.ca, .slice y.b y.xb.length y.cb] 43 (0, 0))
  below : Below w.heap.size w W
section
variable {w W W' : World} {x y : AV}
theorem Bt.lt (h : Bt w x y W) : w.heap.size < W.heap.size := blk_lt h.b0
theorem Bt.bel (h : Bt w x y W) (hb : Below W.heap.size W W') : Bt w x y W' := ⟨(hb.block _ h.lt).trans h.b0, h.below.trans (hb.mono h.below.size)⟩
theorem Bt.mod {S : Nat → Prop} (h : Bt w x y W) (hm : Mod S W W') (hs : ∀ k, S k → w.heap.size < k) : Bt w x y W' :=
  ⟨(hm.block _ h.lt (fun e => by have := hs _ e; omega)).trans h.b0, (Mod.trans (S := fun k => w.heap.size ≤ k) (Mod.of_below h.below _) hm (fun k _ e => by have := hs k e; omega)).below (fun k hk => by omega)⟩
theorem Bt.cells (h : Bt w x y W) : (W.cell? ⟨w.heap.size, 0, none⟩ = some (.int .i64 x.what) ∧ W.cell? ⟨w.heap.size, 1, none⟩ = some (.int .i64 x.n) ∧ W.cell? ⟨w.heap.size, 2, none⟩ = some (.slice x.a x.xa.length x.ca) ∧ W.cell? ⟨w.heap.size, 3, none⟩ = some (.slice x.b x.xb.length x.cb)) ∧
    W.cell? ⟨w.heap.size, 4, none⟩ = some (.int .i64 y.what) ∧ W.cell? ⟨w.heap.size, 5, none⟩ = some (.int .i64 y.n) ∧ W.cell? ⟨w.heap.size, 6, none⟩ = some (.slice y.a y.xa.length y.ca) ∧ W.cell? ⟨w.heap.size, 7, none⟩ = some (.slice y.b y.xb.length y.cb) :=
  ⟨⟨cell_blk h.b0 0 _ rfl, cell_blk h.b0 1 _ rfl, cell_blk h.b0 2 _ rfl, cell_blk h.b0 3 _ rfl⟩, cell_blk h.b0 4 _ rfl, cell_blk h.b0 5 _ rfl, cell_blk h.b0 6 _ rfl, cell_blk h.b0 7 _ rfl⟩
theorem Bt.acts (h : Bt w x y W) (hx : x.Ok (fun k => k < w.heap.size) w) (hy : y.Ok (fun k => k < w.heap.size) w) : Acts W (some ⟨w.heap.size, 0, none⟩) 2 [x, y] := by
  refine ⟨by unfold maxLen; omega, by simp, fun _ => ⟨w.heap.size, 0, rfl, h.lt, fun j hj => ?_⟩⟩
  obtain ⟨⟨c0, c1, c2, c3⟩, d0, d1, d2, d3⟩ := h.cells
  have ox := hx.below h.below
  have oy := hy.below h.below
  match j, hj with
  | 0, _ => exact ⟨x, rfl, c0, c1, c2, c3, { ox with ra := ox.ra.mono fun k hk _ => hk, rb := ox.rb.mono fun k hk _ => hk }⟩
  | 1, _ => exact ⟨y, rfl, d0, d1, d2, d3, { oy with ra := oy.ra.mono fun k hk _ => hk, rb := oy.rb.mono fun k hk _ => hk }⟩
end
/-- Between two calls. -/
structure Cl (w : World) (x y : AV) (K : Nat → Prop) (m : Int) (p B : Nat) (ra : Option Addr) (rc : Nat) (bs : List Int) (wr : World) : Prop where
  pl : Pl w K m p B ra rc bs wr
  kt : K w.heap.size
  bt : Bt w x y wr
  by_ : ∀ x ∈ bs, 0 ≤ x ∧ x < 256
  lt : w.heap.size < B
theorem Cl.bel {w wr W' : World} {x y : AV} {K : Nat → Prop} {m : Int} {p B : Nat} {ra : Option Addr} {rc : Nat} {bs : List Int} (h : Cl w x y K m p B ra rc bs wr) (hb : Below wr.heap.size wr W') : Cl w x y (More K wr W') m p B ra rc bs W' :=
  ⟨h.pl.bel hb, .inl h.kt, h.bt.bel hb, h.by_, h.lt⟩
/-- A call by both, kept in the document's box. -/
theorem Cl.step {w wr w2 : World} {x y : AV} {K K2 : Nat → Prop} {m : Int} {p p' B : Nat} {ra ra' : Option Addr} {rc rc' : Nat} {bs bs' : List Int} (h : Cl w x y K m p B ra rc bs wr) (k12 : ∀ q, K q → K2 q) (k2s : ∀ q, K2 q → w.heap.size ≤ q) (hq2 : QS w K2 p' m bs' w2) (hr2 : Rf K2 w2 ra' rc' bs')
    (hm2 : Mod (fun q => ¬ K q ∧ w.heap.size ≤ q) wr w2) (hby : (∀ x ∈ bs, 0 ≤ x ∧ x < 256) → ∀ x ∈ bs', 0 ≤ x ∧ x < 256) :
    ∃ K3, Cl w x y K3 m p' B ra' rc' bs' ((w2.setCell ⟨B, 0, none⟩ (.slice ra' bs'.length rc')).setCell ⟨B, 1, none⟩ (.int .i64 m)) := by
  have hb2 := (hm2.block _ (blk_lt h.pl.box) (fun e => e.1 h.pl.kb)).trans h.pl.box
  have hmB := ((Mod.refl (fun q => q = B) w2).setCell ⟨B, 0, none⟩ (.inl rfl) (.slice ra' bs'.length rc')).setCell ⟨B, 1, none⟩ (.inl rfl) (.int .i64 m)
  have hTq := hq2.turn (hmB.mono (T := K2) (fun q _ e => by rw [e]; exact k12 _ h.pl.kb)) k2s
  have hlt := h.lt
  refine ⟨_, ⟨⟨More.ks k2s hq2.below.size, hTq, ⟨((hr2.at_.not_box hb2).mod hmB (fun q hq e => hq.2 e)).mono (fun q _ hq => .inl hq.1), hr2.na, hr2.sp, hr2.cl, hr2.cm⟩, setCell_blk (setCell_blk hb2 0 _) 1 _, .inl (k12 _ h.pl.kb)⟩, .inl (k12 _ h.kt), (h.bt.mod hm2 (fun k e => ?_)).mod hmB (fun k e => by omega), hby h.by_, hlt⟩⟩
  rcases Nat.lt_or_ge w.heap.size k with hk | hk
  · exact hk
  · obtain rfl : k = w.heap.size := by have := e.2; omega
    exact absurd h.kt e.1
/-- Behind the two calls. -/
structure Cf (w : World) (m : Int) (p c : Nat) (bs1 bs2 : List Int) (ra1 : Option Addr) (rc1 : Nat) (ra2 : Option Addr) (rc2 : Nat) (B1 B2 : Nat) (v : World) : Prop where
  q1 : ∃ K, QS w K p m bs1 v
  q2 : ∃ K, QS w K c m bs2 v
  a1 : Arg (fun _ => True) v ra1 bs1.length bs1
  n1 : ra1 = none → bs1.length = 0 ∧ rc1 = 0
  a2 : Arg (fun _ => True) v ra2 bs2.length bs2
  n2 : ra2 = none → bs2.length = 0 ∧ rc2 = 0
  x1 : v.heap[B1]? = some (.cells #[.slice ra1 bs1.length rc1, .int .i64 m] 39 (0, 0))
  x2 : v.heap[B2]? = some (.cells #[.slice ra2 bs2.length rc2, .int .i64 m] 39 (0, 0))
theorem Cf.bel {w v v' : World} {m : Int} {p c : Nat} {bs1 bs2 : List Int} {ra1 : Option Addr} {rc1 : Nat} {ra2 : Option Addr} {rc2 : Nat} {B1 B2 : Nat} (h : Cf w m p c bs1 bs2 ra1 rc1 ra2 rc2 B1 B2 v) (hb : Below v.heap.size v v') : Cf w m p c bs1 bs2 ra1 rc1 ra2 rc2 B1 B2 v' := by
  obtain ⟨K1, h1⟩ := h.q1
  obtain ⟨K2, h2⟩ := h.q2
  exact ⟨⟨_, h1.grow hb⟩, ⟨_, h2.grow hb⟩, h.a1.below hb, h.n1, h.a2.below hb, h.n2, (hb.block _ (blk_lt h.x1)).trans h.x1, (hb.block _ (blk_lt h.x2)).trans h.x2⟩
theorem Cf.below {w v : World} {m : Int} {p c : Nat} {bs1 bs2 : List Int} {ra1 : Option Addr} {rc1 : Nat} {ra2 : Option Addr} {rc2 : Nat} {B1 B2 : Nat} (h : Cf w m p c bs1 bs2 ra1 rc1 ra2 rc2 B1 B2 v) : Below w.heap.size w v := by
  obtain ⟨K1, h1⟩ := h.q1
  exact h1.below

set_option maxHeartbeats 6400000 in
set_option maxRecDepth 100000 in
theorem copies_any (m : Int) (ao : Option Addr) (n cap : Nat) (zs : List AV) (x y : AV) (w : World) (h : Acts w ao n zs) (hx : x.Ok (fun k => k < w.heap.size) w) (hy : y.Ok (fun k => k < w.heap.size) w) :
    Calls Try.prog 5 #[.int .i64 m, .slice ao n cap, .agg #[.int .i64 x.what, .int .i64 x.n, .slice x.a x.xa.length x.ca, .slice x.b x.xb.length x.cb, .int .i64 y.what, .int .i64 y.n, .slice y.a y.xa.length y.ca, .slice y.b y.xb.length y.cb]] w fun e w' => e = .returned (.bool true) ∧ Below w.heap.size w w' := by
  have HWorks := Lib.hid works_true
  have HNum := Lib.hid num_any
  obtain ⟨w1, hw1⟩ : ∃ W, W = w.alloc (.cells #[.int .i64 x.what, .int .i64 x.n, .slice x.a x.xa.length x.ca, .slice x.b x.xb.length x.cb, .int .i64 y.what, .int .i64 y.n, .slice y.a y.xa.length y.ca, .slice y.b y.xb.length y.cb] 43) := ⟨_, rfl⟩
  have T1 : Hid (Bt w x y w1) := Lib.hid ⟨by rw [hw1]; exact alloc_blk_new _ _, by rw [hw1]; exact (Below.refl _ w).alloc (Nat.le_refl _) _⟩
  have HFew := Lib.hid (few_any ao n cap zs 30 w1 (h.below T1.out.below) (by decide))
  have HA := Lib.hid h
  have HX := Lib.hid hx
  have HY := Lib.hid hy
  have E1 := Lib.hid hw1
  clear h hx hy hw1
  go_enter Try.func5, Try.ntmps5
  go_wp2_with (go_at_call 7; fail)
  rw [← E1.out]
  refine HFew.out.mono ?_
  rintro e w0 ⟨b, rfl, hfew, q0, rfl⟩
  have T2 := Lib.hid (T1.out.bel (Below.drewN' w1 q0))
  cases b with
  | false =>
    go_wp2_with (first | (go_at_call 8; refine (HWorks.out _).mono ?_; rintro e w' ⟨rfl, hb⟩))
    go_ret
    exact ⟨rfl, (T2.out.bel hb).below⟩
  | true =>
    have HF1 := Lib.hid (hfew rfl)
    have HFew2 := Lib.hid (few_any _ 2 2 [x, y] 2 _ (T2.out.acts HX.out HY.out) (by decide))
    have hlt2 := T2.out.lt
    clear hfew HFew T1
    go_wp2_with (go_at_call 7; fail)
    refine HFew2.out.mono ?_
    rintro e w0 ⟨b, rfl, hfew, q1, rfl⟩
    have T3 := Lib.hid (T2.out.bel (Below.drewN' _ q1))
    obtain ⟨W3, hW3⟩ : ∃ W, W = (w1.drewN q0).drewN q1 := ⟨_, rfl⟩
    rw [← hW3] at T3 ⊢
    clear hW3
    cases b with
    | false =>
      go_wp2_with (first | (go_at_call 8; refine (HWorks.out _).mono ?_; rintro e w' ⟨rfl, hb⟩))
      go_ret
      exact ⟨rfl, (T3.out.bel hb).below⟩
    | true =>
      have HX3 := Lib.hid ((hfew rfl).2 0 (by omega))
      have HY3 := Lib.hid ((hfew rfl).2 1 (by omega))
      clear hfew HFew2 T2 hlt2
      by_cases hm0 : m < 0
      · have t0 : decide (m < 0) = true := by simpa using hm0
        go_wp2_with (first | (go_at_call 8; refine (HWorks.out _).mono ?_; rintro e w' ⟨rfl, hb⟩))
        go_ret
        exact ⟨rfl, (T3.out.bel hb).below⟩
      by_cases hm1 : 1048576 < m
      · have t0 : decide (m < 0) = false := by simpa using hm0
        have t1 : decide (1048576 < m) = true := by simpa using hm1
        go_wp2_with (first | (go_at_call 8; refine (HWorks.out _).mono ?_; rintro e w' ⟨rfl, hb⟩))
        go_ret
        exact ⟨rfl, (T3.out.bel hb).below⟩
      have t0 : decide (m < 0) = false := by simpa using hm0
      have t1 : decide (1048576 < m) = false := by simpa using hm1
      have HNew := Lib.hid (New_qs m w W3 (by omega) (by omega) T3.out.below)
      go_wp2_with (go_at_call 9; fail)
      refine HNew.out.mono ?_
      rintro e w4 ⟨p, rfl, hq, hb, _⟩
      have hl3 := T3.out.lt
      have hs34 := hb.size
      have P0 : Hid (Cl w x y (More (fun k => w.heap.size ≤ k ∧ k < W3.heap.size) w4 (w4.alloc (.cells #[.slice none 0 0, .int .i64 m] 39))) m p w4.heap.size none 0 [] (w4.alloc (.cells #[.slice none 0 0, .int .i64 m] 39))) :=
        Lib.hid ⟨plays_start w w4 p m _ (fun q hq => hq.1) hq, .inl ⟨Nat.le_refl _, hl3⟩, (T3.out.bel hb).bel ((Below.refl _ w4).alloc (Nat.le_refl _) _), by simp, by omega⟩
      clear hq hb HNew T3 hl3 hs34
      obtain ⟨B, hB⟩ : ∃ B, B = w4.heap.size := ⟨_, rfl⟩
      go_wp2_with fail
      rw [← hB] at P0 ⊢
      clear hB
      go_loopg [7, 10] n (fun gk v7 v10 wr => ∃ i p : Nat, v7 = .pointer (some ⟨p, 0, none⟩) ∧ v10 = .int .i64 i ∧ i ≤ n ∧ gk = n - i ∧ ∃ K bs ra rc, Cl w x y K m p B ra rc bs wr)
      case atStart => exact ⟨0, p, rfl, rfl, by omega, rfl, _, _, _, _, P0.out⟩
      case round =>
        obtain ⟨i, p, rfl, rfl, hi, hgk, K, bs, ra, rc, hPl⟩ := hrel
        have HG := Lib.hid hgk
        have HPl := Lib.hid hPl
        clear hgk hPl P0
        by_cases hlt : i < n
        · obtain ⟨b, off, rfl, hbl, hc⟩ := HA.out.2.2 (by omega)
          obtain ⟨z, hz, z0, z1, z2, z3, hok⟩ := hc i hlt
          have hl3 := HF1.out.2 i hlt
          rw [← hz] at hl3
          have HL3 := Lib.hid hl3
          have HZ0 := Lib.hid z0
          have HZ1 := Lib.hid z1
          have HZ2 := Lib.hid z2
          have HZ3 := Lib.hid z3
          have HOK : Hid (∀ W, Below w.heap.size w W → z.Ok (fun k => k < w.heap.size) W) := Lib.hid (fun W hb => hok.below hb)
          have hn31 := HF1.out.1
          clear hc z0 z1 z2 z3 hok hz hl3
          go_upto_region 8 with fail
          refine wp_region_K 12 (fun W => (W.cell? ⟨B, 0, none⟩ = some (.slice ra bs.length rc) ∧ W.cell? ⟨B, 1, none⟩ = some (.int .i64 m)) ∧ W.cell? ⟨b, off + i * 4, none⟩ = some (.int .i64 z.what) ∧ W.cell? ⟨b, off + i * 4 + 1, none⟩ = some (.int .i64 z.n) ∧ W.cell? ⟨b, off + i * 4 + 2, none⟩ = some (.slice z.a z.xa.length z.ca) ∧ W.cell? ⟨b, off + i * 4 + 3, none⟩ = some (.slice z.b z.xb.length z.cb)) (by kernel_rfl) ?_
          obtain ⟨wd, hwd⟩ : ∃ W, W = wr.drew := ⟨_, rfl⟩
          rw [← hwd]
          have HWD := Lib.hid hwd
          have P1 : Hid (Cl w x y (More K wr wr.drew) m p B ra rc bs wd) := Lib.hid (by rw [hwd]; exact HPl.out.bel (Below.drewN' wr 1))
          clear hwd
          obtain ⟨K1, hK1⟩ : ∃ K1, K1 = More K wr wr.drew := ⟨_, rfl⟩
          rw [← hK1] at P1
          clear hK1
          have HSS : Hid (∀ (W : World), Below w.heap.size w W → W.heap[B]? = some (.cells #[.slice ra bs.length rc, .int .i64 m] 39 (0, 0)) → (W.cell? ⟨B, 0, none⟩ = some (.slice ra bs.length rc) ∧ W.cell? ⟨B, 1, none⟩ = some (.int .i64 m)) ∧ W.cell? ⟨b, off + i * 4, none⟩ = some (.int .i64 z.what) ∧ W.cell? ⟨b, off + i * 4 + 1, none⟩ = some (.int .i64 z.n) ∧ W.cell? ⟨b, off + i * 4 + 2, none⟩ = some (.slice z.a z.xa.length z.ca) ∧ W.cell? ⟨b, off + i * 4 + 3, none⟩ = some (.slice z.b z.xb.length z.cb)) := Lib.hid (fun W hb hB => ⟨cell2 hB, (hb.cell (p := ⟨b, off + i * 4, none⟩) hbl).trans HZ0.out, (hb.cell (p := ⟨b, off + i * 4 + 1, none⟩) hbl).trans HZ1.out, (hb.cell (p := ⟨b, off + i * 4 + 2, none⟩) hbl).trans HZ2.out, (hb.cell (p := ⟨b, off + i * 4 + 3, none⟩) hbl).trans HZ3.out⟩)
          have hS0 := HSS.out wd P1.out.bt.below P1.out.pl.box
          have hblw : b < wd.heap.size := Nat.lt_of_lt_of_le hbl P1.out.bt.below.size
          refine wpAnyK_take (i := 0) (v := .pointer (some ⟨p, 0, none⟩)) rfl (by kernel_rfl) (by kernel_rfl) (by kernel_rfl) [] (by kernel_rfl) (by decide) (by kernel_rfl) (by kernel_rfl) (fun _ _ _ h => h) hS0 (.inl ⟨by rfl, fun W hW => ?_⟩) ?_
          · obtain ⟨⟨q0, q1⟩, q2, q3, q4, q5⟩ := hW
            go_simp
          simp only [Act.put, List.setIfInBounds_toArray, List.set_cons_zero, List.set_cons_succ]
          refine wpAnyK_take (i := 1) (v := .agg #[.slice ra bs.length rc, .int .i64 m]) rfl (by kernel_rfl) (by kernel_rfl) (by kernel_rfl) [] (by kernel_rfl) (by decide) (by kernel_rfl) (by kernel_rfl) (fun _ _ _ h => h) hS0 (.inl ⟨by rfl, fun W hW => ?_⟩) ?_
          · obtain ⟨⟨q0, q1⟩, q2, q3, q4, q5⟩ := hW
            go_simp
          simp only [Act.put, List.setIfInBounds_toArray, List.set_cons_zero, List.set_cons_succ]
          refine wpAnyK_take (i := 2) (v := .slice (some ⟨b, off, none⟩) n cap) rfl (by kernel_rfl) (by kernel_rfl) (by kernel_rfl) [] (by kernel_rfl) (by decide) (by kernel_rfl) (by kernel_rfl) (fun _ _ _ h => h) hS0 (.inl ⟨by rfl, fun W hW => ?_⟩) ?_
          · obtain ⟨⟨q0, q1⟩, q2, q3, q4, q5⟩ := hW
            go_simp
          simp only [Act.put, List.setIfInBounds_toArray, List.set_cons_zero, List.set_cons_succ]
          refine wpAnyK_take (i := 3) (v := .int .i64 i) rfl (by kernel_rfl) (by kernel_rfl) (by kernel_rfl) [] (by kernel_rfl) (by decide) (by kernel_rfl) (by kernel_rfl) (fun _ _ _ h => h) hS0 (.inl ⟨by rfl, fun W hW => ?_⟩) ?_
          · obtain ⟨⟨q0, q1⟩, q2, q3, q4, q5⟩ := hW
            go_simp
          simp only [Act.put, List.setIfInBounds_toArray, List.set_cons_zero, List.set_cons_succ]
          refine wpAnyK_take (i := 4) (v := .pointer (some ⟨b, off + i * 4, none⟩)) rfl (by kernel_rfl) (by kernel_rfl) (by kernel_rfl) [] (by kernel_rfl) (by decide) (by kernel_rfl) (by kernel_rfl) (fun _ _ _ h => h) hS0 (.inl ⟨by rfl, fun W hW => ?_⟩) ?_
          · obtain ⟨⟨q0, q1⟩, q2, q3, q4, q5⟩ := hW
            go_simp
          simp only [Act.put, List.setIfInBounds_toArray, List.set_cons_zero, List.set_cons_succ]
          refine wpAnyK_take (i := 5) (v := .agg #[.int .i64 z.what, .int .i64 z.n, .slice z.a z.xa.length z.ca, .slice z.b z.xb.length z.cb]) rfl (by kernel_rfl) (by kernel_rfl) (by kernel_rfl) [] (by kernel_rfl) (by decide) (by kernel_rfl) (by kernel_rfl) (fun _ _ _ h => h) hS0 (.inl ⟨by rfl, fun W hW => ?_⟩) ?_
          · obtain ⟨⟨q0, q1⟩, q2, q3, q4, q5⟩ := hW
            go_simp
          simp only [Act.put, List.setIfInBounds_toArray, List.set_cons_zero, List.set_cons_succ]
          refine wpAnyK_ready (rs := [6]) (by kernel_rfl) (by simp) ?_
          refine AllReadyK.cons rfl (fun K hK => ?_) AllReadyK.nil
          go_simp
          refine (P1.out.pl.act z (HOK.out _ P1.out.bt.below) HL3.out).mono ?_
          rintro e w2 ⟨p', bs', ra', rc', K2, rfl, k12, k2s, hq2, hr2, hm2, hby⟩
          have HST := Lib.hid (P1.out.step k12 k2s hq2 hr2 hm2 hby)
          have hb72 := (hm2.block _ (blk_lt P1.out.pl.box) (fun e => e.1 P1.out.pl.kb)).trans P1.out.pl.box
          have hS2 := HSS.out w2 hq2.below hb72
          have hf0 := frozen_blk hb72 0
          have hf1 := frozen_blk hb72 1
          have hl2 := blk_lt hb72
          refine hK.out _ _ (fun _ => hS2) ?_
          clear hby hm2 hr2 hq2 k2s k12 hb72
          clear hK K
          try simp only [Act.put, List.setIfInBounds_toArray, List.set_cons_zero, List.set_cons_succ]
          refine wpAnyK_take (i := 7) (v := .tuple #[.pointer (some ⟨p', 0, none⟩), .agg #[.slice ra' bs'.length rc', .int .i64 m], .bool true]) rfl (by kernel_rfl) (by kernel_rfl) (by kernel_rfl) [] (by kernel_rfl) (by decide) (by kernel_rfl) (by kernel_rfl) (fun _ _ _ h => h) hS2 (.inl ⟨by rfl, fun W hW => ?_⟩) ?_
          · obtain q0 := hW
            go_simp
          simp only [Act.put, List.setIfInBounds_toArray, List.set_cons_zero, List.set_cons_succ]
          refine wpAnyK_take (i := 8) (v := .pointer (some ⟨p', 0, none⟩)) rfl (by kernel_rfl) (by kernel_rfl) (by kernel_rfl) [] (by kernel_rfl) (by decide) (by kernel_rfl) (by kernel_rfl) (fun _ _ _ h => h) hS2 (.inl ⟨by rfl, fun W hW => ?_⟩) ?_
          · obtain q0 := hW
            go_simp
          simp only [Act.put, List.setIfInBounds_toArray, List.set_cons_zero, List.set_cons_succ]
          refine wpAnyK_take (i := 9) (v := .agg #[.slice ra' bs'.length rc', .int .i64 m]) rfl (by kernel_rfl) (by kernel_rfl) (by kernel_rfl) [] (by kernel_rfl) (by decide) (by kernel_rfl) (by kernel_rfl) (fun _ _ _ h => h) hS2 (.inl ⟨by rfl, fun W hW => ?_⟩) ?_
          · obtain q0 := hW
            go_simp
          simp only [Act.put, List.setIfInBounds_toArray, List.set_cons_zero, List.set_cons_succ]
          refine wpAnyK_ready (rs := [10, 11]) (by kernel_rfl) (by simp) ?_
          refine AllReadyK.cons (o := { dst := some 59, op := Op.extract (Operand.tmp 49) 2, type := 4, pos := "law.go:121", after := #[{ on := 7, ground := Ground.data }, { on := 12, ground := Ground.gcOnly Departure.lateStores }], guard := none }) rfl (fun K hK => ?_) (AllReadyK.cons rfl (fun K hK => ?_) AllReadyK.nil)
          · go_simp
            refine hK.out _ _ (fun _ => hS2) ?_
            clear hK K
            try simp only [Act.put, List.setIfInBounds_toArray, List.set_cons_zero, List.set_cons_succ]
            refine wpAnyK_ready (rs := [11]) (by kernel_rfl) (by simp) ?_
            refine AllReadyK.cons rfl (fun K hK => ?_) AllReadyK.nil
            go_simp
            refine hK.out _ _ (fun _ => hS2) ?_
            clear hK K
            try simp only [Act.put, List.setIfInBounds_toArray, List.set_cons_zero, List.set_cons_succ]
            obtain ⟨⟨e0, e1⟩, _, _, _, _⟩ := hS2
            refine wpAnyK_ready (rs := [12]) (by kernel_rfl) (by simp) ?_
            refine AllReadyK.cons rfl (fun K hK => ?_) AllReadyK.nil
            go_simp
            refine hK.out _ _ (fun h => absurd (show true = false from h) (by decide)) ?_
            clear hK K
            try simp only [Act.put, List.setIfInBounds_toArray, List.set_cons_zero, List.set_cons_succ]
            refine wpAnyK_done (by kernel_rfl) ?_ _
            obtain ⟨K3, hcl⟩ := HST.out
            have HCl := Lib.hid hcl
            obtain ⟨w3, hw3⟩ : ∃ W, W = (w2.setCell ⟨B, 0, none⟩ (.slice ra' bs'.length rc')).setCell ⟨B, 1, none⟩ (.int .i64 m) := ⟨_, rfl⟩
            rw [← hw3] at HCl ⊢
            clear HST hw3 hcl hf0 hf1 hl2 e0 e1 hS0 HSS P1 HWD HPl
            go_wp2_with fail
            go_roundg (n - (i + 1))
            case measure => have := HG.out; omega
            case rel => exact ⟨i + 1, p', rfl, by go_num, by omega, rfl, _, _, _, _, HCl.out⟩
          · go_simp
            refine hK.out _ _ (fun _ => hS2) ?_
            clear hK K
            try simp only [Act.put, List.setIfInBounds_toArray, List.set_cons_zero, List.set_cons_succ]
            refine wpAnyK_ready (rs := [10, 12]) (by kernel_rfl) (by simp) ?_
            refine AllReadyK.cons (o := { dst := some 59, op := Op.extract (Operand.tmp 49) 2, type := 4, pos := "law.go:121", after := #[{ on := 7, ground := Ground.data }, { on := 12, ground := Ground.gcOnly Departure.lateStores }], guard := none }) rfl (fun K hK => ?_) (AllReadyK.cons rfl (fun K hK => ?_) AllReadyK.nil)
            · go_simp
              refine hK.out _ _ (fun _ => hS2) ?_
              clear hK K
              try simp only [Act.put, List.setIfInBounds_toArray, List.set_cons_zero, List.set_cons_succ]
              obtain ⟨⟨e0, e1⟩, _, _, _, _⟩ := hS2
              refine wpAnyK_ready (rs := [12]) (by kernel_rfl) (by simp) ?_
              refine AllReadyK.cons rfl (fun K hK => ?_) AllReadyK.nil
              go_simp
              refine hK.out _ _ (fun h => absurd (show true = false from h) (by decide)) ?_
              clear hK K
              try simp only [Act.put, List.setIfInBounds_toArray, List.set_cons_zero, List.set_cons_succ]
              refine wpAnyK_done (by kernel_rfl) ?_ _
              obtain ⟨K3, hcl⟩ := HST.out
              have HCl := Lib.hid hcl
              obtain ⟨w3, hw3⟩ : ∃ W, W = (w2.setCell ⟨B, 0, none⟩ (.slice ra' bs'.length rc')).setCell ⟨B, 1, none⟩ (.int .i64 m) := ⟨_, rfl⟩
              rw [← hw3] at HCl ⊢
              clear HST hw3 hcl hf0 hf1 hl2 e0 e1 hS0 HSS P1 HWD HPl
              go_wp2_with fail
              go_roundg (n - (i + 1))
              case measure => have := HG.out; omega
              case rel => exact ⟨i + 1, p', rfl, by go_num, by omega, rfl, _, _, _, _, HCl.out⟩
            · obtain ⟨⟨e0, e1⟩, _, _, _, _⟩ := hS2
              go_simp
              refine hK.out _ _ (fun h => absurd (show true = false from h) (by decide)) ?_
              clear hK K
              try simp only [Act.put, List.setIfInBounds_toArray, List.set_cons_zero, List.set_cons_succ]
              refine wpAnyK_ready (rs := [10]) (by kernel_rfl) (by simp) ?_
              refine AllReadyK.cons rfl (fun K hK => ?_) AllReadyK.nil
              go_simp
              refine hK.out _ _ (fun h => absurd (show true = false from h) (by decide)) ?_
              clear hK K
              try simp only [Act.put, List.setIfInBounds_toArray, List.set_cons_zero, List.set_cons_succ]
              refine wpAnyK_done (by kernel_rfl) ?_ _
              obtain ⟨K3, hcl⟩ := HST.out
              have HCl := Lib.hid hcl
              obtain ⟨w3, hw3⟩ : ∃ W, W = (w2.setCell ⟨B, 0, none⟩ (.slice ra' bs'.length rc')).setCell ⟨B, 1, none⟩ (.int .i64 m) := ⟨_, rfl⟩
              rw [← hw3] at HCl ⊢
              clear HST hw3 hcl hf0 hf1 hl2 e0 e1 hS0 HSS P1 HWD HPl
              go_wp2_with fail
              go_roundg (n - (i + 1))
              case measure => have := HG.out; omega
              case rel => exact ⟨i + 1, p', rfl, by go_num, by omega, rfl, _, _, _, _, HCl.out⟩
        · obtain rfl : i = n := by omega
          have hPl := HPl.out
          obtain ⟨sv, g, vs, hq0, _⟩ := hPl.pl.qs.qu
          have HCopy := Lib.hid (Copy_any _ p g m sv vs bs wr hq0)
          have hww := hPl.bt.below.size
          obtain ⟨n0, hn0⟩ : ∃ n0, n0 = wr.heap.size := ⟨_, rfl⟩
          have HN0 := Lib.hid hn0
          clear hq0 HF1 HA hi HG hPl hn0 hlt
          go_wp2_with (go_at_call 17; fail)
          refine HCopy.out.mono ?_
          rintro e v1 ⟨c, cv, rfl, hcq, hb1⟩
          have hC1 := HPl.out.bel hb1
          have hR0 := (HPl.out.pl.rf.at_.mono (U := fun q => K q ∧ q < n0) (fun q h1 h2 => ⟨h2, by have := HN0.out; omega⟩)).below hb1
          have hfp : ∀ k, FP c cv k → n0 ≤ k ∧ k < v1.heap.size := fun k hk => by have := hcq.at_.fplt hk; have := HN0.out; omega
          have hK1 : ∀ k, n0 ≤ k → k < v1.heap.size → More K wr v1 k := fun k h1 h2 => .inr ⟨by have := HN0.out; omega, h2⟩
          have hK10 : ∀ k, K k → More K wr v1 k := fun k h => .inl h
          obtain ⟨K1, hKe⟩ : ∃ K1, K1 = More K wr v1 := ⟨_, rfl⟩
          rw [← hKe] at hC1 hK1 hK10
          have HKs := Lib.hid (fun k (h : K k) => HPl.out.pl.ks k h)
          have HAct := Lib.hid (act_any (Ka := fun k => k < n0) x hC1.pl.qs hC1.pl.ks ⟨hR0.mono (fun q _ hq => ⟨hK10 q hq.1, hq.2⟩), HPl.out.pl.rf.na, HPl.out.pl.rf.sp, HPl.out.pl.rf.cl, HPl.out.pl.rf.cm⟩ (HX.out.below hC1.bt.below) HX3.out)
          unfold qagg zagg at HAct
          have HC1 := Lib.hid hC1
          have HCQ := Lib.hid hcq
          have HR0 := Lib.hid hR0
          have HFP := Lib.hid hfp
          have HK1 := Lib.hid hK1
          have HK10 := Lib.hid hK10
          obtain ⟨e0, e1⟩ := cell2 hC1.pl.box
          obtain ⟨⟨c0, c1, c2, c3⟩, d0, d1, d2, d3⟩ := hC1.bt.cells
          have hl1 := hC1.bt.lt
          have hn01 : n0 ≤ v1.heap.size := by have := hb1.size; have := HN0.out; omega
          clear hb1 hC1 hR0 hcq hfp hK1 hK10 hKe HCopy
          go_wp2_with (go_at_call 15; fail)
          refine HAct.out.mono ?_
          rintro e v2 ⟨p', bs1, ra1, rc1, K2, rfl, k12, k2s, hq2, hr2, hm2, hby⟩
          unfold qagg
          obtain ⟨v3, hv3⟩ : ∃ W, W = v2.alloc (.cells #[.slice ra1 bs1.length rc1, .int .i64 m] 39) := ⟨_, rfl⟩
          have hb3 : Below v2.heap.size v2 v3 := by rw [hv3]; exact (Below.refl _ v2).alloc (Nat.le_refl _) _
          have hx3 : v3.heap[v2.heap.size]? = some (.cells #[.slice ra1 bs1.length rc1, .int .i64 m] 39 (0, 0)) := by rw [hv3]; exact alloc_blk_new _ _
          obtain ⟨B1, hB1⟩ : ∃ B, B = v2.heap.size := ⟨_, rfl⟩
          have hs2 := hm2.size
          have hs3 := hb3.size
          have hboxB := (hb3.block _ (by have := blk_lt HC1.out.pl.box; omega)).trans ((hm2.block _ (blk_lt HC1.out.pl.box) (fun e => e.1 HC1.out.pl.kb)).trans HC1.out.pl.box)
          have hbt3 := (HC1.out.bt.mod hm2 (fun k e => by
            rcases Nat.lt_or_ge w.heap.size k with hk | hk
            · exact hk
            · obtain rfl : k = w.heap.size := by have := e.2; omega
              exact absurd HC1.out.kt e.1)).bel hb3
          have hcq3 := (HCQ.out.mod hm2 (fun k hk e => e.1 (HK1.out k (HFP.out k hk).1 (HFP.out k hk).2))).below hb3
          have hr3 := (HR0.out.mod hm2 (fun k hk e => e.1 (HK10.out k hk.1))).below hb3
          have hQc : QS w (fun k => w.heap.size ≤ k ∧ k < v3.heap.size ∧ ¬ FP c cv k) c m bs v3 :=
            ⟨hbt3.below, ⟨cv, 0, bs, { hcq3 with at_ := ⟨hcq3.at_.blk, Joins.ownsRow_le hcq3.at_.row hww, hcq3.at_.ne, Nat.le_trans hww hcq3.at_.lo⟩ }, fun k hk => hk.2.2⟩, fun k hk => hk.2.1⟩
          have hact2 := act_any (Ka := fun _ => True) y hQc (fun k h => h.1) ⟨hr3.mono (fun q _ hq => ⟨⟨HKs.out q hq.1, by omega, fun hf => by have := (HFP.out q hf).1; omega⟩, trivial⟩), HC1.out.pl.rf.na, HC1.out.pl.rf.sp, HC1.out.pl.rf.cl, HC1.out.pl.rf.cm⟩ (HY.out.below hbt3.below) HY3.out
          have HAct2 := Lib.hid hact2
          unfold qagg zagg at HAct2
          have HQ3 := Lib.hid (hq2.grow hb3)
          have HK23 : Hid (∀ k, n0 ≤ k → k < v1.heap.size → More K2 v2 v3 k) := Lib.hid (fun k h1 h2 => .inl (k12 _ (HK1.out k h1 h2)))
          have HK3s := Lib.hid (More.ks (u := v2) (v := v3) k2s hq2.below.size)
          have HA3 := Lib.hid ((hr2.at_.mono (U := fun q => (q < n0 ∨ v1.heap.size ≤ q) ∧ q < v2.heap.size) (fun q h1 h2 => ⟨h2.2, h1⟩)).below hb3)
          have HNA := Lib.hid hr2.na
          have HX3b := Lib.hid hx3
          have HBY := Lib.hid (hby HC1.out.by_)
          have HBY0 := Lib.hid HC1.out.by_
          have HB1 := Lib.hid hB1
          have E3 := Lib.hid hv3
          clear e0 e1 c0 c1 c2 c3 d0 d1 d2 d3 hl1
          obtain ⟨e0, e1⟩ := cell2 hboxB
          obtain ⟨⟨c0, c1, c2, c3⟩, d0, d1, d2, d3⟩ := hbt3.cells
          have hl3 := hbt3.lt
          clear hact2 hr2 hq2 hm2 hby k12 k2s hb3 hx3 hv3 hB1 hboxB hbt3 hcq3 hr3 hQc HAct HC1 HCQ HR0 HK1 HK10 HKs HPl
          go_upto_region 11 with fail
          rw [← E3.out, ← HB1.out]
          go_wp2_with (go_at_call 15; fail)
          refine HAct2.out.mono ?_
          rintro e v4 ⟨c', bs2, ra2, rc2, K4, rfl, k34, k4s, hq4, hr4, hm4, hby4⟩
          unfold qagg
          obtain ⟨v5, hv5⟩ : ∃ W, W = v4.alloc (.cells #[.slice ra2 bs2.length rc2, .int .i64 m] 39) := ⟨_, rfl⟩
          have hb5 : Below v4.heap.size v4 v5 := by rw [hv5]; exact (Below.refl _ v4).alloc (Nat.le_refl _) _
          have hx5 : v5.heap[v4.heap.size]? = some (.cells #[.slice ra2 bs2.length rc2, .int .i64 m] 39 (0, 0)) := by rw [hv5]; exact alloc_blk_new _ _
          obtain ⟨B2, hB2⟩ : ∃ B, B = v4.heap.size := ⟨_, rfl⟩
          have hF : ∀ k, k < v3.heap.size → (¬ (w.heap.size ≤ k ∧ k < v3.heap.size ∧ ¬ FP c cv k) ∧ w.heap.size ≤ k) → n0 ≤ k ∧ k < v1.heap.size := fun k h1 e => by
            by_cases hf : FP c cv k
            · exact HFP.out k hf
            · exact absurd ⟨e.2, h1, hf⟩ e.1
          have hCf : Cf w m p' c' bs1 bs2 ra1 rc1 ra2 rc2 B1 B2 v5 := by
            refine ⟨⟨_, (HQ3.out.turn (hm4.mono (fun k h1 e => HK23.out k (hF k h1 e).1 (hF k h1 e).2)) HK3s.out).grow hb5⟩, ⟨_, hq4.grow hb5⟩, (((HA3.out.mono (U := fun q => (q < n0 ∨ v1.heap.size ≤ q) ∧ q < v3.heap.size) (fun q h1 h2 => ⟨h2.1, h1⟩)).mod hm4 (fun k hk e => ?_)).below hb5).mono (fun _ _ _ => trivial), HNA.out, (hr4.at_.below hb5).mono (fun _ _ _ => trivial), hr4.na, ?_, by rw [hB2]; exact hx5⟩
            · have := hF k hk.2 e; have := hk.1; omega
            · have h1 := HX3b.out
              rw [← HB1.out] at h1
              have hl := blk_lt h1
              exact (hb5.block _ (by have := hm4.size; omega)).trans ((hm4.block _ hl (fun e => by have h2 := hF B1 hl e; have h3 := HB1.out; omega)).trans h1)
          have HCf := Lib.hid hCf
          have HBY2 := Lib.hid (hby4 HBY0.out)
          have HB2 := Lib.hid hB2
          have E5 := Lib.hid hv5
          clear hCf hF hb5 hx5 hv5 hB2 hby4 hm4 hr4 hq4 k34 k4s HAct2 HQ3 HK23 HK3s HA3 HNA HX3b HB1 E3 HFP HBY0 e0 e1 c0 c1 c2 c3 d0 d1 d2 d3 hl3 HN0
          go_upto_region 12 with fail
          rw [← E5.out, ← HB2.out]
          clear E5 HB2 HY HX HX3 HY3 E1
          obtain ⟨sm, hsm⟩ : ∃ s, s = decide (bs1 = bs2) := ⟨_, rfl⟩
          obtain ⟨S1, hS1⟩ : ∃ S, S = strOfNums bs1 := ⟨_, rfl⟩
          obtain ⟨S2, hS2⟩ : ∃ S, S = strOfNums bs2 := ⟨_, rfl⟩
          have hs12 : (S1.toList == S2.toList) = sm := by
            rw [hsm, hS1, hS2]
            by_cases e : bs1 = bs2
            · subst e; simp
            · have hne : (strOfNums bs1).toList ≠ (strOfNums bs2).toList := fun h => e (strOfNums_inj HBY.out HBY2.out (by
                rw [ByteArray.toList_eq, ByteArray.toList_eq] at h
                exact ByteArray.ext (Array.ext' h)))
              simp [e, hne]
          have cva := conv_any rc1 HCf.out.a1 HCf.out.n1
          have cvb := conv_any rc2 HCf.out.a2 HCf.out.n2
          rw [← hS1] at cva
          rw [← hS2] at cvb
          obtain ⟨e0, e1⟩ := cell2 HCf.out.x1
          obtain ⟨e2, e3⟩ := cell2 HCf.out.x2
          have hl1 := blk_lt HCf.out.x1
          have hl2 := blk_lt HCf.out.x2
          obtain ⟨mh, hmh⟩ : ∃ mh, mh = m.tdiv 2 := ⟨_, rfl⟩
          have hmh' := hmh.symm
          have hmh0 : 0 ≤ mh ∧ mh ≤ 1048576 ∧ (m = mh ↔ m = 0) := by rw [hmh, Int.tdiv_eq_ediv_of_nonneg (by omega)]; omega
          have hmw : wrap64 mh = mh := by unfold wrap64; omega
          have HMH := Lib.hid hmh0
          have HSM := Lib.hid hsm
          clear hS1 hS2 hsm hmh hmh0
          have HNew2 := Lib.hid (New_qs mh w v5 HMH.out.1 HMH.out.2.1 HCf.out.below)
          go_wp2_with (go_at_call 9; fail)
          refine HNew2.out.mono ?_
          rintro e v6 ⟨o, rfl, hqo, hb6, _⟩
          have C6 := Lib.hid (HCf.out.bel hb6)
          have HQO := Lib.hid hqo
          clear hqo hb6 HNew2 HCf hs12 hmh' hmw cva cvb e0 e1 e2 e3 hl1 hl2
          have HIS1 := Lib.hid (fun (W : World) (h : Cf w m p' c' bs1 bs2 ra1 rc1 ra2 rc2 B1 B2 W) => by
            obtain ⟨K, hk⟩ := h.q1
            exact is_q ra1 bs1.length rc1 99999 hk h.a1)
          have HIS2 := Lib.hid (fun (W : World) (h : Cf w m p' c' bs1 bs2 ra1 rc1 ra2 rc2 B1 B2 W) => by
            obtain ⟨K, hk⟩ := h.q2
            exact is_q ra2 bs2.length rc2 99999 hk h.a2)
          have HSA := Lib.hid (fun (W : World) (h : Cf w m p' c' bs1 bs2 ra1 rc1 ra2 rc2 B1 B2 W) => by
            obtain ⟨K, hk⟩ := h.q1
            obtain ⟨K2, hk2⟩ := h.q2
            exact hk.same hk2)
          have HSB := Lib.hid (fun (W : World) (h : Cf w m p' c' bs1 bs2 ra1 rc1 ra2 rc2 B1 B2 W) => by
            obtain ⟨K, hk⟩ := h.q1
            obtain ⟨K2, hk2⟩ := h.q2
            exact hk2.same hk)
          have HSO := Lib.hid (fun (W : World) (h : Cf w m p' c' bs1 bs2 ra1 rc1 ra2 rc2 B1 B2 W) (hb : Below v6.heap.size v6 W) => by
            obtain ⟨K, hk⟩ := h.q1
            exact hk.same (HQO.out.grow hb))
          unfold qagg at HIS1 HIS2
          rw [show decide (m = m ∧ bs1 = bs2) = sm by rw [HSM.out]; simp] at HSA
          rw [show decide (m = m ∧ bs2 = bs1) = sm by rw [HSM.out]; by_cases e : bs1 = bs2 <;> simp [e, eq_comm]] at HSB
          have hbd : (bs1.length : Int) ≤ m := by
            obtain ⟨K, hk⟩ := C6.out.q1
            exact hk.bounds.2.2
          have hz : (m = 0 ∧ bs1 = []) ∨ (m ≠ 0) := by
            by_cases e : m = 0
            · exact .inl ⟨e, List.eq_nil_of_length_eq_zero (by omega)⟩
            · exact .inr e
          have HZ := Lib.hid hz
          obtain ⟨L, hL⟩ : ∃ L, L = bs1.length := ⟨_, rfl⟩
          have hL2 : L ≤ 1048576 := by omega
          have HLn := Lib.hid hL
          obtain ⟨e0, e1⟩ := cell2 C6.out.x1
          obtain ⟨e2, e3⟩ := cell2 C6.out.x2
          rw [← hL] at e0 HIS1
          have hl1 := blk_lt C6.out.x1
          have hl2 := blk_lt C6.out.x2
          clear hz hbd hL HBY HBY2
          go_wp2_with (first | (go_at_call 10; refine (HNum.out _ _).mono ?_; rintro e w' ⟨rfl, rfl⟩) | (go_at_call 16; fail))
          refine (HIS1.out _ C6.out).mono ?_
          rintro e v7 ⟨rfl, hb7⟩
          have C7 := Lib.hid (C6.out.bel hb7)
          have B7 := Lib.hid hb7
          clear e0 e1 e2 e3 hl1 hl2 hb7
          obtain ⟨e0, e1⟩ := cell2 C7.out.x1
          obtain ⟨e2, e3⟩ := cell2 C7.out.x2
          rw [← HLn.out] at e0
          have hl1 := blk_lt C7.out.x1
          have hl2 := blk_lt C7.out.x2
          go_wp2_with fail
          refine (HIS2.out _ C7.out).mono ?_
          rintro e v8 ⟨rfl, hb8⟩
          have C8 := Lib.hid (C7.out.bel hb8)
          have B8 := Lib.hid (B7.out.trans (hb8.mono B7.out.size))
          clear hb8 e0 e1 e2 e3 hl1 hl2
          go_wp2_with fail
          refine (HSA.out _ C8.out).mono ?_
          rintro e v9' ⟨rfl, q9, hv9⟩
          have C9 : Hid _ := Lib.hid (C8.out.bel (by rw [hv9]; exact Below.drewN' v8 q9) : Cf w m p' c' bs1 bs2 ra1 rc1 ra2 rc2 B1 B2 v9')
          have B9 : Hid (Below v6.heap.size v6 v9') := Lib.hid (by rw [hv9]; exact B8.out.trans ((Below.drewN' v8 q9).mono B8.out.size))
          clear hv9
          go_wp2_with fail
          refine (HSB.out _ C9.out).mono ?_
          rintro e va ⟨rfl, q10, hv10⟩
          have CA : Hid _ := Lib.hid (C9.out.bel (by rw [hv10]; exact Below.drewN' v9' q10) : Cf w m p' c' bs1 bs2 ra1 rc1 ra2 rc2 B1 B2 va)
          have BA : Hid (Below v6.heap.size v6 va) := Lib.hid (by rw [hv10]; exact B9.out.trans ((Below.drewN' v9' q10).mono B9.out.size))
          clear hv10
          obtain ⟨e0, e1⟩ := cell2 CA.out.x1
          rw [← HLn.out] at e0
          have hl1 := blk_lt CA.out.x1
          rcases HZ.out with ⟨hm0', hbn⟩ | hm0'
          · have g1 : (m == 0) = true := by simp [hm0']
            have g2 : L = 0 := by rw [HLn.out, hbn]; rfl
            have g3 : decide (m = mh ∧ bs1 = []) = true := by simp [hbn, HMH.out.2.2.2 hm0']
            rw [g3] at HSO
            subst g2
            clear hm0' hbn g3
            go_wp2_with (first | (go_at_call 18; fail))
            refine (HSO.out _ CA.out BA.out).mono ?_
            rintro e vb ⟨rfl, q11, hv11⟩
            have CB : Hid _ := Lib.hid (CA.out.bel (by rw [hv11]; exact Below.drewN' va q11) : Cf w m p' c' bs1 bs2 ra1 rc1 ra2 rc2 B1 B2 vb)
            clear hv11 e0 e1 hl1
            obtain ⟨e0, e1⟩ := cell2 CB.out.x1
            rw [← HLn.out] at e0
            have hl1 := blk_lt CB.out.x1
            go_wp2_with (first | (go_at_call 8; refine (HWorks.out _).mono ?_; rintro e w' ⟨rfl, hb⟩))
            go_ret
            exact ⟨rfl, CB.out.below.trans (hb.mono CB.out.below.size)⟩
          · have g1 : (m == 0) = false := by simpa using hm0'
            have g3 : decide (m = mh ∧ bs1 = []) = false := by
              have : m ≠ mh := fun e => hm0' (HMH.out.2.2.1 e)
              simp [this]
            rw [g3] at HSO
            clear hm0' g3
            go_wp2_with (first | (go_at_call 18; fail))
            refine (HSO.out _ CA.out BA.out).mono ?_
            rintro e vb ⟨rfl, q11, hv11⟩
            have CB : Hid _ := Lib.hid (CA.out.bel (by rw [hv11]; exact Below.drewN' va q11) : Cf w m p' c' bs1 bs2 ra1 rc1 ra2 rc2 B1 B2 vb)
            clear hv11 e0 e1 hl1
            go_wp2_with (first | (go_at_call 8; refine (HWorks.out _).mono ?_; rintro e w' ⟨rfl, hb⟩))
            go_ret
            exact ⟨rfl, CB.out.below.trans (hb.mono CB.out.below.size)⟩
end Go.Proofs.Ytkikdpfhcepeaaa
