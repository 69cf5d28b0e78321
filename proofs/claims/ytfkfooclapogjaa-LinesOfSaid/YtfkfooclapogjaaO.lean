/-
  A decoder: Write, End, Waits, Copy.
-/
import Derived.Test.YtfkfooclapogjaaN
namespace Go.Proofs.Ytfkfooclapogjaa
open Go.RowKit
set_option linter.unusedVariables false
set_option linter.unusedSimpArgs false

/-- What stands between two points that Write tells. -/
structure Wj (wr : World) (X D : Nat) (B : Nat → Prop) (pre : List (Nat × Int)) (V : World) : Prop where
  v : ∃ v, V.heap[X]? = some (.cells #[v] 85 (0, 0)) ∧ V.ownsRow wr.heap.size 3 1 v (pre.map (·.2)).length ((pre.map (·.2)).map (.int .i64)) ∧ ∀ k, v.ownBlock = some k → k ≠ X ∧ k ≠ D ∧ ¬ B k
  md : Mod (fun k => k = D) wr V
  c1 : V.cell? ⟨D, 1, none⟩ = some (.bool true)
  bx : ¬ B X
  bl : ∀ k, B k → k < V.heap.size
theorem told_len (zs : List Int) : ∀ a, (told a zs).1.length + (told a zs).2.length ≤ zs.length := by
  induction zs using told_ind with
  | h0 => intro a; simp [told_nil]
  | hw zs h0 h => intro a; rw [told_wait a zs h0 h]; simp
  | hs zs h0 h ih =>
    intro a
    have hn := F_len zs h0
    rw [told_step a zs h0 h]
    have := ih (a + (F zs).2.1)
    rw [List.length_drop] at this
    simp only [List.length_cons]
    omega

set_option maxHeartbeats 1600000 in
set_option maxRecDepth 100000 in
theorem DS.write {w wr : World} {K U : Nat → Prop} {D : Nat} {zs bs : List Int} (h : DS w K D zs wr) (bo : Option Addr) (m c : Nat) (hb : Arg U wr bo m bs) (hbn : bo = none → m = 0 ∧ c = 0) (hby : Byt bs) (hm : m ≤ 1000000) :
    Calls Try.prog 24 #[.pointer (some ⟨D, 0, none⟩), .slice bo m c] wr fun e w' => e = .returned (.tuple #[.string (strOfNums (enc (pts (zs ++ bs)))), .int .i64 0]) ∧ DS w K D (wts (zs ++ bs)) w' ∧ Mod (fun k => k = D) wr w' := by
  obtain ⟨ao, n, cap, hwb⟩ := h.wb
  have hD := hwb.lt
  have hzl := hwb.arg.1
  have hl3 := h.l3
  have hlo := h.lo
  have HN := Lib.hid (none_d D wr h.c1)
  obtain ⟨w1, hw1⟩ : ∃ W, W = wr.alloc (.cells #[.slice none 0 0] 85) := ⟨_, rfl⟩
  obtain ⟨X, hX⟩ : ∃ X, X = wr.heap.size := ⟨_, rfl⟩
  have b1 : Below wr.heap.size wr w1 := by rw [hw1]; exact (Below.refl _ wr).alloc (Nat.le_refl _) _
  have k1 : w1.heap[X]? = some (.cells #[.slice none 0 0] 85 (0, 0)) := by rw [hw1, hX]; exact alloc_blk_new _ _
  have hT0 : ∀ k, (w.heap.size ≤ k ∧ ¬ K k ∧ k ≠ D) ∧ k < wr.heap.size → k ≠ D := fun k hk => hk.1.2.2
  have hwb1 : Wb (fun k => (w.heap.size ≤ k ∧ ¬ K k ∧ k ≠ D) ∧ k < wr.heap.size) w1 D ao n cap zs := { (hwb.below b1) with arg := (hwb.arg.mono (fun k h1 h2 => ⟨h2, h1⟩)).below b1 }
  have hlen : (told 0 (zs ++ bs)).1.length ≤ 1000003 := by have := told_len (zs ++ bs) 0; rw [List.length_append] at this; have := hb.1; omega
  have hTold := told_33 (T := fun k => (w.heap.size ≤ k ∧ ¬ K k ∧ k ≠ D) ∧ k < wr.heap.size) D X ao bo n cap m c zs bs w1 hwb1 hT0 h.by_ (hb.below b1) hbn hby (by omega) (Wj wr X D) (fun _ _ _ => False)
    (fun B pre V V' hJ hM hc => by
      obtain ⟨v, h1, h2, h3⟩ := hJ.v
      exact ⟨⟨v, (hM.block X (blk_lt h1) (by omega)).trans h1, hM.row h2 (fun k hk e => (h3 k hk).2.1 e), h3⟩, hJ.md.trans hM (fun _ _ e => e), hc.trans hJ.c1, hJ.bx, fun k hk => Nat.lt_of_lt_of_le (hJ.bl k hk) hM.size⟩)
    (fun B V hM hc hB => by
      have hb1s := b1.size
      refine ⟨⟨.slice none 0 0, (hM.block X (blk_lt k1) (by omega)).trans k1, by simpa using World.ownsRow_nil V wr.heap.size 3 1, fun k hk => by simp [Value.ownBlock] at hk⟩, (Mod.of_below b1 _).trans hM (fun _ _ e => e), hc.trans ((b1.cell (p := ⟨D, 1, none⟩) hD).trans h.c1), fun hx => ?_, fun k hk => ?_⟩
      · rcases hB with hB | ⟨G, h1, h2, h3⟩
        · have := ((hB X).1 hx).2; omega
        · have := (h3 X).1 hx; have := blk_lt k1; omega
      · rcases hB with hB | ⟨G, h1, h2, h3⟩
        · have := ((hB k).1 hk).2; have := hM.size; omega
        · have := (h3 k).1 hk; omega)
    (fun B pre x V hJ hp => by
      obtain ⟨v, h1, h2, h3⟩ := hJ.v
      have hpl := hp.length_le
      rw [List.length_append] at hpl
      refine (Write1_any X wr.heap.size x.1 x.2 v (pre.map (·.2)) V h1 h2 (fun k hk => (h3 k hk).1) hJ.md.size (by rw [List.length_map]; omega)).mono ?_
      rintro e V' ⟨rfl, v', g1, g2, g3, g4⟩
      have hXV := blk_lt h1
      have hDV := Nat.lt_of_lt_of_le hD hJ.md.size
      have hDX : D ≠ X := by omega
      have hM : Mod (fun k => k ≠ D ∧ ¬ B k) V V' := g4.mono (fun k _ e => by
        rcases e with e | e
        · exact ⟨by omega, fun hb => hJ.bx (e ▸ hb)⟩
        · exact (h3 k e).2)
      refine ⟨⟨hM.size, fun k hk hl => hM.block k hl (fun e => hk.elim e.1 e.2)⟩, .inl ⟨rfl, ⟨⟨v', g1, by simpa using g2, fun k hk => ?_⟩, ?_, (hM.cell (p := ⟨D, 1, none⟩) hDV (fun e => e.1 rfl)).trans hJ.c1, hJ.bx, fun k hk => Nat.lt_of_lt_of_le (hJ.bl k hk) hM.size⟩⟩⟩
      · obtain ⟨e1, e2⟩ := g3 k hk
        refine ⟨e1, ?_, fun hb => ?_⟩
        · rcases e2 with e2 | e2
          · exact (h3 k e2).2.1
          · omega
        · rcases e2 with e2 | e2
          · exact (h3 k e2).2.2 hb
          · have := hJ.bl k hb; omega
      · refine hJ.md.trans (g4.mono (T := fun k => wr.heap.size ≤ k) (fun k _ e => ?_)) (fun k hk e => by omega)
        rcases e with e | e
        · omega
        · exact (h2.lt k e).1)
  have HTold := Lib.hid hTold
  have HH := Lib.hid h
  have E1 := Lib.hid hw1
  have HX := Lib.hid hX
  have HBy : Hid (Byt (zs ++ bs)) := Lib.hid (Byt.append.2 ⟨h.by_, hby⟩)
  have HB1 := Lib.hid b1
  clear hTold h hwb hwb1 hb hbn hby hw1 b1 k1 hT0 hX
  go_enter Try.func24, Try.ntmps24
  go_wp2_with (first | (go_at_call 37; refine HN.out.mono ?_; rintro e w' ⟨rfl, rfl⟩) | (go_at_call 38; fail))
  rw [← E1.out, ← HX.out]
  refine HTold.out.mono ?_
  rintro e w2 ⟨⟨v, rfl⟩, B, a', n', c', zs', hwb2, hB, ⟨hJ, rfl⟩ | ⟨pre, _, hf⟩⟩
  · obtain ⟨v, h1, h2, h3⟩ := hJ.v
    rw [told_pts] at h2
    obtain ⟨so, sc, rfl⟩ := row_slice h2
    have hI := row_ints h2
    have hIl := hI.1
    have c0 := cell_blk h1 0 (.slice so (pts (zs ++ bs)).length sc) rfl
    have hXl := blk_lt h1
    have hpl : (pts (zs ++ bs)).length ≤ 1000003 := by rw [← told_pts 0, List.length_map]; exact hlen
    have hjo := joined_any so _ sc (pts (zs ++ bs)) w2 hI (pts_pt _ HBy.out) (by omega)
    have HJo := Lib.hid hjo
    have HM2 := Lib.hid hJ.md
    have HC1 := Lib.hid hJ.c1
    have HWb := Lib.hid hwb2
    have HBB := Lib.hid hB
    have hw : (told 0 (zs ++ bs)).2 = wts (zs ++ bs) := rfl
    obtain ⟨nn, hnn⟩ : ∃ nn, nn = (pts (zs ++ bs)).length := ⟨_, rfl⟩
    rw [← hnn] at c0 HJo
    clear hjo hI h1 h2 h3 hJ hwb2 hB hIl hnn HTold
    dsimp only
    go_wp2_with (go_at_call 40; fail)
    refine HJo.out.mono ?_
    rintro e w3 ⟨rfl, hb3⟩
    have hs3 := hb3.size
    have hM3 : Mod (fun k => k = D) wr w3 := HM2.out.trans (Mod.of_below hb3 _) (fun _ _ e => e)
    have HM3 := Lib.hid hM3
    have hD2 := HWb.out.lt
    have HC3 := Lib.hid ((hb3.cell (p := ⟨D, 1, none⟩) hD2).trans HC1.out)
    have HW3 := Lib.hid (HWb.out.below hb3)
    clear hb3 hM3 HJo HWb HM2 HC1
    go_wp2
    go_ret2
    have hwl := wts_len (zs ++ bs)
    refine ⟨rfl, ⟨(Mod.trans (S := fun k => w.heap.size ≤ k) (Mod.of_below HH.out.below _) HM3.out (fun k _ e => by omega)).below (fun k hk => by omega), HH.out.lo, HH.out.nk, fun k hk => Nat.lt_of_lt_of_le (HH.out.klt k hk) HM3.out.size, ⟨a', n', c', { HW3.out with arg := HW3.out.arg.mono fun k _ hk => ?_ }⟩, HC3.out, wts_byt HBy.out, hwl.2.1⟩, HM3.out⟩
    rcases HBB.out with hB | ⟨G, h1, h3⟩
    · exact ((hB k).1 hk).1
    · have := (h3 k).1 hk
      have h4 := HB1.out.size
      have h5 := HH.out.below.size
      exact ⟨by omega, fun e => by have := HH.out.klt k e; omega, by omega⟩
  · exact hf.elim
end Go.Proofs.Ytfkfooclapogjaa
