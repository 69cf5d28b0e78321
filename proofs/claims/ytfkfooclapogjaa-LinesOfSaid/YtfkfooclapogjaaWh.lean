/-
  A splitter as its callers know it: New, Write.
-/
import Derived.Test.YtfkfooclapogjaaWg
namespace Go.Proofs.Ytfkfooclapogjaa
open Go.RowKit
set_option linter.unusedVariables false
set_option linter.unusedSimpArgs false

/-- A splitter: zs waits in its decoder, s is its state. K: blocks that are none of its own. -/
structure LS (w : World) (K : Nat → Prop) (p D most : Nat) (zs : List Int) (s : Ss) (wr : World) : Prop where
  kp : ¬ K p
  lo : w.heap.size ≤ p
  m0 : 1 ≤ most
  m1 : most ≤ 65536
  bc : s.2.1 = false → s.2.2 = false
  at_ : ∃ a n c, DS w (fun k => K k ∨ k = p) D zs wr ∧ SpAt wr p D most a n c s.2.1 s.2.2 ∧ Ln (fun k => w.heap.size ≤ k ∧ ¬ K k ∧ k ≠ p ∧ k ≠ D) wr a n c (s.1.take (most + 1))
theorem LS.below {w wr : World} {K : Nat → Prop} {p D most : Nat} {zs : List Int} {s : Ss} (h : LS w K p D most zs s wr) : Below w.heap.size w wr := by
  obtain ⟨a, n, c, hd, _⟩ := h.at_
  exact hd.below
theorem LS.klt {w wr : World} {K : Nat → Prop} {p D most : Nat} {zs : List Int} {s : Ss} (h : LS w K p D most zs s wr) : ∀ k, K k → k < wr.heap.size := by
  obtain ⟨a, n, c, hd, _⟩ := h.at_
  exact fun k hk => hd.klt k (.inl hk)
theorem LS.lt {w wr : World} {K : Nat → Prop} {p D most : Nat} {zs : List Int} {s : Ss} (h : LS w K p D most zs s wr) : p < wr.heap.size := by
  obtain ⟨a, n, c, hd, hs, _⟩ := h.at_
  exact blk_lt hs.blk
theorem LS.lt2 {w wr : World} {K : Nat → Prop} {p D most : Nat} {zs : List Int} {s : Ss} (h : LS w K p D most zs s wr) : D < wr.heap.size := by
  obtain ⟨a, n, c, hd, hs, _⟩ := h.at_
  exact hd.lt
theorem LS.lo2 {w wr : World} {K : Nat → Prop} {p D most : Nat} {zs : List Int} {s : Ss} (h : LS w K p D most zs s wr) : w.heap.size ≤ D := by
  obtain ⟨a, n, c, hd, hs, _⟩ := h.at_
  exact hd.lo
theorem LS.kD {w wr : World} {K : Nat → Prop} {p D most : Nat} {zs : List Int} {s : Ss} (h : LS w K p D most zs s wr) : ¬ K D := by
  obtain ⟨a, n, c, hd, hs, _⟩ := h.at_
  exact fun e => hd.nk (.inl e)
theorem LS.byt {w wr : World} {K : Nat → Prop} {p D most : Nat} {zs : List Int} {s : Ss} (h : LS w K p D most zs s wr) : Byt zs := by
  obtain ⟨a, n, c, hd, hs, _⟩ := h.at_
  exact hd.by_
theorem LS.l3 {w wr : World} {K : Nat → Prop} {p D most : Nat} {zs : List Int} {s : Ss} (h : LS w K p D most zs s wr) : zs.length ≤ 3 := by
  obtain ⟨a, n, c, hd, hs, _⟩ := h.at_
  exact hd.l3
theorem LS.mono {w wr : World} {K L : Nat → Prop} {p D most : Nat} {zs : List Int} {s : Ss} (h : LS w K p D most zs s wr) (hl : ∀ k, L k → K k) : LS w L p D most zs s wr := by
  obtain ⟨a, n, c, hd, hs, hn⟩ := h.at_
  exact ⟨fun e => h.kp (hl _ e), h.lo, h.m0, h.m1, h.bc, a, n, c, hd.mono (fun k e => e.imp (hl k) id), hs, hn.mono (fun k _ e => ⟨e.1, fun e' => e.2.1 (hl k e'), e.2.2⟩)⟩
/-- Behind whatever leaves all blocks but those of K as they were, or new. -/
theorem LS.turn {w wr w' : World} {K : Nat → Prop} {p D most : Nat} {zs : List Int} {s : Ss} (h : LS w K p D most zs s wr) (hm : Mod K wr w') (hk : ∀ k, K k → w.heap.size ≤ k) : LS w (More K wr w') p D most zs s w' := by
  have hlt := h.lt
  have hkl := h.klt
  obtain ⟨a, n, c, hd, hs, hn⟩ := h.at_
  have hD := hd.lt
  have hdt := hd.turn (hm.mono (T := fun k => K k ∨ k = p) (fun k _ e => .inl e)) (fun k e => e.elim (hk k) (fun e => e ▸ h.lo))
  refine ⟨fun e => ?_, h.lo, h.m0, h.m1, h.bc, a, n, c, hdt.mono (fun k e => ?_), hs.mod hm h.kp, (hn.mono (U := fun k => k < wr.heap.size ∧ w.heap.size ≤ k ∧ ¬ K k ∧ k ≠ p ∧ k ≠ D) (fun k h1 e => ⟨h1, e⟩)).mod hm (fun k e => e.2.2.1) |>.mono (fun k h1 e => ⟨e.2.1, fun e' => ?_, e.2.2.2⟩)⟩
  · rcases e with e | e
    · exact h.kp e
    · omega
  · rcases e with (e | e) | rfl
    · exact .inl (.inl e)
    · exact .inr e
    · exact .inl (.inr rfl)
  · rcases e' with e' | e'
    · exact e.2.2.1 e'
    · omega
theorem LS.grow {w wr w' : World} {K : Nat → Prop} {p D most : Nat} {zs : List Int} {s : Ss} (h : LS w K p D most zs s wr) (hb : Below wr.heap.size wr w') : LS w (More K wr w') p D most zs s w' := by
  have hlt := h.lt
  have hkl := h.klt
  obtain ⟨a, n, c, hd, hs, hn⟩ := h.at_
  have hD := hd.lt
  have hdt := hd.grow hb
  refine ⟨fun e => ?_, h.lo, h.m0, h.m1, h.bc, a, n, c, hdt.mono (fun k e => ?_), hs.below hb, (hn.mono (U := fun k => k < wr.heap.size ∧ w.heap.size ≤ k ∧ ¬ K k ∧ k ≠ p ∧ k ≠ D) (fun k h1 e => ⟨h1, e⟩)).below hb |>.mono (fun k h1 e => ⟨e.2.1, fun e' => ?_, e.2.2.2⟩)⟩
  · rcases e with e | e
    · exact h.kp e
    · omega
  · rcases e with (e | e) | rfl
    · exact .inl (.inl e)
    · exact .inr e
    · exact .inl (.inr rfl)
  · rcases e' with e' | e'
    · exact e.2.2.1 e'
    · omega

theorem DS.turnS {w wr w' : World} {K S : Nat → Prop} {D : Nat} {zs : List Int} (h : DS w K D zs wr) (hm : Mod S wr w') (hS : ∀ k, S k → K k ∧ w.heap.size ≤ k) : DS w (More K wr w') D zs w' := by
  have hmk := hm.mono (T := K) (fun k _ e => (hS k e).1)
  obtain ⟨ao, n, cap, hw⟩ := h.wb
  have hlt := hw.lt
  refine ⟨(Mod.trans (S := fun k => w.heap.size ≤ k) (Mod.of_below h.below _) hm (fun k _ e => (hS k e).2)).below (fun k hk => by omega), h.lo, fun e => ?_, fun k e => ?_, ⟨ao, n, cap, ?_⟩, (hmk.cell (p := ⟨D, 1, none⟩) hlt h.nk).trans h.c1, h.by_, h.l3⟩
  · rcases e with e | e
    · exact h.nk e
    · omega
  · rcases e with e | e
    · exact Nat.lt_of_lt_of_le (h.klt k e) hm.size
    · exact e.2
  · have hw2 := hw.mod hmk h.nk (fun k hk e => hk.2.1 e)
    have ha := (hw.arg.mono (U := fun k => (w.heap.size ≤ k ∧ ¬ K k ∧ k ≠ D) ∧ k < wr.heap.size) (fun k h1 h2 => ⟨h2, h1⟩)).mod hmk (fun k hk e => hk.1.2.1 e)
    exact { hw2 with arg := ha.mono fun k _ hk => ⟨hk.1.1, fun e => by
      rcases e with e | e
      · exact hk.1.2.1 e
      · have := hk.2; omega, hk.1.2.2⟩ }
theorem runP_bc (s : Ss) (ps : List Int) (h : s.2.1 = false → s.2.2 = false) : (runP s ps).2.2.1 = false → (runP s ps).2.2.2 = false := by
  induction ps generalizing s with
  | nil => exact h
  | cons p ps ih =>
    simp only [runP]
    refine ih _ ?_
    unfold stepP
    split
    · exact fun e => by cases e
    · split
      · exact fun e => by cases e
      · split
        · exact fun e => by cases e
        · exact fun e => by cases e

theorem New_bad (m : Int) (w : World) (h : m < 1 ∨ 65536 < m) : Calls Try.prog 7 #[.int .i64 m] w fun e w' => e = .returned (.tuple #[.pointer none, .int .i64 2]) ∧ w = w' := by
  rcases Int.lt_or_le m 1 with h1 | h1
  · have d1 : decide (m < 1) = true := by simpa using h1
    go_enter Try.func7, Try.ntmps7
    go_wp2
    refine wp_scope_fwd 0 rfl ?_
    go_wp2
    refine wp_goto ?_
    refine ⟨rfl, ?_⟩
    go_wp2
    rw [Exit.noGoto_ret]
    go_ret2
    exact ⟨rfl, rfl⟩
  · have d1 : decide (m < 1) = false := by simp; omega
    have d2 : decide (65536 < m) = true := by simp; omega
    go_enter Try.func7, Try.ntmps7
    go_wp2
    refine wp_scope_fwd 0 rfl ?_
    go_wp2
    refine wp_goto ?_
    refine ⟨rfl, ?_⟩
    go_wp2
    rw [Exit.noGoto_ret]
    go_ret2
    exact ⟨rfl, rfl⟩
theorem New_ls (most : Nat) (w w0 : World) (h0 : 1 ≤ most) (h1 : most ≤ 65536) (hb : Below w.heap.size w w0) :
    Calls Try.prog 7 #[.int .i64 most] w0 fun e w' => ∃ p D, e = .returned (.tuple #[.pointer (some ⟨p, 0, none⟩), .int .i64 0]) ∧ LS w (fun k => w.heap.size ≤ k ∧ k < w0.heap.size) p D most [] ([], false, false) w' ∧ Below w0.heap.size w0 w' ∧ w0.heap.size ≤ p ∧ w0.heap.size ≤ D := by
  have HN := Lib.hid (New_ds w w0 hb)
  have hs0 := hb.size
  have d1 : decide ((most : Int) < 1) = false := by simp; omega
  have d2 : decide (65536 < (most : Int)) = false := by simp; omega
  clear hb
  go_enter Try.func7, Try.ntmps7
  go_wp2
  refine wp_scope_fwd 0 rfl ?_
  go_wp2_with (go_at_call 22; fail)
  refine HN.out.mono ?_
  rintro e w1 ⟨D, rfl, hd, hb1, hD⟩
  have HD := Lib.hid hd
  have HB1 := Lib.hid hb1
  have HQ0 := Lib.hid hD
  clear hd hb1 hD HN
  go_wp2
  show Exit.noGoto _ Exit.ret _ _
  rw [Exit.noGoto_ret]
  go_ret2
  have hb2 : Below w1.heap.size w1 (w1.alloc (.cells #[.pointer (some ⟨D, 0, none⟩), .int .i64 most, .slice none 0 0, .bool false, .bool false] 60)) := (Below.refl _ w1).alloc (Nat.le_refl _) _
  have hb1 := HB1.out.size
  have hds := (HD.out.grow hb2)
  have hlo := HD.out.lo
  refine ⟨w1.heap.size, D, rfl, ⟨by omega, by omega, h0, h1, fun _ => rfl, none, 0, 0, hds.mono fun k hk => ?_, ⟨alloc_blk_new _ _⟩, Ln.nil _ _⟩, HB1.out.trans (hb2.mono hb1), hb1, HQ0.out⟩
  rcases hk with hk | rfl
  · exact .inl hk
  · exact .inr (by simp)

set_option maxHeartbeats 1600000 in
theorem Write_ls {w wr : World} {K U : Nat → Prop} {p D most : Nat} {zs bs : List Int} {s : Ss} (h : LS w K p D most zs s wr) (bo : Option Addr) (m c : Nat) (hb : Arg U wr bo m bs) (hbn : bo = none → m = 0 ∧ c = 0) (hby : Byt bs) (hm : m ≤ 100000) :
    Calls Try.prog 8 #[.pointer (some ⟨p, 0, none⟩), .slice bo m c] wr fun e w' => ∃ ra rc, e = .returned (.tuple #[.slice ra (runP s (pts (zs ++ bs))).1.length rc, .int .i64 0]) ∧ w'.ownsRow wr.heap.size 35 2 (.slice ra (runP s (pts (zs ++ bs))).1.length rc) (runP s (pts (zs ++ bs))).1.length (tolds most (runP s (pts (zs ++ bs))).1) ∧
      LS w K p D most (wts (zs ++ bs)) (runP s (pts (zs ++ bs))).2 w' ∧ Mod (fun k => k = p ∨ k = D) wr w' := by
  have hl3 := h.l3
  have hbz := h.byt
  obtain ⟨a, n, c0, hd, hsp, hln⟩ := h.at_
  have hbl : bs.length = m := hb.1
  have HW := Lib.hid (hd.write bo m c hb hbn hby (by omega))
  have hc := hsp.cells
  obtain ⟨g0, g1, _, _, _, _, lp⟩ := hc
  have HNo := Lib.hid (none_s p most wr (by have := h.m0; omega) g1)
  obtain ⟨ps, hps⟩ : ∃ l, l = pts (zs ++ bs) := ⟨_, rfl⟩
  have hpt : ∀ q ∈ ps, Pt q := by rw [hps]; exact pts_pt _ (fun x hx => by rcases List.mem_append.1 hx with e | e; exact hbz x e; exact hby x e)
  have hpl : (enc ps).length ≤ 900000 := by
    have h1 := enc_len ps
    have h2 := pts_len (zs ++ bs)
    rw [List.length_append] at h2
    rw [← hps] at h2
    omega
  rw [← hps] at HW ⊢
  obtain ⟨S, hS⟩ : ∃ x, x = strOfNums (enc ps) := ⟨_, rfl⟩
  rw [← hS] at HW
  have HH := Lib.hid h
  have HSP := Lib.hid hsp
  have HLN := Lib.hid hln
  have HS := Lib.hid (And.intro hS (And.intro hpt hpl))
  clear hl3 hbz hd hsp hln hbl hb hbn hby hm h hps hpt hpl hS
  go_enter Try.func8, Try.ntmps8
  go_wp2_with (first | (go_at_call 23; refine HNo.out.mono ?_; rintro e w' ⟨rfl, rfl⟩) | (go_at_call 24; fail))
  refine HW.out.mono ?_
  rintro e w1 ⟨rfl, hd1, hm1⟩
  have hDp : D ≠ p := fun e => hd1.nk (.inr e)
  have hkl := HH.out.klt
  have hlo := HH.out.lo
  have hDlo := hd1.lo
  have hs1 := hm1.size
  have hsp1 := HSP.out.mod hm1 (fun e => hDp e.symm)
  have hln1 := HLN.out.mod hm1 (fun k e h => e.2.2.2 h)
  obtain ⟨⟨Ls, L', bg', cr'⟩, hr⟩ : ∃ x, runP s ps = x := ⟨_, rfl⟩
  have HL := Lib.hid (lines_any p D most a n c0 s.2.1 s.2.2 s.1 ps w1 hsp1 hln1 (fun k e => e.2.2.1) HH.out.bc HS.out.2.1 HH.out.m1 HS.out.2.2 Ls L' bg' cr' hr)
  rw [← HS.out.1] at HL
  have HD1 := Lib.hid hd1
  have HM1 := Lib.hid hm1
  have HR := Lib.hid hr
  clear hd1 hm1 hsp1 hln1 hr HW g0 g1
  go_wp2_with (go_at_call 25; fail)
  refine HL.out.mono ?_
  rintro e w2 ⟨ra, rc, a', n', c', rfl, hrow, hsp2, hln2, hm2⟩
  have H2 := Lib.hid (And.intro hrow (And.intro hsp2 (And.intro hln2 hm2)))
  clear hrow hsp2 hln2 hm2 HL
  go_wp2
  go_ret2
  obtain ⟨hrow, hsp2, hln2, hm2⟩ := H2.out
  rw [HR.out]
  have hs2 := hm2.size
  have hd2 := HD1.out.turnS hm2 (fun k e => ⟨.inr e, by subst e; exact hlo⟩)
  have hbc' : bg' = false → cr' = false := by
    have := runP_bc s ps HH.out.bc
    rw [HR.out] at this
    exact this
  refine ⟨ra, rc, rfl, hrow.mono hs1, ⟨HH.out.kp, hlo, HH.out.m0, HH.out.m1, hbc', a', n', c', hd2.mono (fun k e => .inl e), hsp2, hln2.mono (fun k h1 e => ?_)⟩, ?_⟩
  · rcases e with e | e
    · exact e.1
    · exact ⟨by omega, fun e' => by have := hkl k e'; omega, by omega, by have := HD1.out.lt; omega⟩
  · exact (HM1.out.mono (T := fun k => k = p ∨ k = D) (fun k _ e => .inr e)).trans (hm2.mono (T := fun k => k = p ∨ k = D) (fun k _ e => .inl e)) (fun k _ e => e)
end Go.Proofs.Ytfkfooclapogjaa
