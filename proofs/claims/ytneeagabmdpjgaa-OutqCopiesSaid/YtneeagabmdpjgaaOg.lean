/-
  A queue of frames: Take.
-/
import Derived.Test.YtneeagabmdpjgaaOf
namespace Go.Proofs.Ytneeagabmdpjgaa
open Go.RowKit
set_option linter.unusedVariables false
set_option linter.unusedSimpArgs false

section
variable {w wr : World} {K : Nat → Prop} {p : Nat} {m part : Int} {fs bs : List Int}
theorem OS.take_bad (h : OS w K p m fs part bs wr) (most : Int) (h0 : most < 0) :
    Calls Try.prog 14 #[.pointer (some ⟨p, 0, none⟩), .int .i64 most] wr fun e w' => e = .returned (.tuple #[.slice none 0 0, .int .i64 0, .int .i64 2]) ∧ wr = w' := by
  obtain ⟨sv, g, q, vs, h1, h2, h3, h4, h5, h6⟩ := h.at_
  have HN := Lib.hid (none_o p q wr h1.c3)
  have HT := Lib.hid (h5.take_bad most h0)
  have c3 := h1.c3
  clear h h1 h5 h6 h0
  go_enter Try.func14, Try.ntmps14
  go_wp2_with (first | (go_at_call 28; refine HN.out.mono ?_; rintro e w' ⟨rfl, rfl⟩) | (go_at_call 36; refine HT.out.mono ?_; rintro e w' ⟨rfl, rfl⟩))
  refine bodyPost_ret (v := .tuple #[.slice none 0 0, .int .i64 0, .int .i64 2]) (by simp [results, Try.results14, go_sem, *]) rfl ⟨rfl, rfl⟩
set_option maxHeartbeats 1600000 in
theorem OS.take (h : OS w K p m fs part bs wr) (most : Int) (h0 : 0 ≤ most) (k : Nat) (hk : kOf most bs.length = k) (xs ys : List Int) (hx : bs.take k = xs) (hy : bs.drop k = ys) (j : Nat) (t : Int) (hg : goL fs (part + k) = (j, t)) (gs : List Int) (hgs : fs.drop j = gs) :
    Calls Try.prog 14 #[.pointer (some ⟨p, 0, none⟩), .int .i64 most] wr fun e w' => ∃ a c, e = .returned (.tuple #[.slice a k c, .int .i64 j, .int .i64 0]) ∧
      w'.ownsRow wr.heap.size 5 1 (.slice a k c) k (xs.map (.int .u8)) ∧ OS w (More K wr w') p m gs t ys w' ∧ Mod (fun k => ¬ K k ∧ w.heap.size ≤ k) wr w' := by
  obtain ⟨hm0, hm1, hbm⟩ := h.bounds
  have hkl := kOf_le most bs.length
  rw [hk] at hkl
  obtain ⟨hinv, hjl⟩ := h.inv.take k hkl j t hg
  rw [hgs, hy] at hinv
  have hpl := h.inv.part_le
  have hsum := h.inv.sum
  have hp0 := h.inv.p0
  have hkle : k ≤ 1048576 := by omega
  obtain ⟨sv, g, q, vs, h1, h2, h3, h4, h5, h6⟩ := h.at_
  have HN := Lib.hid (none_o p q wr h1.c3)
  have HT := Lib.hid (h5.take most h0 k hk xs ys hx hy)
  have c3 := h1.c3
  have hpart : part ≤ 1099511627776 := by have := h.inv.part_big; omega
  have HI := Lib.hid hinv
  have HJ := Lib.hid hjl
  have HP0 := Lib.hid (And.intro hp0 (And.intro h.inv.pos hg))
  have HH := Lib.hid h
  have H1 := Lib.hid h1
  have H6 := Lib.hid (And.intro h2 (And.intro h3 (And.intro h4 h6)))
  have HGS := Lib.hid hgs
  clear h h1 h5 h6 h2 h3 h4 hx hy hg hgs hk hinv hjl hpl hsum hp0 hkl
  go_enter Try.func14, Try.ntmps14
  go_wp2_with (first | (go_at_call 28; refine HN.out.mono ?_; rintro e w' ⟨rfl, rfl⟩) | (go_at_call 36; fail))
  refine HT.out.mono ?_
  rintro e w1 ⟨a, c, rfl, hrow, hq, hm⟩
  obtain ⟨h2, h3, h4, h6⟩ := H6.out
  obtain ⟨hp0, hpos, hg⟩ := HP0.out
  have hq1 := H1.out.mod hm (fun k hf e => e.1 (.inr hf))
  have HGo := Lib.hid (goes_any _ p g q part m k sv vs w1 hq1 h2 (by omega) (by rw [h4]; exact fun x hx => Int.le_of_lt (hpos x hx)) hp0 (by omega) (by omega) j t (by rw [h4]; exact hg))
  have HQ := Lib.hid hq
  have HM := Lib.hid hm
  have HR := Lib.hid hrow
  clear hrow hq hm h2 h3 h4 h6 hp0 hpos hg hq1 HT
  go_wp2_with (go_at_call 37; fail)
  refine HGo.out.mono ?_
  rintro e w2 ⟨rfl, hq2, hgj, hm2⟩
  have HQ2 := Lib.hid (And.intro hq2 (And.intro hgj hm2))
  clear hq2 hgj hm2 HGo
  go_wp2
  refine bodyPost_ret (v := .tuple #[.slice a k c, .int .i64 j, .int .i64 0]) (by simp [results, Try.results14, go_sem, *]) rfl ⟨a, c, rfl, ?_⟩
  obtain ⟨hq2, hgj, hm2⟩ := HQ2.out
  obtain ⟨h2, h3, h4, h6⟩ := H6.out
  have hpw := H1.out.lt
  have hs1 := HM.out.size
  have hs2 := hm2.size
  have hq4 := HQ.out.turn2 hm2 (fun k e => .inl (.inr (.inl e))) (fun k e => by have := H1.out.lo; omega)
  refine ⟨hm2.row HR.out (fun k hk e => by have := (HR.out.lt k hk).1; omega), ⟨⟨sv, g + j, q, vs, hq2, hgj, h3, by rw [← List.drop_drop, h4]; exact HGS.out, hq4.mono fun k hk => ?_, fun k hk hf => ?_⟩, fun k hk => ?_, HI.out⟩, (HM.out.mono fun k _ e => ⟨fun e' => e.1 (.inl e'), e.2⟩).trans hm2 (fun k _ e => ⟨fun e' => h6 k e' (.inl e), by have := H1.out.lo; omega⟩)⟩
  · rcases hk with hk | hf
    · rcases hk with hk | hk
      · exact .inl (.inl (.inl hk))
      · rcases Nat.lt_or_ge k w1.heap.size with h | h
        · exact .inl (.inr ⟨hk.1, h⟩)
        · exact .inr ⟨h, hk.2⟩
    · exact .inl (.inl (.inr hf))
  · rcases hk with hk | hk
    · exact h6 k hk hf
    · have := (H1.out.fplt hf).2; omega
  · rcases hk with hk | hk
    · have := HH.out.klt k hk; omega
    · exact hk.2
end
end Go.Proofs.Ytneeagabmdpjgaa
