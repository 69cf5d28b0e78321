/-
  A call by both, whatever it is; both queues as the laws carry them.
-/
import Derived.Test.YtneeagabmdpjgaaPh
import Derived.Test.YtneeagabmdpjgaaPi
import Derived.Test.YtneeagabmdpjgaaPk
import Derived.Test.YtneeagabmdpjgaaPm
import Derived.Test.YtneeagabmdpjgaaPn
import Derived.Test.YtneeagabmdpjgaaPo
import Derived.Test.YtneeagabmdpjgaaIs
namespace Go.Proofs.Ytneeagabmdpjgaa
open Go.RowKit
set_option linter.unusedVariables false
set_option linter.unusedSimpArgs false

theorem act_any {w u0 : World} {K Ka : Nat → Prop} {p : Nat} {m part : Int} {fs bs : List Int} {ra : Option Addr} {rc g n : Nat} {ls : List (List Int)} (z : OV) (h : OS w K p m fs part bs u0) (hK : ∀ k, K k → w.heap.size ≤ k) (hd : DQ (fun q => K q ∧ Ka q) u0 ra rc ls) (hnl : ls.length = n) (ht : Tie ls g fs part bs) (hn : n ≤ 90000) (hz : z.Ok (fun k => k < w.heap.size) u0) (hf : Few z) :
    Calls Try.prog 19 #[.pointer (some ⟨p, 0, none⟩), dagg ra n rc g m, zagg z] u0 (Acted w K Ka m ls u0) := by
  by_cases h0 : z.what = 0
  · exact act_push0 z h hK hd hnl ht hn hz hf h0
  by_cases h1 : z.what = 1
  · exact act_push1 z h hK hd hnl ht hn hz hf h1
  by_cases h2 : z.what = 2
  · exact act_push2 z h hK hd hnl ht hn hz hf h2
  by_cases h3 : z.what = 3
  · exact act_take3 z h hK hd hnl ht hn hz hf h3
  by_cases h4 : z.what = 4
  · exact act_take4 z h hK hd hnl ht hn hz hf h4
  by_cases h5 : z.what = 5
  · exact act_clear z h hK hd hnl ht hn hz hf h5
  exact act_copy z h hK hd hnl ht hn hz hf h0 h1 h2 h3 h4 h5
/-- A box: where the document's queue lies. -/
def Box (B : Nat) (a : Option Addr) (n c g : Nat) (m : Int) (W : World) : Prop := W.heap[B]? = some (.cells #[.slice a n c, .int .i64 g, .int .i64 m] 43 (0, 0))
theorem DQ.not_box {T : Nat → Prop} {W : World} {a x : Option Addr} {c n y g B : Nat} {m : Int} {ls : List (List Int)} (h : DQ T W a c ls) (hB : Box B x n y g m W) : DQ (fun q => T q ∧ q ≠ B) W a c ls :=
  ⟨⟨h.at_.1, fun hp => by
    obtain ⟨b, off, e, hb, hT, hc⟩ := h.at_.2 hp
    refine ⟨b, off, e, hb, ⟨hT, fun e' => ?_⟩, hc⟩
    subst e'
    have h0 := hc 0 hp
    unfold Box at hB
    simp only [World.cell?, hB, Nat.add_zero] at h0
    match off, h0 with
    | 0, h0 => simp at h0
    | 1, h0 => simp at h0
    | 2, h0 => simp at h0
    | off + 3, h0 => simp at h0⟩, h.cl, h.cm, h.nn⟩
/-- Both queues. -/
def Qd (w : World) (K : Nat → Prop) (m : Int) (p : Nat) (ra : Option Addr) (n rc g lim : Nat) (wr : World) : Prop :=
  (∀ q, K q → w.heap.size ≤ q) ∧ n ≤ lim ∧ ∃ (fs : List Int) (part : Int) (bs : List Int) (ls : List (List Int)), OS w K p m fs part bs wr ∧ DQ K wr ra rc ls ∧ ls.length = n ∧ Tie ls g fs part bs ∧ Byts ls
section
variable {w wr W' : World} {K S : Nat → Prop} {m : Int} {p n rc g lim : Nat} {ra : Option Addr}
theorem Qd.below (h : Qd w K m p ra n rc g lim wr) : Below w.heap.size w wr := by
  obtain ⟨_, _, fs, part, bs, ls, h1, _⟩ := h
  exact h1.below
theorem Qd.bel (h : Qd w K m p ra n rc g lim wr) (hb : Below wr.heap.size wr W') : Qd w (More K wr W') m p ra n rc g lim W' := by
  obtain ⟨hk, hl, fs, part, bs, ls, h1, h2, h3, h4, h5⟩ := h
  exact ⟨More.lo hk h1.below.size, hl, fs, part, bs, ls, h1.grow hb, (h2.below hb).mono (fun q _ hq => .inl hq), h3, h4, h5⟩
theorem Qd.drewN (h : Qd w K m p ra n rc g lim wr) (k : Nat) : Qd w K m p ra n rc g lim (wr.drewN k) := by
  obtain ⟨hk, hl, fs, part, bs, ls, h1, h2, h3, h4, h5⟩ := h
  exact ⟨hk, hl, fs, part, bs, ls, h1.drewN k, ⟨h2.at_.drewN k, h2.cl, h2.cm, h2.nn⟩, h3, h4, h5⟩
theorem Qd.wide {lim' : Nat} (h : Qd w K m p ra n rc g lim wr) (hl : lim ≤ lim') : Qd w K m p ra n rc g lim' wr := ⟨h.1, Nat.le_trans h.2.1 hl, h.2.2⟩
/-- Behind a store into a box. -/
theorem Qd.box {B y1 y2 y3 : Nat} {x : Option Addr} {m' : Int} (h : Qd w K m p ra n rc g lim wr) (hB : Box B x y1 y2 y3 m' wr) (hk : K B) (hm : Mod (fun q => q = B) wr W') : Qd w (More K wr W') m p ra n rc g lim W' := by
  obtain ⟨hks, hl, fs, part, bs, ls, h1, h2, h3, h4, h5⟩ := h
  exact ⟨More.lo hks h1.below.size, hl, fs, part, bs, ls, h1.turn2 hm (fun q e => by rw [e]; exact hk) (fun q e => by rw [e]; exact hks _ hk), ((h2.not_box hB).mod hm (fun q hq e => hq.2 e)).mono (fun q _ hq => .inl hq.1), h3, h4, h5⟩
theorem Qd.act (h : Qd w K m p ra n rc g lim wr) (hlim : lim ≤ 80000) (z : OV) (hz : z.Ok (fun k => k < w.heap.size) wr) (hf : Few z) :
    Calls Try.prog 19 #[.pointer (some ⟨p, 0, none⟩), dagg ra n rc g m, zagg z] wr fun e w' => ∃ (p' : Nat) (ra' : Option Addr) (n' rc' g' : Nat) (K' : Nat → Prop), e = .returned (.tuple #[.pointer (some ⟨p', 0, none⟩), dagg ra' n' rc' g' m, .bool true]) ∧ (∀ q, K q → K' q) ∧ Qd w K' m p' ra' n' rc' g' (lim + 8) w' ∧ Mod (fun q => ¬ K q ∧ w.heap.size ≤ q) wr w' := by
  obtain ⟨hk, hl, fs, part, bs, ls, h1, h2, h3, h4, h5⟩ := h
  refine (act_any (Ka := fun _ => True) z h1 hk (h2.mono (fun q _ e => ⟨e, trivial⟩)) h3 h4 (by omega) hz hf).mono ?_
  rintro e w' ⟨p', part', fs', bs', ls', g', n', ra', rc', K', rfl, hn', hs, hd, ht, hle, hby⟩
  exact ⟨p', ra', n', rc', g', K', rfl, hs.sub, ⟨hs.lo, by omega, fs', part', bs', ls', hs.os, hd.mono (fun q _ e => e.1), hn', ht, hby h5⟩, hs.mod⟩
theorem Qd.is (h : Qd w K m p ra n rc g lim wr) (many : Int) : Calls Try.prog 20 #[.pointer (some ⟨p, 0, none⟩), dagg ra n rc g m, .int .i64 many] wr (Yes wr) := by
  obtain ⟨hk, hl, fs, part, bs, ls, h1, h2, h3, h4, h5⟩ := h
  exact is_o ra rc g n ls many h1 h2 h3 h4
theorem Qd.start (h : OS w K p m [] 0 [] wr) (hk : ∀ q, K q → w.heap.size ≤ q) : Qd w K m p none 0 0 0 0 wr :=
  ⟨hk, Nat.le_refl _, [], 0, [], [], h, ⟨⟨rfl, fun h => by simp at h⟩, by simp, by unfold maxLen; omega, fun _ => ⟨rfl, rfl⟩⟩, rfl, ⟨rfl, rfl, rfl⟩, fun l hl => by simp at hl⟩
end
theorem Box.cells {B n c g : Nat} {a : Option Addr} {m : Int} {W : World} (h : Box B a n c g m W) : W.cell? ⟨B, 0, none⟩ = some (.slice a n c) ∧ W.cell? ⟨B, 1, none⟩ = some (.int .i64 g) ∧ W.cell? ⟨B, 2, none⟩ = some (.int .i64 m) := cell3 h
theorem Box.mod {B n c g : Nat} {a : Option Addr} {m : Int} {W W' : World} {S : Nat → Prop} (h : Box B a n c g m W) (hm : Mod S W W') (hs : ¬ S B) : Box B a n c g m W' := (hm.block B (blk_lt h) hs).trans h
theorem Box.bel {B n c g : Nat} {a : Option Addr} {m : Int} {W W' : World} (h : Box B a n c g m W) (hb : Below W.heap.size W W') : Box B a n c g m W' := (hb.block B (blk_lt h)).trans h
/-- A box is set. -/
theorem Box.set {B n c g n' c' g' : Nat} {a a' : Option Addr} {m m' : Int} {W : World} (h : Box B a n c g m W) : Box B a' n' c' g' m' (((W.setCell ⟨B, 0, none⟩ (.slice a' n' c')).setCell ⟨B, 1, none⟩ (.int .i64 g')).setCell ⟨B, 2, none⟩ (.int .i64 m')) ∧ Mod (fun k => k = B) W (((W.setCell ⟨B, 0, none⟩ (.slice a' n' c')).setCell ⟨B, 1, none⟩ (.int .i64 g')).setCell ⟨B, 2, none⟩ (.int .i64 m')) := set3 h
/-- The calls, later. -/
theorem OActs.below {w w' : World} {ao : Option Addr} {n : Nat} {zs : List OV} (h : OActs w ao n zs) (hb : Below w.heap.size w w') : OActs w' ao n zs :=
  ⟨h.1, h.2.1, fun hp => by
    obtain ⟨b, off, e, hl, hc⟩ := h.2.2 hp
    refine ⟨b, off, e, Nat.lt_of_lt_of_le hl hb.size, fun j hj => ?_⟩
    obtain ⟨z, hz, z0, z1, z2, ho⟩ := hc j hj
    have ho' := ho.below hb
    have hs := hb.size
    exact ⟨z, hz, (hb.cell (p := ⟨b, off + j * 3, none⟩) hl).trans z0, (hb.cell (p := ⟨b, off + j * 3 + 1, none⟩) hl).trans z1, (hb.cell (p := ⟨b, off + j * 3 + 2, none⟩) hl).trans z2, { ho' with ps := ho'.ps.mono (fun k h _ => h) }⟩⟩
end Go.Proofs.Ytneeagabmdpjgaa
