/-
  Whatever call; BytesqPlays, walked.
-/
import Derived.Test.YtkikdpfhcepeaaaAd
import Derived.Test.YtkikdpfhcepeaaaAh
import Derived.Test.YtkikdpfhcepeaaaAi
import Derived.Test.YtkikdpfhcepeaaaAj
namespace Go.Proofs.Ytkikdpfhcepeaaa
open Go.RowKit
set_option linter.unusedVariables false
set_option linter.unusedSimpArgs false

theorem act_any {w u0 : World} {K Ka : Nat → Prop} {p : Nat} {m : Int} {bs : List Int} {ra : Option Addr} {rc : Nat} (z : AV) (h : QS w K p m bs u0) (hK : ∀ k, K k → w.heap.size ≤ k) (hR : Rf (fun q => K q ∧ Ka q) u0 ra rc bs) (hz : z.Ok (fun k => k < w.heap.size) u0) (hzl : z.xa.length + z.xb.length ≤ 300) :
    Calls Try.prog 15 #[.pointer (some ⟨p, 0, none⟩), qagg ra bs.length rc m, zagg z] u0 (Acted w K Ka m bs u0) := by
  by_cases h0 : z.what = 0
  · exact act_push0 z h hK hR h0 hz hzl
  by_cases h1 : z.what = 1
  · exact act_push1 z h hK hR h1 hz hzl
  by_cases h2 : z.what = 2
  · exact act_push2 z h hK hR h2 hz hzl
  by_cases h3 : z.what = 3
  · by_cases hn : 0 ≤ z.n
    · exact act_take z h hK hR h3 hn
    · exact act_take_bad z h hK hR h3 (by omega)
  by_cases h4 : z.what = 4
  · by_cases hn : 0 ≤ z.n
    · exact act_peek z h hK hR h4 hn
    · exact act_peek_bad z h hK hR h4 (by omega)
  by_cases h5 : z.what = 5
  · by_cases hn : 0 ≤ z.n
    · exact act_drop z h hK hR h5 hn
    · exact act_drop_bad z h hK hR h5 (by omega)
  exact act_copy z h hK hR h0 h1 h2 h3 h4 h5

/-- Bytes do not lie where a queue's value does. -/
theorem Arg.not_box {T : Nat → Prop} {w : World} {a : Option Addr} {n : Nat} {zs : List Int} {B : Nat} {x : Option Addr} {y c : Nat} {m : Int} {t : TypeId} {fz : Nat × Nat} (h : Arg T w a n zs) (hB : w.heap[B]? = some (.cells #[.slice x y c, .int .i64 m] t fz)) : Arg (fun q => T q ∧ q ≠ B) w a n zs :=
  ⟨h.1, fun hp => by
    obtain ⟨b, off, e, hb, hT, hc⟩ := h.2 hp
    refine ⟨b, off, e, hb, ⟨hT, fun e' => ?_⟩, hc⟩
    subst e'
    have h0 := hc 0 hp
    simp only [World.cell?, hB, Nat.add_zero] at h0
    match off, h0 with
    | 0, h0 => simp at h0
    | 1, h0 => simp at h0
    | off + 2, h0 => simp at h0⟩

/-- Both queues stand; the document's lies in a box. -/
structure Pl (w : World) (K : Nat → Prop) (m : Int) (p B : Nat) (ra : Option Addr) (rc : Nat) (bs : List Int) (wr : World) : Prop where
  ks : ∀ q, K q → w.heap.size ≤ q
  qs : QS w K p m bs wr
  rf : Rf K wr ra rc bs
  box : wr.heap[B]? = some (.cells #[.slice ra bs.length rc, .int .i64 m] 39 (0, 0))
  kb : K B
theorem More.ks {w u v : World} {K : Nat → Prop} (h : ∀ q, K q → w.heap.size ≤ q) (hu : w.heap.size ≤ u.heap.size) : ∀ q, More K u v q → w.heap.size ≤ q := fun q hq => by
  rcases hq with hq | hq
  · exact h q hq
  · omega
theorem Rf.bel {K L : Nat → Prop} {W W' : World} {a : Option Addr} {c : Nat} {bs : List Int} (h : Rf K W a c bs) (hb : Below W.heap.size W W') (hl : ∀ q, K q → L q) : Rf L W' a c bs := ⟨(h.at_.below hb).mono (fun q _ hq => hl q hq), h.na, h.sp, h.cl, h.cm⟩
section
variable {w wr W' : World} {K : Nat → Prop} {m : Int} {p B : Nat} {ra : Option Addr} {rc : Nat} {bs : List Int}
theorem Pl.bel (h : Pl w K m p B ra rc bs wr) (hb : Below wr.heap.size wr W') : Pl w (More K wr W') m p B ra rc bs W' :=
  ⟨More.ks h.ks h.qs.below.size, h.qs.grow hb, h.rf.bel hb (fun _ e => .inl e), (hb.block _ (blk_lt h.box)).trans h.box, .inl h.kb⟩
/-- A call by both. -/
theorem Pl.act (h : Pl w K m p B ra rc bs wr) (z : AV) (hz : z.Ok (fun k => k < w.heap.size) wr) (hzl : z.xa.length + z.xb.length ≤ 300) :
    Calls Try.prog 15 #[.pointer (some ⟨p, 0, none⟩), qagg ra bs.length rc m, zagg z] wr fun e w' => ∃ p' bs' ra' rc' K', e = .returned (.tuple #[.pointer (some ⟨p', 0, none⟩), .agg #[.slice ra' bs'.length rc', .int .i64 m], .bool true]) ∧ (∀ q, K q → K' q) ∧ (∀ q, K' q → w.heap.size ≤ q) ∧ QS w K' p' m bs' w' ∧ Rf K' w' ra' rc' bs' ∧
      Mod (fun q => ¬ K q ∧ w.heap.size ≤ q) wr w' ∧ ((∀ x ∈ bs, 0 ≤ x ∧ x < 256) → ∀ x ∈ bs', 0 ≤ x ∧ x < 256) := by
  refine (act_any (Ka := fun _ => True) z h.qs h.ks ⟨h.rf.at_.mono (fun q _ e => ⟨e, trivial⟩), h.rf.na, h.rf.sp, h.rf.cl, h.rf.cm⟩ hz hzl).mono ?_
  rintro e w' ⟨p', bs', ra', rc', K', h0, h1, h2, h3, h4, h5⟩
  exact ⟨p', bs', ra', rc', K', h0, h1, h2, h3, ⟨h4.at_.mono (fun q _ e => e.1), h4.na, h4.sp, h4.cl, h4.cm⟩, h5⟩
end
end Go.Proofs.Ytkikdpfhcepeaaa
