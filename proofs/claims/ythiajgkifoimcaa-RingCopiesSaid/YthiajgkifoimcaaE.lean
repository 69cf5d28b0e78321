import Derived.Test.YthiajgkifoimcaaD
namespace Go.Proofs.Ythiajgkifoimcaa
open Go.RowKit
set_option linter.unusedVariables false
set_option linter.unusedSimpArgs false

set_option maxHeartbeats 400000 in
set_option maxRecDepth 100000 in
theorem value_any (base p : Nat) (F N at' m : Int) (sv : Value) (vs : List Int) (w : World) (h : RingAt w base p F N m sv vs) (hb : base ≤ w.heap.size)
    (h1 : 1 ≤ m) (h2 : m ≤ 4096) (h3 : (vs.length : Int) ≤ 4096) (ha : 0 ≤ at') (ha2 : at' ≤ 18446744073709551615) (i : Nat) (him : at' % m = i) :
    Calls Try.prog 28 #[.pointer (some ⟨p, 0, none⟩), .int .u64 at'] w fun e w' => e = .returned (.int .i64 ((growTo vs (i + 1)).getD i 0)) ∧ ∃ sv',
      RingAt w' base p F N m sv' (growTo vs (i + 1)) ∧ Step p sv sv' w w' := by
  have HC := Lib.hid (place_any base p F N at' m sv vs w h hb h1 h2 h3 ha ha2 i him)
  clear h him
  go_enter Try.func28, Try.ntmps28
  go_wp2_with fail
  refine HC.out.mono ?_
  rintro e w1 ⟨q, cap, rfl, hr, hs⟩
  have hl := growTo_len vs (i + 1)
  obtain ⟨q', cap', cur, hv, hbq, hgq, hnc, hcm, hcs, htk⟩ := row_some hr.row (by omega)
  injection hv with e1 e2 e3
  injection e1 with e1
  injection e1 with e1
  subst e1
  have hc : w1.cell? ⟨q, i, none⟩ = some (.int .i64 ((growTo vs (i + 1)).getD i 0)) := by
    refine cell_blk hgq i _ ?_
    have := congrArg (fun l => l[i]?) htk
    simp only [Nat.mul_one] at this
    rw [List.getElem?_take_of_lt (by omega)] at this
    simpa [List.getD, show i < (growTo vs (i + 1)).length by omega] using this
  have HR := Lib.hid hr
  have HS := Lib.hid hs
  clear hr hs htk hcs hgq hl e2 e3 HC
  go_wp2
  go_ret
  exact ⟨rfl, _, HR.out, HS.out⟩

set_option maxHeartbeats 400000 in
set_option maxRecDepth 100000 in
theorem told_out (base p : Nat) (F N at' m : Int) (sv : Value) (vs : List Int) (w : World) (h : RingAt w base p F N m sv vs) (h1 : 1 ≤ m) (ho : outB at' F N = true) :
    Calls Try.prog 27 #[.pointer (some ⟨p, 0, none⟩), .int .u64 at', .func (.func 28) #[.pointer (some ⟨p, 0, none⟩)] #[]] w fun e w' => e = .returned (.tuple #[.int .i64 0, .bool false]) ∧ Below w.heap.size w w' := by
  have hp := h.lt
  have hm : (m == 0) = false := by simp; omega
  have HN := Lib.hid (none_ring p m w hm h.c3)
  have k0 : (w.alloc (.cells #[.int .u64 at'] 22)).cell? ⟨p, 0, none⟩ = some (.int .u64 F) := by rw [World.cell?_alloc_past _ _ _ hp]; exact h.c0
  have k1 : (w.alloc (.cells #[.int .u64 at'] 22)).cell? ⟨p, 1, none⟩ = some (.int .u64 N) := by rw [World.cell?_alloc_past _ _ _ hp]; exact h.c1
  have k2 : (w.alloc (.cells #[.int .u64 at'] 22)).cell? ⟨w.heap.size, 0, none⟩ = some (.int .u64 at') := by rw [World.cell?_alloc_at _ _ _ _ rfl]; rfl
  have HH := Lib.hid (hasOne w.heap.size p at' F N _ (by simp) (by simp; omega) k2 k0 k1)
  rw [ho] at HH
  clear k0 k1 k2 h hm ho
  go_enter Try.func27, Try.ntmps27
  go_wp2_with (first | (go_at_call 24; refine HN.out.mono ?_; rintro e w' ⟨rfl, rfl⟩) | (go_at_call 39; refine HH.out.mono ?_; rintro e w1 ⟨rfl, hb1⟩))
  go_ret2
  exact ⟨rfl, ((Below.refl _ _).alloc (Nat.le_refl _) _).trans (hb1.mono (by simp))⟩

set_option maxHeartbeats 400000 in
set_option maxRecDepth 100000 in
theorem told_in (base p : Nat) (F N at' m : Int) (sv : Value) (vs : List Int) (w : World) (h : RingAt w base p F N m sv vs) (hb : base ≤ w.heap.size) (ho : outB at' F N = false)
    (h1 : 1 ≤ m) (h2 : m ≤ 4096) (h3 : (vs.length : Int) ≤ 4096) (ha : 0 ≤ at') (ha2 : at' ≤ 18446744073709551615) (i : Nat) (him : at' % m = i) :
    Calls Try.prog 27 #[.pointer (some ⟨p, 0, none⟩), .int .u64 at', .func (.func 28) #[.pointer (some ⟨p, 0, none⟩)] #[]] w fun e w' => e = .returned (.tuple #[.int .i64 ((growTo vs (i + 1)).getD i 0), .bool true]) ∧ ∃ sv',
      RingAt w' base p F N m sv' (growTo vs (i + 1)) ∧ Step p sv sv' w w' := by
  have hp := h.lt
  have hm : (m == 0) = false := by simp; omega
  have HN := Lib.hid (none_ring p m w hm h.c3)
  have k0 : (w.alloc (.cells #[.int .u64 at'] 22)).cell? ⟨p, 0, none⟩ = some (.int .u64 F) := by rw [World.cell?_alloc_past _ _ _ hp]; exact h.c0
  have k1 : (w.alloc (.cells #[.int .u64 at'] 22)).cell? ⟨p, 1, none⟩ = some (.int .u64 N) := by rw [World.cell?_alloc_past _ _ _ hp]; exact h.c1
  have k2 : (w.alloc (.cells #[.int .u64 at'] 22)).cell? ⟨w.heap.size, 0, none⟩ = some (.int .u64 at') := by rw [World.cell?_alloc_at _ _ _ _ rfl]; rfl
  have HH := Lib.hid (hasOne w.heap.size p at' F N _ (by simp) (by simp; omega) k2 k0 k1)
  rw [ho] at HH
  have HV := Lib.hid (fun (w1 : World) (hm1 : Mod (FP p sv) w w1) (hr : RingAt w1 base p F N m sv vs) => value_any base p F N at' m sv vs w1 hr (Nat.le_trans hb hm1.size) h1 h2 h3 ha ha2 i him)
  have HR := Lib.hid h
  clear k0 k1 k2 h hm ho him
  go_enter Try.func27, Try.ntmps27
  go_wp2_with (first | (go_at_call 24; refine HN.out.mono ?_; rintro e w' ⟨rfl, rfl⟩) | (go_at_call 39; refine HH.out.mono ?_; rintro e w1 ⟨rfl, hb1⟩))
  have hB : Below w.heap.size w w1 := ((Below.refl _ _).alloc (Nat.le_refl _) _).trans (hb1.mono (by simp))
  have hM := Mod.of_below hB (FP p sv)
  have hR := HR.out.mod (Mod.of_below hB (fun _ => False)) (fun _ _ h => h)
  refine (HV.out w1 hM hR).mono ?_
  rintro e w2 ⟨rfl, sv', hr, hs⟩
  have HS := Lib.hid (Step.trans (s1 := sv) ⟨hM, fun k hk => .inl hk⟩ hs)
  have HR2 := Lib.hid hr
  clear hs hr hR hM hB hb1
  go_wp2
  go_ret2
  exact ⟨rfl, sv', HR2.out, HS.out⟩
end Go.Proofs.Ythiajgkifoimcaa
