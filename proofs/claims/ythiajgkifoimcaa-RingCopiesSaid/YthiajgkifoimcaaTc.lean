/-
  The document's ring: Set, Same.
-/
import Derived.Test.YthiajgkifoimcaaTb
namespace Go.Proofs.Ythiajgkifoimcaa
open Go.RowKit
set_option linter.unusedVariables false
set_option linter.unusedSimpArgs false

set_option maxHeartbeats 1600000 in
theorem refSet_out (ao : Option Addr) (n cap : Nat) (F m at' val : Int) (w : World) (hn : n ≤ 4096) (h0 : 0 ≤ F) (h1 : F + n ≤ 18446744073709551615) (ha0 : 0 ≤ at') (ha1 : at' ≤ 18446744073709551615) (ho : at' < F ∨ F + n ≤ at') :
    Calls Try.prog 32 #[ragg ao n cap F m, .int .u64 at', .int .i64 val] w fun e w' => e = .returned (.tuple #[ragg ao n cap F m, .int .i64 0, .bool false]) ∧ Below w.heap.size w w' := by
  have HH := Lib.hid (fun W => refHas_out ao n cap F m at' W hn h0 h1 ha0 ha1 ho)
  have hb0 := ((Below.refl _ w).alloc (Nat.le_refl _) (.cells #[.slice ao n cap, .int .u64 F, .int .i64 m] 40)).alloc (by simp) (.cells #[.slice none 0 0, .int .u64 0, .int .i64 0] 40)
  have HB := Lib.hid hb0
  have k0 := alloc_blk (alloc_blk_new w (.cells #[.slice ao n cap, .int .u64 F, .int .i64 m] 40)) (.cells #[.slice none 0 0, .int .u64 0, .int .i64 0] 40)
  have k1 : ((w.alloc (.cells #[.slice ao n cap, .int .u64 F, .int .i64 m] 40)).alloc (.cells #[.slice none 0 0, .int .u64 0, .int .i64 0] 40)).heap[w.heap.size + 1]? = some (.cells #[.slice none 0 0, .int .u64 0, .int .i64 0] 40 (0, 0)) := by
    have := alloc_blk_new (w.alloc (.cells #[.slice ao n cap, .int .u64 F, .int .i64 m] 40)) (.cells #[.slice none 0 0, .int .u64 0, .int .i64 0] 40)
    simpa using this
  have HK0 := Lib.hid k0
  have HK1 := Lib.hid k1
  unfold ragg at HH ⊢
  clear ho hb0 k0 k1
  go_enter Try.func32, Try.ntmps32
  go_wp2_with fail
  refine (HH.out _).mono ?_
  rintro e w1 ⟨rfl, hb1⟩
  have K0 := (hb1.block w.heap.size (by simp; omega)).trans HK0.out
  have K1 := (hb1.block (w.heap.size + 1) (by simp)).trans HK1.out
  obtain ⟨x0, x1, x2, _⟩ := three K0
  obtain ⟨y0, y1, y2, f0, f1, f2⟩ := three K1
  have hl1 := blk_lt K1
  have HB1 := Lib.hid (HB.out.trans (hb1.mono (by simp; omega)))
  clear K0 K1 hb1
  go_wp2
  refine bodyPost_ret (v := .tuple #[.agg #[.slice ao n cap, .int .u64 F, .int .i64 m], .int .i64 0, .bool false]) (by simp [results, Try.results32, go_sem, *]) rfl ⟨rfl, ?_⟩
  exact ((HB1.out.setCell (p := ⟨w.heap.size + 1, 0, none⟩) (by simp) _).setCell (p := ⟨w.heap.size + 1, 1, none⟩) (by simp) _).setCell (p := ⟨w.heap.size + 1, 2, none⟩) (by simp) _

set_option maxHeartbeats 3200000 in
set_option maxRecDepth 100000 in
theorem refSet_in (lo : Nat) (ao : Option Addr) (n cap j : Nat) (F m at' val : Int) (L : List Int) (w : World) (h : RL w lo ao n cap L) (hn : n ≤ 4096) (h0 : 0 ≤ F) (h1 : F + n ≤ 18446744073709551615) (hj : j < n) (ha : at' = F + j) :
    Calls Try.prog 32 #[ragg ao n cap F m, .int .u64 at', .int .i64 val] w fun e w' => ∃ ao' cap', e = .returned (.tuple #[ragg ao' n cap' F m, .int .i64 (L.getD j 0), .bool true]) ∧ RL w' w.heap.size ao' n cap' (L.set j val) ∧ Below w.heap.size w w' := by
  obtain ⟨i0, hi0, hz0, hz1, hz2⟩ := info_parts Try.info3
  have HH := Lib.hid (fun W => refHas_in ao n cap j F m at' W hn h0 h1 hj ha)
  have hb0 := ((Below.refl _ w).alloc (Nat.le_refl _) (.cells #[.slice ao n cap, .int .u64 F, .int .i64 m] 40)).alloc (by simp) (.cells #[.slice none 0 0, .int .u64 0, .int .i64 0] 40)
  have HB := Lib.hid hb0
  have k0 := alloc_blk (alloc_blk_new w (.cells #[.slice ao n cap, .int .u64 F, .int .i64 m] 40)) (.cells #[.slice none 0 0, .int .u64 0, .int .i64 0] 40)
  have k1 : ((w.alloc (.cells #[.slice ao n cap, .int .u64 F, .int .i64 m] 40)).alloc (.cells #[.slice none 0 0, .int .u64 0, .int .i64 0] 40)).heap[w.heap.size + 1]? = some (.cells #[.slice none 0 0, .int .u64 0, .int .i64 0] 40 (0, 0)) := by
    have := alloc_blk_new (w.alloc (.cells #[.slice ao n cap, .int .u64 F, .int .i64 m] 40)) (.cells #[.slice none 0 0, .int .u64 0, .int .i64 0] 40)
    simpa using this
  have HK0 := Lib.hid k0
  have HK1 := Lib.hid k1
  have HR := Lib.hid h
  have hx : at' - F = (j : Int) := by omega
  have ha1 : at' ≤ 18446744073709551615 := by omega
  have ha0 : F ≤ at' := by omega
  have hjn : (j : Int) < n := by omega
  obtain ⟨y, hy⟩ : ∃ y, y = L.getD j 0 := ⟨_, rfl⟩
  rw [← hy]
  have HY := Lib.hid hy
  unfold ragg at HH ⊢
  clear h hb0 k0 k1 ha hy
  go_enter Try.func32, Try.ntmps32
  go_wp2_with fail
  refine (HH.out _).mono ?_
  rintro e w1 ⟨rfl, hb1⟩
  have hbw := HB.out.trans (hb1.mono (by simp; omega))
  have HB1 := Lib.hid hbw
  have K0 := (hb1.block w.heap.size (by simp; omega)).trans HK0.out
  have K1 := (hb1.block (w.heap.size + 1) (by simp)).trans HK1.out
  have hl1 := blk_lt K1
  have hl0 : w.heap.size < w1.heap.size := by omega
  have HRw : Hid ((w1.alloc (.cells #[] 3)).ownsRow w1.heap.size 3 1 (.slice (some ⟨w1.heap.size, 0, none⟩) 0 0) 0 []) := Lib.hid (World.ownsRow_lit w1 #[] 0 (Nat.le_refl _) (by simp) rfl)
  have HRL := Lib.hid ((HR.out.below hbw).below ((Below.refl _ w1).alloc (Nat.le_refl _) (.cells #[] 3)))
  obtain ⟨x0, x1, x2, _⟩ := three K0
  have HKa := Lib.hid K0
  have HKb := Lib.hid K1
  clear hbw K0 K1 hb1 HK0 HK1
  go_wp2_with (at_builtin; refine wpList_append_f _ rfl (.tmp 16) (.tmp 18) 23 rfl w1.heap.size 3 i0 (.int .i64 0) 1 8 Try.underlying23 hi0 hz0 hz1 hz2 rfl (by decide) _ _ _ rfl HRw.out ao n cap (L.map (Value.int .i64)) rfl ?c1 HRL.out.none2 HRL.out.news ?c2 ?c3 ?c4 ?c5 ?_)
  case c1 => have := HRL.out.len; simp; omega
  case c2 => intro u hu; obtain ⟨z, _, rfl⟩ := List.mem_map.1 hu; rfl
  case c3 => unfold maxLen; omega
  case c4 => omega
  case c5 => simp
  intro v2 w2 hown2 hg2 hf2 _
  have hown2 : w2.ownsRow w1.heap.size 3 1 v2 n (L.map (.int .i64)) := by simpa using hown2
  obtain ⟨g, cap2, cur, rfl, hbg, hgg, _⟩ := row_some hown2 (by omega)
  have hg2' : (w1.alloc (.cells #[] 3)).grownBy w2 (some w1.heap.size) := hg2
  have HB2 := Lib.hid ((HB1.out.alloc (by omega) (.cells #[] 3)).grown hg2' (by simp; omega) (fun k e => by cases e; omega))
  have K0 := (hg2'.block w.heap.size (by simp; omega) (fun e => by injection e; omega)).trans (alloc_blk HKa.out _)
  have K1 := (hg2'.block (w.heap.size + 1) (by simp; omega) (fun e => by injection e; omega)).trans (alloc_blk HKb.out _)
  have hs2 : w1.heap.size + 1 ≤ w2.heap.size := by have := hg2'.size; simpa using this
  obtain ⟨x0, x1, x2, _⟩ := three K0
  obtain ⟨y0, y1, y2, f0, f1, f2⟩ := three K1
  have hll0 : w.heap.size < w2.heap.size := by omega
  have hll1 : w.heap.size + 1 < w2.heap.size := by omega
  have hcg : w2.cell? ⟨g, j, none⟩ = some (.int .i64 y) := by
    rw [hown2.cellAt j (by omega), List.getElem?_map]
    have : L[j]? = some y := by
      have hlt : j < L.length := by have := HR.out.len; omega
      have := HY.out
      simp [List.getD, hlt] at this
      simp [hlt, this]
    rw [this]; rfl
  have hfg := hown2.frozenAt j
  have hst := hown2.stored j (.int .i64 val)
  have hglt : g < w2.heap.size := blk_lt hgg
  have HST : Hid ((w2.setCell ⟨g, j, none⟩ (.int .i64 val)).ownsRow w1.heap.size 3 1 (.slice (some ⟨g, 0, none⟩) n cap2) n ((L.set j val).map (.int .i64))) := Lib.hid (by rw [List.map_set]; exact hst.1)
  have hm3 : Mod (fun q => q = g) w2 (w2.setCell ⟨g, j, none⟩ (.int .i64 val)) := (Mod.refl (fun q => q = g) _).setCell ⟨g, j, none⟩ (.inl rfl) _
  have HK3 := Lib.hid ((hm3.block (w.heap.size + 1) (by omega) (by show ¬ w.heap.size + 1 = g; omega)).trans K1)
  have HX3 := Lib.hid ((hm3.block w.heap.size (by omega) (by show ¬ w.heap.size = g; omega)).trans K0)
  have HB3 := Lib.hid (HB2.out.setCell (p := ⟨g, j, none⟩) (by show w.heap.size ≤ g; omega) (.int .i64 val))
  clear K0 K1 hown2 hg2 hg2' hf2 HKa HKb HRw HRL hgg hst hm3
  have hgn : ¬ w.heap.size = g := by omega
  have hgn2 : ¬ w.heap.size + 1 = g := by omega
  have hgn3 : ¬ g = w.heap.size := by omega
  have hgn4 : ¬ g = w.heap.size + 1 := by omega
  go_wp2_with fail
  refine bodyPost_ret (v := .tuple #[.agg #[.slice (some ⟨g, 0, none⟩) n cap2, .int .u64 F, .int .i64 m], .int .i64 y, .bool true]) (by simp [results, Try.results32, go_sem, *]) rfl ⟨_, _, rfl, ?_, ?_⟩
  · have hm := (((Mod.refl (fun q => q = w.heap.size + 1) (w2.setCell ⟨g, j, none⟩ (.int .i64 val))).setCell ⟨w.heap.size + 1, 0, none⟩ (.inl rfl) (.slice (some ⟨g, 0, none⟩) n cap2)).setCell ⟨w.heap.size + 1, 1, none⟩ (.inl rfl) (.int .u64 F)).setCell ⟨w.heap.size + 1, 2, none⟩ (.inl rfl) (.int .i64 m)
    exact ((RL.row HST.out).mod hm (fun b off hp e hb => by cases e; have := hb; omega)).mono (by omega)
  · exact ((HB3.out.setCell (p := ⟨w.heap.size + 1, 0, none⟩) (by simp) _).setCell (p := ⟨w.heap.size + 1, 1, none⟩) (by simp) _).setCell (p := ⟨w.heap.size + 1, 2, none⟩) (by simp) _

/-- Are two the same? -/
def eqR (F m : Int) (L : List Int) (F' m' : Int) (L' : List Int) : Bool := decide (F = F' ∧ m = m' ∧ L = L')

set_option maxHeartbeats 3200000 in
set_option maxRecDepth 100000 in
theorem refSame (lo lo' : Nat) (ao bo : Option Addr) (n cap k bcap : Nat) (F m F' m' : Int) (L L' : List Int) (w : World) (h : RL w lo ao n cap L) (h' : RL w lo' bo k bcap L') (hn : n ≤ 4096) (hk : k ≤ 4096) :
    Calls Try.prog 20 #[ragg ao n cap F m, ragg bo k bcap F' m'] w fun e w' => e = .returned (.bool (eqR F m L F' m' L')) ∧ Below w.heap.size w w' := by
  have hb0 := ((Below.refl _ w).alloc (Nat.le_refl _) (.cells #[.slice ao n cap, .int .u64 F, .int .i64 m] 40)).alloc (by simp) (.cells #[.slice bo k bcap, .int .u64 F', .int .i64 m'] 40)
  have k0 := alloc_blk (alloc_blk_new w (.cells #[.slice ao n cap, .int .u64 F, .int .i64 m] 40)) (.cells #[.slice bo k bcap, .int .u64 F', .int .i64 m'] 40)
  have k1 : ((w.alloc (.cells #[.slice ao n cap, .int .u64 F, .int .i64 m] 40)).alloc (.cells #[.slice bo k bcap, .int .u64 F', .int .i64 m'] 40)).heap[w.heap.size + 1]? = some (.cells #[.slice bo k bcap, .int .u64 F', .int .i64 m'] 40 (0, 0)) := by
    have := alloc_blk_new (w.alloc (.cells #[.slice ao n cap, .int .u64 F, .int .i64 m] 40)) (.cells #[.slice bo k bcap, .int .u64 F', .int .i64 m'] 40)
    simpa using this
  obtain ⟨W0, hW0⟩ : ∃ W, W = ((w.alloc (.cells #[.slice ao n cap, .int .u64 F, .int .i64 m] 40)).alloc (.cells #[.slice bo k bcap, .int .u64 F', .int .i64 m'] 40)) := ⟨_, rfl⟩
  have r1 := h.below hb0
  have r2 := h'.below hb0
  rw [← hW0] at hb0 k0 k1 r1 r2
  obtain ⟨x0, x1, x2, _⟩ := three k0
  obtain ⟨y0, y1, y2, _⟩ := three k1
  have HB := Lib.hid hb0
  have R1 := Lib.hid r1
  have R2 := Lib.hid r2
  have HW := Lib.hid hW0
  have hle := h.len
  have hle' := h'.len
  unfold ragg eqR
  clear h h' hb0 k0 k1 r1 r2 hW0
  by_cases e1 : F = F'
  · subst e1
    by_cases e2 : m = m'
    · subst e2
      by_cases e3 : n = k
      · subst e3
        have d1 : ((F : Int) != F) = false := by simp
        have d2 : ((m : Int) != m) = false := by simp
        have d3 : (n != n) = false := by simp
        have d4 : ((n : Int) != n) = false := by simp
        have HL := Lib.hid hle
        have HL' := Lib.hid hle'
        clear hle hle'
        go_enter Try.func20, Try.ntmps20
        go_upto_region 1 with fail
        rw [← HW.out]
        go_wp2
        go_loopg [5] n (fun gk v5 wr => ∃ i : Nat, v5 = .int .i64 i ∧ i ≤ n ∧ gk = n - i ∧ L.take i = L'.take i ∧ ∃ t, wr = W0.drewN t)
        case atStart => exact ⟨0, rfl, by omega, rfl, rfl, 0, rfl⟩
        case round =>
          obtain ⟨i, rfl, hi, hgk, htk, t, rfl⟩ := hrel
          have HG := Lib.hid hgk
          have HT := Lib.hid htk
          clear hgk htk
          by_cases hlt : i < n
          · obtain ⟨b, off, rfl, _, hb, hc⟩ := R1.out.at_ (by omega)
            obtain ⟨b', off', rfl, _, hb', hc'⟩ := R2.out.at_ (by omega)
            obtain ⟨z, hz⟩ : ∃ z, z = L.getD i 0 := ⟨_, rfl⟩
            obtain ⟨z', hz'⟩ : ∃ z, z = L'.getD i 0 := ⟨_, rfl⟩
            have hci := hc i hlt
            have hci' := hc' i hlt
            rw [← hz] at hci
            rw [← hz'] at hci'
            have HZ := Lib.hid hz
            have HZ' := Lib.hid hz'
            obtain ⟨W, hW⟩ : ∃ W, W = W0.drewN t := ⟨_, rfl⟩
            have hci : W.cell? ⟨b, off + i, none⟩ = some (.int .i64 z) := by rw [hW]; exact hci
            have hci' : W.cell? ⟨b', off' + i, none⟩ = some (.int .i64 z') := by rw [hW]; exact hci'
            have x0 : W.cell? ⟨w.heap.size, 0, none⟩ = some (.slice (some ⟨b, off, none⟩) n cap) := by rw [hW]; exact x0
            have y0 : W.cell? ⟨w.heap.size + 1, 0, none⟩ = some (.slice (some ⟨b', off', none⟩) n bcap) := by rw [hW]; exact y0
            rw [← hW]
            have HW2 := Lib.hid hW
            have hjn : (i : Int) < n := by omega
            clear hz hz' hc hc' hb hb' hW
            by_cases hzz : z = z'
            · subst hzz
              have d5 : ((z : Int) != z) = false := by simp
              go_wp2
              go_quiet (fail)
              go_wp2
              go_roundg (n - (i + 1))
              case measure => have := HG.out; omega
              case rel =>
                refine ⟨i + 1, by go_num, by omega, rfl, ?_, ?_⟩
                · have a1 : i < L.length := by have := HL.out; omega
                  have a2 : i < L'.length := by have := HL'.out; omega
                  rw [List.take_succ_eq_append_getElem a1, List.take_succ_eq_append_getElem a2, HT.out]
                  have b1 := HZ.out
                  have b2 := HZ'.out
                  simp [List.getD, a1] at b1
                  simp [List.getD, a2] at b2
                  rw [← b1, ← b2]
                · exact ⟨t + nq, by rw [HW2.out, World.drewN_drewN]⟩
            · have d5 : ((z : Int) != z') = true := by simpa using hzz
              go_wp2
              go_quiet (fail)
              go_wp2
              go_ret
              refine ⟨?_, ?_⟩
              · have : L ≠ L' := fun e => hzz (by rw [HZ.out, HZ'.out, e])
                simp [this]
              · rw [HW2.out, World.drewN_drewN]
                exact ⟨HB.out.os, HB.out.tape, HB.out.output, HB.out.size, HB.out.block⟩
          · obtain rfl : i = n := by omega
            have hLL : L = L' := by
              have := HT.out
              rwa [List.take_of_length_le (by have := HL.out; omega), List.take_of_length_le (by have := HL'.out; omega)] at this
            have HLL := Lib.hid hLL
            clear hLL
            obtain ⟨W, hW⟩ : ∃ W, W = W0.drewN t := ⟨_, rfl⟩
            have x0 : W.cell? ⟨w.heap.size, 0, none⟩ = some (.slice ao i cap) := by rw [hW]; exact x0
            rw [← hW]
            have HW2 := Lib.hid hW
            clear hW
            go_wp2
            go_ret
            refine ⟨by simp [HLL.out], ?_⟩
            rw [HW2.out]
            exact ⟨HB.out.os, HB.out.tape, HB.out.output, HB.out.size, HB.out.block⟩
      · have d1 : ((F : Int) != F) = false := by simp
        have d2 : ((m : Int) != m) = false := by simp
        have d3 : (n != k) = true := by simpa using e3
        have d4 : ((n : Int) != k) = true := by simp; omega
        have hL : L ≠ L' := fun e => e3 (by rw [← hle, ← hle', e])
        have HLn := Lib.hid hL
        clear hL hle hle'
        go_enter Try.func20, Try.ntmps20
        go_upto_region 1 with fail
        rw [← HW.out]
        go_wp2
        go_ret
        exact ⟨by simp [HLn.out], HB.out⟩
    · have d1 : ((F : Int) != F) = false := by simp
      have d2 : ((m : Int) != m') = true := by simpa using e2
      clear hle hle'
      go_enter Try.func20, Try.ntmps20
      go_upto_region 1 with fail
      rw [← HW.out]
      go_wp2
      go_ret
      exact ⟨by simp [e2], HB.out⟩
  · have d1 : ((F : Int) != F') = true := by simpa using e1
    clear hle hle'
    go_enter Try.func20, Try.ntmps20
    go_upto_region 1 with fail
    rw [← HW.out]
    go_wp2
    go_ret
    exact ⟨by simp [e1], HB.out⟩
end Go.Proofs.Ythiajgkifoimcaa
