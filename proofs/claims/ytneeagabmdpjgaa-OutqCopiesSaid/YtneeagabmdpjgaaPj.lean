/-
  A call by both: Take.
-/
import Derived.Test.YtneeagabmdpjgaaPg
namespace Go.Proofs.Ytneeagabmdpjgaa
open Go.RowKit
set_option linter.unusedVariables false
set_option linter.unusedSimpArgs false

/-- A byte of a row of one's own is turned. -/
theorem row_store {w : World} {base b n cap : Nat} {zs : List Int} (h : w.ownsRow base 5 1 (.slice (some ⟨b, 0, none⟩) n cap) n (zs.map (.int .u8))) (i : Nat) (hi : i < n) :
    w.cell? ⟨b, i, none⟩ = some (.int .u8 (zs.getD i 0)) ∧ w.frozen? ⟨b, i, none⟩ = false ∧ b < w.heap.size ∧ ∀ x : Int, (w.setCell ⟨b, i, none⟩ (.int .u8 x)).ownsRow base 5 1 (.slice (some ⟨b, 0, none⟩) n cap) n ((zs.set i x).map (.int .u8)) := by
  have hl : zs.length = n := by simpa using h.1
  obtain ⟨q, cap', cur, hv, hbq, hgq, hnc, hcm, hcs, htk⟩ := row_some h (by omega)
  injection hv with e1 e2 e3
  injection e1 with e1
  injection e1 with e1
  subst e1; subst e3
  refine ⟨?_, frozen_blk hgq i, blk_lt hgq, fun x => ⟨by simp; omega, .inr ⟨b, cap, _, rfl, hbq, setCell_blk hgq i _, hnc, hcm, by simpa using hcs, ?_⟩⟩⟩
  · refine cell_blk hgq i _ ?_
    have := congrArg (fun l => l[i]?) htk
    simp only [Nat.mul_one] at this
    rw [List.getElem?_take_of_lt hi] at this
    rw [← Array.getElem?_toList, this, List.getElem?_map]
    simp [List.getD, show i < zs.length by omega]
  · simp only [Array.toList_setIfInBounds, List.map_set]
    rw [← htk, List.take_set]

set_option maxHeartbeats 6400000 in
set_option maxRecDepth 100000 in
theorem act_take3 {w u0 : World} {K Ka : Nat → Prop} {p : Nat} {m part : Int} {fs bs : List Int} {ra : Option Addr} {rc g n : Nat} {ls : List (List Int)} (z : OV) (h : OS w K p m fs part bs u0) (hK : ∀ k, K k → w.heap.size ≤ k) (hd : DQ (fun q => K q ∧ Ka q) u0 ra rc ls) (hnl : ls.length = n) (ht : Tie ls g fs part bs) (hn : n ≤ 90000) (hz : z.Ok (fun k => k < w.heap.size) u0) (hf : Few z) (hw : z.what = 3) :
    Calls Try.prog 19 #[.pointer (some ⟨p, 0, none⟩), dagg ra n rc g m, zagg z] u0 (Acted w K Ka m ls u0) := by
  have HNum := Lib.hid num_any
  obtain ⟨hfx, hb0⟩ := Fx.start u0 (.slice ra n rc) g m z
  have hs0 := (St.start h hK).grow hb0
  obtain ⟨W0, hW0⟩ : ∃ W, W = (((u0.alloc (.cells #[.slice ra n rc, .int .i64 g, .int .i64 m] 43)).alloc (.cells #[.int .i64 z.what, .int .i64 z.n, .slice z.a z.ls.length z.c] 32)).alloc (.cells #[.slice none 0 0, .int .i64 0, .int .i64 0] 43)) := ⟨_, rfl⟩
  rw [← hW0] at hfx hb0 hs0
  obtain ⟨X0, hX0⟩ : ∃ X0, X0 = More K u0 W0 := ⟨_, rfl⟩
  rw [← hX0] at hs0
  have HX0 : Hid (∀ k, u0.heap.size ≤ k → k < W0.heap.size → X0 k) := Lib.hid (fun k h1 h2 => by rw [hX0]; exact .inr ⟨h1, h2⟩)
  have HX00 : Hid (∀ k, X0 k → K k ∨ (u0.heap.size ≤ k ∧ k < W0.heap.size)) := Lib.hid (fun k h1 => by rw [hX0] at h1; exact h1)
  have HD : Hid (DQ (fun k => (K k ∧ Ka k) ∧ k < u0.heap.size) W0 ra rc ls) := Lib.hid ((hd.mono (fun k h1 h2 => ⟨h2, h1⟩)).below hb0)
  have HKL := Lib.hid h.klt
  have HBD := Lib.hid h.bounds
  have HINV := Lib.hid h.inv
  have hu0 := h.below.size
  have HT := Lib.hid ht
  have HNL := Lib.hid hnl
  have HZ := Lib.hid hz
  have HFW := Lib.hid hf
  have HK := Lib.hid hK
  have HF0 := Lib.hid hfx
  have HS0 := Lib.hid hs0
  have HB0 := Lib.hid hb0
  have HE := Lib.hid hW0
  have hl0 := hfx.lt
  obtain ⟨⟨c0, c1, c2⟩, ⟨c3, c4, c5⟩, ⟨c6, c7, c8⟩, f6, f7, f8⟩ := hfx.cells
  have hzn : z.n ≤ 9223372036854775807 := by
    have := hz.n
    simp [Lit.wf, IntKind.min, IntKind.max, IntKind.signed, IntKind.bits] at this
    omega
  obtain ⟨k, j, t, er, hkl, hjn, hnj, hRT, hOT⟩ := take_un (m := m) hnl ht h.inv (by omega) z.n hzn
  have HRT := Lib.hid (fun W (hd : DQ (fun k => (K k ∧ Ka k) ∧ k < u0.heap.size) W ra rc ls) => hRT ra rc W hd)
  have HOT := Lib.hid (fun X W (ho : OS w X p m fs part bs W) => hOT ho)
  obtain ⟨A, hA⟩ : ∃ A, A = strOfNums (bs.take k) := ⟨_, rfl⟩
  rw [← hA] at HRT
  have htk : (bs.take k).length = k := by rw [List.length_take]; omega
  have hbm := h.bounds
  have hk20 : k ≤ 1048576 := by omega
  have HA := Lib.hid hA
  have HTK := Lib.hid htk
  have HNJ := Lib.hid hnj
  unfold dagg at HRT
  rw [hw] at c3
  unfold zagg dagg
  clear h hK hd hnl ht hz hf hfx hs0 hb0 hW0 hX0 hzn hRT hOT hA htk hbm hnj
  go_enter Try.func19, Try.ntmps19
  rw [hw]
  rw [hw] at HE
  go_wp2_with (go_at_call 42; fail)
  rw [← HE.out]
  refine (HRT.out W0 HD.out).mono ?_
  rintro e w1 ⟨ra1, rc1, g1, rfl, hd1, hb1, ht1⟩
  obtain ⟨n1, hn1⟩ : ∃ n1, n1 = n - j := ⟨_, rfl⟩
  rw [← hn1]
  have HN1 := Lib.hid hn1
  obtain ⟨B4, hB4⟩ : ∃ B, B = w1.heap.size := ⟨_, rfl⟩
  obtain ⟨W2, hW2⟩ : ∃ W, W = w1.alloc (.cells #[.slice ra1 n1 rc1, .int .i64 g1, .int .i64 m] 43) := ⟨_, rfl⟩
  have hb2 : Below w1.heap.size w1 W2 := by rw [hW2]; exact (Below.refl _ w1).alloc (Nat.le_refl _) _
  have k2 : W2.heap[B4]? = some (.cells #[.slice ra1 n1 rc1, .int .i64 g1, .int .i64 m] 43 (0, 0)) := by rw [hW2, hB4]; exact alloc_blk_new _ _
  have hb02 := hb1.trans (hb2.mono hb1.size)
  have hB4s : W0.heap.size ≤ B4 := by have := hb1.size; omega
  have HB02 := Lib.hid hb02
  have K2 := Lib.hid k2
  have E2 := Lib.hid hW2
  have E4 := Lib.hid hB4
  obtain ⟨X2, hX2⟩ : ∃ X, X = More X0 W0 W2 := ⟨_, rfl⟩
  have HS2 : Hid (St w u0 K X2 p m fs part bs W2) := Lib.hid (by rw [hX2]; exact HS0.out.grow hb02)
  have HX02 : Hid (∀ q, X0 q → X2 q) := Lib.hid (fun q hq => by rw [hX2]; exact .inl hq)
  have HX2 : Hid (∀ q, u0.heap.size ≤ q → q < W2.heap.size → X2 q) := Lib.hid (fun q h1 h2 => by
    rw [hX2]
    rcases Nat.lt_or_ge q W0.heap.size with h | h
    · exact .inl (HX0.out q h1 h)
    · exact .inr ⟨h, h2⟩)
  have HD2 := Lib.hid (hd1.below hb2)
  have HT1 := Lib.hid ht1
  obtain ⟨q3, q4, q5⟩ := ((HF0.out.bel hb02).cells).2.1
  rw [hw] at q3
  have l2 := (HF0.out.bel hb02).lt
  clear hb1 hb2 k2 hb02 hB4 hX2 c0 c1 c2 c3 c4 c5 c6 c7 c8 f6 f7 f8 HRT hd1 ht1 hn1
  rw [hW2] at q3 q4 q5 l2
  clear hW2
  go_wp2_with (go_at_call 14; fail)
  clear q3 q4 q5
  rw [← E2.out] at l2 ⊢
  rw [← E4.out]
  refine (HOT.out X2 W2 HS2.out.os).mono ?_
  rintro e w3 ⟨a3, c3, rfl, hrow, ho3, hm3⟩
  obtain ⟨X3, hX3⟩ : ∃ X, X = More X2 W2 w3 := ⟨_, rfl⟩
  have HS3 : Hid (St w u0 K X3 p m (fs.drop j) t (bs.drop k) w3) := Lib.hid (by rw [hX3]; exact HS2.out.step2 ho3 hm3)
  have HX23 : Hid (∀ q, X2 q → X3 q) := Lib.hid (fun q hq => by rw [hX3]; exact .inl hq)
  have HX3 : Hid (∀ q, W2.heap.size ≤ q → q < w3.heap.size → X3 q) := Lib.hid (fun q h1 h2 => by rw [hX3]; exact .inr ⟨h1, h2⟩)
  have F3 := Lib.hid ((HF0.out.bel HB02.out).mod hm3 (fun q h1 h2 e => e.1 (HX02.out q (HX0.out q h1 (by omega)))))
  have K3 := Lib.hid ((hm3.block B4 (blk_lt K2.out) (fun e => e.1 (HX2.out B4 (by have := HB0.out.size; omega) (blk_lt K2.out)))).trans K2.out)
  have HD3 := Lib.hid (HD2.out.mod hm3 (fun q hq e => e.1 (HX02.out q (HS0.out.sub q hq.1.1))))
  have HRW := Lib.hid hrow
  obtain ⟨hxl, hxA, hxn⟩ := row_arg hrow
  have cv := conv_any c3 hxA hxn
  rw [HTK.out, ← HA.out] at cv
  have dA : (A.toList == A.toList) = true := by simp
  have dj : ((j : Int) == j) = true := by simp
  have de : (er == er) = true := by simp
  clear ho3 hm3 hX3 hrow hxl hxA hxn HOT
  go_upto_region 25 with (go_at_call 10; refine (HNum.out _ _).mono ?_; rintro e w' ⟨rfl, rfl⟩)
  clear cv
  go_wp2_with fail
  go_loopg [24] k (fun gk v wr => ∃ i : Nat, v = .int .i64 i ∧ i ≤ k ∧ gk = k - i ∧ ∃ zs : List Int, wr.ownsRow W2.heap.size 5 1 (.slice a3 k c3) k (zs.map (.int .u8)) ∧ Mod (fun q => (Value.slice a3 k c3).ownBlock = some q) w3 wr)
  case atStart => exact ⟨0, rfl, by omega, rfl, _, HRW.out, Mod.refl _ _⟩
  case round =>
    obtain ⟨i, rfl, hi, hgk, zs, hrow, hmr⟩ := hrel
    have HG := Lib.hid hgk
    have HROW := Lib.hid hrow
    have HMR := Lib.hid hmr
    clear hgk hmr
    by_cases hlt : i < k
    · obtain ⟨b, cap', cur, hv, _⟩ := row_some hrow (by omega)
      injection hv with v1 v2 v3
      subst v1
      clear v2 v3
      obtain ⟨y1, y2, y3, y4⟩ := row_store hrow i hlt
      have HY4 := Lib.hid y4
      obtain ⟨z1, hz1⟩ : ∃ z1, z1 = zs.getD i 0 := ⟨_, rfl⟩
      rw [← hz1] at y1
      clear hrow y4 hz1
      go_wp2_with fail
      go_roundg (k - (i + 1))
      case measure => have := HG.out; omega
      case rel => exact ⟨i + 1, by go_num, by omega, rfl, _, HY4.out _, HMR.out.trans (Mod.setCell (S := fun q => (Value.slice (some ⟨b, 0, none⟩) k c3).ownBlock = some q) (Mod.refl _ _) ⟨b, i, none⟩ (.inl rfl) _) (fun _ _ e => e)⟩
    · obtain rfl : i = k := by omega
      clear hrow
      have hsub : ∀ q, (Value.slice a3 i c3).ownBlock = some q → W2.heap.size ≤ q ∧ q < w3.heap.size := fun q hq => HRW.out.lt q hq
      have hW2s := (HF0.out.bel HB02.out).lt
      have HSR := Lib.hid (HS3.out.write HMR.out (fun q hq => ⟨HX3.out q (hsub q hq).1 (hsub q hq).2, by have := (hsub q hq).1; omega⟩))
      have FR := Lib.hid (F3.out.mod HMR.out (fun q g1 g2 e => by have := (hsub q e).1; omega))
      have KR := Lib.hid ((HMR.out.block B4 (blk_lt K3.out) (fun e => by have := (hsub B4 e).1; have := blk_lt K2.out; omega)).trans K3.out)
      have HDR := Lib.hid (HD3.out.mod HMR.out (fun q hq e => by have := (hsub q e).1; have := hq.2; omega))
      clear hsub
      obtain ⟨c0, c1, c2⟩ := cell3 KR.out
      go_upto_region 29 with fail
      obtain ⟨wd, hwd⟩ : ∃ W, W = (wr).drew := ⟨_, rfl⟩
      have HBd : Hid (Below (wr).heap.size (wr) wd) := Lib.hid (by rw [hwd]; exact Below.drewN' (wr) 1)
      have hS0 : (fun W : World => W.cell? ⟨B4, 0, none⟩ = some (.slice ra1 n1 rc1) ∧ W.cell? ⟨B4, 1, none⟩ = some (.int .i64 g1) ∧ W.cell? ⟨B4, 2, none⟩ = some (.int .i64 m)) wd := by rw [hwd]; exact ⟨c0, c1, c2⟩
      refine wp_region_held_drew (S := fun W => W.cell? ⟨B4, 0, none⟩ = some (.slice ra1 n1 rc1) ∧ W.cell? ⟨B4, 1, none⟩ = some (.int .i64 g1) ∧ W.cell? ⟨B4, 2, none⟩ = some (.int .i64 m)) (by kernel_rfl) (by rw [← hwd]; exact hS0) (fun hHeld => ?_)
      rw [← hwd] at hHeld ⊢
      clear hwd hS0
      refine' wpAnyH_take (i := 0) (oi := { dst := some 140, op := Op.move (Operand.tmp 0), type := 25, pos := "law.go:74", after := #[], guard := none }) (v := ?v3001) rfl (by kernel_rfl) (by kernel_rfl) (by kernel_rfl) (fun _ _ _ h => h) (.inl ⟨by first | rfl | simp [Region.wanted, yielded], ?hy3001⟩) (by assumption) ?rest3001
      case hy3001 => (intro W hW; obtain ⟨f1, f2, f3⟩ := hW; go_simp; try with_reducible rfl)
      simp only [Act.put, List.setIfInBounds_toArray, List.set_cons_zero, List.set_cons_succ]
      refine' wpAnyH_take (i := 1) (oi := { dst := some 141, op := Op.load 43 (Operand.tmp 16), type := 43, pos := "law.go:74", after := #[{ on := 3, ground := Ground.gcOnly Departure.lateStores }], guard := none }) (v := ?v3002) rfl (by kernel_rfl) (by kernel_rfl) (by kernel_rfl) (fun _ _ _ h => h) (.inl ⟨by first | rfl | simp [Region.wanted, yielded], ?hy3002⟩) (by assumption) ?rest3002
      case hy3002 => (intro W hW; obtain ⟨f1, f2, f3⟩ := hW; go_simp; try with_reducible rfl)
      simp only [Act.put, List.setIfInBounds_toArray, List.set_cons_zero, List.set_cons_succ]
      refine' wpAnyH_take (i := 2) (oi := { dst := some 142, op := Op.move (Operand.tmp 23), type := 4, pos := "law.go:74", after := #[{ on := 4, ground := Ground.gcOnly Departure.lateStores }], guard := none }) (v := ?v3003) rfl (by kernel_rfl) (by kernel_rfl) (by kernel_rfl) (fun _ _ _ h => h) (.inl ⟨by first | rfl | simp [Region.wanted, yielded], ?hy3003⟩) (by assumption) ?rest3003
      case hy3003 => (intro W hW; obtain ⟨f1, f2, f3⟩ := hW; go_simp; try with_reducible rfl)
      simp only [Act.put, List.setIfInBounds_toArray, List.set_cons_zero, List.set_cons_succ]
      refine' wpAnyH_take (i := 3) (oi := { dst := some 6, op := Op.assign (Operand.tmp 140), type := 25, pos := "law.go:74", after := #[{ on := 0, ground := Ground.data }, { on := 0, ground := Ground.phase }, { on := 1, ground := Ground.textOnly Departure.lateStores }, { on := 2, ground := Ground.textOnly Departure.lateStores }], guard := none }) (v := ?v3004) rfl (by kernel_rfl) (by kernel_rfl) (by kernel_rfl) (fun _ _ _ h => h) (.inl ⟨by first | rfl | simp [Region.wanted, yielded], ?hy3004⟩) (by assumption) ?rest3004
      case hy3004 => (intro W hW; obtain ⟨f1, f2, f3⟩ := hW; go_simp; try with_reducible rfl)
      simp only [Act.put, List.setIfInBounds_toArray, List.set_cons_zero, List.set_cons_succ]
      refine wpAnyH_ready (rs := [4]) (by kernel_rfl) (by simp) ?_
      refine AllReadyH.cons (o := { dst := none, op := Op.store 43 (Operand.tmp 7) (Operand.tmp 141), type := 0, pos := "law.go:74", after := #[{ on := 1, ground := Ground.data }, { on := 3, ground := Ground.chain }, { on := 0, ground := Ground.phase }, { on := 1, ground := Ground.phase }, { on := 2, ground := Ground.textOnly Departure.lateStores }, { on := 3, ground := Ground.phase }], guard := none }) rfl (fun KK hK => ?_) (AllReadyH.nil)
      try simp only [List.getElem_toArray, List.getElem_cons_succ, List.getElem_cons_zero]
      have FD := FR.out.bel HBd.out
      have KD := (HBd.out.block B4 (blk_lt KR.out)).trans KR.out
      obtain ⟨s0, s1, s2⟩ := cell3 FD.b2
      have s3 := frozen_blk FD.b2 0
      have s4 := frozen_blk FD.b2 1
      have s5 := frozen_blk FD.b2 2
      have s6 := blk_lt FD.b2
      go_simp
      obtain ⟨hb6, hm6⟩ := set3 (a := .slice ra1 n1 rc1) (b := .int .i64 g1) (c := .int .i64 m) FD.b2
      have hx6 := (hm6.block _ (blk_lt KD) (by omega)).trans KD
      have hSn2 : (fun W : World => W.cell? ⟨B4, 0, none⟩ = some (.slice ra1 n1 rc1) ∧ W.cell? ⟨B4, 1, none⟩ = some (.int .i64 g1) ∧ W.cell? ⟨B4, 2, none⟩ = some (.int .i64 m)) (((wd.setCell ⟨u0.heap.size + 1 + 1, 0, none⟩ (.slice ra1 n1 rc1)).setCell ⟨u0.heap.size + 1 + 1, 1, none⟩ (.int .i64 g1)).setCell ⟨u0.heap.size + 1 + 1, 2, none⟩ (.int .i64 m)) := cell3 hx6
      have HB6 := Lib.hid hb6
      have HM6 := Lib.hid hm6
      clear s0 s1 s2 s3 s4 s5 s6 hb6 hm6 hx6
      clear FD KD
      refine hK.out _ _ (by assumption) (fun hHeld => ?_)
      clear hK KK
      try simp only [Act.put, List.setIfInBounds_toArray, List.set_cons_zero, List.set_cons_succ]
      refine' wpAnyH_take (i := 5) (oi := { dst := some 8, op := Op.assign (Operand.tmp 142), type := 4, pos := "law.go:74", after := #[{ on := 2, ground := Ground.data }, { on := 4, ground := Ground.chain }, { on := 0, ground := Ground.phase }, { on := 1, ground := Ground.phase }, { on := 2, ground := Ground.phase }, { on := 3, ground := Ground.phase }, { on := 4, ground := Ground.phase }], guard := none }) (v := ?v3005) rfl (by kernel_rfl) (by kernel_rfl) (by kernel_rfl) (fun _ _ _ h => h) (.inl ⟨by first | rfl | simp [Region.wanted, yielded], ?hy3005⟩) (by assumption) ?rest3005
      case hy3005 => (intro W hW; obtain ⟨f1, f2, f3⟩ := hW; go_simp; try with_reducible rfl)
      simp only [Act.put, List.setIfInBounds_toArray, List.set_cons_zero, List.set_cons_succ]
      refine wpAnyH_done (by kernel_rfl) ?_ _
      have e0 : (((wd.setCell ⟨u0.heap.size + 1 + 1, 0, none⟩ (.slice ra1 n1 rc1)).setCell ⟨u0.heap.size + 1 + 1, 1, none⟩ (.int .i64 g1)).setCell ⟨u0.heap.size + 1 + 1, 2, none⟩ (.int .i64 m)).cell? ⟨u0.heap.size + 1 + 1, 0, none⟩ = some (.slice ra1 n1 rc1) := (cell3 HB6.out).1
      have e1 : (((wd.setCell ⟨u0.heap.size + 1 + 1, 0, none⟩ (.slice ra1 n1 rc1)).setCell ⟨u0.heap.size + 1 + 1, 1, none⟩ (.int .i64 g1)).setCell ⟨u0.heap.size + 1 + 1, 2, none⟩ (.int .i64 m)).cell? ⟨u0.heap.size + 1 + 1, 1, none⟩ = some (.int .i64 g1) := (cell3 HB6.out).2.1
      have e2 : (((wd.setCell ⟨u0.heap.size + 1 + 1, 0, none⟩ (.slice ra1 n1 rc1)).setCell ⟨u0.heap.size + 1 + 1, 1, none⟩ (.int .i64 g1)).setCell ⟨u0.heap.size + 1 + 1, 2, none⟩ (.int .i64 m)).cell? ⟨u0.heap.size + 1 + 1, 2, none⟩ = some (.int .i64 m) := (cell3 HB6.out).2.2
      obtain ⟨w6, hw6⟩ : ∃ W, W = (((wd.setCell ⟨u0.heap.size + 1 + 1, 0, none⟩ (.slice ra1 n1 rc1)).setCell ⟨u0.heap.size + 1 + 1, 1, none⟩ (.int .i64 g1)).setCell ⟨u0.heap.size + 1 + 1, 2, none⟩ (.int .i64 m)) := ⟨_, rfl⟩
      rw [← hw6] at e0 e1 e2 ⊢
      have HM6' : Hid (Mod (fun k => k = u0.heap.size + 2) wd w6) := Lib.hid (by rw [hw6]; exact HM6.out)
      clear hw6 hSn2 HM6 HB6
      go_wp2
      refine bodyPost_ret (v := .tuple #[.pointer (some ⟨p, 0, none⟩), .agg #[.slice ra1 n1 rc1, .int .i64 g1, .int .i64 m], .bool true]) (by simp [results, Try.results19, go_sem, *]) rfl ?_
      have hs1 := HB0.out.size
      have hdd := HDR.out.below HBd.out
      exact acted_fin (HSR.out.grow HBd.out) (hdd.mono (fun q _ hq => ⟨⟨.inl (.inl (HX23.out q (HX02.out q (HS0.out.sub q hq.1.1)))), .inl hq.1.2⟩, by have := hq.2; omega⟩)) HT1.out (by rw [HNJ.out, HN1.out]) (.inl (.inl (HX23.out _ (HX2.out _ (by omega) (by omega))))) (by omega) HM6'.out (by have := HNL.out; have := HN1.out; omega) (fun h => h.drop j)
end Go.Proofs.Ytneeagabmdpjgaa
