/-
  OutqHolds, walked.
-/
import Derived.Test.YtneeagabmdpjgaaOk
import Derived.Deep.CutBlock
import Derived.Deep.RegionHeld3
namespace Go.Proofs.Ytneeagabmdpjgaa
open Go.RowKit
set_option linter.unusedVariables false
set_option linter.unusedSimpArgs false

/-- The first of a row of one's own. -/
theorem row_take {w : World} {base : Nat} {e : TypeId} {a : Option Addr} {n c : Nat} {xs : List Value} (h : w.ownsRow base e 1 (.slice a n c) n xs) (j : Nat) (hj : j ≤ n) : w.ownsRow base e 1 (.slice a j c) j (xs.take j) := by
  have hl := h.1
  refine ⟨by rw [List.length_take]; omega, ?_⟩
  rcases h.2 with ⟨e, h0⟩ | ⟨g, cap, cur, e, h1, h2, h3, h4, h5, h6⟩
  · injection e with e1 e2 e3
    subst e1 e3
    have : j = 0 := by omega
    exact .inl ⟨by rw [this], this⟩
  · injection e with e1 e2 e3
    subst e1 e3
    refine .inr ⟨g, c, cur, rfl, h1, h2, by omega, h4, h5, ?_⟩
    rw [← h6, List.take_take]
    congr 1
    omega

theorem flat_few {z : OV} (h : Few z) : z.ls.flatten.length ≤ 480 := by
  obtain ⟨h1, h2⟩ := h
  have : ∀ (ls : List (List Int)), (∀ l ∈ ls, l.length ≤ 60) → ls.flatten.length ≤ 60 * ls.length := fun ls => by
    induction ls with
    | nil => simp
    | cons l ls ih =>
      intro h
      have h1 := h l (by simp)
      have h2 := ih (fun x hx => h x (by simp [hx]))
      simp only [List.flatten_cons, List.length_append, List.length_cons]; omega
  have := this z.ls h2
  omega
theorem take_flat2 (ls : List (List Int)) (i : Nat) (h : i < ls.length) : (ls.take (i + 1)).flatten = (ls.take i).flatten ++ ls.getD i [] := by
  rw [List.take_succ_eq_append_getElem h, List.flatten_append]; simp [List.getD, h]
/-- Take, whatever is asked. -/
theorem OS.take_all {w wr : World} {K : Nat → Prop} {p : Nat} {m part : Int} {fs bs : List Int} (h : OS w K p m fs part bs wr) (most : Int) :
    Calls Try.prog 14 #[.pointer (some ⟨p, 0, none⟩), .int .i64 most] wr fun e w' => ∃ (a1 : Option Addr) (c1 k j : Nat) (e3 : Int) (gs : List Int) (t : Int), e = .returned (.tuple #[.slice a1 k c1, .int .i64 j, .int .i64 e3]) ∧
      Arg (fun b => wr.heap.size ≤ b) w' a1 k (bs.take k) ∧ (a1 = none → k = 0 ∧ c1 = 0) ∧ k ≤ bs.length ∧ fs.length = gs.length + j ∧ OS w (More K wr w') p m gs t (bs.drop k) w' ∧ Mod (fun k => ¬ K k ∧ w.heap.size ≤ k) wr w' ∧ (0 ≤ most → e3 = 0 ∧ (k : Int) = min most bs.length) := by
  by_cases h0 : 0 ≤ most
  · obtain ⟨q, hg⟩ : ∃ q, goL fs (part + (kOf most bs.length : Nat)) = q := ⟨_, rfl⟩
    obtain ⟨j, t⟩ := q
    have hk := kOf_le most bs.length
    obtain ⟨_, hj⟩ := h.inv.take _ hk j t hg
    refine (h.take most h0 _ rfl _ _ rfl rfl j t hg _ rfl).mono ?_
    rintro e w' ⟨a1, c1, rfl, hr, hq, hm⟩
    obtain ⟨hl, hA, hn⟩ := row_arg hr
    rw [hl] at hA hn
    exact ⟨a1, c1, _, j, 0, _, t, rfl, hA, hn, hk, by rw [List.length_drop]; omega, hq, hm, fun _ => ⟨rfl, by simp only [kOf]; omega⟩⟩
  · refine (h.take_bad most (by omega)).mono ?_
    rintro e w' ⟨rfl, rfl⟩
    exact ⟨none, 0, 0, 0, 2, fs, part, rfl, ⟨by simp, fun h => by omega⟩, fun _ => ⟨rfl, rfl⟩, by omega, by omega, h.mono (fun k hk => by rcases hk with hk | hk; exact hk; omega), Mod.refl _ _, fun h => by omega⟩
set_option maxHeartbeats 12800000 in
set_option maxRecDepth 100000 in
theorem holds_any (m : Int) (ao : Option Addr) (n cap : Nat) (zs : List OV) (w : World) (h : OActs w ao n zs) :
    Calls Try.prog 3 #[.int .i64 m, .slice ao n cap] w fun e w' => e = .returned (.bool true) ∧ Below w.heap.size w w' := by
  obtain ⟨i0, hi0, hz0, hz1, hz2⟩ := info_parts Try.info5
  have HFew := Lib.hid (few_any ao n cap zs 60 w h (by decide))
  have HWorks := Lib.hid works_true
  have HNum := Lib.hid num_any
  have HA := Lib.hid h
  clear h
  go_enter Try.func3, Try.ntmps3
  go_wp2_with (go_at_call 7; fail)
  refine HFew.out.mono ?_
  rintro e w0 ⟨b, rfl, hfew, rfl⟩
  cases b with
  | false =>
    go_wp2_with (first | (go_at_call 8; refine (HWorks.out _).mono ?_; rintro e w' ⟨rfl, hb⟩))
    go_ret
    exact ⟨rfl, hb⟩
  | true =>
    by_cases hm0 : m < 0
    · have t0 : decide (m < 0) = true := by simpa using hm0
      go_wp2_with (first | (go_at_call 8; refine (HWorks.out _).mono ?_; rintro e w' ⟨rfl, hb⟩))
      go_ret
      exact ⟨rfl, hb⟩
    by_cases hm1 : 1048576 < m
    · have t0 : decide (m < 0) = false := by simpa using hm0
      have t1 : decide (1048576 < m) = true := by simpa using hm1
      go_wp2_with (first | (go_at_call 8; refine (HWorks.out _).mono ?_; rintro e w' ⟨rfl, hb⟩))
      go_ret
      exact ⟨rfl, hb⟩
    have t0 : decide (m < 0) = false := by simpa using hm0
    have t1 : decide (1048576 < m) = false := by simpa using hm1
    obtain ⟨hn60, hall⟩ := hfew rfl
    have HAll := Lib.hid hall
    have HNew := Lib.hid (New_os m w w (by omega) (by omega) (Below.refl _ _))
    clear hfew hall HFew
    go_wp2_with (go_at_call 9; fail)
    refine HNew.out.mono ?_
    rintro e w1 ⟨p, rfl, hq, _, _⟩
    have Q1 := Lib.hid (hq.mono (L := fun _ => False) (fun k e => e.elim))
    clear hq HNew
    go_wp2_with fail
    go_loopg [7, 8, 9, 10, 11, 12] n (fun gk v7 v8 v9 v10 v11 v12 wr => ∃ (i at' A c pu en cl : Nat) (a : Option Addr) (K : Nat → Prop) (xs fs : List Int) (part : Int) (bs : List Int), v7 = .slice a A c ∧ v8 = .int .i64 at' ∧ v9 = .int .i64 pu ∧ v10 = .int .i64 en ∧ v11 = .int .i64 cl ∧ v12 = .int .i64 i ∧ i ≤ n ∧ gk = n - i ∧
      wr.ownsRow w.heap.size 5 1 (.slice a A c) A (xs.map (.int .u8)) ∧ at' + bs.length = A ∧ xs.drop at' = bs ∧ A ≤ 480 * i ∧ pu ≤ 8 * i ∧ en + cl + fs.length = pu ∧ OS w K p m fs part bs wr ∧ (∀ k, (Value.slice a A c).ownBlock = some k → K k))
    case atStart => exact ⟨0, 0, 0, 0, 0, 0, 0, none, _, [], [], 0, [], rfl, rfl, rfl, rfl, rfl, rfl, by omega, rfl, World.ownsRow_nil _ _ _ _, rfl, rfl, by omega, by omega, rfl, Q1.out, fun k e => by cases e⟩
    case round =>
      obtain ⟨i, at', A, c, pu, en, cl, a, K, xs, fs, part, bs, rfl, rfl, rfl, rfl, rfl, rfl, hi, hgk, hrow, hab, hdr, hA, hpu, hec, hq, hK⟩ := hrel
      have HG := Lib.hid hgk
      have HR := Lib.hid hrow
      have HD := Lib.hid hdr
      have HQ := Lib.hid hq
      have HK := Lib.hid hK
      obtain ⟨B, hB⟩ : ∃ B, B = bs.length := ⟨_, rfl⟩
      obtain ⟨F, hF⟩ : ∃ F, F = fs.length := ⟨_, rfl⟩
      rw [← hB] at hab
      rw [← hF] at hec
      have HB := Lib.hid hB
      have HF := Lib.hid hF
      have hcA : A ≤ c ∧ c ≤ maxLen := by
        rcases hrow.2 with ⟨e, h0⟩ | ⟨g, cap', cur, e, _, _, h3, h4, _⟩
        · injection e with e1 e2 e3
          unfold maxLen
          omega
        · injection e with e1 e2 e3
          subst e3
          exact ⟨h3, h4⟩
      obtain ⟨hc1, hc2⟩ := hcA
      unfold maxLen at hc2
      clear hgk hrow hdr hq hK Q1 hB hF
      by_cases hlt : i < n
      · have l1 : decide ((i : Int) < n) = true := by simpa using hlt
        obtain ⟨b, off, rfl, hb, hc⟩ := HA.out.2.2 (by omega)
        obtain ⟨z, hz, z0, z1, z2, hok⟩ := hc i hlt
        have hfew := HAll.out i hlt
        rw [← hz] at hfew
        have hbr := HQ.out.below
        have y0 := (hbr.cell (p := ⟨b, off + i * 3, none⟩) hb).trans z0
        have y1 := (hbr.cell (p := ⟨b, off + i * 3 + 1, none⟩) hb).trans z1
        have y2 := (hbr.cell (p := ⟨b, off + i * 3 + 2, none⟩) hb).trans z2
        have hblt : b < wr.heap.size := Nat.lt_of_lt_of_le hb hbr.size
        have HOk := Lib.hid hok
        obtain ⟨Lz, hLz⟩ : ∃ Lz, Lz = z.ls.length := ⟨_, rfl⟩
        obtain ⟨zw, hzw⟩ : ∃ zw, zw = z.what := ⟨_, rfl⟩
        obtain ⟨zn, hzn⟩ : ∃ zn, zn = z.n := ⟨_, rfl⟩
        rw [← hLz] at y2
        rw [← hzw] at y0
        rw [← hzn] at y1
        have HLz := Lib.hid hLz
        have HZN : Hid ((Lit.int .i64 zn).wf = true) := Lib.hid (by rw [hzn]; exact hok.n)
        have HFw := Lib.hid hfew
        have hLz8 : Lz ≤ 8 := by rw [hLz]; exact hfew.1
        clear hc z0 z1 z2 hok hz hbr hfew hLz hzw hzn
        go_upto_block 2 with fail
        obtain ⟨w1, hw1⟩ : ∃ W, W = wr.alloc (.cells #[.int .i64 zw, .int .i64 zn, .slice z.a Lz z.c] 32) := ⟨_, rfl⟩
        obtain ⟨X, hX⟩ : ∃ X, X = wr.heap.size := ⟨_, rfl⟩
        have hb1 : Below wr.heap.size wr w1 := by rw [hw1]; exact (Below.refl _ wr).alloc (Nat.le_refl _) _
        have k1 : w1.heap[X]? = some (.cells #[.int .i64 zw, .int .i64 zn, .slice z.a Lz z.c] 32 (0, 0)) := by rw [hw1, hX]; exact alloc_blk_new _ _
        rw [← hw1, ← hX]
        obtain ⟨K1, hK1⟩ : ∃ K', K' = More K wr w1 := ⟨_, rfl⟩
        have HQ1 : Hid (OS w K1 p m fs part bs w1) := Lib.hid (by rw [hK1]; exact HQ.out.grow hb1)
        have HR1 := Lib.hid ((Mod.of_below hb1 (fun _ => False)).row HR.out (fun _ _ h => h))
        have HX1 : Hid (K1 X) := Lib.hid (by rw [hK1]; exact .inr ⟨Nat.le_of_eq hX.symm, blk_lt k1⟩)
        have HK1 : Hid (∀ k, (Value.slice a A c).ownBlock = some k → K1 k) := Lib.hid (fun k e => by rw [hK1]; exact .inl (HK.out k e))
        have HXr : Hid (∀ k, (Value.slice a A c).ownBlock = some k → w.heap.size ≤ k ∧ k < X) := Lib.hid (fun k e => by rw [hX]; exact HR.out.lt k e)
        have HXw : Hid (w.heap.size ≤ X) := Lib.hid (by rw [hX]; exact HQ.out.below.size)
        have HKX := Lib.hid k1
        have x0 := cell_blk k1 0 _ rfl
        have x1 := cell_blk k1 1 _ rfl
        have x2 := cell_blk k1 2 _ rfl
        have xl := blk_lt k1
        clear hw1 hX hb1 k1 hK1 y0 y1 y2 hblt HR HQ HK
        go_cut [7, 8, 9, 10, 11, 14, 15, 16, 17, 18, 19, 20] from 51 to 156 (fun v7 v8 v9 v10 v11 v14 v15 v16 v17 v18 v19 v20 wx => ∃ (at' A c pu en cl : Nat) (a : Option Addr) (K : Nat → Prop) (xs fs : List Int) (part : Int) (bs : List Int), v7 = .slice a A c ∧ v8 = .int .i64 at' ∧ v9 = .int .i64 pu ∧ v10 = .int .i64 en ∧ v11 = .int .i64 cl ∧ wx.ownsRow w.heap.size 5 1 (.slice a A c) A (xs.map (.int .u8)) ∧ at' + bs.length = A ∧ xs.drop at' = bs ∧ A ≤ 480 * (i + 1) ∧ pu ≤ 8 * (i + 1) ∧ en + cl + fs.length = pu ∧ OS w K p m fs part bs wx ∧ (∀ k, (Value.slice a A c).ownBlock = some k → K k))
        case first =>
          by_cases hw : 0 ≤ zw ∧ zw < 3
          · have d0 : decide (0 ≤ zw) = true := by simpa using hw.1
            have d1 : decide (zw < 3) = true := by simpa using hw.2
            have hP1 : Parts (fun k => k < w.heap.size ∨ K1 k) w1 z.a z.ls := (HOk.out.ps.below HQ1.out.below).mono (fun k _ h => .inl h)
            have hfl := flat_few HFw.out
            have hln : z.ls.length = Lz := HLz.out.symm
            by_cases he : ∃ l ∈ z.ls, l = []
            · have HE := Lib.hid (HQ1.out.push_empty z.a z.c Lz z.ls hln (by omega) hP1 he)
              clear hP1 he
              go_wp2_with (first | (go_at_call 11; refine HE.out.mono ?_; rintro e w' ⟨rfl, rfl⟩) | (go_at_call 10; refine (HNum.out _ _).mono ?_; rintro e w' ⟨rfl, rfl⟩))
              go_meet
              exact ⟨at', A, c, pu, en, cl, a, K1, xs, fs, part, bs, rfl, rfl, rfl, rfl, rfl, HR1.out, by rw [← HB.out]; exact hab, HD.out, by omega, by omega, by rw [← HF.out]; exact hec, HQ1.out, HK1.out⟩
            · by_cases hf : m < (bs.length : Int) + z.ls.flatten.length
              · have HE := Lib.hid (HQ1.out.push_no z.a z.c Lz z.ls hln (by omega) (by omega) hP1 he hf)
                clear hP1 he hf
                go_wp2_with (first | (go_at_call 11; refine HE.out.mono ?_; rintro e w2 ⟨rfl, hqm⟩; have HQM := Lib.hid hqm; clear hqm) | (go_at_call 10; refine (HNum.out _ _).mono ?_; rintro e w' ⟨rfl, rfl⟩))
                go_meet
                exact ⟨at', A, c, pu, en, cl, a, K1, xs, fs, part, bs, rfl, rfl, rfl, rfl, rfl, HQM.out.2.row HR1.out (fun k hk e => e.1 (HK1.out k hk)), by rw [← HB.out]; exact hab, HD.out, by omega, by omega, by rw [← HF.out]; exact hec, HQM.out.1, HK1.out⟩
              · have HE := Lib.hid (HQ1.out.push_ok z.a z.c Lz z.ls hln (by omega) (by omega) hP1 he (by omega) _ _ rfl rfl)
                have HFL := Lib.hid hfl
                clear hP1 he hf hfl
                go_wp2_with (first | (go_at_call 11; refine HE.out.mono ?_; rintro e w2 ⟨rfl, hqm⟩; have HQM := Lib.hid hqm; clear hqm HE x0 x1 x2 xl) | (go_at_call 10; refine (HNum.out _ _).mono ?_; rintro e w' ⟨rfl, rfl⟩))
                have HX2 := Lib.hid ((HQM.out.2.block X (blk_lt HKX.out) (fun e => e.1 HX1.out)).trans HKX.out)
                have HR2 := Lib.hid (HQM.out.2.row HR1.out (fun k hk e => e.1 (HK1.out k hk)))
                have hs12 : w1.heap.size ≤ w2.heap.size := HQM.out.2.size
                go_loopg [7, 14] Lz (fun gk v7 v14 wx => ∃ (k A' c' : Nat) (a' : Option Addr) (xs' : List Int), v7 = .slice a' A' c' ∧ v14 = .int .i64 k ∧ k ≤ Lz ∧ gk = Lz - k ∧ wx.ownsRow w.heap.size 5 1 (.slice a' A' c') A' (xs'.map (.int .u8)) ∧ xs' = xs ++ (z.ls.take k).flatten ∧ A' = A + (z.ls.take k).flatten.length ∧ Mod (fun b => (Value.slice a A c).ownBlock = some b) w2 wx ∧ (∀ b, (Value.slice a' A' c').ownBlock = some b → (Value.slice a A c).ownBlock = some b ∨ w2.heap.size ≤ b))
                case atStart => exact ⟨0, A, c, a, xs, rfl, rfl, by omega, rfl, HR2.out, by simp, by simp, Mod.refl _ _, fun b e => .inl e⟩
                case round =>
                  obtain ⟨k, A', c', a', xs', rfl, rfl, hkL, hgk2, hrow2, hxs2, hA2, hmod2, hown2⟩ := hrel
                  have HG2 := Lib.hid hgk2
                  have HR3 := Lib.hid hrow2
                  have HXS := Lib.hid hxs2
                  have HA2 := Lib.hid hA2
                  have HM2 := Lib.hid hmod2
                  have HO2 := Lib.hid hown2
                  clear hgk2 hrow2 hxs2 hA2 hmod2 hown2
                  have kx := (HM2.out.block X (blk_lt HX2.out) (fun e => by have := (HXr.out X e).2; omega)).trans HX2.out
                  have x2 := cell_blk kx 2 _ rfl
                  have xl := blk_lt kx
                  clear kx
                  by_cases hkl : k < Lz
                  · have e1 : decide ((k : Int) < Lz) = true := by simpa using hkl
                    have e1' : (k : Int) < Lz := by omega
                    obtain ⟨pb, poff, hpa, hpb, _, hpc⟩ := HOk.out.ps (by have := HLz.out; omega)
                    obtain ⟨fa, fc, f1, f2, f3⟩ := hpc k (by have := HLz.out; omega)
                    obtain ⟨fr, hfr⟩ : ∃ fr, fr = z.ls.getD k [] := ⟨_, rfl⟩
                    rw [← hfr] at f1 f2 f3
                    obtain ⟨M, hM⟩ : ∃ M, M = fr.length := ⟨_, rfl⟩
                    rw [← hM] at f1 f2 f3
                    have hbw2 : Below w.heap.size w wr := (Mod.trans (S := fun b => w.heap.size ≤ b) (Mod.of_below HQM.out.1.below _) HM2.out (fun b _ e => (HXr.out b e).1)).below (fun b hb e => by omega)
                    have y1 := (hbw2.cell (p := ⟨pb, poff + k, none⟩) hpb).trans f1
                    have y2 : pb < wr.heap.size := Nat.lt_of_lt_of_le hpb hbw2.size
                    have HAr := Lib.hid (f2.below hbw2)
                    have hml : M ≤ 60 := by
                      rw [hM, hfr]
                      refine HFw.out.2 _ ?_
                      have : k < z.ls.length := by have := HLz.out; omega
                      simp [List.getD, this]
                    have hst := take_flat2 z.ls k (by have := HLz.out; omega)
                    rw [← hfr] at hst
                    have HST := Lib.hid hst
                    have HMM := Lib.hid hM
                    have hA3 : A' ≤ 480 * i + 480 := by
                      have h1 := HA2.out
                      have h2 := take_flat z.ls k (by have := HLz.out; omega)
                      have := HFL.out
                      omega
                    have hlo : w.heap.size ≤ wr.heap.size := hbw2.size
                    rw [hpa] at x2
                    clear hpc f1 f2 hfr hM hst hpa hbw2
                    go_wp2_with (at_builtin; go_loud (refine wpList_append_f _ rfl (.tmp 108) (.tmp 113) 29 rfl w.heap.size 5 i0 (.int .u8 0) 1 1 Try.underlying29 hi0 hz0 hz1 hz2 rfl (by decide) _ _ _ rfl HR3.out fa M fc (fr.map (.int .u8)) rfl (by simp [HMM.out]) f3 HAr.out.news (one_u8 _) ?c3 ?c4 hlo ?_))
                    case c3 => unfold maxLen; omega
                    case c4 => omega
                    intro v4 w4 hown hg hf _
                    obtain ⟨a4, c4, rfl⟩ := row_slice hown
                    have hown' : w4.ownsRow w.heap.size 5 1 (.slice a4 (A' + M) c4) (A' + M) ((xs' ++ fr).map (.int .u8)) := by rw [List.map_append]; exact hown
                    have HR4 := Lib.hid hown'
                    have HM4 := Lib.hid (HM2.out.grown hg (fun b e => HO2.out b e))
                    have HO4 : Hid (∀ b, (Value.slice a4 (A' + M) c4).ownBlock = some b → (Value.slice a A c).ownBlock = some b ∨ w2.heap.size ≤ b) := Lib.hid (fun b e => by
                      rcases hf b e with h' | h'
                      · exact HO2.out b h'
                      · exact .inr (Nat.le_trans HM2.out.size h'))
                    clear hown hown' hg hf HAr
                    go_wp2
                    go_roundg (Lz - (k + 1))
                    case measure => have := HG2.out; omega
                    case rel => exact ⟨k + 1, A' + M, c4, a4, xs' ++ fr, rfl, by go_num, by omega, rfl, HR4.out, by rw [HXS.out, HST.out, List.append_assoc], by rw [HST.out, List.length_append, ← HMM.out, HA2.out]; omega, HM4.out, HO4.out⟩
                  · obtain rfl : k = Lz := by omega
                    have e1 : decide ((k : Int) < k) = false := by simp
                    have htk : z.ls.take k = z.ls := List.take_of_length_le (by have := HLz.out; omega)
                    have hA2 := HA2.out
                    have hxs2 := HXS.out
                    rw [htk] at hA2 hxs2
                    have hxl : xs.length = A := by simpa using HR1.out.1
                    have hfl := HFL.out
                    have HQ4 := Lib.hid (HQM.out.1.turn2 HM2.out (fun b e => HK1.out b e) (fun b e => (HXr.out b e).1))
                    have HFI := Lib.hid (And.intro hA2 (And.intro hxs2 (And.intro hxl hfl)))
                    clear hA2 hxs2 hxl hfl htk
                    go_wp2
                    go_meet
                    obtain ⟨hA2, hxs2, hxl, hfl⟩ := HFI.out
                    have hBl := HB.out
                    have hFl := HF.out
                    exact ⟨at', A', c', pu + k, en, cl, a', _, xs', _, part, _, rfl, rfl, by show Value.int .i64 _ = Value.int .i64 _; congr 1 <;> omega, rfl, rfl, HR3.out, by rw [List.length_append]; omega, by rw [hxs2, List.drop_append_of_le_length (by omega), HD.out], by omega, by omega, by rw [List.length_append, lens_len]; have := HLz.out; omega, HQ4.out, fun b e => by
                      rcases HO2.out b e with h' | h'
                      · exact .inl (HK1.out b h')
                      · exact .inr ⟨h', (HR3.out.lt b e).2⟩⟩
          by_cases h5 : zw = 5
          · subst h5
            have HBg := Lib.hid HQ1.out.begun
            have hp0 := HQ1.out.inv.p0
            have hFp : 0 < part → 0 < F := fun hp => by
              rcases Nat.eq_zero_or_pos fs.length with h0 | h0
              · have := HQ1.out.inv.nil (List.eq_nil_of_length_eq_zero h0); omega
              · rw [HF.out]; exact h0
            have hBB := HQ1.out.bounds
            rw [← HB.out] at hBB
            have hFB := HQ1.out.inv.len
            rw [← HB.out, ← HF.out] at hFB
            by_cases hp : 0 < part
            · have d1 : decide (0 < part) = true := by simpa using hp
              have hF1 := hFp hp
              have HCl : Hid (∀ k, Calls Try.prog 13 #[.pointer (some ⟨p, 0, none⟩)] (w1.drewN k) fun e w' => e = .returned (.tuple #[.int .i64 ((F : Int) - 1), .int .i64 B]) ∧ OS w K1 p m [] 0 [] w' ∧ Mod (fun k => ¬ K1 k ∧ w.heap.size ≤ k) (w1.drewN k) w') := Lib.hid fun k => by
                rw [HB.out]
                exact (HQ1.out.drewN k).clear _ (by rw [if_pos hp, HF.out])
              clear hFp hp
              go_wp2_with (first | (go_at_call 12; refine HBg.out.mono ?_; rintro e w' ⟨rfl, q1, rfl⟩) | (go_at_call 13; fail))
              refine (HCl.out _).mono ?_
              rintro e w3 ⟨rfl, hq3, hm3⟩
              have HQ3 := Lib.hid hq3
              have HR3 := Lib.hid ((Mod.trans (Mod.of_below (Below.drewN' w1 _) _) hm3 (fun _ _ e => e)).row HR1.out (fun k hk e => e.1 (HK1.out k hk)))
              clear hq3 hm3 HCl HBg
              have g1 : (A : Int) - at' = B := by omega
              have g2 : (A : Int) - B = at' := by omega
              have g3 : (at' : Int) ≤ c := by omega
              have g4 : at' ≤ c := by omega
              have g5 : ((F : Int) - 1 < 0) = False := eq_false (by omega)
              have g6 : decide ((F : Int) - 1 < 0) = false := by simp; omega
              cases a with
              | none =>
                obtain ⟨rfl, rfl⟩ : A = 0 ∧ c = 0 := by
                  rcases HR1.out.2 with ⟨e, _⟩ | ⟨g', c', cur, e, _⟩
                  · injection e with e1 e2 e3
                    exact ⟨e2, e3⟩
                  · cases e
                obtain rfl : at' = 0 := by omega
                obtain rfl : B = 0 := by omega
                go_wp2
                go_meet
                exact ⟨0, 0, 0, pu, en, cl + F, none, _, [], [], 0, [], rfl, rfl, rfl, rfl, by show Value.int .i64 _ = Value.int .i64 _; congr 1 <;> omega, World.ownsRow_nil _ _ _ _, rfl, rfl, by omega, by omega, by simp; omega, HQ3.out, fun k e => by cases e⟩
              | some ad =>
                obtain ⟨g, rfl⟩ : ∃ g, ad = ⟨g, 0, none⟩ := by
                  rcases HR1.out.2 with ⟨e, _⟩ | ⟨g', c', cur, e, _⟩
                  · cases e
                  · injection e with e1 e2 e3
                    injection e1 with e1
                    exact ⟨g', e1⟩
                go_wp2
                go_meet
                have hrt := row_take HR3.out at' (by omega)
                rw [← List.map_take] at hrt
                exact ⟨at', at', c, pu, en, cl + F, some ⟨g, 0, none⟩, _, xs.take at', [], 0, [], rfl, rfl, rfl, rfl, by show Value.int .i64 _ = Value.int .i64 _; congr 1 <;> omega, hrt, rfl, by rw [List.drop_take]; simp, by omega, by omega, by simp; omega, HQ3.out, HK1.out⟩
            · have d1 : decide (0 < part) = false := by simpa using hp
              have HCl : Hid (∀ k, Calls Try.prog 13 #[.pointer (some ⟨p, 0, none⟩)] (w1.drewN k) fun e w' => e = .returned (.tuple #[.int .i64 (F : Int), .int .i64 B]) ∧ OS w K1 p m [] 0 [] w' ∧ Mod (fun k => ¬ K1 k ∧ w.heap.size ≤ k) (w1.drewN k) w') := Lib.hid fun k => by
                rw [HB.out]
                exact (HQ1.out.drewN k).clear _ (by rw [if_neg hp, HF.out]; omega)
              clear hFp hp
              go_wp2_with (first | (go_at_call 12; refine HBg.out.mono ?_; rintro e w' ⟨rfl, q1, rfl⟩) | (go_at_call 13; fail))
              refine (HCl.out _).mono ?_
              rintro e w3 ⟨rfl, hq3, hm3⟩
              have HQ3 := Lib.hid hq3
              have HR3 := Lib.hid ((Mod.trans (Mod.of_below (Below.drewN' w1 _) _) hm3 (fun _ _ e => e)).row HR1.out (fun k hk e => e.1 (HK1.out k hk)))
              clear hq3 hm3 HCl HBg
              have g1 : (A : Int) - at' = B := by omega
              have g2 : (A : Int) - B = at' := by omega
              have g3 : (at' : Int) ≤ c := by omega
              have g4 : at' ≤ c := by omega
              have g5 : ((F : Int) < 0) = False := eq_false (by omega)
              have g6 : decide ((F : Int) < 0) = false := by simp
              cases a with
              | none =>
                obtain ⟨rfl, rfl⟩ : A = 0 ∧ c = 0 := by
                  rcases HR1.out.2 with ⟨e, _⟩ | ⟨g', c', cur, e, _⟩
                  · injection e with e1 e2 e3
                    exact ⟨e2, e3⟩
                  · cases e
                obtain rfl : at' = 0 := by omega
                obtain rfl : B = 0 := by omega
                go_wp2
                go_meet
                exact ⟨0, 0, 0, pu, en, cl + F, none, _, [], [], 0, [], rfl, rfl, rfl, rfl, by show Value.int .i64 _ = Value.int .i64 _; congr 1 <;> omega, World.ownsRow_nil _ _ _ _, rfl, rfl, by omega, by omega, by simp; omega, HQ3.out, fun k e => by cases e⟩
              | some ad =>
                obtain ⟨g, rfl⟩ : ∃ g, ad = ⟨g, 0, none⟩ := by
                  rcases HR1.out.2 with ⟨e, _⟩ | ⟨g', c', cur, e, _⟩
                  · cases e
                  · injection e with e1 e2 e3
                    injection e1 with e1
                    exact ⟨g', e1⟩
                go_wp2
                go_meet
                have hrt := row_take HR3.out at' (by omega)
                rw [← List.map_take] at hrt
                exact ⟨at', at', c, pu, en, cl + F, some ⟨g, 0, none⟩, _, xs.take at', [], 0, [], rfl, rfl, rfl, rfl, by show Value.int .i64 _ = Value.int .i64 _; congr 1 <;> omega, hrt, rfl, by rw [List.drop_take]; simp, by omega, by omega, by simp; omega, HQ3.out, HK1.out⟩
          · have d2 : (zw == 5) = false := by simpa using h5
            have d3 : (decide (0 ≤ zw) && decide (zw < 3)) = false := by simp; omega
            have HTk := Lib.hid (HQ1.out.take_all zn)
            obtain ⟨dz, hdz⟩ : ∃ d, decide (0 ≤ zw) = d := ⟨_, rfl⟩
            have hd3 : dz = true → decide (zw < 3) = false := fun h => by
              rw [h] at hdz
              simp at hdz ⊢
              omega
            rcases Nat.lt_or_ge at' c with hat | hat
            · obtain ⟨g, rfl⟩ : ∃ g, a = some ⟨g, 0, none⟩ := by
                rcases HR1.out.2 with ⟨e, _⟩ | ⟨g', c', cur, e, _⟩
                · injection e with e1 e2 e3
                  omega
                · injection e with e1 e2 e3
                  exact ⟨g', e1⟩
              cases dz with
              | true =>
                have hd4 := hd3 rfl
                go_wp2_with (go_at_call 14; fail)
                refine HTk.out.mono ?_
                rintro e w3 ⟨a1, c1, k, j, e3, gs, t, rfl, hAr, hnr, hkB, hgj, hq3, hm3, _⟩
                rw [← HB.out] at hkB
                have HQ3 := Lib.hid hq3
                have HM3 := Lib.hid hm3
                have HGJ : Hid (F = gs.length + j) := Lib.hid (by rw [HF.out]; exact hgj)
                have HR3 := Lib.hid (hm3.row HR1.out (fun k hk e => e.1 (HK1.out k hk)))
                obtain ⟨Y, hY⟩ : ∃ Y, Y = strOfNums (bs.take k) := ⟨_, rfl⟩
                have hkl : (bs.take k).length = k := by rw [List.length_take, ← HB.out]; omega
                have cv1 : ∀ q, (convert 29 9 (.slice a1 k c1)).run Try.prog (w3.drewN q) = .ok (.string Y) (w3.drewN q) := fun q => by
                  have h1 := hAr.drewN q
                  rw [hY]
                  have h2 := conv_any (xs := bs.take k) c1 (T := fun b => w1.heap.size ≤ b) (w := w3.drewN q) (a := a1) (by rw [hkl]; exact h1) (fun e => by rw [hkl]; exact hnr e)
                  rw [hkl] at h2
                  exact h2
                have hwin : 0 < k → ∃ b, (some ⟨g, 0, none⟩ : Option Addr) = some ⟨b, 0, none⟩ ∧ Arg (fun x => (Value.slice (some ⟨g, 0, none⟩) A c).ownBlock = some x) w3 (some ⟨b, at', none⟩) k (bs.take k) := fun hp => by
                  obtain ⟨b, e, h1⟩ := row_window HR3.out at' k (by omega) hp
                  rw [HD.out] at h1
                  exact ⟨b, e, h1⟩
                have hjF : j ≤ F := by have := HGJ.out; omega
                have g1 : (A : Int) - at' = B := by omega
                have g2 : decide ((B : Int) < k) = false := by simp; omega
                have g2n : decide (B < k) = false := by simp; omega
                clear hq3 hm3 hgj hAr hnr HTk
                obtain ⟨E, hE⟩ : ∃ E : Nat, E = at' + k := ⟨_, rfl⟩
                have e1 : (at' : Int) + k = E := by omega
                have e2 : E - at' = k := by omega
                have e3' : (at' : Int) ≤ E := by omega
                have e4 : (E : Int) ≤ c := by omega
                have e5 : ¬ c = at' := by omega
                have cv2 : ∀ q, (convert 29 9 (.slice (some ⟨g, at', none⟩) k (c - at'))).run Try.prog (w3.drewN q) = .ok (.string Y) (w3.drewN q) := fun q => by
                  rw [hY]
                  have h1 : Arg (fun x => True) (w3.drewN q) (some ⟨g, at', none⟩) (bs.take k).length (bs.take k) := by
                    rw [hkl]
                    refine ⟨hkl, fun hp => ?_⟩
                    obtain ⟨b, e, h1⟩ := hwin hp
                    cases e
                    obtain ⟨b', off', e', x1, x2, x3⟩ := (h1.drewN q).2 hp
                    exact ⟨b', off', e', x1, trivial, x3⟩
                  have h2 := conv_any (c - at') h1 (fun e => by cases e)
                  rw [hkl] at h2
                  exact h2
                clear hwin hY hE hkl
                go_wp2_with fail
                go_quiet (fail)
                go_wp2
                go_meet
                exact ⟨at' + k, A, c, pu, en + j, cl, some ⟨g, 0, none⟩, _, xs, gs, t, bs.drop k, rfl, by show Value.int .i64 _ = Value.int .i64 _; congr 1 <;> omega, rfl, by show Value.int .i64 _ = Value.int .i64 _; congr 1 <;> omega, rfl, (Mod.of_below (Below.drewN' w3 _) (fun _ => False)).row HR3.out (fun _ _ h => h), by rw [List.length_drop, ← HB.out]; omega, by rw [← List.drop_drop, HD.out], by omega, by omega, by have := HGJ.out; omega, HQ3.out.drewN _, fun k e => .inl (HK1.out k e)⟩
              | false =>
                go_wp2_with (go_at_call 14; fail)
                refine HTk.out.mono ?_
                rintro e w3 ⟨a1, c1, k, j, e3, gs, t, rfl, hAr, hnr, hkB, hgj, hq3, hm3, _⟩
                rw [← HB.out] at hkB
                have HQ3 := Lib.hid hq3
                have HM3 := Lib.hid hm3
                have HGJ : Hid (F = gs.length + j) := Lib.hid (by rw [HF.out]; exact hgj)
                have HR3 := Lib.hid (hm3.row HR1.out (fun k hk e => e.1 (HK1.out k hk)))
                obtain ⟨Y, hY⟩ : ∃ Y, Y = strOfNums (bs.take k) := ⟨_, rfl⟩
                have hkl : (bs.take k).length = k := by rw [List.length_take, ← HB.out]; omega
                have cv1 : ∀ q, (convert 29 9 (.slice a1 k c1)).run Try.prog (w3.drewN q) = .ok (.string Y) (w3.drewN q) := fun q => by
                  have h1 := hAr.drewN q
                  rw [hY]
                  have h2 := conv_any (xs := bs.take k) c1 (T := fun b => w1.heap.size ≤ b) (w := w3.drewN q) (a := a1) (by rw [hkl]; exact h1) (fun e => by rw [hkl]; exact hnr e)
                  rw [hkl] at h2
                  exact h2
                have hwin : 0 < k → ∃ b, (some ⟨g, 0, none⟩ : Option Addr) = some ⟨b, 0, none⟩ ∧ Arg (fun x => (Value.slice (some ⟨g, 0, none⟩) A c).ownBlock = some x) w3 (some ⟨b, at', none⟩) k (bs.take k) := fun hp => by
                  obtain ⟨b, e, h1⟩ := row_window HR3.out at' k (by omega) hp
                  rw [HD.out] at h1
                  exact ⟨b, e, h1⟩
                have hjF : j ≤ F := by have := HGJ.out; omega
                have g1 : (A : Int) - at' = B := by omega
                have g2 : decide ((B : Int) < k) = false := by simp; omega
                have g2n : decide (B < k) = false := by simp; omega
                clear hq3 hm3 hgj hAr hnr HTk
                obtain ⟨E, hE⟩ : ∃ E : Nat, E = at' + k := ⟨_, rfl⟩
                have e1 : (at' : Int) + k = E := by omega
                have e2 : E - at' = k := by omega
                have e3' : (at' : Int) ≤ E := by omega
                have e4 : (E : Int) ≤ c := by omega
                have e5 : ¬ c = at' := by omega
                have cv2 : ∀ q, (convert 29 9 (.slice (some ⟨g, at', none⟩) k (c - at'))).run Try.prog (w3.drewN q) = .ok (.string Y) (w3.drewN q) := fun q => by
                  rw [hY]
                  have h1 : Arg (fun x => True) (w3.drewN q) (some ⟨g, at', none⟩) (bs.take k).length (bs.take k) := by
                    rw [hkl]
                    refine ⟨hkl, fun hp => ?_⟩
                    obtain ⟨b, e, h1⟩ := hwin hp
                    cases e
                    obtain ⟨b', off', e', x1, x2, x3⟩ := (h1.drewN q).2 hp
                    exact ⟨b', off', e', x1, trivial, x3⟩
                  have h2 := conv_any (c - at') h1 (fun e => by cases e)
                  rw [hkl] at h2
                  exact h2
                clear hwin hY hE hkl
                go_wp2_with fail
                go_quiet (fail)
                go_wp2
                go_meet
                exact ⟨at' + k, A, c, pu, en + j, cl, some ⟨g, 0, none⟩, _, xs, gs, t, bs.drop k, rfl, by show Value.int .i64 _ = Value.int .i64 _; congr 1 <;> omega, rfl, by show Value.int .i64 _ = Value.int .i64 _; congr 1 <;> omega, rfl, (Mod.of_below (Below.drewN' w3 _) (fun _ => False)).row HR3.out (fun _ _ h => h), by rw [List.length_drop, ← HB.out]; omega, by rw [← List.drop_drop, HD.out], by omega, by omega, by have := HGJ.out; omega, HQ3.out.drewN _, fun k e => .inl (HK1.out k e)⟩
            · obtain rfl : at' = c := by omega
              cases dz with
              | true =>
                have hd4 := hd3 rfl
                go_wp2_with (go_at_call 14; fail)
                refine HTk.out.mono ?_
                rintro e w3 ⟨a1, c1, k, j, e3, gs, t, rfl, hAr, hnr, hkB, hgj, hq3, hm3, _⟩
                rw [← HB.out] at hkB
                have HQ3 := Lib.hid hq3
                have HM3 := Lib.hid hm3
                have HGJ : Hid (F = gs.length + j) := Lib.hid (by rw [HF.out]; exact hgj)
                have HR3 := Lib.hid (hm3.row HR1.out (fun k hk e => e.1 (HK1.out k hk)))
                obtain ⟨Y, hY⟩ : ∃ Y, Y = strOfNums (bs.take k) := ⟨_, rfl⟩
                have hkl : (bs.take k).length = k := by rw [List.length_take, ← HB.out]; omega
                have cv1 : ∀ q, (convert 29 9 (.slice a1 k c1)).run Try.prog (w3.drewN q) = .ok (.string Y) (w3.drewN q) := fun q => by
                  have h1 := hAr.drewN q
                  rw [hY]
                  have h2 := conv_any (xs := bs.take k) c1 (T := fun b => w1.heap.size ≤ b) (w := w3.drewN q) (a := a1) (by rw [hkl]; exact h1) (fun e => by rw [hkl]; exact hnr e)
                  rw [hkl] at h2
                  exact h2
                have hwin : 0 < k → ∃ b, a = some ⟨b, 0, none⟩ ∧ Arg (fun x => (Value.slice a A at').ownBlock = some x) w3 (some ⟨b, at', none⟩) k (bs.take k) := fun hp => by
                  obtain ⟨b, e, h1⟩ := row_window HR3.out at' k (by omega) hp
                  rw [HD.out] at h1
                  exact ⟨b, e, h1⟩
                have hjF : j ≤ F := by have := HGJ.out; omega
                have g1 : (A : Int) - at' = B := by omega
                have g2 : decide ((B : Int) < k) = false := by simp; omega
                have g2n : decide (B < k) = false := by simp; omega
                clear hq3 hm3 hgj hAr hnr HTk
                obtain rfl : k = 0 := by omega
                have g2' : decide ((B : Int) < 0) = false := by simp
                have cv2 : ∀ q, (convert 29 9 (.slice a 0 0)).run Try.prog (w3.drewN q) = .ok (.string Y) (w3.drewN q) := fun q => by
                  rw [hY]
                  exact conv_any (xs := []) (T := fun _ => True) (w := w3.drewN q) (a := a) 0 ⟨rfl, fun h => by simp at h⟩ (fun _ => ⟨rfl, rfl⟩)
                clear hwin hY hkl
                go_wp2_with fail
                go_quiet (fail)
                go_wp2
                go_meet
                exact ⟨at' + 0, A, at', pu, en + j, cl, a, _, xs, gs, t, bs.drop 0, rfl, by show Value.int .i64 _ = Value.int .i64 _; congr 1 <;> omega, rfl, by show Value.int .i64 _ = Value.int .i64 _; congr 1 <;> omega, rfl, (Mod.of_below (Below.drewN' w3 _) (fun _ => False)).row HR3.out (fun _ _ h => h), by rw [List.length_drop, ← HB.out]; omega, by rw [← List.drop_drop, HD.out], by omega, by omega, by have := HGJ.out; omega, HQ3.out.drewN _, fun k e => .inl (HK1.out k e)⟩
              | false =>
                go_wp2_with (go_at_call 14; fail)
                refine HTk.out.mono ?_
                rintro e w3 ⟨a1, c1, k, j, e3, gs, t, rfl, hAr, hnr, hkB, hgj, hq3, hm3, _⟩
                rw [← HB.out] at hkB
                have HQ3 := Lib.hid hq3
                have HM3 := Lib.hid hm3
                have HGJ : Hid (F = gs.length + j) := Lib.hid (by rw [HF.out]; exact hgj)
                have HR3 := Lib.hid (hm3.row HR1.out (fun k hk e => e.1 (HK1.out k hk)))
                obtain ⟨Y, hY⟩ : ∃ Y, Y = strOfNums (bs.take k) := ⟨_, rfl⟩
                have hkl : (bs.take k).length = k := by rw [List.length_take, ← HB.out]; omega
                have cv1 : ∀ q, (convert 29 9 (.slice a1 k c1)).run Try.prog (w3.drewN q) = .ok (.string Y) (w3.drewN q) := fun q => by
                  have h1 := hAr.drewN q
                  rw [hY]
                  have h2 := conv_any (xs := bs.take k) c1 (T := fun b => w1.heap.size ≤ b) (w := w3.drewN q) (a := a1) (by rw [hkl]; exact h1) (fun e => by rw [hkl]; exact hnr e)
                  rw [hkl] at h2
                  exact h2
                have hwin : 0 < k → ∃ b, a = some ⟨b, 0, none⟩ ∧ Arg (fun x => (Value.slice a A at').ownBlock = some x) w3 (some ⟨b, at', none⟩) k (bs.take k) := fun hp => by
                  obtain ⟨b, e, h1⟩ := row_window HR3.out at' k (by omega) hp
                  rw [HD.out] at h1
                  exact ⟨b, e, h1⟩
                have hjF : j ≤ F := by have := HGJ.out; omega
                have g1 : (A : Int) - at' = B := by omega
                have g2 : decide ((B : Int) < k) = false := by simp; omega
                have g2n : decide (B < k) = false := by simp; omega
                clear hq3 hm3 hgj hAr hnr HTk
                obtain rfl : k = 0 := by omega
                have g2' : decide ((B : Int) < 0) = false := by simp
                have cv2 : ∀ q, (convert 29 9 (.slice a 0 0)).run Try.prog (w3.drewN q) = .ok (.string Y) (w3.drewN q) := fun q => by
                  rw [hY]
                  exact conv_any (xs := []) (T := fun _ => True) (w := w3.drewN q) (a := a) 0 ⟨rfl, fun h => by simp at h⟩ (fun _ => ⟨rfl, rfl⟩)
                clear hwin hY hkl
                go_wp2_with fail
                go_quiet (fail)
                go_wp2
                go_meet
                exact ⟨at' + 0, A, at', pu, en + j, cl, a, _, xs, gs, t, bs.drop 0, rfl, by show Value.int .i64 _ = Value.int .i64 _; congr 1 <;> omega, rfl, by show Value.int .i64 _ = Value.int .i64 _; congr 1 <;> omega, rfl, (Mod.of_below (Below.drewN' w3 _) (fun _ => False)).row HR3.out (fun _ _ h => h), by rw [List.length_drop, ← HB.out]; omega, by rw [← List.drop_drop, HD.out], by omega, by omega, by have := HGJ.out; omega, HQ3.out.drewN _, fun k e => .inl (HK1.out k e)⟩
        case rest =>
          clear HQ1 HR1 HX1 HK1 HXr HXw HKX x0 x1 x2 xl HB HF HD hab hA hpu hec hc1 hc2 HOk HLz HZN HFw hLz8
          obtain ⟨at', A, c, pu, en, cl, a, K, xs, fs, part, bs, rfl, rfl, rfl, rfl, rfl, hrow, hab, hdr, hA, hpu, hec, hq, hK⟩ := hcut
          have hbd := hq.bounds
          obtain ⟨B, hB⟩ : ∃ B, B = bs.length := ⟨_, rfl⟩
          obtain ⟨F, hF⟩ : ∃ F, F = fs.length := ⟨_, rfl⟩
          obtain ⟨r, hr⟩ : ∃ r : Int, r = m - (bs.length : Int) := ⟨_, rfl⟩
          have hL0 := hq.len
          have hL1 := fun k => (hq.drewN k).len
          have hR1 := fun k => (hq.drewN k).room
          have hF1 := fun k => (hq.drewN k).frames
          rw [← hr] at hR1
          rw [← hB] at hL0 hL1 hr hbd
          rw [← hF] at hF1
          have HL0 := Lib.hid hL0
          have HL1 := Lib.hid hL1
          have HR1 := Lib.hid hR1
          have HF1 := Lib.hid hF1
          have HRow := Lib.hid hrow
          have HInv := Lib.hid (And.intro hab (And.intro hdr (And.intro hA (And.intro hpu (And.intro hec (And.intro hq hK))))))
          rw [← hB] at hab
          rw [← hF] at hec
          have hn60' : A ≤ 30000 := by omega
          have hpu' : pu ≤ 1000 := by omega
          have g1 : (A : Int) - at' = B := by omega
          have f2 : ((B : Int) + r != m) = false := by simp; omega
          have f3 : ((en : Int) + cl + F != pu) = false := by simp; omega
          have r0 : 0 ≤ r := by omega
          have r1 : r ≤ 1048576 := by omega
          have b1 : B ≤ 1048576 := by omega
          have b2 : en ≤ 1000 := by omega
          have b3 : cl ≤ 1000 := by omega
          have b4 : F ≤ 1000 := by omega
          clear hbd hB hF hr hL0 hL1 hR1 hF1 hrow hab hdr hA hpu hec hq hK
          go_wp2_with fail
          refine HL0.out.mono ?_
          rintro e w' ⟨rfl, q1, rfl⟩
          go_wp2_with (first | (go_at_call 15; refine (HL1.out _).mono ?_; rintro e w' ⟨rfl, q, rfl⟩) | (go_at_call 16; refine (HR1.out _).mono ?_; rintro e w' ⟨rfl, q, rfl⟩) | (go_at_call 17; refine (HF1.out _).mono ?_; rintro e w' ⟨rfl, q, rfl⟩))
          go_roundg (n - (i + 1))
          case measure => have := HG.out; omega
          case rel =>
            obtain ⟨hab, hdr, hA, hpu, hec, hq, hK⟩ := HInv.out
            exact ⟨i + 1, at', A, c, pu, en, cl, a, K, xs, fs, part, bs, rfl, rfl, rfl, rfl, rfl, by go_num, by omega, rfl, (Mod.of_below (Below.drewN' wc _) (fun _ => False)).row HRow.out (fun _ _ h => h), hab, hdr, hA, hpu, hec, hq.drewN _, hK⟩
      · obtain rfl : i = n := by omega
        have HTk := Lib.hid (HQ.out.take_all m)
        have hbd := HQ.out.bounds
        rw [← HB.out] at hbd
        have d9 : decide ((i : Int) < i) = false := by simp
        go_wp2_with (go_at_call 14; fail)
        refine HTk.out.mono ?_
        rintro e w3 ⟨a1, c1, k, j, e3, gs, t, rfl, hAr, hnr, hkB, hgj, hq3, hm3, hlast⟩
        obtain ⟨rfl, hkm⟩ := hlast (by omega)
        rw [← HB.out] at hkB hkm
        obtain rfl : k = B := by omega
        have hdk : bs.drop k = [] := List.drop_eq_nil_of_le (by rw [← HB.out]; exact Nat.le_refl _)
        have htk : bs.take k = bs := List.take_of_length_le (by rw [← HB.out]; exact Nat.le_refl _)
        have hgl := hq3.inv.len
        rw [hdk] at hgl hq3
        rw [htk] at hAr
        have hj : j = F := by rw [HF.out]; simp at hgl; rw [hgj, hgl]; simp
        obtain ⟨Y, hY⟩ : ∃ Y, Y = strOfNums bs := ⟨_, rfl⟩
        have HC1 : Hid (∀ W, Below w3.heap.size w3 W → (convert 29 9 (.slice a1 k c1)).run Try.prog W = .ok (.string Y) W) := Lib.hid fun W hW => by
          have h1 := hAr.below hW
          rw [hY]
          have h2 := conv_any (xs := bs) c1 (T := fun b => wr.heap.size ≤ b) (w := W) (a := a1) (by rw [← HB.out]; exact h1) (fun e => by rw [← HB.out]; exact hnr e)
          rw [← HB.out] at h2
          exact h2
        have hrow3 := hm3.row HR.out (fun b hb e => e.1 (HK.out b hb))
        have HLn : Hid (∀ W, Below w3.heap.size w3 W → Calls Try.prog 15 #[.pointer (some ⟨p, 0, none⟩)] W fun e w' => e = .returned (.int .i64 0) ∧ Below W.heap.size W w') := Lib.hid fun W hW => by
          refine (hq3.grow hW).len.mono ?_
          rintro e w' ⟨rfl, q, rfl⟩
          exact ⟨rfl, Below.drewN' W q⟩
        have HB3 := Lib.hid hq3.below
        have hpu' : pu ≤ 1000 := by omega
        have f3 : ((en : Int) + cl + j == pu) = true := by simp; omega
        have hw0 : IntKind.i64.wrap 0 = 0 := by rw [IntKind.wrap_i64]; omega
        have hw1 : IntKind.i64.wrap ((en : Int) + cl) = (en : Int) + cl := by rw [IntKind.wrap_i64]; omega
        have hw2 : IntKind.i64.wrap ((en : Int) + cl + j) = pu := by rw [IntKind.wrap_i64]; omega
        have b2 : en ≤ 1000 := by omega
        have b3 : cl ≤ 1000 := by omega
        have b4 : j ≤ 1000 := by omega
        have g1 : (at' : Int) ≤ A := by omega
        have hdrop : xs.drop at' = bs := HD.out
        rcases Nat.lt_or_ge at' c with hat | hat
        · obtain ⟨g, rfl⟩ : ∃ g, a = some ⟨g, 0, none⟩ := by
            rcases hrow3.2 with ⟨e, _⟩ | ⟨g', c', cur, e, _⟩
            · injection e with e1 e2 e3
              omega
            · injection e with e1 e2 e3
              exact ⟨g', e1⟩
          have e2 : A - at' = k := by omega
          have e5 : ¬ c = at' := by omega
          have HC2 : Hid (∀ W, Below w3.heap.size w3 W → (convert 29 9 (.slice (some ⟨g, at', none⟩) k (c - at'))).run Try.prog W = .ok (.string Y) W) := Lib.hid fun W hW => by
            rw [hY]
            have h1 : Arg (fun x => True) W (some ⟨g, at', none⟩) bs.length bs := by
              refine ⟨rfl, fun hp => ?_⟩
              obtain ⟨b, e, h1⟩ := row_window hrow3 at' k (by omega) (by rw [HB.out]; exact hp)
              cases e
              rw [hdrop, htk] at h1
              obtain ⟨b', off', e', x1, x2, x3⟩ := (h1.below hW).2 (by rw [HB.out]; exact hp)
              exact ⟨b', off', e', x1, trivial, fun j hj => x3 j (by rw [HB.out]; exact hj)⟩
            have h2 := conv_any (c - at') h1 (fun e => by cases e)
            rw [← HB.out] at h2
            exact h2
          clear hAr hnr hkB hgj hq3 hm3 hlast hkm hdk htk hgl hj hY hrow3 hdrop hbd HTk
          go_wp2_with fail
          refine wp_region_held_drew (S := fun W => Below w3.heap.size w3 W) (by kernel_rfl) (Below.drewN' w3 1) (fun hHeld => ?_)
          generalize w3.drew = wd at hHeld ⊢
          refine' wpAnyH_take (i := 0) (oi := { dst := some 190, op := Op.move (Operand.tmp 6), type := 26, pos := "law.go:244", after := #[], guard := none }) (v := ?v1001) rfl (by kernel_rfl) (by kernel_rfl) (by kernel_rfl) (fun _ _ _ h => h) (.inl ⟨by first | rfl | simp [Region.wanted, yielded], ?hy1001⟩) (by assumption) ?rest1001
          case hy1001 => (intro W hW; have f1 := HC1.out _ hW; have f2 := HC2.out _ hW; go_simp; try with_reducible rfl)
          simp only [Act.put, List.setIfInBounds_toArray, List.set_cons_zero, List.set_cons_succ]
          refine' wpAnyH_take (i := 2) (oi := { dst := some 192, op := Op.move (Operand.tmp 23), type := 26, pos := "law.go:244", after := #[], guard := none }) (v := ?v1002) rfl (by kernel_rfl) (by kernel_rfl) (by kernel_rfl) (fun _ _ _ h => h) (.inl ⟨by first | rfl | simp [Region.wanted, yielded], ?hy1002⟩) (by assumption) ?rest1002
          case hy1002 => (intro W hW; have f1 := HC1.out _ hW; have f2 := HC2.out _ hW; go_simp; try with_reducible rfl)
          simp only [Act.put, List.setIfInBounds_toArray, List.set_cons_zero, List.set_cons_succ]
          refine wpAnyH_ready (rs := [1]) (by kernel_rfl) (by simp) ?_
          refine AllReadyH.cons (o := { dst := some 191, op := Op.call { callee := Callee.value (Operand.func 10), args := #[Operand.tmp 190], argTypes := #[26] }, type := 3, pos := "law.go:244", after := #[{ on := 0, ground := Ground.data }], guard := none }) rfl (fun KK hK => ?_) (AllReadyH.nil)
          try simp only [List.getElem_toArray, List.getElem_cons_succ, List.getElem_cons_zero]
          go_simp
          refine (HNum.out _ _).mono ?_
          rintro e w' ⟨rfl, rfl⟩
          refine hK.out _ _ (by assumption) (fun hHeld => ?_)
          clear hK KK
          try simp only [Act.put, List.setIfInBounds_toArray, List.set_cons_zero, List.set_cons_succ]
          refine wpAnyH_ready (rs := [3]) (by kernel_rfl) (by simp) ?_
          refine AllReadyH.cons (o := { dst := some 193, op := Op.call { callee := Callee.value (Operand.func 10), args := #[Operand.tmp 192], argTypes := #[26] }, type := 3, pos := "law.go:244", after := #[{ on := 2, ground := Ground.data }, { on := 1, ground := Ground.chain }], guard := none }) rfl (fun KK hK => ?_) (AllReadyH.nil)
          try simp only [List.getElem_toArray, List.getElem_cons_succ, List.getElem_cons_zero]
          go_simp
          refine (HNum.out _ _).mono ?_
          rintro e w' ⟨rfl, rfl⟩
          refine hK.out _ _ (by assumption) (fun hHeld => ?_)
          clear hK KK
          try simp only [Act.put, List.setIfInBounds_toArray, List.set_cons_zero, List.set_cons_succ]
          refine' wpAnyH_take (i := 4) (oi := { dst := some 194, op := Op.binOp BinOp.add 3 (Operand.tmp 191) (Operand.tmp 193) 3, type := 3, pos := "law.go:244", after := #[{ on := 1, ground := Ground.data }, { on := 3, ground := Ground.data }], guard := none }) (v := ?v1003) rfl (by kernel_rfl) (by kernel_rfl) (by kernel_rfl) (fun _ _ _ h => h) (.inl ⟨by first | rfl | simp [Region.wanted, yielded], ?hy1003⟩) (by assumption) ?rest1003
          case hy1003 => (intro W hW; have f1 := HC1.out _ hW; have f2 := HC2.out _ hW; go_simp; try with_reducible rfl)
          simp only [Act.put, List.setIfInBounds_toArray, List.set_cons_zero, List.set_cons_succ]
          refine' wpAnyH_take (i := 5) (oi := { dst := some 195, op := Op.binOp BinOp.eql 3 (Operand.tmp 194) (Operand.const (Value.int IntKind.i64 0)) 3, type := 4, pos := "law.go:244", after := #[{ on := 4, ground := Ground.data }], guard := none }) (v := ?v1004) rfl (by kernel_rfl) (by kernel_rfl) (by kernel_rfl) (fun _ _ _ h => h) (.inl ⟨by first | rfl | simp [Region.wanted, yielded], ?hy1004⟩) (by assumption) ?rest1004
          case hy1004 => (intro W hW; have f1 := HC1.out _ hW; have f2 := HC2.out _ hW; go_simp; try with_reducible rfl)
          simp only [Act.put, List.setIfInBounds_toArray, List.set_cons_zero, List.set_cons_succ]
          refine' wpAnyH_take (i := 6) (oi := { dst := some 196, op := Op.move (Operand.tmp 195), type := 4, pos := "law.go:244", after := #[{ on := 5, ground := Ground.data }, { on := 3, ground := Ground.chain }], guard := none }) (v := ?v1005) rfl (by kernel_rfl) (by kernel_rfl) (by kernel_rfl) (fun _ _ _ h => h) (.inl ⟨by first | rfl | simp [Region.wanted, yielded], ?hy1005⟩) (by assumption) ?rest1005
          case hy1005 => (intro W hW; have f1 := HC1.out _ hW; have f2 := HC2.out _ hW; go_simp; try with_reducible rfl)
          simp only [Act.put, List.setIfInBounds_toArray, List.set_cons_zero, List.set_cons_succ]
          refine' wpAnyH_take (i := 7) (oi := { dst := some 197, op := Op.move (Operand.tmp 21), type := 29, pos := "law.go:244", after := #[{ on := 6, ground := Ground.guard }], guard := some (6, true) }) (v := ?v1006) rfl (by kernel_rfl) (by kernel_rfl) (by kernel_rfl) (fun _ _ _ h => h) (.inl ⟨by first | rfl | simp [Region.wanted, yielded], ?hy1006⟩) (by assumption) ?rest1006
          case hy1006 => (intro W hW; have f1 := HC1.out _ hW; have f2 := HC2.out _ hW; go_simp; try with_reducible rfl)
          simp only [Act.put, List.setIfInBounds_toArray, List.set_cons_zero, List.set_cons_succ]
          refine' wpAnyH_take (i := 8) (oi := { dst := some 198, op := Op.convert 29 9 (Operand.tmp 197), type := 9, pos := "law.go:244", after := #[{ on := 7, ground := Ground.data }, { on := 6, ground := Ground.guard }], guard := some (6, true) }) (v := ?v1007) rfl (by kernel_rfl) (by kernel_rfl) (by kernel_rfl) (fun _ _ _ h => h) (.inl ⟨by first | rfl | simp [Region.wanted, yielded], ?hy1007⟩) (by assumption) ?rest1007
          case hy1007 => (intro W hW; have f1 := HC1.out _ hW; have f2 := HC2.out _ hW; go_simp; try with_reducible rfl)
          simp only [Act.put, List.setIfInBounds_toArray, List.set_cons_zero, List.set_cons_succ]
          refine' wpAnyH_take (i := 9) (oi := { dst := some 199, op := Op.move (Operand.tmp 7), type := 29, pos := "law.go:244", after := #[{ on := 6, ground := Ground.guard }], guard := some (6, true) }) (v := ?v1008) rfl (by kernel_rfl) (by kernel_rfl) (by kernel_rfl) (fun _ _ _ h => h) (.inl ⟨by first | rfl | simp [Region.wanted, yielded], ?hy1008⟩) (by assumption) ?rest1008
          case hy1008 => (intro W hW; have f1 := HC1.out _ hW; have f2 := HC2.out _ hW; go_simp; try with_reducible rfl)
          simp only [Act.put, List.setIfInBounds_toArray, List.set_cons_zero, List.set_cons_succ]
          refine' wpAnyH_take (i := 10) (oi := { dst := some 200, op := Op.move (Operand.tmp 8), type := 3, pos := "law.go:244", after := #[{ on := 6, ground := Ground.guard }], guard := some (6, true) }) (v := ?v1009) rfl (by kernel_rfl) (by kernel_rfl) (by kernel_rfl) (fun _ _ _ h => h) (.inl ⟨by first | rfl | simp [Region.wanted, yielded], ?hy1009⟩) (by assumption) ?rest1009
          case hy1009 => (intro W hW; have f1 := HC1.out _ hW; have f2 := HC2.out _ hW; go_simp; try with_reducible rfl)
          simp only [Act.put, List.setIfInBounds_toArray, List.set_cons_zero, List.set_cons_succ]
          refine' wpAnyH_take (i := 11) (oi := { dst := some 201, op := Op.slice 29 (Operand.tmp 199) (some (Operand.tmp 200)) none none, type := 29, pos := "law.go:244", after := #[{ on := 9, ground := Ground.data }, { on := 10, ground := Ground.data }, { on := 6, ground := Ground.guard }], guard := some (6, true) }) (v := ?v1010) rfl (by kernel_rfl) (by kernel_rfl) (by kernel_rfl) (fun _ _ _ h => h) (.inl ⟨by first | rfl | simp [Region.wanted, yielded], ?hy1010⟩) (by assumption) ?rest1010
          case hy1010 => (intro W hW; have f1 := HC1.out _ hW; have f2 := HC2.out _ hW; go_simp; try with_reducible rfl)
          simp only [Act.put, List.setIfInBounds_toArray, List.set_cons_zero, List.set_cons_succ]
          refine' wpAnyH_take (i := 12) (oi := { dst := some 202, op := Op.convert 29 9 (Operand.tmp 201), type := 9, pos := "law.go:244", after := #[{ on := 11, ground := Ground.data }, { on := 6, ground := Ground.guard }], guard := some (6, true) }) (v := ?v1011) rfl (by kernel_rfl) (by kernel_rfl) (by kernel_rfl) (fun _ _ _ h => h) (.inl ⟨by first | rfl | simp [Region.wanted, yielded], ?hy1011⟩) (by assumption) ?rest1011
          case hy1011 => (intro W hW; have f1 := HC1.out _ hW; have f2 := HC2.out _ hW; go_simp; try with_reducible rfl)
          simp only [Act.put, List.setIfInBounds_toArray, List.set_cons_zero, List.set_cons_succ]
          refine' wpAnyH_take (i := 13) (oi := { dst := some 203, op := Op.binOp BinOp.eql 9 (Operand.tmp 198) (Operand.tmp 202) 9, type := 4, pos := "law.go:244", after := #[{ on := 8, ground := Ground.data }, { on := 12, ground := Ground.data }, { on := 6, ground := Ground.guard }], guard := some (6, true) }) (v := ?v1012) rfl (by kernel_rfl) (by kernel_rfl) (by kernel_rfl) (fun _ _ _ h => h) (.inl ⟨by first | rfl | simp [Region.wanted, yielded], ?hy1012⟩) (by assumption) ?rest1012
          case hy1012 => (intro W hW; have f1 := HC1.out _ hW; have f2 := HC2.out _ hW; go_simp; try with_reducible rfl)
          simp only [Act.put, List.setIfInBounds_toArray, List.set_cons_zero, List.set_cons_succ]
          refine' wpAnyH_take (i := 14) (oi := { dst := some 204, op := Op.pick (Operand.tmp 196) (Operand.tmp 203) (Operand.const (Value.bool false)), type := 4, pos := "law.go:244", after := #[{ on := 6, ground := Ground.data }, { on := 13, ground := Ground.data }], guard := none }) (v := ?v1013) rfl (by kernel_rfl) (by kernel_rfl) (by kernel_rfl) (fun _ _ _ h => h) (.inl ⟨by first | rfl | simp [Region.wanted, yielded], ?hy1013⟩) (by assumption) ?rest1013
          case hy1013 => (intro W hW; have f1 := HC1.out _ hW; have f2 := HC2.out _ hW; go_simp; try with_reducible rfl)
          simp only [Act.put, List.setIfInBounds_toArray, List.set_cons_zero, List.set_cons_succ]
          refine' wpAnyH_take (i := 15) (oi := { dst := some 205, op := Op.move (Operand.tmp 204), type := 4, pos := "law.go:244", after := #[{ on := 14, ground := Ground.data }, { on := 6, ground := Ground.chain }], guard := none }) (v := ?v1014) rfl (by kernel_rfl) (by kernel_rfl) (by kernel_rfl) (fun _ _ _ h => h) (.inl ⟨by first | rfl | simp [Region.wanted, yielded], ?hy1014⟩) (by assumption) ?rest1014
          case hy1014 => (intro W hW; have f1 := HC1.out _ hW; have f2 := HC2.out _ hW; go_simp; try with_reducible rfl)
          simp only [Act.put, List.setIfInBounds_toArray, List.set_cons_zero, List.set_cons_succ]
          refine' wpAnyH_take (i := 16) (oi := { dst := some 206, op := Op.move (Operand.tmp 10), type := 3, pos := "law.go:244", after := #[{ on := 15, ground := Ground.guard }], guard := some (15, true) }) (v := ?v1015) rfl (by kernel_rfl) (by kernel_rfl) (by kernel_rfl) (fun _ _ _ h => h) (.inl ⟨by first | rfl | simp [Region.wanted, yielded], ?hy1015⟩) (by assumption) ?rest1015
          case hy1015 => (intro W hW; have f1 := HC1.out _ hW; have f2 := HC2.out _ hW; go_simp; try with_reducible rfl)
          simp only [Act.put, List.setIfInBounds_toArray, List.set_cons_zero, List.set_cons_succ]
          refine' wpAnyH_take (i := 17) (oi := { dst := some 207, op := Op.move (Operand.tmp 11), type := 3, pos := "law.go:244", after := #[{ on := 15, ground := Ground.guard }], guard := some (15, true) }) (v := ?v1016) rfl (by kernel_rfl) (by kernel_rfl) (by kernel_rfl) (fun _ _ _ h => h) (.inl ⟨by first | rfl | simp [Region.wanted, yielded], ?hy1016⟩) (by assumption) ?rest1016
          case hy1016 => (intro W hW; have f1 := HC1.out _ hW; have f2 := HC2.out _ hW; go_simp; try with_reducible rfl)
          simp only [Act.put, List.setIfInBounds_toArray, List.set_cons_zero, List.set_cons_succ]
          refine' wpAnyH_take (i := 18) (oi := { dst := some 208, op := Op.binOp BinOp.add 3 (Operand.tmp 206) (Operand.tmp 207) 3, type := 3, pos := "law.go:244", after := #[{ on := 16, ground := Ground.data }, { on := 17, ground := Ground.data }, { on := 15, ground := Ground.guard }], guard := some (15, true) }) (v := ?v1017) rfl (by kernel_rfl) (by kernel_rfl) (by kernel_rfl) (fun _ _ _ h => h) (.inl ⟨by first | rfl | simp [Region.wanted, yielded], ?hy1017⟩) (by assumption) ?rest1017
          case hy1017 => (intro W hW; have f1 := HC1.out _ hW; have f2 := HC2.out _ hW; go_simp; try with_reducible rfl)
          simp only [Act.put, List.setIfInBounds_toArray, List.set_cons_zero, List.set_cons_succ]
          refine' wpAnyH_take (i := 19) (oi := { dst := some 209, op := Op.move (Operand.tmp 22), type := 3, pos := "law.go:244", after := #[{ on := 15, ground := Ground.guard }], guard := some (15, true) }) (v := ?v1018) rfl (by kernel_rfl) (by kernel_rfl) (by kernel_rfl) (fun _ _ _ h => h) (.inl ⟨by first | rfl | simp [Region.wanted, yielded], ?hy1018⟩) (by assumption) ?rest1018
          case hy1018 => (intro W hW; have f1 := HC1.out _ hW; have f2 := HC2.out _ hW; go_simp; try with_reducible rfl)
          simp only [Act.put, List.setIfInBounds_toArray, List.set_cons_zero, List.set_cons_succ]
          refine' wpAnyH_take (i := 20) (oi := { dst := some 210, op := Op.binOp BinOp.add 3 (Operand.tmp 208) (Operand.tmp 209) 3, type := 3, pos := "law.go:244", after := #[{ on := 18, ground := Ground.data }, { on := 19, ground := Ground.data }, { on := 15, ground := Ground.guard }], guard := some (15, true) }) (v := ?v1019) rfl (by kernel_rfl) (by kernel_rfl) (by kernel_rfl) (fun _ _ _ h => h) (.inl ⟨by first | rfl | simp [Region.wanted, yielded], ?hy1019⟩) (by assumption) ?rest1019
          case hy1019 => (intro W hW; have f1 := HC1.out _ hW; have f2 := HC2.out _ hW; go_simp; try with_reducible rfl)
          simp only [Act.put, List.setIfInBounds_toArray, List.set_cons_zero, List.set_cons_succ]
          refine' wpAnyH_take (i := 21) (oi := { dst := some 211, op := Op.move (Operand.tmp 9), type := 3, pos := "law.go:244", after := #[{ on := 15, ground := Ground.guard }], guard := some (15, true) }) (v := ?v1020) rfl (by kernel_rfl) (by kernel_rfl) (by kernel_rfl) (fun _ _ _ h => h) (.inl ⟨by first | rfl | simp [Region.wanted, yielded], ?hy1020⟩) (by assumption) ?rest1020
          case hy1020 => (intro W hW; have f1 := HC1.out _ hW; have f2 := HC2.out _ hW; go_simp; try with_reducible rfl)
          simp only [Act.put, List.setIfInBounds_toArray, List.set_cons_zero, List.set_cons_succ]
          refine' wpAnyH_take (i := 22) (oi := { dst := some 212, op := Op.binOp BinOp.eql 3 (Operand.tmp 210) (Operand.tmp 211) 3, type := 4, pos := "law.go:244", after := #[{ on := 20, ground := Ground.data }, { on := 21, ground := Ground.data }, { on := 15, ground := Ground.guard }], guard := some (15, true) }) (v := ?v1021) rfl (by kernel_rfl) (by kernel_rfl) (by kernel_rfl) (fun _ _ _ h => h) (.inl ⟨by first | rfl | simp [Region.wanted, yielded], ?hy1021⟩) (by assumption) ?rest1021
          case hy1021 => (intro W hW; have f1 := HC1.out _ hW; have f2 := HC2.out _ hW; go_simp; try with_reducible rfl)
          simp only [Act.put, List.setIfInBounds_toArray, List.set_cons_zero, List.set_cons_succ]
          refine' wpAnyH_take (i := 23) (oi := { dst := some 213, op := Op.pick (Operand.tmp 205) (Operand.tmp 212) (Operand.const (Value.bool false)), type := 4, pos := "law.go:244", after := #[{ on := 15, ground := Ground.data }, { on := 22, ground := Ground.data }], guard := none }) (v := ?v1022) rfl (by kernel_rfl) (by kernel_rfl) (by kernel_rfl) (fun _ _ _ h => h) (.inl ⟨by first | rfl | simp [Region.wanted, yielded], ?hy1022⟩) (by assumption) ?rest1022
          case hy1022 => (intro W hW; have f1 := HC1.out _ hW; have f2 := HC2.out _ hW; go_simp; try with_reducible rfl)
          simp only [Act.put, List.setIfInBounds_toArray, List.set_cons_zero, List.set_cons_succ]
          refine' wpAnyH_take (i := 24) (oi := { dst := some 214, op := Op.move (Operand.tmp 213), type := 4, pos := "law.go:244", after := #[{ on := 23, ground := Ground.data }, { on := 15, ground := Ground.chain }], guard := none }) (v := ?v1023) rfl (by kernel_rfl) (by kernel_rfl) (by kernel_rfl) (fun _ _ _ h => h) (.inl ⟨by first | rfl | simp [Region.wanted, yielded], ?hy1023⟩) (by assumption) ?rest1023
          case hy1023 => (intro W hW; have f1 := HC1.out _ hW; have f2 := HC2.out _ hW; go_simp; try with_reducible rfl)
          simp only [Act.put, List.setIfInBounds_toArray, List.set_cons_zero, List.set_cons_succ]
          refine' wpAnyH_take (i := 25) (oi := { dst := some 215, op := Op.move (Operand.tmp 5), type := 25, pos := "law.go:244", after := #[{ on := 24, ground := Ground.guard }], guard := some (24, true) }) (v := ?v1024) rfl (by kernel_rfl) (by kernel_rfl) (by kernel_rfl) (fun _ _ _ h => h) (.inl ⟨by first | rfl | simp [Region.wanted, yielded], ?hy1024⟩) (by assumption) ?rest1024
          case hy1024 => (intro W hW; have f1 := HC1.out _ hW; have f2 := HC2.out _ hW; go_simp; try with_reducible rfl)
          simp only [Act.put, List.setIfInBounds_toArray, List.set_cons_zero, List.set_cons_succ]
          refine wpAnyH_ready (rs := [26]) (by kernel_rfl) (by simp) ?_
          refine AllReadyH.cons (o := { dst := some 216, op := Op.call { callee := Callee.value (Operand.func 15), args := #[Operand.tmp 215], argTypes := #[25] }, type := 3, pos := "law.go:244", after := #[{ on := 25, ground := Ground.data }, { on := 24, ground := Ground.chain }, { on := 24, ground := Ground.guard }], guard := some (24, true) }) rfl (fun KK hK => ?_) (AllReadyH.nil)
          try simp only [List.getElem_toArray, List.getElem_cons_succ, List.getElem_cons_zero]
          go_simp
          refine (HLn.out _ (by assumption)).mono ?_
          rintro e w5 ⟨rfl, hb5⟩
          have HB5 := hHeld.trans (hb5.mono hHeld.size)
          refine hK.out _ _ (by assumption) (fun hHeld => ?_)
          clear hK KK
          try simp only [Act.put, List.setIfInBounds_toArray, List.set_cons_zero, List.set_cons_succ]
          refine' wpAnyH_take (i := 27) (oi := { dst := some 217, op := Op.binOp BinOp.eql 3 (Operand.tmp 216) (Operand.const (Value.int IntKind.i64 0)) 3, type := 4, pos := "law.go:244", after := #[{ on := 26, ground := Ground.data }, { on := 24, ground := Ground.guard }], guard := some (24, true) }) (v := ?v1025) rfl (by kernel_rfl) (by kernel_rfl) (by kernel_rfl) (fun _ _ _ h => h) (.inl ⟨by first | rfl | simp [Region.wanted, yielded], ?hy1025⟩) (by assumption) ?rest1025
          case hy1025 => (intro W hW; have f1 := HC1.out _ hW; have f2 := HC2.out _ hW; go_simp; try with_reducible rfl)
          simp only [Act.put, List.setIfInBounds_toArray, List.set_cons_zero, List.set_cons_succ]
          refine' wpAnyH_take (i := 28) (oi := { dst := some 218, op := Op.pick (Operand.tmp 214) (Operand.tmp 217) (Operand.const (Value.bool false)), type := 4, pos := "law.go:244", after := #[{ on := 24, ground := Ground.data }, { on := 27, ground := Ground.data }], guard := none }) (v := ?v1026) rfl (by kernel_rfl) (by kernel_rfl) (by kernel_rfl) (fun _ _ _ h => h) (.inl ⟨by first | rfl | simp [Region.wanted, yielded], ?hy1026⟩) (by assumption) ?rest1026
          case hy1026 => (intro W hW; have f1 := HC1.out _ hW; have f2 := HC2.out _ hW; go_simp; try with_reducible rfl)
          simp only [Act.put, List.setIfInBounds_toArray, List.set_cons_zero, List.set_cons_succ]
          refine' wpAnyH_take (i := 29) (oi := { dst := some 219, op := Op.move (Operand.tmp 218), type := 4, pos := "law.go:244", after := #[{ on := 28, ground := Ground.data }, { on := 26, ground := Ground.chain }], guard := none }) (v := ?v1027) rfl (by kernel_rfl) (by kernel_rfl) (by kernel_rfl) (fun _ _ _ h => h) (.inl ⟨by first | rfl | simp [Region.wanted, yielded], ?hy1027⟩) (by assumption) ?rest1027
          case hy1027 => (intro W hW; have f1 := HC1.out _ hW; have f2 := HC2.out _ hW; go_simp; try with_reducible rfl)
          simp only [Act.put, List.setIfInBounds_toArray, List.set_cons_zero, List.set_cons_succ]
          refine wpAnyH_ready (rs := [30]) (by kernel_rfl) (by simp) ?_
          refine AllReadyH.cons (o := { dst := some 220, op := Op.call { callee := Callee.value (Operand.func 8), args := #[], argTypes := #[] }, type := 4, pos := "law.go:244", after := #[{ on := 29, ground := Ground.chain }, { on := 29, ground := Ground.guard }], guard := some (29, true) }) rfl (fun KK hK => ?_) (AllReadyH.nil)
          try simp only [List.getElem_toArray, List.getElem_cons_succ, List.getElem_cons_zero]
          go_simp
          refine (HWorks.out _).mono ?_
          rintro e w6 ⟨rfl, hb6⟩
          have HB6 := hHeld.trans (hb6.mono hHeld.size)
          refine hK.out _ _ (by assumption) (fun hHeld => ?_)
          clear hK KK
          try simp only [Act.put, List.setIfInBounds_toArray, List.set_cons_zero, List.set_cons_succ]
          refine' wpAnyH_take (i := 31) (oi := { dst := some 221, op := Op.pick (Operand.tmp 219) (Operand.tmp 220) (Operand.const (Value.bool false)), type := 4, pos := "law.go:244", after := #[{ on := 29, ground := Ground.data }, { on := 30, ground := Ground.data }], guard := none }) (v := ?v1028) rfl (by kernel_rfl) (by kernel_rfl) (by kernel_rfl) (fun _ _ _ h => h) (.inl ⟨by first | rfl | simp [Region.wanted, yielded], ?hy1028⟩) (by assumption) ?rest1028
          case hy1028 => (intro W hW; have f1 := HC1.out _ hW; have f2 := HC2.out _ hW; go_simp; try with_reducible rfl)
          simp only [Act.put, List.setIfInBounds_toArray, List.set_cons_zero, List.set_cons_succ]
          refine' wpAnyH_take (i := 32) (oi := { dst := some 4, op := Op.assign (Operand.tmp 221), type := 4, pos := "law.go:244", after := #[{ on := 31, ground := Ground.data }, { on := 30, ground := Ground.chain }, { on := 0, ground := Ground.phase }, { on := 1, ground := Ground.phase }, { on := 2, ground := Ground.phase }, { on := 3, ground := Ground.phase }, { on := 4, ground := Ground.phase }, { on := 5, ground := Ground.phase }, { on := 6, ground := Ground.phase }, { on := 7, ground := Ground.phase }, { on := 8, ground := Ground.phase }, { on := 9, ground := Ground.phase }, { on := 10, ground := Ground.phase }, { on := 11, ground := Ground.phase }, { on := 12, ground := Ground.phase }, { on := 13, ground := Ground.phase }, { on := 14, ground := Ground.phase }, { on := 15, ground := Ground.phase }, { on := 16, ground := Ground.phase }, { on := 17, ground := Ground.phase }, { on := 18, ground := Ground.phase }, { on := 19, ground := Ground.phase }, { on := 20, ground := Ground.phase }, { on := 21, ground := Ground.phase }, { on := 22, ground := Ground.phase }, { on := 23, ground := Ground.phase }, { on := 24, ground := Ground.phase }, { on := 25, ground := Ground.phase }, { on := 26, ground := Ground.phase }, { on := 27, ground := Ground.phase }, { on := 28, ground := Ground.phase }, { on := 29, ground := Ground.phase }, { on := 30, ground := Ground.phase }, { on := 31, ground := Ground.phase }], guard := none }) (v := ?v1029) rfl (by kernel_rfl) (by kernel_rfl) (by kernel_rfl) (fun _ _ _ h => h) (.inl ⟨by first | rfl | simp [Region.wanted, yielded], ?hy1029⟩) (by assumption) ?rest1029
          case hy1029 => (intro W hW; have f1 := HC1.out _ hW; have f2 := HC2.out _ hW; go_simp; try with_reducible rfl)
          simp only [Act.put, List.setIfInBounds_toArray, List.set_cons_zero, List.set_cons_succ]
          refine wpAnyH_done (by kernel_rfl) ?_ _
          go_wp2
          go_ret
          exact ⟨rfl, HB3.out.trans (HB6.mono HB3.out.size)⟩
        · obtain rfl : at' = c := by omega
          have e2 : A - at' = 0 := by omega
          obtain rfl : k = 0 := by omega
          have HC2 : Hid (∀ W, Below w3.heap.size w3 W → (convert 29 9 (.slice a 0 0)).run Try.prog W = .ok (.string Y) W) := Lib.hid fun W hW => by
            have hb0 : bs = [] := List.eq_nil_of_length_eq_zero HB.out.symm
            rw [hY, hb0]
            exact conv_any (xs := []) (T := fun _ => True) (w := W) (a := a) 0 ⟨rfl, fun h => by simp at h⟩ (fun _ => ⟨rfl, rfl⟩)
          clear hAr hnr hkB hgj hq3 hm3 hlast hkm hdk htk hgl hj hY hrow3 hdrop hbd HTk
          go_wp2_with fail
          refine wp_region_held_drew (S := fun W => Below w3.heap.size w3 W) (by kernel_rfl) (Below.drewN' w3 1) (fun hHeld => ?_)
          generalize w3.drew = wd at hHeld ⊢
          refine' wpAnyH_take (i := 0) (oi := { dst := some 190, op := Op.move (Operand.tmp 6), type := 26, pos := "law.go:244", after := #[], guard := none }) (v := ?v2001) rfl (by kernel_rfl) (by kernel_rfl) (by kernel_rfl) (fun _ _ _ h => h) (.inl ⟨by first | rfl | simp [Region.wanted, yielded], ?hy2001⟩) (by assumption) ?rest2001
          case hy2001 => (intro W hW; have f1 := HC1.out _ hW; have f2 := HC2.out _ hW; go_simp; try with_reducible rfl)
          simp only [Act.put, List.setIfInBounds_toArray, List.set_cons_zero, List.set_cons_succ]
          refine' wpAnyH_take (i := 2) (oi := { dst := some 192, op := Op.move (Operand.tmp 23), type := 26, pos := "law.go:244", after := #[], guard := none }) (v := ?v2002) rfl (by kernel_rfl) (by kernel_rfl) (by kernel_rfl) (fun _ _ _ h => h) (.inl ⟨by first | rfl | simp [Region.wanted, yielded], ?hy2002⟩) (by assumption) ?rest2002
          case hy2002 => (intro W hW; have f1 := HC1.out _ hW; have f2 := HC2.out _ hW; go_simp; try with_reducible rfl)
          simp only [Act.put, List.setIfInBounds_toArray, List.set_cons_zero, List.set_cons_succ]
          refine wpAnyH_ready (rs := [1]) (by kernel_rfl) (by simp) ?_
          refine AllReadyH.cons (o := { dst := some 191, op := Op.call { callee := Callee.value (Operand.func 10), args := #[Operand.tmp 190], argTypes := #[26] }, type := 3, pos := "law.go:244", after := #[{ on := 0, ground := Ground.data }], guard := none }) rfl (fun KK hK => ?_) (AllReadyH.nil)
          try simp only [List.getElem_toArray, List.getElem_cons_succ, List.getElem_cons_zero]
          go_simp
          refine (HNum.out _ _).mono ?_
          rintro e w' ⟨rfl, rfl⟩
          refine hK.out _ _ (by assumption) (fun hHeld => ?_)
          clear hK KK
          try simp only [Act.put, List.setIfInBounds_toArray, List.set_cons_zero, List.set_cons_succ]
          refine wpAnyH_ready (rs := [3]) (by kernel_rfl) (by simp) ?_
          refine AllReadyH.cons (o := { dst := some 193, op := Op.call { callee := Callee.value (Operand.func 10), args := #[Operand.tmp 192], argTypes := #[26] }, type := 3, pos := "law.go:244", after := #[{ on := 2, ground := Ground.data }, { on := 1, ground := Ground.chain }], guard := none }) rfl (fun KK hK => ?_) (AllReadyH.nil)
          try simp only [List.getElem_toArray, List.getElem_cons_succ, List.getElem_cons_zero]
          go_simp
          refine (HNum.out _ _).mono ?_
          rintro e w' ⟨rfl, rfl⟩
          refine hK.out _ _ (by assumption) (fun hHeld => ?_)
          clear hK KK
          try simp only [Act.put, List.setIfInBounds_toArray, List.set_cons_zero, List.set_cons_succ]
          refine' wpAnyH_take (i := 4) (oi := { dst := some 194, op := Op.binOp BinOp.add 3 (Operand.tmp 191) (Operand.tmp 193) 3, type := 3, pos := "law.go:244", after := #[{ on := 1, ground := Ground.data }, { on := 3, ground := Ground.data }], guard := none }) (v := ?v2003) rfl (by kernel_rfl) (by kernel_rfl) (by kernel_rfl) (fun _ _ _ h => h) (.inl ⟨by first | rfl | simp [Region.wanted, yielded], ?hy2003⟩) (by assumption) ?rest2003
          case hy2003 => (intro W hW; have f1 := HC1.out _ hW; have f2 := HC2.out _ hW; go_simp; try with_reducible rfl)
          simp only [Act.put, List.setIfInBounds_toArray, List.set_cons_zero, List.set_cons_succ]
          refine' wpAnyH_take (i := 5) (oi := { dst := some 195, op := Op.binOp BinOp.eql 3 (Operand.tmp 194) (Operand.const (Value.int IntKind.i64 0)) 3, type := 4, pos := "law.go:244", after := #[{ on := 4, ground := Ground.data }], guard := none }) (v := ?v2004) rfl (by kernel_rfl) (by kernel_rfl) (by kernel_rfl) (fun _ _ _ h => h) (.inl ⟨by first | rfl | simp [Region.wanted, yielded], ?hy2004⟩) (by assumption) ?rest2004
          case hy2004 => (intro W hW; have f1 := HC1.out _ hW; have f2 := HC2.out _ hW; go_simp; try with_reducible rfl)
          simp only [Act.put, List.setIfInBounds_toArray, List.set_cons_zero, List.set_cons_succ]
          refine' wpAnyH_take (i := 6) (oi := { dst := some 196, op := Op.move (Operand.tmp 195), type := 4, pos := "law.go:244", after := #[{ on := 5, ground := Ground.data }, { on := 3, ground := Ground.chain }], guard := none }) (v := ?v2005) rfl (by kernel_rfl) (by kernel_rfl) (by kernel_rfl) (fun _ _ _ h => h) (.inl ⟨by first | rfl | simp [Region.wanted, yielded], ?hy2005⟩) (by assumption) ?rest2005
          case hy2005 => (intro W hW; have f1 := HC1.out _ hW; have f2 := HC2.out _ hW; go_simp; try with_reducible rfl)
          simp only [Act.put, List.setIfInBounds_toArray, List.set_cons_zero, List.set_cons_succ]
          refine' wpAnyH_take (i := 7) (oi := { dst := some 197, op := Op.move (Operand.tmp 21), type := 29, pos := "law.go:244", after := #[{ on := 6, ground := Ground.guard }], guard := some (6, true) }) (v := ?v2006) rfl (by kernel_rfl) (by kernel_rfl) (by kernel_rfl) (fun _ _ _ h => h) (.inl ⟨by first | rfl | simp [Region.wanted, yielded], ?hy2006⟩) (by assumption) ?rest2006
          case hy2006 => (intro W hW; have f1 := HC1.out _ hW; have f2 := HC2.out _ hW; go_simp; try with_reducible rfl)
          simp only [Act.put, List.setIfInBounds_toArray, List.set_cons_zero, List.set_cons_succ]
          refine' wpAnyH_take (i := 8) (oi := { dst := some 198, op := Op.convert 29 9 (Operand.tmp 197), type := 9, pos := "law.go:244", after := #[{ on := 7, ground := Ground.data }, { on := 6, ground := Ground.guard }], guard := some (6, true) }) (v := ?v2007) rfl (by kernel_rfl) (by kernel_rfl) (by kernel_rfl) (fun _ _ _ h => h) (.inl ⟨by first | rfl | simp [Region.wanted, yielded], ?hy2007⟩) (by assumption) ?rest2007
          case hy2007 => (intro W hW; have f1 := HC1.out _ hW; have f2 := HC2.out _ hW; go_simp; try with_reducible rfl)
          simp only [Act.put, List.setIfInBounds_toArray, List.set_cons_zero, List.set_cons_succ]
          refine' wpAnyH_take (i := 9) (oi := { dst := some 199, op := Op.move (Operand.tmp 7), type := 29, pos := "law.go:244", after := #[{ on := 6, ground := Ground.guard }], guard := some (6, true) }) (v := ?v2008) rfl (by kernel_rfl) (by kernel_rfl) (by kernel_rfl) (fun _ _ _ h => h) (.inl ⟨by first | rfl | simp [Region.wanted, yielded], ?hy2008⟩) (by assumption) ?rest2008
          case hy2008 => (intro W hW; have f1 := HC1.out _ hW; have f2 := HC2.out _ hW; go_simp; try with_reducible rfl)
          simp only [Act.put, List.setIfInBounds_toArray, List.set_cons_zero, List.set_cons_succ]
          refine' wpAnyH_take (i := 10) (oi := { dst := some 200, op := Op.move (Operand.tmp 8), type := 3, pos := "law.go:244", after := #[{ on := 6, ground := Ground.guard }], guard := some (6, true) }) (v := ?v2009) rfl (by kernel_rfl) (by kernel_rfl) (by kernel_rfl) (fun _ _ _ h => h) (.inl ⟨by first | rfl | simp [Region.wanted, yielded], ?hy2009⟩) (by assumption) ?rest2009
          case hy2009 => (intro W hW; have f1 := HC1.out _ hW; have f2 := HC2.out _ hW; go_simp; try with_reducible rfl)
          simp only [Act.put, List.setIfInBounds_toArray, List.set_cons_zero, List.set_cons_succ]
          refine' wpAnyH_take (i := 11) (oi := { dst := some 201, op := Op.slice 29 (Operand.tmp 199) (some (Operand.tmp 200)) none none, type := 29, pos := "law.go:244", after := #[{ on := 9, ground := Ground.data }, { on := 10, ground := Ground.data }, { on := 6, ground := Ground.guard }], guard := some (6, true) }) (v := ?v2010) rfl (by kernel_rfl) (by kernel_rfl) (by kernel_rfl) (fun _ _ _ h => h) (.inl ⟨by first | rfl | simp [Region.wanted, yielded], ?hy2010⟩) (by assumption) ?rest2010
          case hy2010 => (intro W hW; have f1 := HC1.out _ hW; have f2 := HC2.out _ hW; go_simp; try with_reducible rfl)
          simp only [Act.put, List.setIfInBounds_toArray, List.set_cons_zero, List.set_cons_succ]
          refine' wpAnyH_take (i := 12) (oi := { dst := some 202, op := Op.convert 29 9 (Operand.tmp 201), type := 9, pos := "law.go:244", after := #[{ on := 11, ground := Ground.data }, { on := 6, ground := Ground.guard }], guard := some (6, true) }) (v := ?v2011) rfl (by kernel_rfl) (by kernel_rfl) (by kernel_rfl) (fun _ _ _ h => h) (.inl ⟨by first | rfl | simp [Region.wanted, yielded], ?hy2011⟩) (by assumption) ?rest2011
          case hy2011 => (intro W hW; have f1 := HC1.out _ hW; have f2 := HC2.out _ hW; go_simp; try with_reducible rfl)
          simp only [Act.put, List.setIfInBounds_toArray, List.set_cons_zero, List.set_cons_succ]
          refine' wpAnyH_take (i := 13) (oi := { dst := some 203, op := Op.binOp BinOp.eql 9 (Operand.tmp 198) (Operand.tmp 202) 9, type := 4, pos := "law.go:244", after := #[{ on := 8, ground := Ground.data }, { on := 12, ground := Ground.data }, { on := 6, ground := Ground.guard }], guard := some (6, true) }) (v := ?v2012) rfl (by kernel_rfl) (by kernel_rfl) (by kernel_rfl) (fun _ _ _ h => h) (.inl ⟨by first | rfl | simp [Region.wanted, yielded], ?hy2012⟩) (by assumption) ?rest2012
          case hy2012 => (intro W hW; have f1 := HC1.out _ hW; have f2 := HC2.out _ hW; go_simp; try with_reducible rfl)
          simp only [Act.put, List.setIfInBounds_toArray, List.set_cons_zero, List.set_cons_succ]
          refine' wpAnyH_take (i := 14) (oi := { dst := some 204, op := Op.pick (Operand.tmp 196) (Operand.tmp 203) (Operand.const (Value.bool false)), type := 4, pos := "law.go:244", after := #[{ on := 6, ground := Ground.data }, { on := 13, ground := Ground.data }], guard := none }) (v := ?v2013) rfl (by kernel_rfl) (by kernel_rfl) (by kernel_rfl) (fun _ _ _ h => h) (.inl ⟨by first | rfl | simp [Region.wanted, yielded], ?hy2013⟩) (by assumption) ?rest2013
          case hy2013 => (intro W hW; have f1 := HC1.out _ hW; have f2 := HC2.out _ hW; go_simp; try with_reducible rfl)
          simp only [Act.put, List.setIfInBounds_toArray, List.set_cons_zero, List.set_cons_succ]
          refine' wpAnyH_take (i := 15) (oi := { dst := some 205, op := Op.move (Operand.tmp 204), type := 4, pos := "law.go:244", after := #[{ on := 14, ground := Ground.data }, { on := 6, ground := Ground.chain }], guard := none }) (v := ?v2014) rfl (by kernel_rfl) (by kernel_rfl) (by kernel_rfl) (fun _ _ _ h => h) (.inl ⟨by first | rfl | simp [Region.wanted, yielded], ?hy2014⟩) (by assumption) ?rest2014
          case hy2014 => (intro W hW; have f1 := HC1.out _ hW; have f2 := HC2.out _ hW; go_simp; try with_reducible rfl)
          simp only [Act.put, List.setIfInBounds_toArray, List.set_cons_zero, List.set_cons_succ]
          refine' wpAnyH_take (i := 16) (oi := { dst := some 206, op := Op.move (Operand.tmp 10), type := 3, pos := "law.go:244", after := #[{ on := 15, ground := Ground.guard }], guard := some (15, true) }) (v := ?v2015) rfl (by kernel_rfl) (by kernel_rfl) (by kernel_rfl) (fun _ _ _ h => h) (.inl ⟨by first | rfl | simp [Region.wanted, yielded], ?hy2015⟩) (by assumption) ?rest2015
          case hy2015 => (intro W hW; have f1 := HC1.out _ hW; have f2 := HC2.out _ hW; go_simp; try with_reducible rfl)
          simp only [Act.put, List.setIfInBounds_toArray, List.set_cons_zero, List.set_cons_succ]
          refine' wpAnyH_take (i := 17) (oi := { dst := some 207, op := Op.move (Operand.tmp 11), type := 3, pos := "law.go:244", after := #[{ on := 15, ground := Ground.guard }], guard := some (15, true) }) (v := ?v2016) rfl (by kernel_rfl) (by kernel_rfl) (by kernel_rfl) (fun _ _ _ h => h) (.inl ⟨by first | rfl | simp [Region.wanted, yielded], ?hy2016⟩) (by assumption) ?rest2016
          case hy2016 => (intro W hW; have f1 := HC1.out _ hW; have f2 := HC2.out _ hW; go_simp; try with_reducible rfl)
          simp only [Act.put, List.setIfInBounds_toArray, List.set_cons_zero, List.set_cons_succ]
          refine' wpAnyH_take (i := 18) (oi := { dst := some 208, op := Op.binOp BinOp.add 3 (Operand.tmp 206) (Operand.tmp 207) 3, type := 3, pos := "law.go:244", after := #[{ on := 16, ground := Ground.data }, { on := 17, ground := Ground.data }, { on := 15, ground := Ground.guard }], guard := some (15, true) }) (v := ?v2017) rfl (by kernel_rfl) (by kernel_rfl) (by kernel_rfl) (fun _ _ _ h => h) (.inl ⟨by first | rfl | simp [Region.wanted, yielded], ?hy2017⟩) (by assumption) ?rest2017
          case hy2017 => (intro W hW; have f1 := HC1.out _ hW; have f2 := HC2.out _ hW; go_simp; try with_reducible rfl)
          simp only [Act.put, List.setIfInBounds_toArray, List.set_cons_zero, List.set_cons_succ]
          refine' wpAnyH_take (i := 19) (oi := { dst := some 209, op := Op.move (Operand.tmp 22), type := 3, pos := "law.go:244", after := #[{ on := 15, ground := Ground.guard }], guard := some (15, true) }) (v := ?v2018) rfl (by kernel_rfl) (by kernel_rfl) (by kernel_rfl) (fun _ _ _ h => h) (.inl ⟨by first | rfl | simp [Region.wanted, yielded], ?hy2018⟩) (by assumption) ?rest2018
          case hy2018 => (intro W hW; have f1 := HC1.out _ hW; have f2 := HC2.out _ hW; go_simp; try with_reducible rfl)
          simp only [Act.put, List.setIfInBounds_toArray, List.set_cons_zero, List.set_cons_succ]
          refine' wpAnyH_take (i := 20) (oi := { dst := some 210, op := Op.binOp BinOp.add 3 (Operand.tmp 208) (Operand.tmp 209) 3, type := 3, pos := "law.go:244", after := #[{ on := 18, ground := Ground.data }, { on := 19, ground := Ground.data }, { on := 15, ground := Ground.guard }], guard := some (15, true) }) (v := ?v2019) rfl (by kernel_rfl) (by kernel_rfl) (by kernel_rfl) (fun _ _ _ h => h) (.inl ⟨by first | rfl | simp [Region.wanted, yielded], ?hy2019⟩) (by assumption) ?rest2019
          case hy2019 => (intro W hW; have f1 := HC1.out _ hW; have f2 := HC2.out _ hW; go_simp; try with_reducible rfl)
          simp only [Act.put, List.setIfInBounds_toArray, List.set_cons_zero, List.set_cons_succ]
          refine' wpAnyH_take (i := 21) (oi := { dst := some 211, op := Op.move (Operand.tmp 9), type := 3, pos := "law.go:244", after := #[{ on := 15, ground := Ground.guard }], guard := some (15, true) }) (v := ?v2020) rfl (by kernel_rfl) (by kernel_rfl) (by kernel_rfl) (fun _ _ _ h => h) (.inl ⟨by first | rfl | simp [Region.wanted, yielded], ?hy2020⟩) (by assumption) ?rest2020
          case hy2020 => (intro W hW; have f1 := HC1.out _ hW; have f2 := HC2.out _ hW; go_simp; try with_reducible rfl)
          simp only [Act.put, List.setIfInBounds_toArray, List.set_cons_zero, List.set_cons_succ]
          refine' wpAnyH_take (i := 22) (oi := { dst := some 212, op := Op.binOp BinOp.eql 3 (Operand.tmp 210) (Operand.tmp 211) 3, type := 4, pos := "law.go:244", after := #[{ on := 20, ground := Ground.data }, { on := 21, ground := Ground.data }, { on := 15, ground := Ground.guard }], guard := some (15, true) }) (v := ?v2021) rfl (by kernel_rfl) (by kernel_rfl) (by kernel_rfl) (fun _ _ _ h => h) (.inl ⟨by first | rfl | simp [Region.wanted, yielded], ?hy2021⟩) (by assumption) ?rest2021
          case hy2021 => (intro W hW; have f1 := HC1.out _ hW; have f2 := HC2.out _ hW; go_simp; try with_reducible rfl)
          simp only [Act.put, List.setIfInBounds_toArray, List.set_cons_zero, List.set_cons_succ]
          refine' wpAnyH_take (i := 23) (oi := { dst := some 213, op := Op.pick (Operand.tmp 205) (Operand.tmp 212) (Operand.const (Value.bool false)), type := 4, pos := "law.go:244", after := #[{ on := 15, ground := Ground.data }, { on := 22, ground := Ground.data }], guard := none }) (v := ?v2022) rfl (by kernel_rfl) (by kernel_rfl) (by kernel_rfl) (fun _ _ _ h => h) (.inl ⟨by first | rfl | simp [Region.wanted, yielded], ?hy2022⟩) (by assumption) ?rest2022
          case hy2022 => (intro W hW; have f1 := HC1.out _ hW; have f2 := HC2.out _ hW; go_simp; try with_reducible rfl)
          simp only [Act.put, List.setIfInBounds_toArray, List.set_cons_zero, List.set_cons_succ]
          refine' wpAnyH_take (i := 24) (oi := { dst := some 214, op := Op.move (Operand.tmp 213), type := 4, pos := "law.go:244", after := #[{ on := 23, ground := Ground.data }, { on := 15, ground := Ground.chain }], guard := none }) (v := ?v2023) rfl (by kernel_rfl) (by kernel_rfl) (by kernel_rfl) (fun _ _ _ h => h) (.inl ⟨by first | rfl | simp [Region.wanted, yielded], ?hy2023⟩) (by assumption) ?rest2023
          case hy2023 => (intro W hW; have f1 := HC1.out _ hW; have f2 := HC2.out _ hW; go_simp; try with_reducible rfl)
          simp only [Act.put, List.setIfInBounds_toArray, List.set_cons_zero, List.set_cons_succ]
          refine' wpAnyH_take (i := 25) (oi := { dst := some 215, op := Op.move (Operand.tmp 5), type := 25, pos := "law.go:244", after := #[{ on := 24, ground := Ground.guard }], guard := some (24, true) }) (v := ?v2024) rfl (by kernel_rfl) (by kernel_rfl) (by kernel_rfl) (fun _ _ _ h => h) (.inl ⟨by first | rfl | simp [Region.wanted, yielded], ?hy2024⟩) (by assumption) ?rest2024
          case hy2024 => (intro W hW; have f1 := HC1.out _ hW; have f2 := HC2.out _ hW; go_simp; try with_reducible rfl)
          simp only [Act.put, List.setIfInBounds_toArray, List.set_cons_zero, List.set_cons_succ]
          refine wpAnyH_ready (rs := [26]) (by kernel_rfl) (by simp) ?_
          refine AllReadyH.cons (o := { dst := some 216, op := Op.call { callee := Callee.value (Operand.func 15), args := #[Operand.tmp 215], argTypes := #[25] }, type := 3, pos := "law.go:244", after := #[{ on := 25, ground := Ground.data }, { on := 24, ground := Ground.chain }, { on := 24, ground := Ground.guard }], guard := some (24, true) }) rfl (fun KK hK => ?_) (AllReadyH.nil)
          try simp only [List.getElem_toArray, List.getElem_cons_succ, List.getElem_cons_zero]
          go_simp
          refine (HLn.out _ (by assumption)).mono ?_
          rintro e w5 ⟨rfl, hb5⟩
          have HB5 := hHeld.trans (hb5.mono hHeld.size)
          refine hK.out _ _ (by assumption) (fun hHeld => ?_)
          clear hK KK
          try simp only [Act.put, List.setIfInBounds_toArray, List.set_cons_zero, List.set_cons_succ]
          refine' wpAnyH_take (i := 27) (oi := { dst := some 217, op := Op.binOp BinOp.eql 3 (Operand.tmp 216) (Operand.const (Value.int IntKind.i64 0)) 3, type := 4, pos := "law.go:244", after := #[{ on := 26, ground := Ground.data }, { on := 24, ground := Ground.guard }], guard := some (24, true) }) (v := ?v2025) rfl (by kernel_rfl) (by kernel_rfl) (by kernel_rfl) (fun _ _ _ h => h) (.inl ⟨by first | rfl | simp [Region.wanted, yielded], ?hy2025⟩) (by assumption) ?rest2025
          case hy2025 => (intro W hW; have f1 := HC1.out _ hW; have f2 := HC2.out _ hW; go_simp; try with_reducible rfl)
          simp only [Act.put, List.setIfInBounds_toArray, List.set_cons_zero, List.set_cons_succ]
          refine' wpAnyH_take (i := 28) (oi := { dst := some 218, op := Op.pick (Operand.tmp 214) (Operand.tmp 217) (Operand.const (Value.bool false)), type := 4, pos := "law.go:244", after := #[{ on := 24, ground := Ground.data }, { on := 27, ground := Ground.data }], guard := none }) (v := ?v2026) rfl (by kernel_rfl) (by kernel_rfl) (by kernel_rfl) (fun _ _ _ h => h) (.inl ⟨by first | rfl | simp [Region.wanted, yielded], ?hy2026⟩) (by assumption) ?rest2026
          case hy2026 => (intro W hW; have f1 := HC1.out _ hW; have f2 := HC2.out _ hW; go_simp; try with_reducible rfl)
          simp only [Act.put, List.setIfInBounds_toArray, List.set_cons_zero, List.set_cons_succ]
          refine' wpAnyH_take (i := 29) (oi := { dst := some 219, op := Op.move (Operand.tmp 218), type := 4, pos := "law.go:244", after := #[{ on := 28, ground := Ground.data }, { on := 26, ground := Ground.chain }], guard := none }) (v := ?v2027) rfl (by kernel_rfl) (by kernel_rfl) (by kernel_rfl) (fun _ _ _ h => h) (.inl ⟨by first | rfl | simp [Region.wanted, yielded], ?hy2027⟩) (by assumption) ?rest2027
          case hy2027 => (intro W hW; have f1 := HC1.out _ hW; have f2 := HC2.out _ hW; go_simp; try with_reducible rfl)
          simp only [Act.put, List.setIfInBounds_toArray, List.set_cons_zero, List.set_cons_succ]
          refine wpAnyH_ready (rs := [30]) (by kernel_rfl) (by simp) ?_
          refine AllReadyH.cons (o := { dst := some 220, op := Op.call { callee := Callee.value (Operand.func 8), args := #[], argTypes := #[] }, type := 4, pos := "law.go:244", after := #[{ on := 29, ground := Ground.chain }, { on := 29, ground := Ground.guard }], guard := some (29, true) }) rfl (fun KK hK => ?_) (AllReadyH.nil)
          try simp only [List.getElem_toArray, List.getElem_cons_succ, List.getElem_cons_zero]
          go_simp
          refine (HWorks.out _).mono ?_
          rintro e w6 ⟨rfl, hb6⟩
          have HB6 := hHeld.trans (hb6.mono hHeld.size)
          refine hK.out _ _ (by assumption) (fun hHeld => ?_)
          clear hK KK
          try simp only [Act.put, List.setIfInBounds_toArray, List.set_cons_zero, List.set_cons_succ]
          refine' wpAnyH_take (i := 31) (oi := { dst := some 221, op := Op.pick (Operand.tmp 219) (Operand.tmp 220) (Operand.const (Value.bool false)), type := 4, pos := "law.go:244", after := #[{ on := 29, ground := Ground.data }, { on := 30, ground := Ground.data }], guard := none }) (v := ?v2028) rfl (by kernel_rfl) (by kernel_rfl) (by kernel_rfl) (fun _ _ _ h => h) (.inl ⟨by first | rfl | simp [Region.wanted, yielded], ?hy2028⟩) (by assumption) ?rest2028
          case hy2028 => (intro W hW; have f1 := HC1.out _ hW; have f2 := HC2.out _ hW; go_simp; try with_reducible rfl)
          simp only [Act.put, List.setIfInBounds_toArray, List.set_cons_zero, List.set_cons_succ]
          refine' wpAnyH_take (i := 32) (oi := { dst := some 4, op := Op.assign (Operand.tmp 221), type := 4, pos := "law.go:244", after := #[{ on := 31, ground := Ground.data }, { on := 30, ground := Ground.chain }, { on := 0, ground := Ground.phase }, { on := 1, ground := Ground.phase }, { on := 2, ground := Ground.phase }, { on := 3, ground := Ground.phase }, { on := 4, ground := Ground.phase }, { on := 5, ground := Ground.phase }, { on := 6, ground := Ground.phase }, { on := 7, ground := Ground.phase }, { on := 8, ground := Ground.phase }, { on := 9, ground := Ground.phase }, { on := 10, ground := Ground.phase }, { on := 11, ground := Ground.phase }, { on := 12, ground := Ground.phase }, { on := 13, ground := Ground.phase }, { on := 14, ground := Ground.phase }, { on := 15, ground := Ground.phase }, { on := 16, ground := Ground.phase }, { on := 17, ground := Ground.phase }, { on := 18, ground := Ground.phase }, { on := 19, ground := Ground.phase }, { on := 20, ground := Ground.phase }, { on := 21, ground := Ground.phase }, { on := 22, ground := Ground.phase }, { on := 23, ground := Ground.phase }, { on := 24, ground := Ground.phase }, { on := 25, ground := Ground.phase }, { on := 26, ground := Ground.phase }, { on := 27, ground := Ground.phase }, { on := 28, ground := Ground.phase }, { on := 29, ground := Ground.phase }, { on := 30, ground := Ground.phase }, { on := 31, ground := Ground.phase }], guard := none }) (v := ?v2029) rfl (by kernel_rfl) (by kernel_rfl) (by kernel_rfl) (fun _ _ _ h => h) (.inl ⟨by first | rfl | simp [Region.wanted, yielded], ?hy2029⟩) (by assumption) ?rest2029
          case hy2029 => (intro W hW; have f1 := HC1.out _ hW; have f2 := HC2.out _ hW; go_simp; try with_reducible rfl)
          simp only [Act.put, List.setIfInBounds_toArray, List.set_cons_zero, List.set_cons_succ]
          refine wpAnyH_done (by kernel_rfl) ?_ _
          go_wp2
          go_ret
          exact ⟨rfl, HB3.out.trans (HB6.mono HB3.out.size)⟩
end Go.Proofs.Ytneeagabmdpjgaa
