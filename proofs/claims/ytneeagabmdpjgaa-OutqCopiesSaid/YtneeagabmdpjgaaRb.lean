/-
  The document's queue: Same.
-/
import Derived.Test.YtneeagabmdpjgaaPg
import Derived.Test.YtneeagabmdpjgaaSm
namespace Go.Proofs.Ytneeagabmdpjgaa
open Go.RowKit
set_option linter.unusedVariables false
set_option linter.unusedSimpArgs false

theorem lens_inj : ∀ (l l' : List (List Int)), lens l = lens l' → l.flatten = l'.flatten → l = l'
  | [], [], _, _ => rfl
  | [], _ :: _, h, _ => by simp [lens] at h
  | _ :: _, [], h, _ => by simp [lens] at h
  | x :: l, y :: l', h, hf => by
    simp only [lens, List.map_cons, List.cons.injEq] at h
    simp only [List.flatten_cons] at hf
    obtain ⟨h1, h2⟩ := List.append_inj hf (by omega)
    rw [h1, lens_inj l l' h.2 h2]
/-- Whether two texts stand alike, at their places. -/
def Alike (g : Nat) (ls ls' : List (List Int)) (i : Nat) : Prop := if i = 0 then ((ls.getD 0 []).length = (ls'.getD 0 []).length ∧ (ls.getD 0 []).drop g = (ls'.getD 0 []).drop g) else ls.getD i [] = ls'.getD i []
instance (g : Nat) (ls ls' : List (List Int)) (i : Nat) : Decidable (Alike g ls ls' i) := by unfold Alike; infer_instance
theorem alike_all (g : Nat) (ls ls' : List (List Int)) (hl : ls.length = ls'.length) (h1 : ∀ x l, ls = x :: l → g ≤ x.length) (h2 : ∀ x l, ls' = x :: l → g ≤ x.length) :
    (∀ i, i < ls.length → Alike g ls ls' i) ↔ (lens ls = lens ls' ∧ ls.flatten.drop g = ls'.flatten.drop g) := by
  cases ls with
  | nil =>
    cases ls' with
    | nil => simp
    | cons y l' => simp at hl
  | cons x l =>
    cases ls' with
    | nil => simp at hl
    | cons y l' =>
      have g1 := h1 x l rfl
      have g2 := h2 y l' rfl
      have hl' : l.length = l'.length := by simpa using hl
      rw [List.flatten_cons, List.flatten_cons, List.drop_append_of_le_length g1, List.drop_append_of_le_length g2]
      constructor
      · intro h
        have a0 := h 0 (by simp)
        simp only [Alike, if_true, List.getD_cons_zero] at a0
        have hle : l = l' := by
          apply List.ext_getElem hl'
          intro i p1 p2
          have := h (i + 1) (by simpa using p1)
          simpa [Alike, List.getD, p1, p2] using this
        subst hle
        exact ⟨by simp [lens, a0.1], by rw [a0.2]⟩
      · rintro ⟨e1, e2⟩ i hi
        simp only [lens, List.map_cons, List.cons.injEq] at e1
        obtain ⟨q1, q2⟩ := List.append_inj e2 (by simp; omega)
        have hle := lens_inj l l' e1.2 q2
        subst hle
        by_cases h0 : i = 0
        · subst h0
          simp only [Alike, if_true, List.getD_cons_zero]
          exact ⟨by omega, q1⟩
        · obtain ⟨j, rfl⟩ : ∃ j, i = j + 1 := ⟨i - 1, by omega⟩
          simp [Alike, List.getD]
theorem toList_strOfNums (xs ys : List Int) (hx : ∀ x ∈ xs, 0 ≤ x ∧ x < 256) (hy : ∀ x ∈ ys, 0 ≤ x ∧ x < 256) : ((strOfNums xs).toList == (strOfNums ys).toList) = decide (xs = ys) := by
  by_cases h : xs = ys
  · subst h; simp
  · have : (strOfNums xs).toList ≠ (strOfNums ys).toList := fun e => h (strOfNums_inj hx hy (by
      apply ByteArray.ext
      apply Array.ext'
      rw [ByteArray.toList_eq, ByteArray.toList_eq] at e
      exact e))
    simp [h, this]

set_option maxHeartbeats 3200000 in
set_option maxRecDepth 100000 in
theorem refSame_any {T U : Nat → Prop} (a b : Option Addr) (n n2 c c2 g g2 : Nat) (m m2 : Int) (ls ls2 : List (List Int)) (w : World) (h : StrR T w a n (ls.map strOfNums)) (h2 : StrR U w b n2 (ls2.map strOfNums)) (hby : Byts ls) (hby2 : Byts ls2)
    (hg : ∀ x l, ls = x :: l → g ≤ x.length) (hg2 : ∀ x l, ls2 = x :: l → g2 ≤ x.length) (hbig : ∀ l ∈ ls, l.length ≤ 1048576) (hbig2 : ∀ l ∈ ls2, l.length ≤ 1048576) (hn : n ≤ 2000000) (hn2 : n2 ≤ 2000000) :
    Calls Try.prog 24 #[dagg a n c g m, dagg b n2 c2 g2 m2] w fun e w' => e = .returned (.bool (decide (m = m2 ∧ g = g2 ∧ lens ls = lens ls2 ∧ ls.flatten.drop g = ls2.flatten.drop g2))) ∧ Below w.heap.size w w' := by
  have k0 := alloc_blk (alloc_blk_new w (.cells #[.slice a n c, .int .i64 g, .int .i64 m] 43)) (.cells #[.slice b n2 c2, .int .i64 g2, .int .i64 m2] 43)
  have k1 := alloc_blk_new (w.alloc (.cells #[.slice a n c, .int .i64 g, .int .i64 m] 43)) (.cells #[.slice b n2 c2, .int .i64 g2, .int .i64 m2] 43)
  have hb2 := (((Below.refl _ w).alloc (Nat.le_refl _) (.cells #[.slice a n c, .int .i64 g, .int .i64 m] 43)).alloc (by simp) (.cells #[.slice b n2 c2, .int .i64 g2, .int .i64 m2] 43))
  obtain ⟨X, hX⟩ : ∃ X, X = w.heap.size := ⟨_, rfl⟩
  have s1 : (w.alloc (.cells #[.slice a n c, .int .i64 g, .int .i64 m] 43)).heap.size = X + 1 := by rw [hX]; simp
  obtain ⟨w2, hw2⟩ : ∃ W, W = (w.alloc (.cells #[.slice a n c, .int .i64 g, .int .i64 m] 43)).alloc (.cells #[.slice b n2 c2, .int .i64 g2, .int .i64 m2] 43) := ⟨_, rfl⟩
  rw [s1] at k1
  rw [← hX] at k0
  rw [← hw2] at k0 k1 hb2
  have HB := Lib.hid hb2
  have E2 := Lib.hid hw2
  have EX := Lib.hid hX
  have HA := Lib.hid (h.below hb2)
  have HA2 := Lib.hid (h2.below hb2)
  obtain ⟨p0, p1, p2⟩ := cell3 k0
  obtain ⟨q0, q1, q2⟩ := cell3 k1
  have lX := blk_lt k0
  have lX1 := blk_lt k1
  have hl : ls.length = n := by have := h.1; simpa using this
  have hl2 : ls2.length = n2 := by have := h2.1; simpa using this
  have HL := Lib.hid (And.intro hl hl2)
  have HBY := Lib.hid (And.intro hby hby2)
  have HG := Lib.hid (And.intro hg hg2)
  have HBG := Lib.hid (And.intro hbig hbig2)
  unfold dagg
  clear h h2 k0 k1 hb2 hw2 hX s1 hby hby2 hg hg2 hbig hbig2 hl hl2
  by_cases hgg : g = g2
  case neg =>
    have HD : Hid (decide (m = m2 ∧ g = g2 ∧ lens ls = lens ls2 ∧ ls.flatten.drop g = ls2.flatten.drop g2) = false) := Lib.hid (by simp [hgg])
    rw [HD.out]
    have t1 : ((g : Int) != (g2 : Int)) = true := by simp; omega
    have t2 : (g != g2) = true := by simpa using hgg
    clear HD hgg
    go_enter Try.func24, Try.ntmps24
    go_upto_region 1 with fail
    rw [← E2.out, ← EX.out]
    go_wp2
    go_ret
    exact ⟨rfl, HB.out⟩
  by_cases hmm : m = m2
  case neg =>
    have HD : Hid (decide (m = m2 ∧ g = g2 ∧ lens ls = lens ls2 ∧ ls.flatten.drop g = ls2.flatten.drop g2) = false) := Lib.hid (by simp [hmm])
    rw [HD.out]
    subst hgg
    have t1 : ((g : Int) != (g : Int)) = false := by simp
    have t2 : (g != g) = false := by simp
    have t3 : (m != m2) = true := by simpa using hmm
    clear HD hmm
    go_enter Try.func24, Try.ntmps24
    go_upto_region 1 with fail
    rw [← E2.out, ← EX.out]
    go_wp2
    go_ret
    exact ⟨rfl, HB.out⟩
  by_cases hnn : n = n2
  case neg =>
    have HD : Hid (decide (m = m2 ∧ g = g2 ∧ lens ls = lens ls2 ∧ ls.flatten.drop g = ls2.flatten.drop g2) = false) := Lib.hid (by
      have : lens ls ≠ lens ls2 := fun e => hnn (by have := congrArg List.length e; rw [lens_len, lens_len, HL.out.1, HL.out.2] at this; exact this)
      simp [this])
    rw [HD.out]
    subst hgg hmm
    have t1 : ((g : Int) != (g : Int)) = false := by simp
    have t2 : (g != g) = false := by simp
    have t3 : (m != m) = false := by simp
    have t4 : ((n : Int) != (n2 : Int)) = true := by simp; omega
    have t5 : (n != n2) = true := by simpa using hnn
    clear HD hnn
    go_enter Try.func24, Try.ntmps24
    go_upto_region 1 with fail
    rw [← E2.out, ← EX.out]
    go_wp2
    go_ret
    exact ⟨rfl, HB.out⟩
  subst hgg hmm hnn
  have HD : Hid (decide (m = m ∧ g = g ∧ lens ls = lens ls2 ∧ ls.flatten.drop g = ls2.flatten.drop g) = decide (∀ i, i < n → Alike g ls ls2 i)) := Lib.hid (by
    have := alike_all g ls ls2 (by rw [HL.out.1, HL.out.2]) HG.out.1 HG.out.2
    rw [HL.out.1] at this
    simp only [true_and]
    exact (decide_eq_decide.2 this).symm)
  rw [HD.out]
  obtain ⟨RB, hRB⟩ : ∃ B, B = decide (∀ i, i < n → Alike g ls ls2 i) := ⟨_, rfl⟩
  rw [← hRB]
  have HBB := Lib.hid hRB
  clear hRB
  have t1 : ((g : Int) != (g : Int)) = false := by simp
  have t2 : (g != g) = false := by simp
  have t3 : (m != m) = false := by simp
  have t4 : ((n : Int) != (n : Int)) = false := by simp
  have t5 : (n != n) = false := by simp
  clear HD
  go_enter Try.func24, Try.ntmps24
  go_upto_region 1 with fail
  rw [← E2.out, ← EX.out]
  go_wp2_with fail
  clear t1 t2 t3 t4 t5
  go_loopg [5] n (fun gk v wr => ∃ i : Nat, v = .int .i64 i ∧ i ≤ n ∧ gk = n - i ∧ (∃ q, wr = w2.drewN q) ∧ ∀ j, j < i → Alike g ls ls2 j)
  case atStart => exact ⟨0, rfl, by omega, rfl, ⟨0, rfl⟩, fun j hj => by omega⟩
  case round =>
    obtain ⟨i, rfl, hi, hgk, ⟨q, rfl⟩, hall⟩ := hrel
    have HGK := Lib.hid hgk
    have HALL := Lib.hid hall
    clear hgk hall
    by_cases hlt : i < n
    · have d1 : decide ((i : Int) < n) = true := by simpa using hlt
      obtain ⟨ba, oa, rfl, hba, _, hca⟩ := HA.out.2 (by omega)
      obtain ⟨bb, ob, rfl, hbb, _, hcb⟩ := HA2.out.2 (by omega)
      have hil : i < ls.length := by rw [HL.out.1]; exact hlt
      have hil2 : i < ls2.length := by rw [HL.out.2]; exact hlt
      have y1 := hca i hlt
      have y2 := hcb i hlt
      rw [show (ls.map strOfNums).getD i ⟨#[]⟩ = strOfNums (ls.getD i []) by simp [List.getD, hil]] at y1
      rw [show (ls2.map strOfNums).getD i ⟨#[]⟩ = strOfNums (ls2.getD i []) by simp [List.getD, hil2]] at y2
      have hx := HBY.out.1 (ls.getD i []) (by simp [List.getD, hil])
      have hy := HBY.out.2 (ls2.getD i []) (by simp [List.getD, hil2])
      have hxb := HBG.out.1 (ls.getD i []) (by simp [List.getD, hil])
      have hyb := HBG.out.2 (ls2.getD i []) (by simp [List.getD, hil2])
      have hbad : ¬ Alike g ls ls2 i → decide (∀ i, i < n → Alike g ls ls2 i) = false := fun hna => by
        simp only [decide_eq_false_iff_not]
        exact fun hh => hna (hh i hlt)
      have HBAD := Lib.hid hbad
      have HI := Lib.hid (And.intro hil hil2)
      clear hca hcb hbad hil hil2
      by_cases h0 : i = 0
      · subst h0
        have hgx : g ≤ (ls.getD 0 []).length := by
          have := HG.out.1
          cases hls : ls with
          | nil => have := HI.out.1; rw [hls] at this; simp at this
          | cons x l => exact this x l hls
        have hgy : g ≤ (ls2.getD 0 []).length := by
          have := HG.out.2
          cases hls : ls2 with
          | nil => have := HI.out.2; rw [hls] at this; simp at this
          | cons x l => exact this x l hls
        have hal : Alike g ls ls2 0 ↔ ((ls.getD 0 []).length = (ls2.getD 0 []).length ∧ (ls.getD 0 []).drop g = (ls2.getD 0 []).drop g) := by simp only [Alike, if_true]
        obtain ⟨x, hxe⟩ : ∃ x, x = ls.getD 0 [] := ⟨_, rfl⟩
        obtain ⟨y, hye⟩ : ∃ y, y = ls2.getD 0 [] := ⟨_, rfl⟩
        rw [← hxe] at y1 hx hxb hgx hal
        rw [← hye] at y2 hy hyb hgy hal
        simp only [Nat.add_zero] at y1 y2
        obtain ⟨SX, hSX⟩ : ∃ s, s = strOfNums x := ⟨_, rfl⟩
        obtain ⟨SY, hSY⟩ : ∃ s, s = strOfNums y := ⟨_, rfl⟩
        obtain ⟨LX, hLX⟩ : ∃ n, n = x.length := ⟨_, rfl⟩
        obtain ⟨LY, hLY⟩ : ∃ n, n = y.length := ⟨_, rfl⟩
        have zx : SX.size = LX := by rw [hSX, strOfNums_size, hLX]
        have zy : SY.size = LY := by rw [hSY, strOfNums_size, hLY]
        have ex : SX.extract g LX = strOfNums (x.drop g) := by rw [hSX, str_from x g LX hLX.symm]
        have ey : SY.extract g LY = strOfNums (y.drop g) := by rw [hSY, str_from y g LY hLY.symm]
        have hsd := toList_strOfNums (x.drop g) (y.drop g) (fun z hz => hx z (List.mem_of_mem_drop hz)) (fun z hz => hy z (List.mem_of_mem_drop hz))
        obtain ⟨DX, hDX⟩ : ∃ s, s = strOfNums (x.drop g) := ⟨_, rfl⟩
        obtain ⟨DY, hDY⟩ : ∃ s, s = strOfNums (y.drop g) := ⟨_, rfl⟩
        rw [← hDX] at ex hsd
        rw [← hDY] at ey hsd
        rw [← hSX] at y1
        rw [← hSY] at y2
        rw [← hLX] at hxb hgx hal
        rw [← hLY] at hyb hgy hal
        clear hxe hye hSX hSY hLX hLY hDX hDY hx hy
        by_cases hlen : LX = LY
        · subst hlen
          have e1 : ((LX : Int) != (LX : Int)) = false := by simp
          have e2 : (LX != LX) = false := by simp
          by_cases hdd : x.drop g = y.drop g
          · have HAL : Hid (Alike g ls ls2 0) := Lib.hid (hal.2 ⟨rfl, hdd⟩)
            have e3 : (DX.toList == DY.toList) = true := by rw [hsd]; simpa using hdd
            have e4 : (DX.toList != DY.toList) = false := by simp only [bne, e3]; rfl
            clear hal hsd hdd
            go_wp2_with fail
            go_quiet (fail)
            go_wp2_with fail
            go_roundg (n - (0 + 1))
            case measure => have := HGK.out; omega
            case rel => exact ⟨0 + 1, by go_num, by omega, rfl, ⟨_, rfl⟩, fun j hj => by
              obtain rfl : j = 0 := by omega
              exact HAL.out⟩
          · have e3 : (DX.toList == DY.toList) = false := by rw [hsd]; simpa using hdd
            have e4 : (DX.toList != DY.toList) = true := by simp only [bne, e3]; rfl
            have hRB : RB = false := HBB.out.trans (HBAD.out (fun hh => hdd (hal.1 hh).2))
            clear hal hsd hdd
            go_wp2_with fail
            go_quiet (fail)
            go_wp2
            go_ret
            exact ⟨by rw [hRB]; rfl, by first | exact HB.out.trans ((Below.drewN' w2 _).mono HB.out.size) | exact HB.out.trans (((Below.drewN' w2 _).trans (Below.drewN' (w2.drewN _) _)).mono HB.out.size)⟩
        · have e1 : ((LX : Int) != (LY : Int)) = true := by simp; omega
          have e2 : (LX != LY) = true := by simpa using hlen
          have hRB : RB = false := HBB.out.trans (HBAD.out (fun hh => hlen (hal.1 hh).1))
          clear hal hsd hlen
          go_wp2_with fail
          go_quiet (fail)
          go_wp2
          go_ret
          exact ⟨by rw [hRB]; rfl, by first | exact HB.out.trans ((Below.drewN' w2 _).mono HB.out.size) | exact HB.out.trans (((Below.drewN' w2 _).trans (Below.drewN' (w2.drewN _) _)).mono HB.out.size)⟩
      · have e0 : ((i : Int) == 0) = false := by simp; omega
        have e00 : (i == 0) = false := by simpa using h0
        have e5 : decide ((0 : Int) < i) = true := by simp; omega
        have e6 : decide (0 < i) = true := by simp; omega
        have hal : Alike g ls ls2 i ↔ ls.getD i [] = ls2.getD i [] := by simp only [Alike, if_neg h0]
        have hsd := toList_strOfNums _ _ hx hy
        obtain ⟨SX, hSX⟩ : ∃ s, s = strOfNums (ls.getD i []) := ⟨_, rfl⟩
        obtain ⟨SY, hSY⟩ : ∃ s, s = strOfNums (ls2.getD i []) := ⟨_, rfl⟩
        rw [← hSX] at y1 hsd
        rw [← hSY] at y2 hsd
        clear hSX hSY hx hy hxb hyb
        by_cases hxy : ls.getD i [] = ls2.getD i []
        · have HAL : Hid (Alike g ls ls2 i) := Lib.hid (hal.2 hxy)
          have e3 : (SX.toList == SY.toList) = true := by rw [hsd]; simpa using hxy
          have e4 : (SX.toList != SY.toList) = false := by simp only [bne, e3]; rfl
          clear hal hsd hxy
          go_wp2_with fail
          go_quiet (fail)
          go_wp2_with fail
          go_roundg (n - (i + 1))
          case measure => have := HGK.out; omega
          case rel => exact ⟨i + 1, by go_num, by omega, rfl, ⟨_, rfl⟩, fun j hj => by
            rcases Nat.lt_or_ge j i with h | h
            · exact HALL.out j h
            · obtain rfl : j = i := by omega
              exact HAL.out⟩
        · have e3 : (SX.toList == SY.toList) = false := by rw [hsd]; simpa using hxy
          have e4 : (SX.toList != SY.toList) = true := by simp only [bne, e3]; rfl
          have hRB : RB = false := HBB.out.trans (HBAD.out (fun hh => hxy (hal.1 hh)))
          clear hal hsd hxy
          go_wp2_with fail
          go_quiet (fail)
          go_wp2
          go_ret
          exact ⟨by rw [hRB]; rfl, by first | exact HB.out.trans ((Below.drewN' w2 _).mono HB.out.size) | exact HB.out.trans (((Below.drewN' w2 _).trans (Below.drewN' (w2.drewN _) _)).mono HB.out.size)⟩
    · obtain rfl : i = n := by omega
      have d1 : decide ((i : Int) < i) = false := by simp
      have hRB : RB = true := HBB.out.trans (by simpa using HALL.out)
      go_wp2
      go_ret
      exact ⟨by rw [hRB]; rfl, by first | exact HB.out.trans ((Below.drewN' w2 _).mono HB.out.size) | exact HB.out.trans (((Below.drewN' w2 _).trans (Below.drewN' (w2.drewN _) _)).mono HB.out.size)⟩
end Go.Proofs.Ytneeagabmdpjgaa
