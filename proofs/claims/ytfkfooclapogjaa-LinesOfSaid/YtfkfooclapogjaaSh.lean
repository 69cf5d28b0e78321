/-
  The document's Begins, walked.
-/
import Derived.Test.YtfkfooclapogjaaSg
import Derived.Test.YtfkfooclapogjaaM
namespace Go.Proofs.Ytfkfooclapogjaa
open Go.RowKit
set_option linter.unusedVariables false
set_option linter.unusedSimpArgs false

theorem spanF_bd {zs : List Int} (hb : Byt zs) : ∀ (f i k : Nat) (L U : Int) (x : Int × Int), Spb i L U → i + f ≤ 4 → spanF zs f k L U = some x → Spb (i + f) x.1 x.2
  | 0, i, k, L, U, x, h, _, e => by simp [spanF] at e; subst e; exact h
  | f + 1, i, k, L, U, x, h, hf, e => by
    unfold spanF at e
    have h' : ∀ L' U', Spb (i + 1) L' U' → spanF zs f (k + 1) L' U' = some x → Spb (i + (f + 1)) x.1 x.2 := fun L' U' hs he => by
      have := spanF_bd hb f (i + 1) (k + 1) L' U' x hs (by omega) he
      rwa [show i + 1 + f = i + (f + 1) by omega] at this
    by_cases h1 : zs.length ≤ k
    · rw [if_pos h1] at e
      refine h' _ _ ?_ e
      unfold Spb at h ⊢
      omega
    · rw [if_neg h1] at e
      by_cases h2 : zs.getD k 0 < 128 ∨ 191 < zs.getD k 0
      · rw [if_pos h2] at e; cases e
      · rw [if_neg h2] at e
        have hbk := byt_getD hb (k := k) (by omega)
        refine h' _ _ ?_ e
        generalize zs.getD k 0 = z at *
        unfold Spb at h ⊢
        omega
theorem cls_bd {c : Int} {m : Nat} {l : Int} (h0 : 0 ≤ c) (h : cls c = some (m, l)) : 1 ≤ m ∧ m ≤ 4 ∧ 0 ≤ l ∧ l ≤ 255 := by
  unfold cls at h
  repeat' split at h
  all_goals first | (cases h; omega) | cases h
theorem spanL_bd {zs : List Int} (hb : Byt zs) (h0 : 0 < zs.length) {m : Nat} {l t : Int} (h : spanL zs = some (m, l, t)) : 1 ≤ m ∧ m ≤ 4 ∧ 0 ≤ l ∧ l ≤ 200000000 ∧ 0 ≤ t ∧ t ≤ 200000000 := by
  have hb0 := byt_getD hb (k := 0) h0
  unfold spanL at h
  cases hc : cls (zs.getD 0 0) with
  | none => rw [hc] at h; cases h
  | some p =>
    obtain ⟨m', l'⟩ := p
    rw [hc] at h
    have hcb := cls_bd hb0.1 hc
    simp only [Option.map_eq_some_iff] at h
    obtain ⟨x, hx, e⟩ := h
    cases e
    have := spanF_bd hb (m - 1) 1 1 l' l' x ⟨hcb.2.2.1, hcb.2.2.1, .inl ⟨rfl, hcb.2.2.2, hcb.2.2.2⟩⟩ (by omega) hx
    unfold Spb at this
    omega
theorem least_at (w : World) (B : Nat) (fz : Nat × Nat) (t : TypeId) (h : w.heap[B]? = some (.cells #[.int .i64 0, .int .i64 0, .int .i64 128, .int .i64 2048, .int .i64 65536] t fz)) (m : Nat) (h1 : 1 ≤ m) (h4 : m ≤ 4) : w.cell? ⟨B, m, none⟩ = some (.int .i64 (least m)) := by
  refine cell_blk h m _ ?_
  have : m = 1 ∨ m = 2 ∨ m = 3 ∨ m = 4 := by omega
  rcases this with rfl | rfl | rfl | rfl <;> rfl

set_option maxHeartbeats 3200000 in
set_option maxRecDepth 100000 in
theorem begins_any {T : Nat → Prop} (ao : Option Addr) (n cap : Nat) (zs : List Int) (w : World) (h : Arg T w ao n zs) (hn : 0 < n) (hn2 : n ≤ 1000000) (hby : Byt zs) :
    Calls Try.prog 55 #[.slice ao n cap] w fun e w' => ∃ (x : Int) (b : Bool), e = .returned (.tuple #[.int .i64 x, .bool b]) ∧ ((b = false ∧ begL zs = none) ∨ (∃ m : Nat, b = true ∧ x = m ∧ begL zs = some m)) ∧ Below w.heap.size w w' := by
  have hzl := h.1
  have HS := Lib.hid (span_any ao n cap zs w h hn hby)
  cases hsp : spanL zs with
  | none =>
    have HB : Hid (begL zs = none) := Lib.hid (by unfold begL; rw [hsp])
    rw [spanV_none hsp] at HS
    clear h hsp
    go_enter Try.func55, Try.ntmps55
    go_wp2_with (go_at_call 56; refine HS.out.mono ?_; rintro e w' ⟨rfl, q, rfl⟩)
    go_ret2
    exact ⟨_, _, rfl, .inl ⟨rfl, HB.out⟩, Below.drewN' w _⟩
  | some p =>
    obtain ⟨m, l, t⟩ := p
    obtain ⟨hm1, hm4, hl0, hl1, ht0, ht1⟩ := spanL_bd hby (by omega) hsp
    rw [spanV_some hsp] at HS
    by_cases hmn : m < n
    · have HB : Hid (begL zs = none) := Lib.hid (by unfold begL; rw [hsp]; simp only []; rw [if_pos (by omega)])
      have d1 : decide (m < n) = true := by simpa using hmn
      have d2 : decide ((m : Int) < n) = true := by simpa using hmn
      clear h hsp hmn
      go_enter Try.func55, Try.ntmps55
      go_wp2_with (go_at_call 56; refine HS.out.mono ?_; rintro e w' ⟨rfl, q, rfl⟩)
      go_ret2
      exact ⟨_, _, rfl, .inl ⟨rfl, HB.out⟩, Below.drewN' w _⟩
    have d1 : decide (m < n) = false := by simpa using hmn
    have d2 : decide ((m : Int) < n) = false := by simpa using hmn
    obtain ⟨lm, hlm⟩ : ∃ lm, lm = least m := ⟨_, rfl⟩
    have hlmb : 0 ≤ lm ∧ lm ≤ 65536 := by rw [hlm]; unfold least; omega
    obtain ⟨hlm0, hlm1⟩ := hlmb
    have HLM := Lib.hid hlm
    have HSP := Lib.hid hsp
    have hmn' : Hid (¬ m < zs.length) := Lib.hid (by omega)
    clear h hsp hmn hlm
    obtain ⟨l', hl'⟩ : ∃ l', (if l < lm then lm else l) = l' := ⟨_, rfl⟩
    obtain ⟨t', ht'⟩ : ∃ t', (if 1114111 < t then 1114111 else t) = t' := ⟨_, rfl⟩
    have HL' : Hid (max l (least m) = l') := Lib.hid (by rw [← HLM.out, ← hl']; omega)
    have HT' : Hid (min t 1114111 = t') := Lib.hid (by rw [← ht']; omega)
    have hlb : 0 ≤ l' ∧ l' ≤ 200000000 := by rw [← hl']; omega
    have htb : 0 ≤ t' ∧ t' ≤ 200000000 := by rw [← ht']; omega
    obtain ⟨hlb0, hlb1⟩ := hlb
    obtain ⟨htb0, htb1⟩ := htb
    have HBeg : Hid (begL zs = if m = 3 ∧ 55296 ≤ l' ∧ t' ≤ 57343 then none else if l' ≤ t' then some m else none) := Lib.hid (by
      unfold begL; rw [HSP.out]; simp only []; rw [if_neg hmn'.out, HL'.out, HT'.out])
    have hgt : l > lm → True := fun _ => trivial
    have HW1 : ∀ q, Hid (Below w.heap.size w ((w.drewN q).alloc (.cells #[.int .i64 0, .int .i64 0, .int .i64 128, .int .i64 2048, .int .i64 65536] 3)) ∧ ((w.drewN q).alloc (.cells #[.int .i64 0, .int .i64 0, .int .i64 128, .int .i64 2048, .int .i64 65536] 3)).heap[w.heap.size]? = some (.cells #[.int .i64 0, .int .i64 0, .int .i64 128, .int .i64 2048, .int .i64 65536] 3 (0, 0))) := fun q =>
      Lib.hid ⟨(Below.drewN' w q).alloc (Nat.le_refl _) _, alloc_blk_new (w.drewN q) _⟩
    have fin : ∀ (b : Bool) (q : Nat), (if m = 3 ∧ 55296 ≤ l' ∧ t' ≤ 57343 then none else if l' ≤ t' then some m else none) = (if b then some m else none) → ∀ x : Int, (b = true → x = m) → ∃ (x' : Int) (b' : Bool), Ending.returned (.tuple #[.int .i64 x, .bool b]) = Ending.returned (.tuple #[.int .i64 x', .bool b']) ∧ ((b' = false ∧ begL zs = none) ∨ (∃ m : Nat, b' = true ∧ x' = m ∧ begL zs = some m)) ∧ Below w.heap.size w ((w.drewN q).alloc (.cells #[.int .i64 0, .int .i64 0, .int .i64 128, .int .i64 2048, .int .i64 65536] 3)) := fun b q hb x hx => by
      refine ⟨x, b, rfl, ?_, (HW1 q).out.1⟩
      rw [HBeg.out, hb]
      cases b with
      | false => exact .inl ⟨rfl, rfl⟩
      | true => exact .inr ⟨m, rfl, hx rfl, rfl⟩
    have FIN := Lib.hid fin
    clear fin hgt
    go_enter Try.func55, Try.ntmps55
    go_upto_region 4 with (go_at_call 56; refine HS.out.mono ?_; rintro e w' ⟨rfl, q, rfl⟩)
    have cl := least_at _ w.heap.size _ _ (HW1 q).out.2 m hm1 hm4
    rw [← HLM.out] at cl
    have hm5 : m < 5 := by omega
    have hm5' : (m : Int) < 5 := by omega
    clear HW1
    by_cases g1 : m = 3
    · have e1 : ((m : Int) == 3) = true := by simp; omega
      have e1' : (m == 3) = true := by simp; omega
      by_cases g2 : 55296 ≤ l'
      · have e2 : decide (55296 ≤ l') = true := by simpa using g2
        by_cases g3 : t' ≤ 57343
        · have e3 : decide (t' ≤ 57343) = true := by simpa using g3
          have HF := FIN.out false q (by rw [if_pos ⟨g1, g2, g3⟩]; rfl) 0 (fun h => by cases h)
          have HFF := Lib.hid HF
          clear g1 g2 g3 HF
          go_wp2
          go_ret2
          exact HFF.out
        · have e3 : decide (t' ≤ 57343) = false := by simpa using g3
          obtain ⟨b4, hb4⟩ : ∃ b4, decide (l' ≤ t') = b4 := ⟨_, rfl⟩
          have HF := FIN.out b4 q (by rw [if_neg (by omega), ← hb4]; by_cases h : l' ≤ t' <;> simp [h]) m (fun h => rfl)
          have HFF := Lib.hid HF
          clear g1 g2 g3 HF
          go_wp2
          go_ret2
          exact HFF.out
      · have e2 : decide (55296 ≤ l') = false := by simpa using g2
        obtain ⟨b4, hb4⟩ : ∃ b4, decide (l' ≤ t') = b4 := ⟨_, rfl⟩
        have HF := FIN.out b4 q (by rw [if_neg (by omega), ← hb4]; by_cases h : l' ≤ t' <;> simp [h]) m (fun h => rfl)
        have HFF := Lib.hid HF
        clear g1 g2 HF
        go_wp2
        go_ret2
        exact HFF.out
    · have e1 : ((m : Int) == 3) = false := by simp; omega
      have e1' : (m == 3) = false := by simp; omega
      obtain ⟨b4, hb4⟩ : ∃ b4, decide (l' ≤ t') = b4 := ⟨_, rfl⟩
      have HF := FIN.out b4 q (by rw [if_neg (by omega), ← hb4]; by_cases h : l' ≤ t' <;> simp [h]) m (fun h => rfl)
      have HFF := Lib.hid HF
      clear g1 HF
      go_wp2
      go_ret2
      exact HFF.out
end Go.Proofs.Ytfkfooclapogjaa
