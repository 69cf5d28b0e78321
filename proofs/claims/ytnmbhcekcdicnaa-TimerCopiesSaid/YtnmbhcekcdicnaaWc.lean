/-
  TimerFull is true of whatever it is asked.
-/
import Derived.Test.YtnmbhcekcdicnaaWb
namespace Go.Proofs.Ytnmbhcekcdicnaa
open Go.RowKit
set_option linter.unusedVariables false
set_option linter.unusedSimpArgs false

/-- Idle timers, all due at once. -/
def idle (d : Int) (n : Nat) : List Rw := (List.range n).map fun (j : Nat) => (⟨2, (j : Int), d⟩ : Rw)
theorem idle_succ (d : Int) (n : Nat) : idle d (n + 1) = idle d n ++ [⟨2, (n : Int), d⟩] := by
  unfold idle
  rw [List.range_succ]
  simp
theorem idle_len (d : Int) (n : Nat) : (idle d n).length = n := by simp [idle]
theorem idle_mem {d : Int} {n : Nat} {x : Rw} (h : x ∈ idle d n) : ∃ j : Nat, j < n ∧ x = ⟨2, (j : Int), d⟩ := by
  unfold idle at h
  obtain ⟨j, hj, rfl⟩ := List.mem_map.1 h
  exact ⟨j, List.mem_range.1 hj, rfl⟩
theorem idle_due (d : Int) (n : Nat) (k i : Int) : dueOf (idle d n) k i = if k = 2 ∧ 0 ≤ i ∧ i < n then some d else none := by
  split
  · rename_i h
    obtain ⟨rfl, h1, h2⟩ := h
    have hm : (⟨2, i, d⟩ : Rw) ∈ idle d n := by
      unfold idle
      exact List.mem_map.2 ⟨i.toNat, List.mem_range.2 (by omega), by simp; omega⟩
    unfold dueOf
    cases hf : (idle d n).find? fun r => r.is 2 i with
    | none =>
      rw [List.find?_eq_none] at hf
      exact absurd ((Rw.is_iff _ _ _).2 ⟨rfl, rfl⟩) (hf _ hm)
    | some r =>
      obtain ⟨j, _, rfl⟩ := idle_mem (List.mem_of_find?_eq_some hf)
      rfl
  · rename_i h
    unfold dueOf
    rw [Option.map_eq_none_iff, List.find?_eq_none]
    intro x hx e
    obtain ⟨j, hj, rfl⟩ := idle_mem hx
    rw [Rw.is_iff] at e
    exact h ⟨e.1.symm, by have := e.2; simp only at this; omega, by have := e.2; simp only at this; omega⟩
theorem ins_last {l : List Rw} {r : Rw} (h : ∀ x ∈ l, lt r x = false) : ins l r = l ++ [r] := by
  induction l with
  | nil => rfl
  | cons y t ih =>
    unfold ins
    rw [h y (by simp), ih fun x hx => h x (by simp [hx])]
    rfl
theorem idle_ins (d : Int) (n : Nat) : ins (wo (idle d n) 2 n) ⟨2, (n : Int), d⟩ = idle d (n + 1) := by
  rw [wo_none (by rw [idle_due, if_neg (by omega)]), idle_succ]
  refine ins_last fun x hx => ?_
  obtain ⟨j, hj, rfl⟩ := idle_mem hx
  rw [Bool.eq_false_iff]
  intro e
  rw [lt_iff] at e
  simp only at e
  omega
theorem wo_len {l : List Rw} (h : Srt l) {k i d : Int} (hd : dueOf l k i = some d) (r : Rw) : (ins (wo l k i) r).length = l.length := by
  obtain ⟨q1, _, q3⟩ := wo_at h hd
  rw [ins_length, q3, List.length_append, List.length_take, List.length_drop]
  omega
theorem TB.add {w0 W : World} {p : Nat} {most : Int} {l : List Rw} {B : List (Nat × Int × Int)} (h : TB w0 p most l B W) {X : Nat} {a b : Int} (hX : W.heap[X]? = some (.cells #[.int .i64 a, .int .u64 b] 26 (0, 0))) (hlt : X < w0.heap.size) : TB w0 p most l ((X, a, b) :: B) W := by
  obtain ⟨K, h1, h2, h3⟩ := h.ex
  refine ⟨⟨K, h1, h2, fun x hx => ?_⟩, h.bel⟩
  rcases List.mem_cons.1 hx with e | e
  · subst e
    exact ⟨hX, fun e => by have := h2 _ e; simp only at this; omega⟩
  · exact h3 x e
section
set_option maxHeartbeats 6400000
set_option maxRecDepth 100000
theorem full_any (most due k i : Int) (m0 : -9223372036854775808 ≤ most) (m1 : most ≤ 9223372036854775807) (d0 : 0 ≤ due) (d1 : due ≤ 18446744073709551615) (i0 : 0 ≤ i) (i1 : i ≤ 18446744073709551615) (w : World) :
    Calls Try.prog 5 #[.int .i64 most, .int .u64 due, tmV k i] w fun e w' => e = .returned (.bool true) ∧ Below w.heap.size w w' := by
  have HWk := Lib.hid works_true
  have HNum := Lib.hid num13
  have HOf := Lib.hid of24
  have HRk := Lib.hid refKind25
  unfold tmV at HOf ⊢
  obtain ⟨u, hu⟩ : ∃ Y, Y = w.alloc (.cells #[.int .i64 k, .int .u64 i] 26) := ⟨_, rfl⟩
  obtain ⟨X, hX⟩ : ∃ Y, Y = w.heap.size := ⟨_, rfl⟩
  have b1 : Below w.heap.size w u := by rw [hu]; exact (Below.refl _ w).alloc (Nat.le_refl _) _
  have kk : u.heap[X]? = some (.cells #[.int .i64 k, .int .u64 i] 26 (0, 0)) := by rw [hu, hX]; exact alloc_blk_new _ _
  have KX := Lib.hid kk
  have EU := Lib.hid hu
  have EX := Lib.hid hX
  have B1 := Lib.hid b1
  have R := Lib.hid (And.intro (And.intro m0 m1) (And.intro (And.intro d0 d1) (And.intro i0 i1)))
  clear hu hX b1 kk m0 m1 d0 d1 i0 i1
  by_cases hm : most < 1 ∨ 60 < most
  · obtain ⟨q1, hq1⟩ : ∃ q, q = decide (most < 1) := ⟨_, rfl⟩
    have hq2 : q1 = false → decide (60 < most) = true := by intro e; rw [hq1] at e; simp at e ⊢; omega
    have hq1' := hq1.symm
    clear hq1 hm
    cases q1 with
    | true =>
      clear hq2
      go_enter Try.func5, Try.ntmps5
      go_upto_region 1 with fail
      rw [← EU.out]
      try rw [← EX.out]
      go_wp2_with (go_at_call 8; refine (HWk.out _).mono ?_; rintro e w' ⟨rfl, hb⟩; have HB := Lib.hid (B1.out.trans (hb.mono B1.out.size)); clear hb)
      go_ret
      exact ⟨rfl, HB.out⟩
    | false =>
      have hq3 := hq2 rfl
      clear hq2
      go_enter Try.func5, Try.ntmps5
      go_upto_region 1 with fail
      rw [← EU.out]
      try rw [← EX.out]
      go_wp2_with (go_at_call 8; refine (HWk.out _).mono ?_; rintro e w' ⟨rfl, hb⟩; have HB := Lib.hid (B1.out.trans (hb.mono B1.out.size)); clear hb)
      go_ret
      exact ⟨rfl, HB.out⟩
  · obtain ⟨M, hM⟩ : ∃ M : Nat, most = M := ⟨most.toNat, by omega⟩
    subst hM
    have e1 : decide ((M : Int) < 1) = false := by simp; omega
    have e2 : decide (60 < (M : Int)) = false := by simp; omega
    have hM1 : 1 ≤ M := by omega
    have hM2 : M ≤ 60 := by omega
    have HM := Lib.hid (And.intro hM1 hM2)
    clear hm hM1 hM2
    go_enter Try.func5, Try.ntmps5
    go_upto_region 1 with fail
    rw [← EU.out]
    try rw [← EX.out]
    go_wp2_with fail
    refine (TB.new u M (by have := HM.out; omega) (by have := HM.out; omega)).mono ?_
    rintro e w1 ⟨p, rfl, h1⟩
    have T1 := Lib.hid (h1.add (X := X) (a := k) (b := i) ((h1.bel.block _ (blk_lt KX.out)).trans KX.out) (blk_lt KX.out))
    clear h1 e1 e2
    go_wp2_with fail
    go_loopg [9] M (fun gk v9 wr => ∃ j : Nat, v9 = .int .i64 j ∧ j ≤ M ∧ gk = M - j ∧ TB u p M (idle due j) [(X, k, i)] wr)
    case atStart => exact ⟨0, rfl, by omega, rfl, T1.out⟩
    case round =>
      obtain ⟨j, rfl, hj, hgk, hT⟩ := hrel
      have HG := Lib.hid hgk
      have T := Lib.hid hT
      clear hgk hT T1
      by_cases hlt : j < M
      · have e1 : decide ((j : Int) < M) = true := by simp; omega
        have hjw : IntKind.u64.wrap (j : Int) = j := by rw [IntKind.wrap_u64]; have := HM.out; omega
        go_wp2_with (go_at_call 24; fail)
        refine (HOf.out _ _ _).mono ?_
        rintro e w2 ⟨rfl, hb⟩
        have T2 := Lib.hid (T.out.below hb)
        clear hb
        go_wp2_with (go_at_call 18; fail)
        have hc : ∀ K, TS K p M (idle due j) w2 → Calls Try.prog 18 #[.pointer (some ⟨p, 0, none⟩), .agg #[.int .i64 2, .int .u64 j], .int .u64 due] w2 fun e w' => e = .returned (.tuple #[.int .u64 0, .bool false, .int .i64 0]) ∧ Turned K p M (idle due (j + 1)) w2 w' := fun K h => by
          have := HM.out
          have q := h.set_ok (k := 2) (i := j) (d := due) (by decide) (by omega) (by omega) R.out.2.1.1 R.out.2.1.2 (fun _ => by rw [idle_len]; omega)
          rw [idle_ins, idle_due, if_neg (by omega)] at q
          unfold tmV at q
          exact q
        refine (T2.out.turn hc).mono ?_
        rintro e w3 ⟨rfl, hT⟩
        have T3 := Lib.hid hT
        have hw1 : IntKind.i64.wrap ((j : Int) + 1) = (j : Int) + 1 := by rw [IntKind.wrap_i64]; have := HM.out; omega
        clear hT hc T2 hjw
        go_wp2_with (go_at_call 13; refine (HNum.out _ _).mono ?_; rintro e w' ⟨rfl, rfl⟩)
        go_roundg (M - (j + 1))
        case measure => have := HG.out; omega
        case rel => exact ⟨j + 1, by have := HM.out; go_num, by omega, rfl, T3.out⟩
      · have hjM : j = M := by omega
        subst hjM
        have b0 := T.out.at (x := (X, k, i)) (by simp)
        have c0 := cell_blk b0 0 _ rfl
        have c1 := cell_blk b0 1 _ rfl
        have lX := blk_lt b0
        have hjw : IntKind.u64.wrap (j : Int) = j := by rw [IntKind.wrap_u64]; have := HM.out; omega
        clear b0 hlt hj
        obtain ⟨ran, hran⟩ : ∃ b, b = (decide (k = 2) && decide (i < (j : Int))) := ⟨_, rfl⟩
        obtain ⟨kd, hkd⟩ : ∃ b, b = isKind k := ⟨_, rfl⟩
        have HRan := Lib.hid hran
        have HKd := Lib.hid hkd
        have HRk1 := HRk.out k
        rw [← hkd] at HRk1
        have HRK := Lib.hid HRk1
        have hdue : dueOf (idle due j) k i = if ran = true then some due else none := by
          rw [idle_due]
          have := R.out.2.2.1
          rw [hran]
          by_cases g1 : k = 2 <;> by_cases g2 : i < (j : Int) <;> simp [g1, g2, this]
        have hlen : ∃ N : Nat, N = (idle due j).length ∧ N = j := ⟨j, (idle_len _ _).symm, rfl⟩
        have HD := Lib.hid hdue
        -- what Set does
        have hset : ∃ (was : Int) (l2 : List Rw), l2.length = j ∧ ∀ K wz, TS K p j (idle due j) wz → Calls Try.prog 18 #[.pointer (some ⟨p, 0, none⟩), .agg #[.int .i64 k, .int .u64 i], .int .u64 0] wz fun e w' => e = .returned (.tuple #[.int .u64 was, .bool ran, .int .i64 (if ran then 0 else if kd then 3 else 2)]) ∧ Turned K p j l2 wz w' := by
          have hr2 : ran = true → isKind k = true := by
            intro e
            rw [hran] at e
            simp at e
            rw [e.1]
            decide
          by_cases g1 : isKind k = true
          · by_cases g2 : ran = true
            · refine ⟨due, ins (wo (idle due j) k i) ⟨k, i, 0⟩, ?_, fun K wz h => ?_⟩
              · rw [wo_len (d := due) (by have := T.out.srt; exact this) (by rw [hdue, if_pos g2]), idle_len]
              · have q := h.set_ok (k := k) (i := i) (d := 0) g1 R.out.2.2.1 R.out.2.2.2 (by omega) (by omega) (fun e => by rw [hdue, if_pos g2] at e; cases e)
                rw [hdue, if_pos g2] at q
                unfold tmV at q
                rw [if_pos g2, g2]
                exact q
            · have g3 : ran = false := by simpa using g2
              refine ⟨0, idle due j, idle_len _ _, fun K wz h => ?_⟩
              have q := h.set_long (k := k) (i := i) (d := 0) g1 R.out.2.2.1 R.out.2.2.2 (by omega) (by omega) ⟨by rw [hdue, if_neg g2], by rw [idle_len]⟩
              unfold tmV at q
              rw [hkd, g3, g1]
              exact q
          · have g0 : isKind k = false := by simpa using g1
            have g3 : ran = false := by
              cases hq : ran with
              | false => rfl
              | true => exact absurd (hr2 hq) g1
            refine ⟨0, idle due j, idle_len _ _, fun K wz h => ?_⟩
            have q := h.set_kind (k := k) (i := i) (d := 0) g0
            unfold tmV at q
            rw [hkd, g3, g0]
            refine q.mono ?_
            rintro e w' ⟨rfl, hb⟩
            exact ⟨rfl, h.turned hb⟩
        obtain ⟨was, l2, hl2, hset⟩ := hset
        have HS := Lib.hid hset
        have HL2 := Lib.hid hl2
        have hr2 : ran = true → kd = true := by
          intro e
          rw [hran] at e
          simp at e
          rw [hkd, e.1]
          decide
        have key : (ran = false ∧ (k = 2 ∧ ¬ i < (j : Int) ∨ ¬ k = 2)) ∨ (ran = true ∧ k = 2 ∧ i < (j : Int)) := by
          rw [hran]
          by_cases g1 : k = 2 <;> by_cases g2 : i < (j : Int) <;> simp [g1, g2]
        clear hran hkd HRk1 hdue hlen hset hl2
        rcases key with ⟨g, g2⟩ | ⟨g, g2, g3⟩
        · subst g
          have HS1 : Hid (∀ K wz, TS K p j (idle due j) wz → Calls Try.prog 18 #[.pointer (some ⟨p, 0, none⟩), .agg #[.int .i64 k, .int .u64 i], .int .u64 0] wz fun e w' => e = .returned (.tuple #[.int .u64 was, .bool false, .int .i64 (if kd then 3 else 2)]) ∧ Turned K p j l2 wz w') := HS
          clear HS hr2
          rcases g2 with ⟨g2, g3⟩ | g2
          · have f1 : decide (k = 2) = true := by simpa using g2
            have f2 : decide (i < (j : Int)) = false := by simpa using g3
            have f3 : (k == 2) = true := by simpa using g2
            clear g2 g3
            cases kd with
            | true =>
              go_wp2_with (go_at_call 18; fail)
              refine (T.out.turn fun K h => (by have q := HS1.out K _ h; simpa using q)).mono ?_
              rintro e w3 ⟨rfl, hT⟩
              have T3 := Lib.hid hT
              have b0 := hT.at (x := (X, k, i)) (by simp)
              have c0 := cell_blk b0 0 _ rfl
              have c1 := cell_blk b0 1 _ rfl
              have lX := blk_lt b0
              clear hT b0
              have hl : Hid (Calls Try.prog 23 #[.pointer (some ⟨p, 0, none⟩)] w3 fun e w' => e = .returned (.int .i64 j) ∧ w3 = w') := Lib.hid (by
                obtain ⟨K, h1, _⟩ := T3.out.ex
                have := h1.length
                rw [HL2.out] at this
                exact this)
              go_wp2_with (first
                | (go_at_call 13; refine (HNum.out _ _).mono ?_; rintro e w' ⟨rfl, rfl⟩)
                | (go_at_call 25; refine (HRK.out _).mono ?_; rintro e w' ⟨rfl, rfl⟩)
                | (go_at_call 23; refine hl.out.mono ?_; rintro e w' ⟨rfl, rfl⟩)
                | (go_at_call 8; refine (HWk.out _).mono ?_; rintro e w' ⟨rfl, hb⟩; have HB := Lib.hid (B1.out.trans ((T3.out.bel.trans (hb.mono T3.out.bel.size)).mono B1.out.size)); clear hb))
              all_goals (go_ret; exact ⟨rfl, HB.out⟩)
            | false =>
              go_wp2_with (go_at_call 18; fail)
              refine (T.out.turn fun K h => (by have q := HS1.out K _ h; simpa using q)).mono ?_
              rintro e w3 ⟨rfl, hT⟩
              have T3 := Lib.hid hT
              have b0 := hT.at (x := (X, k, i)) (by simp)
              have c0 := cell_blk b0 0 _ rfl
              have c1 := cell_blk b0 1 _ rfl
              have lX := blk_lt b0
              clear hT b0
              have hl : Hid (Calls Try.prog 23 #[.pointer (some ⟨p, 0, none⟩)] w3 fun e w' => e = .returned (.int .i64 j) ∧ w3 = w') := Lib.hid (by
                obtain ⟨K, h1, _⟩ := T3.out.ex
                have := h1.length
                rw [HL2.out] at this
                exact this)
              go_wp2_with (first
                | (go_at_call 13; refine (HNum.out _ _).mono ?_; rintro e w' ⟨rfl, rfl⟩)
                | (go_at_call 25; refine (HRK.out _).mono ?_; rintro e w' ⟨rfl, rfl⟩)
                | (go_at_call 23; refine hl.out.mono ?_; rintro e w' ⟨rfl, rfl⟩)
                | (go_at_call 8; refine (HWk.out _).mono ?_; rintro e w' ⟨rfl, hb⟩; have HB := Lib.hid (B1.out.trans ((T3.out.bel.trans (hb.mono T3.out.bel.size)).mono B1.out.size)); clear hb))
              all_goals (go_ret; exact ⟨rfl, HB.out⟩)
          · have f1 : decide (k = 2) = false := by simpa using g2
            have f3 : (k == 2) = false := by simpa using g2
            clear g2
            cases kd with
            | true =>
              go_wp2_with (go_at_call 18; fail)
              refine (T.out.turn fun K h => (by have q := HS1.out K _ h; simpa using q)).mono ?_
              rintro e w3 ⟨rfl, hT⟩
              have T3 := Lib.hid hT
              have b0 := hT.at (x := (X, k, i)) (by simp)
              have c0 := cell_blk b0 0 _ rfl
              have c1 := cell_blk b0 1 _ rfl
              have lX := blk_lt b0
              clear hT b0
              have hl : Hid (Calls Try.prog 23 #[.pointer (some ⟨p, 0, none⟩)] w3 fun e w' => e = .returned (.int .i64 j) ∧ w3 = w') := Lib.hid (by
                obtain ⟨K, h1, _⟩ := T3.out.ex
                have := h1.length
                rw [HL2.out] at this
                exact this)
              go_wp2_with (first
                | (go_at_call 13; refine (HNum.out _ _).mono ?_; rintro e w' ⟨rfl, rfl⟩)
                | (go_at_call 25; refine (HRK.out _).mono ?_; rintro e w' ⟨rfl, rfl⟩)
                | (go_at_call 23; refine hl.out.mono ?_; rintro e w' ⟨rfl, rfl⟩)
                | (go_at_call 8; refine (HWk.out _).mono ?_; rintro e w' ⟨rfl, hb⟩; have HB := Lib.hid (B1.out.trans ((T3.out.bel.trans (hb.mono T3.out.bel.size)).mono B1.out.size)); clear hb))
              all_goals (go_ret; exact ⟨rfl, HB.out⟩)
            | false =>
              go_wp2_with (go_at_call 18; fail)
              refine (T.out.turn fun K h => (by have q := HS1.out K _ h; simpa using q)).mono ?_
              rintro e w3 ⟨rfl, hT⟩
              have T3 := Lib.hid hT
              have b0 := hT.at (x := (X, k, i)) (by simp)
              have c0 := cell_blk b0 0 _ rfl
              have c1 := cell_blk b0 1 _ rfl
              have lX := blk_lt b0
              clear hT b0
              have hl : Hid (Calls Try.prog 23 #[.pointer (some ⟨p, 0, none⟩)] w3 fun e w' => e = .returned (.int .i64 j) ∧ w3 = w') := Lib.hid (by
                obtain ⟨K, h1, _⟩ := T3.out.ex
                have := h1.length
                rw [HL2.out] at this
                exact this)
              go_wp2_with (first
                | (go_at_call 13; refine (HNum.out _ _).mono ?_; rintro e w' ⟨rfl, rfl⟩)
                | (go_at_call 25; refine (HRK.out _).mono ?_; rintro e w' ⟨rfl, rfl⟩)
                | (go_at_call 23; refine hl.out.mono ?_; rintro e w' ⟨rfl, rfl⟩)
                | (go_at_call 8; refine (HWk.out _).mono ?_; rintro e w' ⟨rfl, hb⟩; have HB := Lib.hid (B1.out.trans ((T3.out.bel.trans (hb.mono T3.out.bel.size)).mono B1.out.size)); clear hb))
              all_goals (go_ret; exact ⟨rfl, HB.out⟩)
        · subst g
          have f1 : decide (k = 2) = true := by simpa using g2
          have f2 : decide (i < (j : Int)) = true := by simpa using g3
          have f3 : (k == 2) = true := by simpa using g2
          have f4 := hr2 rfl
          subst f4
          have HS1 : Hid (∀ K wz, TS K p j (idle due j) wz → Calls Try.prog 18 #[.pointer (some ⟨p, 0, none⟩), .agg #[.int .i64 k, .int .u64 i], .int .u64 0] wz fun e w' => e = .returned (.tuple #[.int .u64 was, .bool true, .int .i64 0]) ∧ Turned K p j l2 wz w') := HS
          clear HS hr2 g2 g3
          go_wp2_with (go_at_call 18; fail)
          refine (T.out.turn fun K h => HS1.out K _ h).mono ?_
          rintro e w3 ⟨rfl, hT⟩
          have T3 := Lib.hid hT
          have b0 := hT.at (x := (X, k, i)) (by simp)
          have c0 := cell_blk b0 0 _ rfl
          have c1 := cell_blk b0 1 _ rfl
          have lX := blk_lt b0
          clear hT b0
          have hl : Hid (Calls Try.prog 23 #[.pointer (some ⟨p, 0, none⟩)] w3 fun e w' => e = .returned (.int .i64 j) ∧ w3 = w') := Lib.hid (by
            obtain ⟨K, h1, _⟩ := T3.out.ex
            have := h1.length
            rw [HL2.out] at this
            exact this)
          go_wp2_with (first
            | (go_at_call 13; refine (HNum.out _ _).mono ?_; rintro e w' ⟨rfl, rfl⟩)
            | (go_at_call 25; refine (HRK.out _).mono ?_; rintro e w' ⟨rfl, rfl⟩)
            | (go_at_call 23; refine hl.out.mono ?_; rintro e w' ⟨rfl, rfl⟩)
            | (go_at_call 8; refine (HWk.out _).mono ?_; rintro e w' ⟨rfl, hb⟩; have HB := Lib.hid (B1.out.trans ((T3.out.bel.trans (hb.mono T3.out.bel.size)).mono B1.out.size)); clear hb))
          all_goals (go_ret; exact ⟨rfl, HB.out⟩)
end
end Go.Proofs.Ytnmbhcekcdicnaa
