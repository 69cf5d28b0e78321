import Derived.Test.YthiajgkifoimcaaC
namespace Go.Proofs.Ythiajgkifoimcaa
open Go.RowKit
set_option linter.unusedVariables false
set_option linter.unusedSimpArgs false


set_option maxHeartbeats 400000 in
theorem num_any (a : Int) (w : World) :
    Calls Try.prog 9 #[.int .i64 a] w fun e w' => e = .returned (.int .i64 a) ∧ w = w' := by
  go_enter Try.func9, Try.ntmps9
  go_wp2
  go_ret
  exact ⟨rfl, rfl⟩

set_option maxHeartbeats 400000 in
theorem none_nil (w : World) :
    Calls Try.prog 24 #[.pointer none] w fun e w' => e = .returned (.bool true) ∧ w = w' := by
  go_enter Try.func24, Try.ntmps24
  go_wp2
  go_ret
  exact ⟨rfl, rfl⟩

set_option maxHeartbeats 400000 in
theorem none_some (p : Nat) (m : Int) (w : World) (h3 : w.cell? ⟨p, 3, none⟩ = some (.int .i64 m)) :
    Calls Try.prog 24 #[.pointer (some ⟨p, 0, none⟩)] w fun e w' => e = .returned (.bool (m == 0)) ∧ w = w' := by
  go_enter Try.func24, Try.ntmps24
  go_wp2
  go_ret
  exact ⟨rfl, rfl⟩

set_option maxHeartbeats 400000 in
theorem first_any (p : Nat) (x : Int) (w : World) (h0 : w.cell? ⟨p, 0, none⟩ = some (.int .u64 x)) :
    Calls Try.prog 29 #[.pointer (some ⟨p, 0, none⟩)] w fun e w' => e = .returned (.int .u64 x) ∧ w = w' := by
  go_enter Try.func29, Try.ntmps29
  go_wp2
  go_ret
  exact ⟨rfl, rfl⟩

set_option maxHeartbeats 400000 in
theorem new_ok (m x : Int) (w : World) (h1 : 1 ≤ m) (h2 : m ≤ 4096) :
    Calls Try.prog 8 #[.int .i64 m, .int .u64 x] w fun e w' => e = .returned (.tuple #[.pointer (some ⟨w.heap.size, 0, none⟩), .int .i64 0]) ∧ w.alloc (.cells #[.int .u64 x, .int .u64 x, .slice none 0 0, .int .i64 m] 58) = w' := by
  go_enter Try.func8, Try.ntmps8
  go_wp2
  go_ret2
  exact ⟨rfl, rfl⟩



set_option maxHeartbeats 400000 in
theorem next_any (p : Nat) (x : Int) (w : World) (h0 : w.cell? ⟨p, 1, none⟩ = some (.int .u64 x)) :
    Calls Try.prog 25 #[.pointer (some ⟨p, 0, none⟩)] w fun e w' => e = .returned (.int .u64 x) ∧ w = w' := by
  go_enter Try.func25, Try.ntmps25
  go_wp2
  go_ret
  exact ⟨rfl, rfl⟩

def outB (at' F N : Int) : Bool := decide (at' < F) || decide (N ≤ at')

set_option maxHeartbeats 400000 in
theorem hasClo (c p : Nat) (at' F N : Int) (w : World) (h : w.cell? ⟨c, 0, none⟩ = some (.pointer (some ⟨p, 0, none⟩)))
    (h0 : w.cell? ⟨p, 0, none⟩ = some (.int .u64 F)) (h1 : w.cell? ⟨p, 1, none⟩ = some (.int .u64 N)) :
    Calls Try.prog 43 #[.int .u64 at', .pointer (some ⟨c, 0, none⟩)] w fun e w' => e = .returned (.bool (outB at' F N)) ∧ w = w' := by
  by_cases hlt : at' < F
  · have hd : decide (at' < F) = true := by simpa using hlt
    go_enter Try.func43, Try.ntmps43
    go_wp2
    go_ret
    exact ⟨by simp [outB, hd], rfl⟩
  · have hd : decide (at' < F) = false := by simpa using hlt
    go_enter Try.func43, Try.ntmps43
    go_wp2
    go_ret
    exact ⟨by simp [outB, hd], rfl⟩

set_option maxHeartbeats 400000 in
theorem indexOne (b c p : Nat) (at' F N : Int) (w : World) (hb : w.cell? ⟨b, 0, none⟩ = some (.int .u64 at')) (h : w.cell? ⟨c, 0, none⟩ = some (.pointer (some ⟨p, 0, none⟩)))
    (h0 : w.cell? ⟨p, 0, none⟩ = some (.int .u64 F)) (h1 : w.cell? ⟨p, 1, none⟩ = some (.int .u64 N)) :
    Calls Try.prog 44 #[.slice (some ⟨b, 0, none⟩) 1 1, .func (.func 43) #[] #[.pointer (some ⟨c, 0, none⟩)]] w fun e w' => e = .returned (.int .i64 (if outB at' F N then 0 else -1)) ∧ w = w' := by
  have HC := Lib.hid (hasClo c p at' F N w h h0 h1)
  cases ho : outB at' F N
  · rw [ho] at HC
    clear ho
    go_enter Try.func44, Try.ntmps44
    go_wp2
    refine wp_loop_rounds 2 ?_
    rw [rounds_succ]
    go_wp2_with (go_at_call 43; refine HC.out.mono ?_; rintro e w' ⟨rfl, rfl⟩)
    rw [rounds_succ]
    go_wp2
    go_ret
    exact ⟨rfl, rfl⟩
  · rw [ho] at HC
    clear ho
    go_enter Try.func44, Try.ntmps44
    go_wp2
    refine wp_loop_rounds 2 ?_
    rw [rounds_succ]
    go_wp2_with (go_at_call 43; refine HC.out.mono ?_; rintro e w' ⟨rfl, rfl⟩)
    go_ret
    exact ⟨rfl, rfl⟩

set_option maxHeartbeats 400000 in
theorem none_ring (p : Nat) (m : Int) (w : World) (hm : (m == 0) = false) (h3 : w.cell? ⟨p, 3, none⟩ = some (.int .i64 m)) :
    Calls Try.prog 24 #[.pointer (some ⟨p, 0, none⟩)] w fun e w' => e = .returned (.bool false) ∧ w = w' :=
  (none_some p m w h3).mono fun e w' ⟨h, hw⟩ => ⟨by rw [h, hm], hw⟩

set_option maxHeartbeats 400000 in
theorem contOne (b c p : Nat) (at' F N : Int) (w : World) (hb : w.cell? ⟨b, 0, none⟩ = some (.int .u64 at')) (h : w.cell? ⟨c, 0, none⟩ = some (.pointer (some ⟨p, 0, none⟩)))
    (h0 : w.cell? ⟨p, 0, none⟩ = some (.int .u64 F)) (h1 : w.cell? ⟨p, 1, none⟩ = some (.int .u64 N)) :
    Calls Try.prog 42 #[.slice (some ⟨b, 0, none⟩) 1 1, .func (.func 43) #[] #[.pointer (some ⟨c, 0, none⟩)]] w fun e w' => e = .returned (.bool (outB at' F N)) ∧ w = w' := by
  have HC := Lib.hid (indexOne b c p at' F N w hb h h0 h1)
  cases ho : outB at' F N
  · rw [ho] at HC
    clear ho
    go_enter Try.func42, Try.ntmps42
    go_wp2_with (go_at_call 44; refine HC.out.mono ?_; rintro e w' ⟨rfl, rfl⟩)
    go_ret
    exact ⟨rfl, rfl⟩
  · rw [ho] at HC
    clear ho
    go_enter Try.func42, Try.ntmps42
    go_wp2_with (go_at_call 44; refine HC.out.mono ?_; rintro e w' ⟨rfl, rfl⟩)
    go_ret
    exact ⟨rfl, rfl⟩

set_option maxHeartbeats 400000 in
theorem hasOne (b p : Nat) (at' F N : Int) (w : World) (hb0 : b < w.heap.size) (hp0 : p < w.heap.size) (hb : w.cell? ⟨b, 0, none⟩ = some (.int .u64 at'))
    (h0 : w.cell? ⟨p, 0, none⟩ = some (.int .u64 F)) (h1 : w.cell? ⟨p, 1, none⟩ = some (.int .u64 N)) :
    Calls Try.prog 39 #[.pointer (some ⟨p, 0, none⟩), .slice (some ⟨b, 0, none⟩) 1 1] w fun e w' => e = .returned (.bool (!outB at' F N)) ∧ Below w.heap.size w w' := by
  have k1 : (w.alloc (.cells #[.pointer (some ⟨p, 0, none⟩)] 80)).cell? ⟨b, 0, none⟩ = some (.int .u64 at') := by rw [World.cell?_alloc_past _ _ _ hb0]; exact hb
  have k2 : (w.alloc (.cells #[.pointer (some ⟨p, 0, none⟩)] 80)).cell? ⟨w.heap.size, 0, none⟩ = some (.pointer (some ⟨p, 0, none⟩)) := by rw [World.cell?_alloc_at _ _ _ _ rfl]; rfl
  have k3 : (w.alloc (.cells #[.pointer (some ⟨p, 0, none⟩)] 80)).cell? ⟨p, 0, none⟩ = some (.int .u64 F) := by rw [World.cell?_alloc_past _ _ _ hp0]; exact h0
  have k4 : (w.alloc (.cells #[.pointer (some ⟨p, 0, none⟩)] 80)).cell? ⟨p, 1, none⟩ = some (.int .u64 N) := by rw [World.cell?_alloc_past _ _ _ hp0]; exact h1
  have HC := Lib.hid (contOne b w.heap.size p at' F N _ k1 k2 k3 k4)
  clear k1 k2 k3 k4
  go_enter Try.func39, Try.ntmps39
  go_wp2_with (go_at_call 42; refine HC.out.mono ?_; rintro e w' ⟨rfl, rfl⟩)
  go_ret
  exact ⟨rfl, (Below.refl _ _).alloc (Nat.le_refl _) _⟩

end Go.Proofs.Ythiajgkifoimcaa
