/-
  Cut, Contains; the maps of Kinds.
-/
import Derived.Test.YtfnojmkiajdoaaaB
import Derived.Test.YtfnojmkiajdoaaaC
import Derived.Test.YtfnojmkiajdoaaaM
import Derived.Deep.RegionHeld3
namespace Go.Proofs.Ytfnojmkiajdoaaa
open Go.RowKit Go.Maps Go.ChangeMaps Go.WideMaps
set_option linter.unusedVariables false
set_option linter.unusedSimpArgs false

/-- What Cut tells. -/
def cutV (xs : List Int) : Value := match at1 58 xs with
  | none => .tuple #[.string (strOfNums xs), .string ⟨#[]⟩, .bool false]
  | some k => .tuple #[.string (strOfNums (xs.take k)), .string (strOfNums (xs.drop (k + 1))), .bool true]
theorem cut34 (xs : List Int) (hb : Byt xs) (hl : xs.length ≤ 1000000) (w : World) : Calls Try.prog 34 #[.string (strOfNums xs), .string (strOfNums [58])] w fun e w' => e = .returned (cutV xs) ∧ ∃ q, w' = w.drewN q := by
  have HI := Lib.hid (index43 xs 58 hb (by decide) (by decide) hl w)
  have s58 : (strOfNums [58]).size = 1 := rfl
  obtain ⟨C, hC⟩ : ∃ s, s = strOfNums [58] := ⟨_, rfl⟩
  rw [← hC] at HI s58
  rw [← hC]
  cases ha : at1 58 xs with
  | none =>
    have e1 : cutV xs = .tuple #[.string (strOfNums xs), .string ⟨#[]⟩, .bool false] := by unfold cutV; rw [ha]
    have e2 : atV 58 xs = -1 := by unfold atV; rw [ha]
    rw [e1]
    rw [e2] at HI
    obtain ⟨SX, hSX⟩ : ∃ s, s = strOfNums xs := ⟨_, rfl⟩
    rw [← hSX] at HI
    rw [← hSX]
    clear hSX e1 e2 ha hC
    go_enter Try.func34, Try.ntmps34
    go_wp2_with (go_at_call 43; refine HI.out.mono ?_; rintro e w' ⟨rfl, rfl⟩)
    refine bodyPost_ret (v := .tuple #[.string SX, .string ⟨#[]⟩, .bool false]) (by simp [results, Try.results34, go_sem, *]) rfl ⟨rfl, 0, rfl⟩
  | some k =>
    have e1 : cutV xs = .tuple #[.string (strOfNums (xs.take k)), .string (strOfNums (xs.drop (k + 1))), .bool true] := by unfold cutV; rw [ha]
    have e2 : atV 58 xs = k := by unfold atV; rw [ha]
    have hk := (at1_some ha).2.1
    rw [e1]
    rw [e2] at HI
    obtain ⟨n, hn⟩ : ∃ n, n = xs.length := ⟨_, rfl⟩
    obtain ⟨SX, hSX⟩ : ∃ s, s = strOfNums xs := ⟨_, rfl⟩
    have zx : SX.size = n := by rw [hSX, strOfNums_size, hn]
    obtain ⟨A, hA⟩ : ∃ s, s = strOfNums (xs.take k) := ⟨_, rfl⟩
    obtain ⟨B, hB⟩ : ∃ s, s = strOfNums (xs.drop (k + 1)) := ⟨_, rfl⟩
    have eA : SX.extract 0 k = A := by rw [hSX, str_to, hA]
    have eB : SX.extract (k + 1) n = B := by rw [hSX, str_from xs (k + 1) n hn.symm, hB]
    rw [← hSX] at HI
    rw [← hSX, ← hA, ← hB]
    rw [← hn] at hk hl
    have k1 : (k : Int) ≤ n := by omega
    have k2 : (k : Int) + 1 ≤ n := by omega
    have k3 : (0 : Int) ≤ (k : Int) + 1 := by omega
    have k4 : IntKind.i64.wrap ((k : Int) + 1) = (k : Int) + 1 := by rw [IntKind.wrap_i64]; omega
    have k5 : ((k : Int) + 1).toNat = k + 1 := by omega
    clear hSX e1 e2 ha hC hA hB hn
    go_enter Try.func34, Try.ntmps34
    go_wp2_with (go_at_call 43; refine HI.out.mono ?_; rintro e w' ⟨rfl, rfl⟩)
    go_quiet (fail)
    go_wp2
    refine bodyPost_ret (v := .tuple #[.string A, .string B, .bool true]) (by simp [results, Try.results34, go_sem, *]) rfl ⟨rfl, nq, rfl⟩
theorem cut21 (xs : List Int) (hb : Byt xs) (hl : xs.length ≤ 1000000) (w : World) : Calls Try.prog 21 #[.string (strOfNums xs), .string (strOfNums [58])] w fun e w' => e = .returned (cutV xs) ∧ ∃ q, w' = w.drewN q := by
  have HI := Lib.hid (cut34 xs hb hl w)
  obtain ⟨s1, s2, b, hv⟩ : ∃ s1 s2 b, cutV xs = .tuple #[.string s1, .string s2, .bool b] := by
    unfold cutV
    cases at1 58 xs with
    | none => exact ⟨_, _, _, rfl⟩
    | some k => exact ⟨_, _, _, rfl⟩
  rw [hv] at HI ⊢
  clear hv hb hl
  go_enter Try.func21, Try.ntmps21
  go_wp2_with (go_at_call 34; fail)
  refine HI.out.mono ?_
  rintro e w' ⟨rfl, q, rfl⟩
  go_wp2
  refine bodyPost_ret (v := .tuple #[.string s1, .string s2, .bool b]) (by simp [results, Try.results21, go_sem, *]) rfl ⟨rfl, q, rfl⟩
theorem contains40 (xs : List Int) (hb : Byt xs) (hl : xs.length ≤ 1000000) (w : World) : Calls Try.prog 40 #[.string (strOfNums xs), .string (strOfNums [0])] w fun e w' => e = .returned (.bool (!decide (at1 0 xs = none))) ∧ w = w' := by
  have h56 : Calls Try.prog 56 #[.string (strOfNums xs), .string (strOfNums [0])] w fun e w' => e = .returned (.int .i64 (atV 0 xs)) ∧ w = w' := by
    have HI := Lib.hid (index43 xs 0 hb (by decide) (by decide) hl w)
    go_enter Try.func56, Try.ntmps56
    go_wp2_with (go_at_call 43; refine HI.out.mono ?_; rintro e w' ⟨rfl, rfl⟩)
    go_ret
    exact ⟨rfl, rfl⟩
  have HI := Lib.hid h56
  have hv : decide (0 ≤ atV 0 xs) = !decide (at1 0 xs = none) := by
    unfold atV
    cases at1 0 xs with
    | none => rfl
    | some k => simp
  obtain ⟨b, hb'⟩ : ∃ b, b = !decide (at1 0 xs = none) := ⟨_, rfl⟩
  obtain ⟨V, hV⟩ : ∃ V, V = atV 0 xs := ⟨_, rfl⟩
  rw [← hV] at HI hv
  rw [← hb'] at hv ⊢
  clear h56 hb' hV hb hl
  go_enter Try.func40, Try.ntmps40
  go_wp2_with (go_at_call 56; refine HI.out.mono ?_; rintro e w' ⟨rfl, rfl⟩)
  go_ret
  exact ⟨rfl, rfl⟩
theorem keyed9 : Keyed Try.prog 9 := string_keyed Try.underlying9
theorem keyed23 : Keyed Try.prog 23 := int_keyed Try.underlying23
/-- The entries of kinds. -/
def e1 : MapEntry := ⟨.string (strOfNums dataN), .int .i64 3, 0⟩
def e2 : MapEntry := ⟨.string (strOfNums eventN), .int .i64 4, 1⟩
def e3 : MapEntry := ⟨.string (strOfNums idN), .int .i64 5, 2⟩
def e4 : MapEntry := ⟨.string (strOfNums retryN), .int .i64 6, 3⟩
def kindsE : Array MapEntry := #[e1, e2, e3, e4]
def asksE : Array MapEntry := #[⟨.int .i64 5, .func (.func 39) #[] #[], 0⟩, ⟨.int .i64 6, .func (.func 41) #[] #[], 1⟩]
theorem key_str {xs : List Int} (hl : xs.length ≤ 1000000) : ∃ l, keyOf Try.prog 9 (.string (strOfNums xs)) = some l :=
  ⟨_, keyOf_string_mk Try.underlying9 (by rw [strOfNums_size]; unfold maxLen; omega)⟩
theorem str_ne {a b : List Int} (ha : Byt a) (hb : Byt b) (h : a ≠ b) : Value.string (strOfNums a) ≠ Value.string (strOfNums b) := fun e => by
  injection e with e
  exact h ((str_eq ha hb).1 e)
theorem byt_names : Byt dataN ∧ Byt eventN ∧ Byt idN ∧ Byt retryN := ⟨byt_dec rfl, byt_dec rfl, byt_dec rfl, byt_dec rfl⟩
theorem kinds_keys : KeysOk Try.prog 9 kindsE := fun x hx => by
  simp [kindsE] at hx
  rcases hx with rfl | rfl | rfl | rfl <;> exact key_str (by decide)
theorem kinds_any (w : World) : Calls Try.prog 23 #[] w fun e w' => e = .returned (.map (some w.heap.size)) ∧ w' = w.alloc (.map kindsE 4) := by
  have hmm := @run_makeMap Try.prog
  obtain ⟨b, hb⟩ : ∃ b, b = w.heap.size := ⟨_, rfl⟩
  have put : ∀ (es : Array MapEntry) (c : Nat) (xs : List Int) (v : Value), KeysOk Try.prog 9 es → xs.length ≤ 1000000 → (∀ x ∈ es.toList, x.key ≠ .string (strOfNums xs)) →
      (Instr.mapUpdate 52 (.map (some b)) (.string (strOfNums xs)) v).run Try.prog (w.alloc (.map es c)) = .ok () (w.alloc (.map (es.push ⟨.string (strOfNums xs), v, c⟩) (c + 1))) := fun es c xs v hk hl hne => by
    obtain ⟨l, hkey⟩ := key_str hl
    have h : (w.alloc (.map es c)).heap[b]? = some (.map es c) := by rw [hb]; exact (MapKept.heap_alloc w _).1
    have := run_put_new keyed9 Try.underlying52 h hk hkey hne v
    rw [hb, setBlock_new] at this
    rw [hb]
    exact this
  obtain ⟨n1, n2, n3, n4⟩ := byt_names
  have u1 : (Instr.mapUpdate 52 (.map (some b)) (.string (strOfNums dataN)) (.int .i64 3)).run Try.prog (w.alloc (.map #[] 0)) = .ok () (w.alloc (.map #[e1] 1)) := put #[] 0 dataN (.int .i64 3) (fun x hx => by simp at hx) (by decide) (fun x hx => by simp at hx)
  have u2 : (Instr.mapUpdate 52 (.map (some b)) (.string (strOfNums eventN)) (.int .i64 4)).run Try.prog (w.alloc (.map #[e1] 1)) = .ok () (w.alloc (.map #[e1, e2] 2)) := put #[e1] 1 eventN (.int .i64 4) (fun x hx => kinds_keys x (by simp [kindsE] at hx ⊢; simp [hx])) (by decide) (fun x hx => by
    simp at hx
    subst hx
    exact str_ne n1 n2 (by decide))
  have u3 : (Instr.mapUpdate 52 (.map (some b)) (.string (strOfNums idN)) (.int .i64 5)).run Try.prog (w.alloc (.map #[e1, e2] 2)) = .ok () (w.alloc (.map #[e1, e2, e3] 3)) := put #[e1, e2] 2 idN (.int .i64 5) (fun x hx => kinds_keys x (by simp [kindsE] at hx ⊢; rcases hx with h | h <;> simp [h])) (by decide) (fun x hx => by
    simp at hx
    rcases hx with rfl | rfl
    · exact str_ne n1 n3 (by decide)
    · exact str_ne n2 n3 (by decide))
  have u4 : (Instr.mapUpdate 52 (.map (some b)) (.string (strOfNums retryN)) (.int .i64 6)).run Try.prog (w.alloc (.map #[e1, e2, e3] 3)) = .ok () (w.alloc (.map kindsE 4)) := put #[e1, e2, e3] 3 retryN (.int .i64 6) (fun x hx => kinds_keys x (by simp [kindsE] at hx ⊢; rcases hx with h | h | h <;> simp [h])) (by decide) (fun x hx => by
    simp at hx
    rcases hx with rfl | rfl | rfl
    · exact str_ne n1 n4 (by decide)
    · exact str_ne n2 n4 (by decide)
    · exact str_ne n3 n4 (by decide))
  rw [hb] at u1 u2 u3 u4
  have c1 : strOfNums dataN = ⟨#[100, 97, 116, 97]⟩ := rfl
  have c2 : strOfNums eventN = ⟨#[101, 118, 101, 110, 116]⟩ := rfl
  have c3 : strOfNums idN = ⟨#[105, 100]⟩ := rfl
  have c4 : strOfNums retryN = ⟨#[114, 101, 116, 114, 121]⟩ := rfl
  rw [c1] at u1
  rw [c2] at u2
  rw [c3] at u3
  rw [c4] at u4
  clear put hb n1 n2 n3 n4 c1 c2 c3 c4
  go_enter Try.func23, Try.ntmps23
  go_wp2
  go_ret
  exact ⟨rfl, rfl⟩
theorem look_kinds (xs : List Int) (hb : Byt xs) (hl : xs.length ≤ 1000000) (b : Nat) (w : World) (h : w.heap[b]? = some (.map kindsE 4)) :
    ∃ v ok, (Instr.lookup 52 (.map (some b)) (.string (strOfNums xs)) true).run Try.prog w = .ok (.tuple #[.int .i64 v, .bool ok]) w ∧ (ok = true → v = kindOf xs) ∧ (ok = false → kindOf xs = 7) := by
  obtain ⟨n1, n2, n3, n4⟩ := byt_names
  obtain ⟨l, hkey⟩ := key_str hl
  have hz : (zeroValue 23).run Try.prog w = .ok (.int .i64 0) w := by kernel_rfl
  have eq : ∀ n, Byt n → (Value.string (strOfNums n) = Value.string (strOfNums xs) ↔ xs = n) := fun n hn => by
    constructor
    · intro e
      injection e with e
      exact ((str_eq hn hb).1 e).symm
    · rintro rfl; rfl
  rcases run_look keyed9 Try.underlying52 hz h kinds_keys hkey with ⟨h1, h2⟩ | ⟨e0, h1, h2, h3⟩
  · refine ⟨0, false, h1, (fun e => by cases e), fun _ => ?_⟩
    have a1 := h2 e1 (by simp [kindsE])
    have a2 := h2 e2 (by simp [kindsE])
    have a3 := h2 e3 (by simp [kindsE])
    have a4 := h2 e4 (by simp [kindsE])
    simp only [e1, e2, e3, e4, ne_eq, eq _ n1, eq _ n2, eq _ n3, eq _ n4] at a1 a2 a3 a4
    simp [kindOf, a1, a2, a3, a4]
  · simp [kindsE] at h1
    rcases h1 with rfl | rfl | rfl | rfl
    · exact ⟨3, true, h3, fun _ => by rw [(eq _ n1).1 h2]; decide, fun e => by cases e⟩
    · exact ⟨4, true, h3, fun _ => by rw [(eq _ n2).1 h2]; decide, fun e => by cases e⟩
    · exact ⟨5, true, h3, fun _ => by rw [(eq _ n3).1 h2]; decide, fun e => by cases e⟩
    · exact ⟨6, true, h3, fun _ => by rw [(eq _ n4).1 h2]; decide, fun e => by cases e⟩
theorem known22 (xs : List Int) (hb : Byt xs) (hl : xs.length ≤ 1000000) (b : Nat) (w : World) (h : w.heap[b]? = some (.map kindsE 4)) :
    Calls Try.prog 22 #[.map (some b), .string (strOfNums xs), .int .i64 7] w fun e w' => e = .returned (.int .i64 (kindOf xs)) ∧ w = w' := by
  obtain ⟨v, ok, h1, h2, h3⟩ := look_kinds xs hb hl b w h
  obtain ⟨K, hK⟩ : ∃ K, K = kindOf xs := ⟨_, rfl⟩
  rw [← hK] at h2 h3 ⊢
  obtain ⟨S, hS⟩ : ∃ K, K = strOfNums xs := ⟨_, rfl⟩
  rw [← hS] at h1 ⊢
  clear hS hK h hb hl
  cases ok with
  | true =>
    obtain rfl := h2 rfl
    clear h2 h3
    go_enter Try.func22, Try.ntmps22
    go_wp2
    go_ret
    exact ⟨rfl, rfl⟩
  | false =>
    obtain rfl := h3 rfl
    clear h2 h3
    go_enter Try.func22, Try.ntmps22
    go_wp2
    go_ret
    exact ⟨rfl, rfl⟩
/-- What is asked of a Kind. -/
def askFn (k : Int) : FuncId := if k = 5 then 39 else if k = 6 then 41 else 29
def a1 : MapEntry := ⟨.int .i64 5, .func (.func 39) #[] #[], 0⟩
theorem key_kind {k : Int} (h0 : -9223372036854775808 ≤ k) (h1 : k ≤ 9223372036854775807) : keyOf Try.prog 23 (.int .i64 k) = some (.int .i64 k) :=
  keyOf_int_mk Try.underlying23 (by simp [Lit.wf, IntKind.min, IntKind.max, IntKind.bits, IntKind.signed]; omega)
theorem asks_keys : KeysOk Try.prog 23 asksE := fun x hx => by
  simp [asksE] at hx
  rcases hx with rfl | rfl <;> exact ⟨_, key_kind (by decide) (by decide)⟩
theorem asks_any (w : World) : Calls Try.prog 28 #[] w fun e w' => e = .returned (.map (some w.heap.size)) ∧ w' = w.alloc (.map asksE 2) := by
  have hmm := @run_makeMap Try.prog
  have h1 : (w.alloc (.map #[] 0)).heap[w.heap.size]? = some (.map #[] 0) := (MapKept.heap_alloc w _).1
  have u1 := run_put_new keyed23 Try.underlying60 h1 (fun x hx => by simp at hx) (key_kind (k := 5) (by decide) (by decide)) (fun x hx => by simp at hx) (.func (.func 39) #[] #[])
  rw [setBlock_new] at u1
  have h2 : (w.alloc (.map #[a1] 1)).heap[w.heap.size]? = some (.map #[a1] 1) := (MapKept.heap_alloc w _).1
  have u2 := run_put_new keyed23 Try.underlying60 h2 (fun x hx => asks_keys x (by simp [asksE, a1] at hx ⊢; simp [hx])) (key_kind (k := 6) (by decide) (by decide)) (fun x hx => by simp [a1] at hx; subst hx; simp) (.func (.func 41) #[] #[])
  rw [setBlock_new] at u2
  have v1 : (Instr.mapUpdate 60 (.map (some w.heap.size)) (.int .i64 5) (.func (.func 39) #[] #[])).run Try.prog (w.alloc (.map #[] 0)) = .ok () (w.alloc (.map #[a1] 1)) := u1
  have v2 : (Instr.mapUpdate 60 (.map (some w.heap.size)) (.int .i64 6) (.func (.func 41) #[] #[])).run Try.prog (w.alloc (.map #[a1] 1)) = .ok () (w.alloc (.map asksE 2)) := u2
  clear u1 u2 h1 h2
  go_enter Try.func28, Try.ntmps28
  go_wp2
  go_ret
  exact ⟨rfl, rfl⟩
theorem known27 (k : Int) (h0 : -9223372036854775808 ≤ k) (h1 : k ≤ 9223372036854775807) (b : Nat) (w : World) (h : w.heap[b]? = some (.map asksE 2)) :
    Calls Try.prog 27 #[.map (some b), .int .i64 k, .func (.func 29) #[] #[]] w fun e w' => e = .returned (.func (.func (askFn k)) #[] #[]) ∧ w = w' := by
  have hz : (zeroValue 36).run Try.prog w = .ok .nilFunc w := by kernel_rfl
  rcases run_look keyed23 Try.underlying60 hz h asks_keys (key_kind h0 h1) with ⟨h1, h2⟩ | ⟨e0, g1, g2, g3⟩
  · have b1 := h2 _ (show a1 ∈ asksE.toList by simp [asksE, a1])
    have b2 := h2 _ (show (⟨.int .i64 6, .func (.func 41) #[] #[], 1⟩ : MapEntry) ∈ asksE.toList by simp [asksE])
    simp [a1] at b1 b2
    have e : askFn k = 29 := by unfold askFn; rw [if_neg (fun e => b1 e.symm), if_neg (fun e => b2 e.symm)]
    rw [e]
    clear e b1 b2 h2 h hz
    go_enter Try.func27, Try.ntmps27
    go_wp2
    go_ret
    exact ⟨rfl, rfl⟩
  · simp [asksE] at g1
    rcases g1 with rfl | rfl
    · simp at g2
      subst g2
      clear h hz h0 h1
      go_enter Try.func27, Try.ntmps27
      go_wp2
      go_ret
      exact ⟨rfl, rfl⟩
    · simp at g2
      subst g2
      clear h hz h0 h1
      go_enter Try.func27, Try.ntmps27
      go_wp2
      go_ret
      exact ⟨rfl, rfl⟩
end Go.Proofs.Ytfnojmkiajdoaaa
