/-
  Bytes in memory; copies of them.
-/
import Derived.Test.YtfkfooclapogjaaC
import Derived.Laws.BytesArg
import Derived.Laws.Concat
import Derived.Laws.Strings
namespace Go.Proofs.Ytfkfooclapogjaa
open Go.RowKit
set_option linter.unusedVariables false
set_option linter.unusedSimpArgs false

theorem Try.info5 : (Try.prog.info? 5).map (fun i => (i.zero, i.size, i.bytes)) = some (some (.int .u8 0), 1, 1) := by kernel_rfl
theorem info_parts {x : Option TypeInfo} {z : Value} {s b : Nat} (h : x.map (fun i => (i.zero, i.size, i.bytes)) = some (some z, s, b)) : ∃ i, x = some i ∧ i.zero = some z ∧ i.size = s ∧ i.bytes = b := by
  cases x with
  | none => simp at h
  | some i => simp at h; exact ⟨i, rfl, h.1, h.2.1, h.2.2⟩
theorem Below.drewN' (w : World) (n : Nat) : Below w.heap.size w (w.drewN n) := ⟨rfl, rfl, rfl, Nat.le_refl _, fun _ _ => rfl⟩

/-- Bytes that may be read, in a block of which T is told. -/
def Arg (T : Nat → Prop) (w : World) (ao : Option Addr) (n : Nat) (zs : List Int) : Prop :=
  zs.length = n ∧ (0 < n → ∃ b off, ao = some ⟨b, off, none⟩ ∧ b < w.heap.size ∧ T b ∧ ∀ j, j < n → w.cell? ⟨b, off + j, none⟩ = some (.int .u8 (zs.getD j 0)))
theorem Arg.mod {T S : Nat → Prop} {w w' : World} {ao : Option Addr} {n : Nat} {zs : List Int} (h : Arg T w ao n zs) (hm : Mod S w w') (ht : ∀ k, T k → ¬ S k) : Arg T w' ao n zs :=
  ⟨h.1, fun hp => by
    obtain ⟨b, off, e, hb, hT, hc⟩ := h.2 hp
    exact ⟨b, off, e, Nat.lt_of_lt_of_le hb hm.size, hT, fun j hj => (hm.cell (p := ⟨b, off + j, none⟩) hb (ht b hT)).trans (hc j hj)⟩⟩
theorem Arg.mono {T U : Nat → Prop} {w : World} {ao : Option Addr} {n : Nat} {zs : List Int} (h : Arg T w ao n zs) (hu : ∀ k, k < w.heap.size → T k → U k) : Arg U w ao n zs :=
  ⟨h.1, fun hp => by
    obtain ⟨b, off, e, hb, hT, hc⟩ := h.2 hp
    exact ⟨b, off, e, hb, hu b hb hT, hc⟩⟩
theorem Arg.below {T : Nat → Prop} {w w' : World} {ao : Option Addr} {n : Nat} {zs : List Int} (h : Arg T w ao n zs) (hb : Below w.heap.size w w') : Arg T w' ao n zs :=
  h.mod (Mod.of_below hb (fun _ => False)) (fun _ _ h => h)
theorem Arg.drewN {T : Nat → Prop} {w : World} {ao : Option Addr} {n : Nat} {zs : List Int} (h : Arg T w ao n zs) (k : Nat) : Arg T (w.drewN k) ao n zs := ⟨h.1, h.2⟩
/-- What append reads. -/
theorem Arg.news {T : Nat → Prop} {w : World} {ao : Option Addr} {n : Nat} {zs : List Int} (h : Arg T w ao n zs) : ∀ ad, ao = some ad → ∀ j u, (zs.map (Value.int .u8))[j]? = some u → w.cell? (ad.add j) = some u := by
  rintro ad rfl j u hj
  have hj1 := (List.getElem?_eq_some_iff.1 hj).1
  have hj' : j < n := by rw [List.length_map, h.1] at hj1; exact hj1
  obtain ⟨b, off, e, hb, _, hc⟩ := h.2 (by omega)
  cases e
  have hz : zs[j]? = some (zs.getD j 0) := by
    have : j < zs.length := by rw [h.1]; exact hj'
    simp [List.getD, this]
  rw [List.getElem?_map, hz] at hj
  cases hj
  rw [show (⟨b, off, none⟩ : Addr).add j = ⟨b, off + j, none⟩ from WideShapes.add_plain b off j]
  exact hc j hj'
theorem one_u8 (zs : List Int) : ∀ u ∈ zs.map (Value.int .u8), u.oneCell' = true := fun u hu => by
  obtain ⟨z, _, rfl⟩ := List.mem_map.1 hu; rfl
/-- A row's window. -/
theorem row_window {w : World} {base : Nat} {ao : Option Addr} {n cap : Nat} {vs : List Int} (h : w.ownsRow base 5 1 (.slice ao n cap) n (vs.map (.int .u8))) (g k : Nat) (hk : g + k ≤ n) (hp : 0 < k) :
    ∃ b, ao = some ⟨b, 0, none⟩ ∧ Arg (fun k => (Value.slice ao n cap).ownBlock = some k) w (some ⟨b, g, none⟩) k ((vs.drop g).take k) := by
  have hl : vs.length = n := by simpa using h.1
  obtain ⟨b, cap', cur, hv, hbb, hgg, hnc, hcm, hcs, htk⟩ := row_some h (by omega)
  injection hv with e1 e2 e3
  subst e1
  refine ⟨b, rfl, by simp; omega, fun _ => ⟨b, g, rfl, blk_lt hgg, rfl, fun j hj => ?_⟩⟩
  refine cell_blk hgg (g + j) _ ?_
  have := congrArg (fun l => l[g + j]?) htk
  simp only [Nat.mul_one] at this
  rw [List.getElem?_take_of_lt (by omega)] at this
  rw [← Array.getElem?_toList, this, List.getElem?_map]
  have hlt : g + j < vs.length := by omega
  simp [List.getD, List.getElem?_take_of_lt hj, List.getElem?_drop, hlt]

theorem Arg.take {T : Nat → Prop} {w : World} {ao : Option Addr} {n : Nat} {zs : List Int} (h : Arg T w ao n zs) (k : Nat) (hk : k ≤ n) : Arg T w ao k (zs.take k) :=
  ⟨by have := h.1; simp; omega, fun hp => by
    obtain ⟨b, off, e, hb, hT, hc⟩ := h.2 (by omega)
    refine ⟨b, off, e, hb, hT, fun j hj => ?_⟩
    have hl := h.1
    rw [hc j (by omega)]
    have hlt : j < zs.length := by omega
    simp [List.getD, List.getElem?_take_of_lt hj, hlt]⟩

/-- What is told of a row that was handed out. -/
theorem row_arg {w : World} {base : Nat} {a : Option Addr} {n c : Nat} {xs : List Int} (h : w.ownsRow base 5 1 (.slice a n c) n (xs.map (.int .u8))) : xs.length = n ∧ Arg (fun k => base ≤ k) w a xs.length xs ∧ (a = none → xs.length = 0 ∧ c = 0) := by
  have hl : xs.length = n := by simpa using h.1
  subst hl
  refine ⟨rfl, ⟨rfl, fun hp => ?_⟩, fun e => ?_⟩
  · obtain ⟨b, e, ha⟩ := row_window h 0 xs.length (by omega) hp
    obtain ⟨_, h2⟩ := ha
    obtain ⟨b', off, e', hb, hT, hc⟩ := h2 hp
    subst e
    cases e'
    exact ⟨b, 0, rfl, hb, (h.lt b rfl).1, fun j hj => by have := hc j hj; simpa [List.getD, List.getElem?_take_of_lt hj] using this⟩
  · subst e
    rcases h.2 with ⟨e, _⟩ | ⟨g', c', cur, e, _⟩
    · injection e with e1 e2 e3
      exact ⟨e2, e3⟩
    · cases e

theorem conv_any {T : Nat → Prop} {w : World} {a : Option Addr} {xs : List Int} (c : Nat) (h : Arg T w a xs.length xs) (hn : a = none → xs.length = 0 ∧ c = 0) :
    (convert 22 9 (.slice a xs.length c)).run Try.prog w = .ok (.string (strOfNums xs)) w := by
  by_cases hp : 0 < xs.length
  · obtain ⟨b, off, rfl, hb, _, hc⟩ := h.2 hp
    exact run_convert_bytes_arg w 22 5 Try.underlying22 Try.underlying5 b off xs.length c xs rfl hc 9 Try.underlying9
  · have h0 : xs = [] := List.eq_nil_of_length_eq_zero (by omega)
    subst h0
    show (convert 22 9 (.slice a 0 c)).run Try.prog w = .ok (.string ByteArray.empty) w
    rw [run_convert_bytes_string w 22 9 5 _ 0 c Try.underlying22 Try.underlying5 Try.underlying9]
    cases a <;> simp [Conv.bytesToString, loadCells]
    all_goals rfl
theorem strOfNums_append (a b : List Int) : strOfNums (a ++ b) = strOfNums a ++ strOfNums b := by
  apply ByteArray.ext
  simp [strOfNums]

set_option maxHeartbeats 800000 in
theorem Clone_any (T : Nat → Prop) (ao : Option Addr) (n cap : Nat) (zs : List Int) (w : World) (h : Arg T w ao n zs) (hc : ao = none → n = 0 ∧ cap = 0) (hn : n ≤ 4194304) :
    Calls Try.prog 31 #[.slice ao n cap] w fun e w' => ∃ v, e = .returned v ∧ w'.ownsRow w.heap.size 5 1 v n (zs.map (.int .u8)) ∧ Below w.heap.size w w' ∧ (ao = none → v = .slice none 0 0) := by
  obtain ⟨i0, hi, hz0, hz1, hz2⟩ := info_parts Try.info5
  have hnil := fun (W : World) => Lib.run_eql_slice_nil (P := Try.prog) W 22 5 ao n cap 0 0 Try.underlying22
  cases ao with
  | none =>
    obtain ⟨rfl, rfl⟩ := hc rfl
    have hz : zs = [] := List.eq_nil_of_length_eq_zero h.1
    subst hz
    clear h
    go_enter Try.func31, Try.ntmps31
    go_wp2
    go_ret
    exact ⟨_, rfl, World.ownsRow_nil _ _ _ _, Below.refl _ _, rfl⟩
  | some ad =>
    have HR : Hid ((w.alloc (.cells #[] 5)).ownsRow w.heap.size 5 1 (.slice (some ⟨w.heap.size, 0, none⟩) 0 0) 0 []) := Lib.hid (World.ownsRow_lit w #[] 0 (Nat.le_refl _) (by simp) rfl)
    have HA := Lib.hid (h.below ((Below.refl _ w).alloc (Nat.le_refl _) (.cells #[] 5)))
    have hl := h.1
    clear h
    go_enter Try.func31, Try.ntmps31
    go_wp2_with (at_builtin; refine wpList_append_f _ rfl (.tmp 5) (.tmp 6) 22 rfl w.heap.size 5 i0 (.int .u8 0) 1 1 Try.underlying22 hi hz0 hz1 hz2 rfl (by decide) _ _ _ rfl HR.out (some ad) n cap (zs.map (.int .u8)) rfl (by simp; exact hl) (fun e => by cases e) HA.out.news (one_u8 zs) ?c3 ?c4 (by simp) ?_)
    case c3 => unfold maxLen; omega
    case c4 => omega
    intro v' w1 hown hg hf _
    have hb : Below w.heap.size w w1 := ((Below.refl _ w).alloc (Nat.le_refl _) (.cells #[] 5)).grown hg (by simp) (fun k e => by cases e; exact Nat.le_refl _)
    have HO := Lib.hid hown
    have HB := Lib.hid hb
    clear hown hg hf hb
    go_wp2
    go_ret
    exact ⟨_, rfl, by simpa using HO.out, HB.out, fun e => by cases e⟩


end Go.Proofs.Ytfkfooclapogjaa
