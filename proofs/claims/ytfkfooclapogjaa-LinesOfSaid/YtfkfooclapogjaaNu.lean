/-
  Texts' bytes; bytes laid out; small laws.
-/
import Derived.Test.YtfkfooclapogjaaSu
import Derived.Test.YtfkfooclapogjaaP
import Derived.Lib.ConvBytes
namespace Go.Proofs.Ytfkfooclapogjaa
open Go.RowKit
set_option linter.unusedVariables false
set_option linter.unusedSimpArgs false

/-- A text's bytes. -/
def nums (s : ByteArray) : List Int := s.data.toList.map fun b => (b.toNat : Int)
theorem nums_byt (s : ByteArray) : Byt (nums s) := fun x hx => by
  obtain ⟨b, _, rfl⟩ := List.mem_map.1 hx
  have := b.toNat_lt
  omega
theorem nums_len (s : ByteArray) : (nums s).length = s.size := by
  rw [nums, List.length_map, Array.length_toList]
  rfl
theorem str_nums (s : ByteArray) : strOfNums (nums s) = s := by
  apply ByteArray.ext
  simp [strOfNums, nums, Function.comp_def]
theorem nums_str {zs : List Int} (h : Byt zs) : nums (strOfNums zs) = zs := by
  unfold nums strOfNums
  rw [List.map_map]
  conv => rhs; rw [← List.map_id zs]
  refine List.map_congr_left fun x hx => ?_
  have := h x hx
  simp
  omega
theorem str_eq {a b : List Int} (ha : Byt a) (hb : Byt b) : strOfNums a = strOfNums b ↔ a = b :=
  ⟨fun e => by rw [← nums_str ha, ← nums_str hb, e], fun e => by rw [e]⟩
theorem toList_beq (a b : ByteArray) (p : Prop) [Decidable p] (h : a = b ↔ p) : (a.toList == b.toList) = decide p := by
  have e : a.toList = b.toList ↔ p := by
    rw [← h]
    constructor
    · intro e
      apply ByteArray.ext
      apply Array.ext'
      simpa [ByteArray.toList_eq] using e
    · intro e; rw [e]
  by_cases hp : p
  · simp [hp, e.2 hp]
  · simp [hp]; exact fun h => hp (e.1 h)

theorem conv_new (s : ByteArray) (w : World) : ∃ c w', (convert 9 22 (.string s)).run Try.prog w = .ok (.slice (some ⟨w.heap.size, 0, none⟩) s.size c) w' ∧ Below w.heap.size w w' ∧ w'.heap.size = w.heap.size + 1 ∧
    Arg (fun k => k = w.heap.size) w' (some ⟨w.heap.size, 0, none⟩) s.size (nums s) := by
  refine ⟨_, _, Lib.run_convert_string_bytes w 9 22 5 s Try.underlying9 Try.underlying22 Try.underlying5, ⟨?_, ?_, ?_, by rw [Lib.bytesWorld_size]; omega, fun k hk => Lib.bytesWorld_at_old w 5 s k hk⟩, Lib.bytesWorld_size w 5 s, nums_len s, fun hp => ⟨_, 0, rfl, by rw [Lib.bytesWorld_size]; omega, rfl, fun j hj => ?_⟩⟩
  · simp only [Lib.bytesWorld, World.freeze, Nat.one_ne_zero, if_false]; rfl
  · simp only [Lib.bytesWorld, World.freeze, Nat.one_ne_zero, if_false]; rfl
  · simp only [Lib.bytesWorld, World.freeze, Nat.one_ne_zero, if_false]; rfl
  · rw [Nat.zero_add, Lib.bytesWorld_cell w 5 s j hj]
    have hl : j < s.data.toList.length := by rw [Array.length_toList]; exact hj
    simp only [nums, List.getD, List.getElem?_map, List.getElem?_eq_getElem hl, Option.map_some, Option.getD_some]

theorem allP_len (zs : List Int) : (allP zs).length ≤ zs.length := by
  have h := told_len zs 0
  have hw : (told 0 zs).2 = wts zs := rfl
  rw [hw] at h
  unfold allP
  rw [List.length_append]
  by_cases e : wts zs = []
  · rw [if_pos e]; simp; omega
  · rw [if_neg e]
    have : 0 < (wts zs).length := by
      cases hh : wts zs with
      | nil => exact absurd hh e
      | cons a l => simp
    simp; omega

set_option maxRecDepth 100000 in
theorem byt_dec {zs : List Int} (h : zs.all (fun x => decide (0 ≤ x ∧ x < 256)) = true) : Byt zs := fun x hx => by simpa using List.all_eq_true.1 h x hx
/-- Bytes laid out in a block of their own. -/
theorem arg_own {T : Nat → Prop} {w : World} {b : Nat} {zs : List Int} {fz : Nat × Nat} {e : TypeId} (h : w.heap[b]? = some (.cells (zs.map (Value.int .u8)).toArray e fz)) (hT : T b) : Arg T w (some ⟨b, 0, none⟩) zs.length zs :=
  ⟨rfl, fun _ => ⟨b, 0, rfl, blk_lt h, hT, fun j hj => cell_blk h _ _ (by simp [List.getD, hj])⟩⟩

theorem DS.write_lay {w wr : World} {K : Nat → Prop} {D : Nat} {zs : List Int} (h : DS w K D zs wr) (bs : List Int) (n : Nat) (fz : Nat × Nat) (hn : bs.length = n) (hb : Byt bs) (hl : n ≤ 1000000) (C : Array Value) (hC : C = (bs.map (Value.int .u8)).toArray) (s : ByteArray) (hs : strOfNums (enc (pts (zs ++ bs))) = s) (ys : List Int) (hy : wts (zs ++ bs) = ys) :
    Calls Try.prog 24 #[.pointer (some ⟨D, 0, none⟩), .slice (some ⟨wr.heap.size, 0, none⟩) n n] (wr.alloc (.cells C 5 fz)) fun e w' => e = .returned (.tuple #[.string s, .int .i64 0]) ∧ DS w K D ys w' ∧ Mod (fun k => k = D) wr w' := by
  subst hn hC hs hy
  have hb1 := (Below.refl _ wr).alloc (Nat.le_refl _) (.cells (bs.map (Value.int .u8)).toArray 5 fz)
  refine ((h.grow hb1).write (U := fun _ => True) _ _ _ (arg_own (alloc_blk_new wr _) trivial) (fun e => by cases e) hb hl).mono ?_
  rintro e w' ⟨rfl, h1, h2⟩
  exact ⟨rfl, h1.mono (fun k e => .inl e), (Mod.of_below hb1 _).trans h2 (fun _ _ e => e)⟩


/-- Bytes that came in, as an argument. -/
def InB (w : World) (a : Option Addr) (n cap : Nat) (zs : List Int) : Prop := Arg (fun k => k < w.heap.size) w a n zs ∧ (a = none → n = 0 ∧ cap = 0) ∧ n ≤ cap ∧ cap ≤ maxLen ∧ Byt zs
theorem Arg.window {T : Nat → Prop} {w : World} {b off n : Nat} {zs : List Int} (h : Arg T w (some ⟨b, off, none⟩) n zs) (g k : Nat) (hk : g + k ≤ n) : Arg T w (some ⟨b, off + g, none⟩) k ((zs.drop g).take k) :=
  ⟨by have := h.1; simp; omega, fun hp => by
    obtain ⟨b', off', e, hb, hT, hc⟩ := h.2 (by omega)
    cases e
    refine ⟨b, off + g, rfl, hb, hT, fun j hj => ?_⟩
    have hl := h.1
    have h2 := hc (g + j) (by omega)
    rw [Nat.add_assoc, h2]
    have hlt : g + j < zs.length := by omega
    simp [List.getD, List.getElem?_take_of_lt hj, List.getElem?_drop, hlt]⟩
theorem pts_len (zs : List Int) : (pts zs).length ≤ zs.length := by
  have := told_len zs 0
  rw [← told_pts 0 zs, List.length_map]
  omega
theorem ofL_split (zs : List Int) : ofL zs = enc (pts zs) ++ (if wts zs = [] then [] else bytesL 65533) := by
  unfold ofL ofP
  rw [enc_append]
  by_cases h : wts zs = [] <;> simp [h, enc]

end Go.Proofs.Ytfkfooclapogjaa
