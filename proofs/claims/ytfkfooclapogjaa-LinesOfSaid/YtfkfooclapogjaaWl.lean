/-
  works.
-/
import Derived.Test.YtfkfooclapogjaaWk
import Derived.Lib.SlBytesConst
namespace Go.Proofs.Ytfkfooclapogjaa
open Go.RowKit
set_option linter.unusedVariables false
set_option linter.unusedSimpArgs false

/-- Lines that may be read, and stay so while only S turns. -/
def LRowS (S : Nat → Prop) (w : World) (ao : Option Addr) (n : Nat) (l : List LV) : Prop := ∀ W, Mod S w W → LRow W ao n l
theorem LRowS.step {S : Nat → Prop} {w w' : World} {ao : Option Addr} {n : Nat} {l : List LV} (h : LRowS S w ao n l) (hm : Mod S w w') : LRowS S w' ao n l := fun W hW => h W (hm.trans hW (fun _ _ e => e))
theorem LRowS.below {S : Nat → Prop} {w w' : World} {ao : Option Addr} {n : Nat} {l : List LV} (h : LRowS S w ao n l) (hm : Below w.heap.size w w') : LRowS S w' ao n l := h.step (Mod.of_below hm S)
theorem LRowS.now {S : Nat → Prop} {w : World} {ao : Option Addr} {n : Nat} {l : List LV} (h : LRowS S w ao n l) : LRow w ao n l := h w (Mod.refl S w)
theorem row_lrows {w : World} {base : Nat} {ao : Option Addr} {n cap : Nat} {l : List LV} (h : w.ownsRow base 35 2 (.slice ao n cap) n (lvs l)) (S : Nat → Prop) (hS : ∀ k, S k → k < base ∨ w.heap.size ≤ k) : LRowS S w ao n l := fun W hW =>
  (row_lrow h).mod hW (fun b e hk => by
    subst e
    have := h.lt b (by simp [Value.ownBlock])
    have := hS b hk
    omega)
theorem Of_lay (W : World) (most : Nat) (h0 : 1 ≤ most) (h1 : most ≤ 65536) (bs : List Int) (n : Nat) (fz : Nat × Nat) (hn : bs.length = n) (hb : Byt bs) (hl : n ≤ 100000) (C : Array Value) (hC : C = (bs.map (Value.int .u8)).toArray) (o : List LV) (ho : (linesOf bs).map (toldL most) = o) (k : Nat) (hk : o.length = k) :
    Calls Try.prog 10 #[.int .i64 most, .slice (some ⟨W.heap.size, 0, none⟩) n n] (W.alloc (.cells C 5 fz)) fun e w' => ∃ ra rc, e = .returned (.tuple #[.slice ra k rc, .int .i64 0]) ∧ (∀ S, (∀ k, S k → k < W.heap.size ∨ w'.heap.size ≤ k) → LRowS S w' ra k o) ∧ Below W.heap.size W w' := by
  subst hn hC ho
  have hkl : (linesOf bs).length = k := by rw [← hk, List.length_map]
  subst hkl
  refine (Of_ls (U := fun _ => True) most h0 h1 _ _ _ bs _ (arg_own (alloc_blk_new W _) trivial) (fun e => by cases e) hb hl).mono ?_
  rintro e w' ⟨ra, rc, rfl, hrow, hbw⟩
  rw [tolds_lv] at hrow
  exact ⟨ra, rc, rfl, fun S hS => row_lrows (hrow.mono (base' := W.heap.size) (by simp)) S hS, ((Below.refl _ W).alloc (Nat.le_refl _) _).trans (hbw.mono (by simp))⟩
theorem LS.write_lay {w wr : World} {K : Nat → Prop} {p D most : Nat} {zs : List Int} {s : Ss} (h : LS w K p D most zs s wr) (bs : List Int) (n : Nat) (fz : Nat × Nat) (hn : bs.length = n) (hb : Byt bs) (hl : n ≤ 100000) (C : Array Value) (hC : C = (bs.map (Value.int .u8)).toArray) (o : List LV) (ho : (runP s (pts (zs ++ bs))).1.map (toldL most) = o) (k : Nat) (hk : o.length = k) (zs' : List Int) (hz : wts (zs ++ bs) = zs') (s' : Ss) (hs : (runP s (pts (zs ++ bs))).2 = s') :
    Calls Try.prog 8 #[.pointer (some ⟨p, 0, none⟩), .slice (some ⟨wr.heap.size, 0, none⟩) n n] (wr.alloc (.cells C 5 fz)) fun e w' => ∃ ra rc, e = .returned (.tuple #[.slice ra k rc, .int .i64 0]) ∧ LRowS (fun k => k = p ∨ k = D) w' ra k o ∧ LS w K p D most zs' s' w' ∧ Mod (fun k => k = p ∨ k = D) wr w' := by
  subst hn hC ho hz hs
  have hkl : (runP s (pts (zs ++ bs))).1.length = k := by rw [← hk, List.length_map]
  subst hkl
  have hlt := h.lt
  have hlt2 := h.lt2
  have hb1 := (Below.refl _ wr).alloc (Nat.le_refl _) (.cells (bs.map (Value.int .u8)).toArray 5 fz)
  refine (Write_ls (h.grow hb1) _ _ _ (arg_own (alloc_blk_new wr _) trivial : Arg (fun _ => True) _ _ _ _) (fun e => by cases e) hb hl).mono ?_
  rintro e w' ⟨ra, rc, rfl, hrow, h1, h2⟩
  rw [tolds_lv] at hrow
  exact ⟨ra, rc, rfl, row_lrows (hrow.mono (base' := wr.heap.size) (by simp)) _ (fun k hk => by rcases hk with rfl | rfl <;> omega), h1.mono (fun k e => .inl e), (Mod.of_below hb1 _).trans h2 (fun _ _ e => e)⟩
attribute [local go_sem high] eql35

set_option maxHeartbeats 6400000 in
set_option maxRecDepth 100000 in
theorem works_true (w : World) : Calls Try.prog 6 #[] w fun e w' => e = .returned (.bool true) ∧ Below w.heap.size w w' := by
  have HNum := Lib.hid num_any
  have kc := fun (W : World) (C : Array Value) (n c : Nat) => Lib.run_convert_bytes_const (P := Try.prog) W 22 5 C n c Try.underlying22 Try.underlying5
  go_enter Try.func6, Try.ntmps6
  go_wp2_with fail
  refine (Of_lay w 9 (by decide) (by decide) [239, 187, 191, 97, 10, 98, 13, 10, 13, 99] 10 _ rfl (byt_dec rfl) (by decide) _ rfl [(⟨#[97]⟩, false), (⟨#[98]⟩, false), (⟨#[]⟩, false)] (by decide +kernel) 3 rfl).mono ?_
  rintro e w1 ⟨a1, c1, rfl, hr1, hb1⟩
  have HR1 := Lib.hid hr1
  have HB1 := Lib.hid hb1
  clear hr1 hb1
  go_wp2_with fail
  refine (Of_lay w1 2 (by decide) (by decide) [97, 98, 99, 10, 100, 10] 6 _ rfl (byt_dec rfl) (by decide) _ rfl [(⟨#[]⟩, true), (⟨#[100]⟩, false)] (by decide +kernel) 2 rfl).mono ?_
  rintro e w2 ⟨a2, c2, rfl, hr2, hb2⟩
  have HR2 := Lib.hid hr2
  have HB2 := Lib.hid hb2
  clear hr2 hb2
  go_wp2_with fail
  refine (New_ls 9 w w2 (by decide) (by decide) (HB1.out.trans (HB2.out.mono HB1.out.size))).mono ?_
  rintro e w3 ⟨p, D, rfl, hq, hb3, hp, hD⟩
  have hs1 := HB1.out.size
  have hs2 := HB2.out.size
  have R1 : Hid (LRowS (fun k => k = p ∨ k = D) w3 a1 3 [(⟨#[97]⟩, false), (⟨#[98]⟩, false), (⟨#[]⟩, false)]) := Lib.hid ((((HR1.out _ (fun k hk => by rcases hk with rfl | rfl <;> omega)).below HB2.out)).below hb3)
  have R2 : Hid (LRowS (fun k => k = p ∨ k = D) w3 a2 2 [(⟨#[]⟩, true), (⟨#[100]⟩, false)]) := Lib.hid (((HR2.out _ (fun k hk => by rcases hk with rfl | rfl <;> omega))).below hb3)
  have Q3 := Lib.hid (hq.mono (L := fun _ => False) (fun k e => e.elim))
  have HS := Lib.hid (And.intro (show w.heap.size ≤ p by omega) (show w.heap.size ≤ D by omega))
  have M3 : Hid (Mod (fun k => k = p ∨ k = D) w w3) := Lib.hid ((Mod.of_below HB1.out _).trans ((Mod.of_below HB2.out _).trans (Mod.of_below hb3 (fun k => k = p ∨ k = D)) (fun _ _ e => e)) (fun _ _ e => e))
  clear hq hb3 hp hD HR1 HR2 HB1 HB2 hs1 hs2
  go_wp2_with fail
  refine (Q3.out.write_lay [97, 13] 2 _ rfl (byt_dec rfl) (by decide) _ rfl [(⟨#[97]⟩, false)] (by decide +kernel) 1 rfl [] (by decide +kernel) ([], true, true) (by decide +kernel)).mono ?_
  rintro e w4 ⟨a4, c4, rfl, hr, hq, hm⟩
  have Q4 := Lib.hid hq
  have R3 := Lib.hid hr
  have M4 := Lib.hid (M3.out.trans hm (fun _ _ e => e))
  have R1n := Lib.hid (R1.out.step hm)
  have R2n := Lib.hid (R2.out.step hm)
  clear hr hq hm Q3 M3 R1 R2
  go_wp2_with fail
  refine (Q4.out.write_lay [10, 98] 2 _ rfl (byt_dec rfl) (by decide) _ rfl [] (by decide +kernel) 0 rfl [] (by decide +kernel) ([98], true, false) (by decide +kernel)).mono ?_
  rintro e w5 ⟨a5, c5, rfl, hr, hq, hm⟩
  have Q5 := Lib.hid hq
  have R4 := Lib.hid hr
  have M5 := Lib.hid (M4.out.trans hm (fun _ _ e => e))
  have R1nn := Lib.hid (R1n.out.step hm)
  have R2nn := Lib.hid (R2n.out.step hm)
  have R3n := Lib.hid (R3.out.step hm)
  clear hr hq hm Q4 M4 R1n R2n R3
  go_wp2_with fail
  refine (Q5.out.write_lay [10] 1 _ rfl (byt_dec rfl) (by decide) _ rfl [(⟨#[98]⟩, false)] (by decide +kernel) 1 rfl [] (by decide +kernel) ([], true, false) (by decide +kernel)).mono ?_
  rintro e w6 ⟨a6, c6, rfl, hr, hq, hm⟩
  have Q6 := Lib.hid hq
  have R5 := Lib.hid hr
  have M6 := Lib.hid (M5.out.trans hm (fun _ _ e => e))
  have R1nnn := Lib.hid (R1nn.out.step hm)
  have R2nnn := Lib.hid (R2nn.out.step hm)
  have R3nn := Lib.hid (R3n.out.step hm)
  have R4n := Lib.hid (R4.out.step hm)
  clear hr hq hm Q5 M5 R1nn R2nn R3n R4
  obtain ⟨u1, hu⟩ : ∃ W, W = w6.alloc (.cells #[.string ⟨#[97]⟩, .string ⟨#[98]⟩, .string ⟨#[]⟩] 9) := ⟨_, rfl⟩
  have bu : Below w6.heap.size w6 u1 := by rw [hu]; exact (Below.refl _ _).alloc (Nat.le_refl _) _
  have ku : u1.heap[w6.heap.size]? = some (.cells #[.string ⟨#[97]⟩, .string ⟨#[98]⟩, .string ⟨#[]⟩] 9 (0, 0)) := by rw [hu]; exact alloc_blk_new _ _
  have HO1 := Lib.hid (of_texts w6.heap.size 3 3 [⟨#[97]⟩, ⟨#[98]⟩, ⟨#[]⟩] u1 rfl (fun j s hj => by
    match j, hj with
    | 0, hj => cases hj; exact cell_blk ku 0 _ rfl
    | 1, hj => cases hj; exact cell_blk ku 1 _ rfl
    | 2, hj => cases hj; exact cell_blk ku 2 _ rfl) (blk_lt ku) (by decide))
  have BU1 := Lib.hid bu
  have EU1 := Lib.hid hu
  clear bu ku hu
  go_wp2_with (go_at_call 9; refine (HNum.out _ _).mono ?_; rintro e w' ⟨rfl, rfl⟩)
  rw [← EU1.out]
  refine HO1.out.mono ?_
  rintro e v1 ⟨b1, d1, rfl, hr, hb⟩
  have hbb := BU1.out.trans (hb.mono BU1.out.size)
  have RO := row_lrow hr
  have HSm := Lib.hid (Same_any a1 b1 3 3 c1 d1 [(⟨#[97]⟩, false), (⟨#[98]⟩, false), (⟨#[]⟩, false)] [(⟨#[97]⟩, false), (⟨#[98]⟩, false), (⟨#[]⟩, false)] v1 (R1nnn.out.below hbb).now RO (by decide) true (by decide))
  have HBB := Lib.hid hbb
  clear hbb RO hr hb BU1 EU1 HO1
  go_wp2_with fail
  refine HSm.out.mono ?_
  rintro e w7 ⟨rfl, q1, hq1⟩
  have hm : Mod (fun k => k = p ∨ k = D) w6 w7 := by rw [hq1]; exact (Mod.of_below HBB.out _).trans ((Mod.refl (fun k => k = p ∨ k = D) v1).drewN q1) (fun _ _ e => e)
  have hbw : Below w6.heap.size w6 w7 := by rw [hq1]; exact HBB.out.trans ((Below.drewN' v1 q1).mono HBB.out.size)
  have Q7 := Lib.hid (Q6.out.grow hbw |>.mono (L := fun _ => False) (fun k e => e.elim))
  have M7 := Lib.hid (M6.out.trans hm (fun _ _ e => e))
  have R1nnnn := Lib.hid (R1nnn.out.step hm)
  have R2nnnn := Lib.hid (R2nnn.out.step hm)
  have R3nnn := Lib.hid (R3nn.out.step hm)
  have R4nn := Lib.hid (R4n.out.step hm)
  have R5n := Lib.hid (R5.out.step hm)
  clear hm hbw Q6 M6 HSm HBB hq1 R1nnn R2nnn R3nn R4n R5
  obtain ⟨v2, hu⟩ : ∃ W, W = w7.alloc (.cells #[.string ⟨#[]⟩, .bool true, .string ⟨#[100]⟩, .bool false] 35) := ⟨_, rfl⟩
  have hbb : Below w7.heap.size w7 v2 := by rw [hu]; exact (Below.refl _ _).alloc (Nat.le_refl _) _
  have ku : v2.heap[w7.heap.size]? = some (.cells #[.string ⟨#[]⟩, .bool true, .string ⟨#[100]⟩, .bool false] 35 (0, 0)) := by rw [hu]; exact alloc_blk_new _ _
  have RO : LRow v2 (some ⟨w7.heap.size, 0, none⟩) 2 [(⟨#[]⟩, true), (⟨#[100]⟩, false)] := ⟨rfl, fun _ => ⟨_, rfl, blk_lt ku, fun j x hj => by
    match j, hj with
    | 0, hj => cases hj; exact ⟨cell_blk ku 0 _ rfl, cell_blk ku 1 _ rfl⟩
    | 1, hj => cases hj; exact ⟨cell_blk ku 2 _ rfl, cell_blk ku 3 _ rfl⟩⟩⟩
  have EU2 := Lib.hid hu
  have HSm := Lib.hid (Same_any a2 (some ⟨w7.heap.size, 0, none⟩) 2 2 c2 2 [(⟨#[]⟩, true), (⟨#[100]⟩, false)] [(⟨#[]⟩, true), (⟨#[100]⟩, false)] v2 (R2nnnn.out.below hbb).now RO (by decide) true (by decide))
  have HBB := Lib.hid hbb
  clear hbb RO hu ku
  go_wp2_with (go_at_call 9; refine (HNum.out _ _).mono ?_; rintro e w' ⟨rfl, rfl⟩)
  try rw [← EU2.out]
  refine HSm.out.mono ?_
  rintro e w8 ⟨rfl, q2, hq2⟩
  have hm : Mod (fun k => k = p ∨ k = D) w7 w8 := by rw [hq2]; exact (Mod.of_below HBB.out _).trans ((Mod.refl (fun k => k = p ∨ k = D) v2).drewN q2) (fun _ _ e => e)
  have hbw : Below w7.heap.size w7 w8 := by rw [hq2]; exact HBB.out.trans ((Below.drewN' v2 q2).mono HBB.out.size)
  have Q8 := Lib.hid (Q7.out.grow hbw |>.mono (L := fun _ => False) (fun k e => e.elim))
  have M8 := Lib.hid (M7.out.trans hm (fun _ _ e => e))
  have R1nnnnn := Lib.hid (R1nnnn.out.step hm)
  have R2nnnnn := Lib.hid (R2nnnn.out.step hm)
  have R3nnnn := Lib.hid (R3nnn.out.step hm)
  have R4nnn := Lib.hid (R4nn.out.step hm)
  have R5nn := Lib.hid (R5n.out.step hm)
  clear hm hbw Q7 M7 HSm HBB hq2 R1nnnn R2nnnn R3nnn R4nn R5n
  obtain ⟨u3, hu⟩ : ∃ W, W = w8.alloc (.cells #[.string ⟨#[97]⟩] 9) := ⟨_, rfl⟩
  have bu : Below w8.heap.size w8 u3 := by rw [hu]; exact (Below.refl _ _).alloc (Nat.le_refl _) _
  have ku : u3.heap[w8.heap.size]? = some (.cells #[.string ⟨#[97]⟩] 9 (0, 0)) := by rw [hu]; exact alloc_blk_new _ _
  have HO3 := Lib.hid (of_texts w8.heap.size 1 1 [⟨#[97]⟩] u3 rfl (fun j s hj => by
    match j, hj with
    | 0, hj => cases hj; exact cell_blk ku 0 _ rfl) (blk_lt ku) (by decide))
  have BU3 := Lib.hid bu
  have EU3 := Lib.hid hu
  clear bu ku hu
  go_wp2_with (go_at_call 9; refine (HNum.out _ _).mono ?_; rintro e w' ⟨rfl, rfl⟩)
  rw [← EU3.out]
  refine HO3.out.mono ?_
  rintro e v3 ⟨b3, d3, rfl, hr, hb⟩
  have hbb := BU3.out.trans (hb.mono BU3.out.size)
  have RO := row_lrow hr
  have HSm := Lib.hid (Same_any a4 b3 1 1 c4 d3 [(⟨#[97]⟩, false)] [(⟨#[97]⟩, false)] v3 (R3nnnn.out.below hbb).now RO (by decide) true (by decide))
  have HBB := Lib.hid hbb
  clear hbb RO hr hb BU3 EU3 HO3
  go_wp2_with fail
  refine HSm.out.mono ?_
  rintro e w9 ⟨rfl, q3, hq3⟩
  have hm : Mod (fun k => k = p ∨ k = D) w8 w9 := by rw [hq3]; exact (Mod.of_below HBB.out _).trans ((Mod.refl (fun k => k = p ∨ k = D) v3).drewN q3) (fun _ _ e => e)
  have hbw : Below w8.heap.size w8 w9 := by rw [hq3]; exact HBB.out.trans ((Below.drewN' v3 q3).mono HBB.out.size)
  have Q9 := Lib.hid (Q8.out.grow hbw |>.mono (L := fun _ => False) (fun k e => e.elim))
  have M9 := Lib.hid (M8.out.trans hm (fun _ _ e => e))
  have R1nnnnnn := Lib.hid (R1nnnnn.out.step hm)
  have R2nnnnnn := Lib.hid (R2nnnnn.out.step hm)
  have R3nnnnn := Lib.hid (R3nnnn.out.step hm)
  have R4nnnn := Lib.hid (R4nnn.out.step hm)
  have R5nnn := Lib.hid (R5nn.out.step hm)
  clear hm hbw Q8 M8 HSm HBB hq3 R1nnnnn R2nnnnn R3nnnn R4nnn R5nn
  obtain ⟨u4, hu⟩ : ∃ W, W = w9.alloc (.cells #[.string ⟨#[98]⟩] 9) := ⟨_, rfl⟩
  have bu : Below w9.heap.size w9 u4 := by rw [hu]; exact (Below.refl _ _).alloc (Nat.le_refl _) _
  have ku : u4.heap[w9.heap.size]? = some (.cells #[.string ⟨#[98]⟩] 9 (0, 0)) := by rw [hu]; exact alloc_blk_new _ _
  have HO4 := Lib.hid (of_texts w9.heap.size 1 1 [⟨#[98]⟩] u4 rfl (fun j s hj => by
    match j, hj with
    | 0, hj => cases hj; exact cell_blk ku 0 _ rfl) (blk_lt ku) (by decide))
  have BU4 := Lib.hid bu
  have EU4 := Lib.hid hu
  clear bu ku hu
  go_wp2_with (go_at_call 9; refine (HNum.out _ _).mono ?_; rintro e w' ⟨rfl, rfl⟩)
  rw [← EU4.out]
  refine HO4.out.mono ?_
  rintro e v4 ⟨b4, d4, rfl, hr, hb⟩
  have hbb := BU4.out.trans (hb.mono BU4.out.size)
  have RO := row_lrow hr
  have HSm := Lib.hid (Same_any a6 b4 1 1 c6 d4 [(⟨#[98]⟩, false)] [(⟨#[98]⟩, false)] v4 (R5nnn.out.below hbb).now RO (by decide) true (by decide))
  have HBB := Lib.hid hbb
  clear hbb RO hr hb BU4 EU4 HO4
  go_wp2_with fail
  refine HSm.out.mono ?_
  rintro e w10 ⟨rfl, q4, hq4⟩
  have hm : Mod (fun k => k = p ∨ k = D) w9 w10 := by rw [hq4]; exact (Mod.of_below HBB.out _).trans ((Mod.refl (fun k => k = p ∨ k = D) v4).drewN q4) (fun _ _ e => e)
  have hbw : Below w9.heap.size w9 w10 := by rw [hq4]; exact HBB.out.trans ((Below.drewN' v4 q4).mono HBB.out.size)
  have Q10 := Lib.hid (Q9.out.grow hbw |>.mono (L := fun _ => False) (fun k e => e.elim))
  have M10 := Lib.hid (M9.out.trans hm (fun _ _ e => e))
  have R1nnnnnnn := Lib.hid (R1nnnnnn.out.step hm)
  have R2nnnnnnn := Lib.hid (R2nnnnnn.out.step hm)
  have R3nnnnnn := Lib.hid (R3nnnnn.out.step hm)
  have R4nnnnn := Lib.hid (R4nnnn.out.step hm)
  have R5nnnn := Lib.hid (R5nnn.out.step hm)
  clear hm hbw Q9 M9 HSm HBB hq4 R1nnnnnn R2nnnnnn R3nnnnn R4nnnn R5nnn
  go_wp2_with fail
  refine (Waits_ls Q10.out).mono ?_
  rintro e w11 ⟨rfl, hb⟩
  have M11 := Lib.hid (M10.out.trans (Mod.of_below hb (fun k => k = p ∨ k = D)) (fun _ _ e => e))
  rw [show toldV 9 [] = .agg #[.string ⟨#[]⟩, .bool false] from rfl]
  have de : lvEq ⟨#[]⟩ ⟨#[]⟩ false false = true := by decide +kernel
  clear hb Q10 M10
  go_wp2
  go_ret
  exact ⟨rfl, M11.out.below (fun k hk h => by have := HS.out; rcases h with h | h <;> omega)⟩
end Go.Proofs.Ytfkfooclapogjaa
