/-
  A call by both: what is carried through act.
-/
import Derived.Test.YtneeagabmdpjgaaPe
import Derived.Test.YtneeagabmdpjgaaPf
import Derived.Test.YtneeagabmdpjgaaOj
import Derived.Deep.RegionHeld3
namespace Go.Proofs.Ytneeagabmdpjgaa
open Go.RowKit
set_option linter.unusedVariables false
set_option linter.unusedSimpArgs false

/-- A call, as a value. -/
def zagg (z : OV) : Value := .agg #[.int .i64 z.what, .int .i64 z.n, .slice z.a z.ls.length z.c]
/-- The queue while act runs: X: blocks that are none of its own. -/
structure St (w u0 : World) (K X : Nat → Prop) (p : Nat) (m : Int) (fs : List Int) (part : Int) (bs : List Int) (W : World) : Prop where
  os : OS w X p m fs part bs W
  sub : ∀ k, K k → X k
  lo : ∀ k, X k → w.heap.size ≤ k
  mod : Mod (fun k => ¬ K k ∧ w.heap.size ≤ k) u0 W
section
variable {w u0 W W' : World} {K X Y S : Nat → Prop} {p p' : Nat} {m part part' : Int} {fs bs fs' bs' : List Int}
theorem St.start (h : OS w K p m fs part bs u0) (hK : ∀ k, K k → w.heap.size ≤ k) : St w u0 K K p m fs part bs u0 := ⟨h, fun _ h => h, hK, Mod.refl _ _⟩
theorem More.lo {w u v : World} {K : Nat → Prop} (h : ∀ q, K q → w.heap.size ≤ q) (hu : w.heap.size ≤ u.heap.size) : ∀ q, More K u v q → w.heap.size ≤ q := fun q hq => by
  rcases hq with hq | hq
  · exact h q hq
  · omega
theorem St.grow (h : St w u0 K X p m fs part bs W) (hb : Below W.heap.size W W') : St w u0 K (More X W W') p m fs part bs W' :=
  ⟨h.os.grow hb, fun k hk => .inl (h.sub k hk), More.lo h.lo h.os.below.size, h.mod.trans (Mod.of_below hb (fun _ => False)) (fun _ _ e => e.elim)⟩
theorem St.write (h : St w u0 K X p m fs part bs W) (hm : Mod S W W') (hS : ∀ k, S k → X k ∧ u0.heap.size ≤ k) : St w u0 K (More X W W') p m fs part bs W' :=
  ⟨h.os.turn2 hm (fun k e => (hS k e).1) (fun k e => h.lo k (hS k e).1), fun k hk => .inl (h.sub k hk), More.lo h.lo h.os.below.size, h.mod.trans hm (fun k hk e => by have := (hS k e).2; omega)⟩
theorem St.step (h : St w u0 K X p m fs part bs W) (ho : OS w X p m fs' part' bs' W') (hm : Mod (fun k => ¬ X k ∧ w.heap.size ≤ k) W W') : St w u0 K X p m fs' part' bs' W' :=
  ⟨ho, h.sub, h.lo, h.mod.trans hm (fun k hk e => ⟨fun e' => e.1 (h.sub k e'), e.2⟩)⟩
theorem St.step2 (h : St w u0 K X p m fs part bs W) (ho : OS w (More X W W') p m fs' part' bs' W') (hm : Mod (fun k => ¬ X k ∧ w.heap.size ≤ k) W W') : St w u0 K (More X W W') p m fs' part' bs' W' :=
  ⟨ho, fun k hk => .inl (h.sub k hk), More.lo h.lo h.os.below.size, h.mod.trans hm (fun k hk e => ⟨fun e' => e.1 (h.sub k e'), e.2⟩)⟩
theorem St.drewN (h : St w u0 K X p m fs part bs W) (n : Nat) : St w u0 K X p m fs part bs (W.drewN n) := ⟨h.os.drewN n, h.sub, h.lo, h.mod.drewN n⟩
end
/-- Bytes. -/
def Byts (ls : List (List Int)) : Prop := ∀ l ∈ ls, ∀ x ∈ l, 0 ≤ x ∧ x < 256
theorem Byts.drop {ls : List (List Int)} (h : Byts ls) (j : Nat) : Byts (ls.drop j) := fun l hl => h l (List.mem_of_mem_drop hl)
theorem Byts.append {a b : List (List Int)} (h : Byts a) (g : Byts b) : Byts (a ++ b) := fun l hl => (List.mem_append.1 hl).elim (h l) (g l)
/-- What act leaves. -/
def Acted (w : World) (K Ka : Nat → Prop) (m : Int) (ls : List (List Int)) (u0 : World) (e : Ending) (w' : World) : Prop :=
  ∃ (p' : Nat) (part' : Int) (fs' bs' : List Int) (ls' : List (List Int)) (g' n' : Nat) (ra' : Option Addr) (rc' : Nat) (K' : Nat → Prop), e = .returned (.tuple #[.pointer (some ⟨p', 0, none⟩), dagg ra' n' rc' g' m, .bool true]) ∧ ls'.length = n' ∧
    St w u0 K K' p' m fs' part' bs' w' ∧ DQ (fun q => K' q ∧ (Ka q ∨ u0.heap.size ≤ q)) w' ra' rc' ls' ∧ Tie ls' g' fs' part' bs' ∧ n' ≤ ls.length + 8 ∧ (Byts ls → Byts ls')
theorem DQ.mod {T S : Nat → Prop} {W W' : World} {a : Option Addr} {c : Nat} {ls : List (List Int)} (h : DQ T W a c ls) (hm : Mod S W W') (ht : ∀ k, T k → ¬ S k) : DQ T W' a c ls := ⟨h.at_.mod hm ht, h.cl, h.cm, h.nn⟩
theorem DQ.mono {T U : Nat → Prop} {W : World} {a : Option Addr} {c : Nat} {ls : List (List Int)} (h : DQ T W a c ls) (hu : ∀ k, k < W.heap.size → T k → U k) : DQ U W a c ls := ⟨h.at_.mono hu, h.cl, h.cm, h.nn⟩
theorem DQ.below {T : Nat → Prop} {W W' : World} {a : Option Addr} {c : Nat} {ls : List (List Int)} (h : DQ T W a c ls) (hb : Below W.heap.size W W') : DQ T W' a c ls := h.mod (Mod.of_below hb (fun _ => False)) (fun _ _ h => h)
theorem acted_fin {w u0 W3 W5 : World} {K Ka X : Nat → Prop} {p' : Nat} {m part' : Int} {fs' bs' : List Int} {ls ls' : List (List Int)} {ra' : Option Addr} {rc' g' n' B : Nat} (h : St w u0 K X p' m fs' part' bs' W3) (hr : DQ (fun q => (X q ∧ (Ka q ∨ u0.heap.size ≤ q)) ∧ q ≠ B) W3 ra' rc' ls') (ht : Tie ls' g' fs' part' bs') (hn : ls'.length = n') (hB : X B) (hw : u0.heap.size ≤ B) (h5 : Mod (fun q => q = B) W3 W5) (hl : n' ≤ ls.length + 8) (hx : Byts ls → Byts ls') :
    Acted w K Ka m ls u0 (.returned (.tuple #[.pointer (some ⟨p', 0, none⟩), .agg #[.slice ra' n' rc', .int .i64 g', .int .i64 m], .bool true])) W5 :=
  ⟨p', part', fs', bs', ls', g', n', ra', rc', _, rfl, hn, h.write h5 (fun k e => by rw [e]; exact ⟨hB, hw⟩), (hr.mod h5 (fun k hk e => hk.2 e)).mono (fun k _ hk => ⟨.inl hk.1.1, hk.1.2⟩), ht, hl, hx⟩
/-- act's boxes. -/
structure Fx (u0 : World) (v : Value) (g m : Int) (z : OV) (W : World) : Prop where
  b0 : W.heap[u0.heap.size]? = some (.cells #[v, .int .i64 g, .int .i64 m] 43 (0, 0))
  b1 : W.heap[u0.heap.size + 1]? = some (.cells #[.int .i64 z.what, .int .i64 z.n, .slice z.a z.ls.length z.c] 32 (0, 0))
  b2 : W.heap[u0.heap.size + 2]? = some (.cells #[.slice none 0 0, .int .i64 0, .int .i64 0] 43 (0, 0))
section
variable {u0 W W' : World} {v : Value} {g m : Int} {z : OV}
theorem Fx.lt (h : Fx u0 v g m z W) : u0.heap.size + 2 < W.heap.size := blk_lt h.b2
theorem Fx.bel (h : Fx u0 v g m z W) (hb : Below W.heap.size W W') : Fx u0 v g m z W' := by
  have := h.lt
  exact ⟨(hb.block _ (by omega)).trans h.b0, (hb.block _ (by omega)).trans h.b1, (hb.block _ (by omega)).trans h.b2⟩
theorem Fx.mod {S : Nat → Prop} (h : Fx u0 v g m z W) (hm : Mod S W W') (hs : ∀ k, u0.heap.size ≤ k → k ≤ u0.heap.size + 2 → ¬ S k) : Fx u0 v g m z W' := by
  have := h.lt
  exact ⟨(hm.block _ (by omega) (hs _ (by omega) (by omega))).trans h.b0, (hm.block _ (by omega) (hs _ (by omega) (by omega))).trans h.b1, (hm.block _ (by omega) (hs _ (by omega) (by omega))).trans h.b2⟩
theorem Fx.start (u0 : World) (v : Value) (g m : Int) (z : OV) : Fx u0 v g m z (((u0.alloc (.cells #[v, .int .i64 g, .int .i64 m] 43)).alloc (.cells #[.int .i64 z.what, .int .i64 z.n, .slice z.a z.ls.length z.c] 32)).alloc (.cells #[.slice none 0 0, .int .i64 0, .int .i64 0] 43)) ∧
    Below u0.heap.size u0 (((u0.alloc (.cells #[v, .int .i64 g, .int .i64 m] 43)).alloc (.cells #[.int .i64 z.what, .int .i64 z.n, .slice z.a z.ls.length z.c] 32)).alloc (.cells #[.slice none 0 0, .int .i64 0, .int .i64 0] 43)) := by
  have s1 : ∀ (W : World) (o : Obj), (W.alloc o).heap.size = W.heap.size + 1 := fun W o => by simp
  refine ⟨⟨alloc_blk (alloc_blk (alloc_blk_new _ _) _) _, ?_, ?_⟩, (((Below.refl _ u0).alloc (Nat.le_refl _) _).alloc (by simp) _).alloc (by simp; omega) _⟩
  · have := alloc_blk_new (u0.alloc (.cells #[v, .int .i64 g, .int .i64 m] 43)) (.cells #[.int .i64 z.what, .int .i64 z.n, .slice z.a z.ls.length z.c] 32)
    rw [s1] at this
    exact alloc_blk this _
  · have := alloc_blk_new ((u0.alloc (.cells #[v, .int .i64 g, .int .i64 m] 43)).alloc (.cells #[.int .i64 z.what, .int .i64 z.n, .slice z.a z.ls.length z.c] 32)) (.cells #[.slice none 0 0, .int .i64 0, .int .i64 0] 43)
    rw [s1, s1] at this
    exact this
theorem Fx.cells (h : Fx u0 v g m z W) : (W.cell? ⟨u0.heap.size, 0, none⟩ = some v ∧ W.cell? ⟨u0.heap.size, 1, none⟩ = some (.int .i64 g) ∧ W.cell? ⟨u0.heap.size, 2, none⟩ = some (.int .i64 m)) ∧
    (W.cell? ⟨u0.heap.size + 1, 0, none⟩ = some (.int .i64 z.what) ∧ W.cell? ⟨u0.heap.size + 1, 1, none⟩ = some (.int .i64 z.n) ∧ W.cell? ⟨u0.heap.size + 1, 2, none⟩ = some (.slice z.a z.ls.length z.c)) ∧
    ((W.cell? ⟨u0.heap.size + 1 + 1, 0, none⟩ = some (.slice none 0 0) ∧ W.cell? ⟨u0.heap.size + 1 + 1, 1, none⟩ = some (.int .i64 0) ∧ W.cell? ⟨u0.heap.size + 1 + 1, 2, none⟩ = some (.int .i64 0)) ∧ W.frozen? ⟨u0.heap.size + 1 + 1, 0, none⟩ = false ∧ W.frozen? ⟨u0.heap.size + 1 + 1, 1, none⟩ = false ∧ W.frozen? ⟨u0.heap.size + 1 + 1, 2, none⟩ = false) :=
  ⟨⟨cell_blk h.b0 0 _ rfl, cell_blk h.b0 1 _ rfl, cell_blk h.b0 2 _ rfl⟩, ⟨cell_blk h.b1 0 _ rfl, cell_blk h.b1 1 _ rfl, cell_blk h.b1 2 _ rfl⟩, ⟨cell_blk h.b2 0 _ rfl, cell_blk h.b2 1 _ rfl, cell_blk h.b2 2 _ rfl⟩, frozen_blk h.b2 0, frozen_blk h.b2 1, frozen_blk h.b2 2⟩
end
/-- Three cells of a block set. -/
theorem set3 {W : World} {B : Nat} {x y u a b c : Value} {t : TypeId} {fz : Nat × Nat} (h : W.heap[B]? = some (.cells #[x, y, u] t fz)) :
    (((W.setCell ⟨B, 0, none⟩ a).setCell ⟨B, 1, none⟩ b).setCell ⟨B, 2, none⟩ c).heap[B]? = some (.cells #[a, b, c] t fz) ∧ Mod (fun k => k = B) W (((W.setCell ⟨B, 0, none⟩ a).setCell ⟨B, 1, none⟩ b).setCell ⟨B, 2, none⟩ c) :=
  ⟨setCell_blk (setCell_blk (setCell_blk h 0 a) 1 b) 2 c, (((Mod.refl (fun k => k = B) W).setCell ⟨B, 0, none⟩ (.inl rfl) _).setCell ⟨B, 1, none⟩ (.inl rfl) _).setCell ⟨B, 2, none⟩ (.inl rfl) _⟩
theorem cell3 {W : World} {b : Nat} {v u x : Value} {t : TypeId} (h : W.heap[b]? = some (.cells #[v, u, x] t (0, 0))) : W.cell? ⟨b, 0, none⟩ = some v ∧ W.cell? ⟨b, 1, none⟩ = some u ∧ W.cell? ⟨b, 2, none⟩ = some x := ⟨cell_blk h 0 _ rfl, cell_blk h 1 _ rfl, cell_blk h 2 _ rfl⟩

theorem refTake_bad (a : Option Addr) (n c g : Nat) (m : Int) (w : World) (most : Int) (h : most < 0) :
    Calls Try.prog 42 #[dagg a n c g m, .int .i64 most] w fun e w' => e = .returned (.tuple #[dagg a n c g m, .string (strOfNums []), .int .i64 0, .int .i64 2]) ∧ Below w.heap.size w w' := by
  have t0 : decide (most < 0) = true := by simpa using h
  unfold dagg
  rw [show strOfNums [] = ⟨#[]⟩ from rfl]
  go_enter Try.func42, Try.ntmps42
  go_wp2
  refine bodyPost_ret (v := .tuple #[.agg #[.slice a n c, .int .i64 g, .int .i64 m], .string ⟨#[]⟩, .int .i64 0, .int .i64 2]) (by simp [results, Try.results42, go_sem, *]) rfl ⟨rfl, ?_⟩
  have hb := ((Below.refl _ w).alloc (Nat.le_refl _) (.cells #[.slice a n c, .int .i64 g, .int .i64 m] 43)).alloc (by simp) (.cells #[.slice none 0 0, .int .i64 0, .int .i64 0] 43)
  first
    | exact hb
    | exact ((hb.setCell (p := ⟨w.heap.size + 1, 0, none⟩) (by show w.heap.size ≤ w.heap.size + 1; omega) _).setCell (p := ⟨w.heap.size + 1, 1, none⟩) (by show w.heap.size ≤ w.heap.size + 1; omega) _).setCell (p := ⟨w.heap.size + 1, 2, none⟩) (by show w.heap.size ≤ w.heap.size + 1; omega) _
    | exact (Below.refl _ w).alloc (Nat.le_refl _) _ |>.alloc (by simp) _

/-- Take by both. -/
theorem take_un {ls : List (List Int)} {g n : Nat} {fs bs : List Int} {part m : Int} (hnl : ls.length = n) (ht : Tie ls g fs part bs) (hi : OInv fs part bs) (hn : n ≤ 100000) (most : Int) (hM : most ≤ 9223372036854775807) :
    ∃ (k j : Nat) (t : Int) (er : Int), k ≤ bs.length ∧ j ≤ n ∧ (ls.drop j).length = n - j ∧
      (∀ {T : Nat → Prop} (a : Option Addr) (c : Nat) (W : World), DQ T W a c ls → Calls Try.prog 42 #[dagg a n c g m, .int .i64 most] W fun e w' => ∃ a' c' g', e = .returned (.tuple #[dagg a' (n - j) c' g' m, .string (strOfNums (bs.take k)), .int .i64 j, .int .i64 er]) ∧ DQ T w' a' c' (ls.drop j) ∧ Below W.heap.size W w' ∧ Tie (ls.drop j) g' (fs.drop j) t (bs.drop k)) ∧
      (∀ {w wr : World} {X : Nat → Prop} {p : Nat}, OS w X p m fs part bs wr → Calls Try.prog 14 #[.pointer (some ⟨p, 0, none⟩), .int .i64 most] wr fun e w' => ∃ a c, e = .returned (.tuple #[.slice a k c, .int .i64 j, .int .i64 er]) ∧
        w'.ownsRow wr.heap.size 5 1 (.slice a k c) k ((bs.take k).map (.int .u8)) ∧ OS w (More X wr w') p m (fs.drop j) t (bs.drop k) w' ∧ Mod (fun k => ¬ X k ∧ w.heap.size ≤ k) wr w') := by
  by_cases h0 : 0 ≤ most
  · obtain ⟨M, rfl⟩ : ∃ M : Nat, most = M := ⟨most.toNat, by omega⟩
    obtain ⟨q, hg⟩ : ∃ q, goL fs (part + (kOf M bs.length : Nat)) = q := ⟨_, rfl⟩
    obtain ⟨j, t⟩ := q
    have hk := kOf_le M bs.length
    obtain ⟨_, hj⟩ := hi.take _ hk j t hg
    rw [ht.fs, lens_len, hnl] at hj
    refine ⟨_, j, t, 0, hk, hj, by rw [List.length_drop, hnl], fun a c W hd => refTake_any a n c g m ls W hd hnl ht hi hn M (by omega) _ rfl j t hg, fun {w wr X p} ho => ?_⟩
    exact (ho.take M h0 _ rfl _ _ rfl rfl j t hg _ rfl)
  · refine ⟨0, 0, part, 2, by omega, by omega, by rw [List.drop_zero, hnl, Nat.sub_zero], fun {T} a c W hd => ?_, fun {w wr X p} ho => ?_⟩
    · refine (refTake_bad a n c g m W most (by omega)).mono ?_
      rintro e w' ⟨rfl, hb⟩
      exact ⟨a, c, g, rfl, hd.below hb, hb, ht⟩
    · refine (ho.take_bad most (by omega)).mono ?_
      rintro e w' ⟨rfl, rfl⟩
      exact ⟨none, 0, rfl, World.ownsRow_nil _ _ _ _, ho.mono (fun k hk => by rcases hk with hk | hk; exact hk; omega), Mod.refl _ _⟩
/-- Push by both. -/
theorem push_un {ls ns : List (List Int)} {g n : Nat} {fs bs : List Int} {part m : Int} (hnl : ls.length = n) (ht : Tie ls g fs part bs) (hi : OInv fs part bs) (hn : n ≤ 100000) (hm0 : (bs.length : Int) ≤ m) (hm1 : m ≤ 1048576) (hp8 : ns.length ≤ 8) (hns : ∀ l ∈ ns, l.length ≤ 60) :
    ∃ (ls' : List (List Int)) (n' : Nat) (fs' bs' : List Int) (er : Int), ls'.length = n' ∧ (ls' = ls ++ ns ∨ ls' = ls) ∧ Tie ls' g fs' part bs' ∧
      (∀ {T U : Nat → Prop} (a : Option Addr) (c : Nat) (W : World) (pa : Option Addr) (pc : Nat), DQ T W a c ls → Parts U W pa ns → Calls Try.prog 41 #[dagg a n c g m, .slice pa ns.length pc] W fun e w' => ∃ a' c', e = .returned (.tuple #[dagg a' n' c' g m, .int .i64 er]) ∧ DQ (fun k => T k ∨ W.heap.size ≤ k) w' a' c' ls' ∧ Below W.heap.size W w') ∧
      (∀ {w wr : World} {X : Nat → Prop} {p : Nat} (pa : Option Addr) (pc : Nat), OS w X p m fs part bs wr → Parts (fun k => k < w.heap.size ∨ X k) wr pa ns → Calls Try.prog 11 #[.pointer (some ⟨p, 0, none⟩), .slice pa ns.length pc] wr fun e w' => e = .returned (.int .i64 er) ∧ OS w X p m fs' part bs' w' ∧ Mod (fun k => ¬ X k ∧ w.heap.size ≤ k) wr w') := by
  have hfl : ns.flatten.length ≤ 480 := by
    have : ∀ (q : List (List Int)), (∀ l ∈ q, l.length ≤ 60) → q.flatten.length ≤ 60 * q.length := fun q => by
      induction q with
      | nil => simp
      | cons l q ih =>
        intro h
        have h1 := h l (by simp)
        have h2 := ih (fun x hx => h x (by simp [hx]))
        simp only [List.flatten_cons, List.length_append, List.length_cons]; omega
    have := this ns hns
    omega
  by_cases he : ∃ l ∈ ns, l = []
  · refine ⟨ls, n, fs, bs, 2, hnl, .inr rfl, ht, fun {T U} a c W pa pc hd hP => ?_, fun {w wr X p} pa pc ho hP => ?_⟩
    · refine (refPush_any a n c g m ls W hd hnl ht hi hn hm0 hm1 pa ns.length pc ns rfl hP (by omega) (fun l hl => by have := hns l hl; omega) 2 (by rw [if_pos he])).mono ?_
      rintro e w' ⟨a', c', ls', rfl, hl, hq, hb⟩
      rw [if_neg (by decide)] at hl
      subst hl
      exact ⟨a', c', by rw [hnl], hq, hb⟩
    · refine (ho.push_empty pa pc ns.length ns rfl (by omega) hP he).mono ?_
      rintro e w' ⟨rfl, rfl⟩
      exact ⟨rfl, ho, Mod.refl _ _⟩
  by_cases hf : m < (bs.length : Int) + ns.flatten.length
  · refine ⟨ls, n, fs, bs, 120, hnl, .inr rfl, ht, fun {T U} a c W pa pc hd hP => ?_, fun {w wr X p} pa pc ho hP => ?_⟩
    · refine (refPush_any a n c g m ls W hd hnl ht hi hn hm0 hm1 pa ns.length pc ns rfl hP (by omega) (fun l hl => by have := hns l hl; omega) 120 (by rw [if_neg he, if_pos hf])).mono ?_
      rintro e w' ⟨a', c', ls', rfl, hl, hq, hb⟩
      rw [if_neg (by decide)] at hl
      subst hl
      exact ⟨a', c', by rw [hnl], hq, hb⟩
    · exact ho.push_no pa pc ns.length ns rfl (by omega) (by omega) hP he hf
  · have hflg : g ≤ ls.flatten.length := ht.g_le hi
    refine ⟨ls ++ ns, n + ns.length, fs ++ lens ns, bs ++ ns.flatten, 0, by rw [List.length_append, hnl], .inl rfl, ⟨by rw [ht.fs]; simp [lens], ht.part, ?_⟩, fun {T U} a c W pa pc hd hP => ?_, fun {w wr X p} pa pc ho hP => ?_⟩
    · rw [ht.bs, List.flatten_append, List.drop_append_of_le_length hflg]
    · refine (refPush_any a n c g m ls W hd hnl ht hi hn hm0 hm1 pa ns.length pc ns rfl hP (by omega) (fun l hl => by have := hns l hl; omega) 0 (by rw [if_neg he, if_neg hf])).mono ?_
      rintro e w' ⟨a', c', ls', rfl, hl, hq, hb⟩
      rw [if_pos rfl] at hl
      subst hl
      exact ⟨a', c', by rw [List.length_append, hnl], hq, hb⟩
    · exact ho.push_ok pa pc ns.length ns rfl (by omega) (by omega) hP he (by omega) _ _ rfl rfl
end Go.Proofs.Ytneeagabmdpjgaa
