/-
  Rows without one; an append, a delete as steps of a region that draws.
-/
import Derived.Test.YtnmbhcekcdicnaaR
namespace Go.Proofs.Ytnmbhcekcdicnaa
open Go.RowKit Go.Maps Go.ChangeMaps
set_option linter.unusedVariables false
set_option linter.unusedSimpArgs false

theorem step_append_run {P : Program} {ops : Array Oper} {o : Oper} {a : Act} {w : World} {K : Act → World → Prop} {Q : Exit → Act → World → Prop} {E : Prop}
    (hg : o.guard = none) (d x : Operand) (dT sT : TypeId) (hop : o.op = Op.call { callee := Callee.builtin Builtin.append, args := #[d, x], argTypes := #[dT, sT] })
    (v u : Value) (hd : a.eval d = v) (hx : a.eval x = u) {v' : Value} {w' : World} (hr : (Builtin.append_ #[dT, sT] o.type #[v, u]).run P w = .ok v' w') (hK : K (a.put o.dst v') w') :
    if Region.wanted o (yielded ops a.tmps) = true then Oper.wp P o a w K Q else E := by
  have hw : Region.wanted o (yielded ops a.tmps) = true := by simp [Region.wanted, hg]
  rw [if_pos hw]
  unfold Oper.wp
  simp [execOp, hop, resolve, invoke, builtin, hd, hx, hr, Result.andThen]
  exact hK
theorem step_copy_run {P : Program} {ops : Array Oper} {o : Oper} {a : Act} {w : World} {K : Act → World → Prop} {Q : Exit → Act → World → Prop} {E : Prop}
    (hg : o.guard = none) (d x : Operand) (dT sT : TypeId) (hop : o.op = Op.call { callee := Callee.builtin Builtin.copy, args := #[d, x], argTypes := #[dT, sT] })
    (v u : Value) (hd : a.eval d = v) (hx : a.eval x = u) {v' : Value} {w' : World} (hr : (Builtin.copy_ #[dT, sT] o.type #[v, u]).run P w = .ok v' w') (hK : K (a.put o.dst v') w') :
    if Region.wanted o (yielded ops a.tmps) = true then Oper.wp P o a w K Q else E := by
  have hw : Region.wanted o (yielded ops a.tmps) = true := by simp [Region.wanted, hg]
  rw [if_pos hw]
  unfold Oper.wp
  simp [execOp, hop, resolve, invoke, builtin, hd, hx, hr, Result.andThen]
  exact hK
theorem step_delete_run {P : Program} {ops : Array Oper} {o : Oper} {a : Act} {w : World} {K : Act → World → Prop} {Q : Exit → Act → World → Prop} {E : Prop}
    (hg : o.guard = none) (d x : Operand) (dT sT : TypeId) (hop : o.op = Op.call { callee := Callee.builtin Builtin.delete, args := #[d, x], argTypes := #[dT, sT] })
    (v u : Value) (hd : a.eval d = v) (hx : a.eval x = u) {v' : Value} {w' : World} (hr : (Builtin.delete_ #[dT, sT] o.type #[v, u]).run P w = .ok v' w') (hK : K (a.put o.dst v') w') :
    if Region.wanted o (yielded ops a.tmps) = true then Oper.wp P o a w K Q else E := by
  have hw : Region.wanted o (yielded ops a.tmps) = true := by simp [Region.wanted, hg]
  rw [if_pos hw]
  unfold Oper.wp
  simp [execOp, hop, resolve, invoke, builtin, hd, hx, hr, Result.andThen]
  exact hK
theorem step_mapUpdate_run {P : Program} {ops : Array Oper} {o : Oper} {a : Act} {w : World} {K : Act → World → Prop} {Q : Exit → Act → World → Prop} {E : Prop}
    (hg : o.guard = none) (t : TypeId) (m k x : Operand) (hop : o.op = Op.mapUpdate t m k x)
    (v u y : Value) (hm : a.eval m = v) (hk : a.eval k = u) (hx : a.eval x = y) {w' : World} (hr : (Instr.mapUpdate t v u y).run P w = .ok () w') (hK : ∀ z, K (a.put o.dst z) w') :
    if Region.wanted o (yielded ops a.tmps) = true then Oper.wp P o a w K Q else E := by
  have hw : Region.wanted o (yielded ops a.tmps) = true := by simp [Region.wanted, hg]
  rw [if_pos hw]
  unfold Oper.wp
  simp [execOp, hop, hm, hk, hx, hr, Result.andThen]
  exact hK _
/-- A block that a map's change turns. -/
theorem Mod.setBlock {S : Nat → Prop} {a w : World} (h : Mod S a w) (b : Nat) (o : Obj) (hb : S b ∨ a.heap.size ≤ b) : Mod S a (setBlock w b o) :=
  ⟨h.os, h.tape, h.output, by unfold Go.ChangeMaps.setBlock; simpa using h.size, fun k hk hn => (setBlock_ne (by
    rintro rfl
    rcases hb with hb | hb
    · exact hn hb
    · omega)).trans (h.block k hk hn)⟩
theorem RowsIn.other {K K' : Nat → Prop} {W W' : World} {ao : Option Addr} {n c : Nat} {l : List Rw} (h : RowsIn K W ao n c l) (hk : ∀ b, K b → K' b) (hb : ∀ (b : Nat) (cur : Array Value), W.heap[b]? = some (.cells cur 80 (0, 0)) → W'.heap[b]? = W.heap[b]?) : RowsIn K' W' ao n c l :=
  ⟨h.len, h.cap, h.none_, h.big, fun a e => by
    obtain ⟨b, cur, e1, e2, e3, e4⟩ := h.some_ a e
    exact ⟨b, cur, e1, hk b e2, (hb b cur e3).trans e3, e4⟩⟩
theorem Holds.rows {W : World} {b : Nat} {cur : Array Value} {n c : Nat} {l : List Rw} {K : Nat → Prop} (h : Holds W b cur n l) (hk : K b) (hc : n ≤ c) (hm : c ≤ maxLen) (hs : c * 3 ≤ cur.size) : RowsIn K W (some ⟨b, 0, none⟩) n c l :=
  ⟨h.1, hc, fun e => (by cases e), hm, fun a e => by
    cases e
    exact ⟨b, cur, rfl, hk, h.2.1, hs, fun j hj => encR_rows h.2.2 j (by rw [← h.1]; exact hj)⟩⟩
theorem RowsIn.holds {K : Nat → Prop} {W : World} {n c : Nat} {l : List Rw} {a : Addr} (h : RowsIn K W (some a) n c l) : ∃ b cur, a = ⟨b, 0, none⟩ ∧ K b ∧ Holds W b cur n l ∧ c * 3 ≤ cur.size := by
  obtain ⟨b, cur, e, k, hb, hs, hc⟩ := h.some_ a rfl
  exact ⟨b, cur, e, k, ⟨h.len, hb, encR_cells (f := fun q => cur[q]?) fun j hj => hc j (by rw [h.len]; exact hj)⟩, hs⟩
theorem Holds.below {W W' : World} {b : Nat} {cur : Array Value} {n : Nat} {l : List Rw} (h : Holds W b cur n l) (hb : Below W.heap.size W W') : Holds W' b cur n l :=
  ⟨h.1, (hb.block b (blk_lt h.2.1)).trans h.2.1, h.2.2⟩
/-- rows[:i:i] ++ rows[i+1:]. -/
theorem app_out {K : Nat → Prop} {W : World} {b : Nat} {cur : Array Value} {n c : Nat} {l : List Rw} (h : Holds W b cur n l) (hk : K b) (hs : c * 3 ≤ cur.size) (hc : n ≤ c) (hm : c ≤ maxLen) (i cc ty : Nat) (hi : i < n) (hn : n ≤ 8192) :
    ∃ ao' G w2, (Builtin.append_ #[53, 53] ty #[.slice (some ⟨b, 0, none⟩) i i, .slice (if c = i + 1 then some ⟨b, 0, none⟩ else some ⟨b, (i + 1) * 3, none⟩) (n - (i + 1)) cc]).run Try.prog W = .ok (.slice ao' (n - 1) G) w2 ∧ Below W.heap.size W w2 ∧ RowsIn (fun q => K q ∨ (W.heap.size ≤ q ∧ q < w2.heap.size)) w2 ao' (n - 1) G (l.take i ++ l.drop (i + 1)) := by
  have hl := h.1
  by_cases e : i + 1 = n
  · have e1 : n - (i + 1) = 0 := by omega
    have e2 : n - 1 = i := by omega
    obtain ⟨x, hx⟩ : ∃ x, (if c = i + 1 then some (⟨b, 0, none⟩ : Addr) else some ⟨b, (i + 1) * 3, none⟩) = some x := by split <;> exact ⟨_, rfl⟩
    rw [hx, e1, e2]
    refine ⟨_, _, _, app_end _ x i cc ty, Below.refl _ _, ?_⟩
    have hd : l.drop (i + 1) = [] := List.drop_eq_nil_of_le (by omega)
    rw [hd, List.append_nil]
    refine Holds.rows (cur := cur) ⟨by rw [List.length_take]; omega, h.2.1, fun q u hq => ?_⟩ (.inl hk) (Nat.le_refl _) (by omega) (by omega)
    rw [encR_take, List.getElem?_take] at hq
    split at hq
    · exact h.2.2 q u hq
    · cases hq
  · have hne : ¬ c = i + 1 := by omega
    rw [if_neg hne]
    obtain ⟨G, CUR, hr, g1, g2, g3, g4⟩ := app_grow h i cc ty (by omega) (by omega)
    have hb : Below W.heap.size W (W.drew.alloc (.cells CUR 80)) := ((Below.refl _ W).drew).alloc (Nat.le_refl _) _
    refine ⟨_, _, _, hr, hb, ?_⟩
    refine Holds.rows (cur := CUR) ⟨by rw [List.length_append, List.length_take, List.length_drop]; omega, alloc_blk_new W.drew _, g4⟩ (.inr ⟨Nat.le_refl _, by simp [heap_drew]⟩) g1 g2 g3
/-- Timers, as their callers know them. -/
structure TS (K : Nat → Prop) (p : Nat) (most : Int) (l : List Rw) (W : World) : Prop where
  ex : ∃ ao n c mb, TAt K p most l ao n c mb W
theorem TS.keep {K K' : Nat → Prop} {p : Nat} {most : Int} {l : List Rw} {W W' : World} (h : TS K p most l W) (hk : ∀ b, K b → K' b) (hb : ∀ b, K b → b < W.heap.size → W'.heap[b]? = W.heap[b]?) : TS K' p most l W' := by
  obtain ⟨ao, n, c, mb, g⟩ := h.ex
  exact ⟨ao, n, c, mb, g.keep hk hb⟩
theorem TS.below {K : Nat → Prop} {p : Nat} {most : Int} {l : List Rw} {W W' : World} (h : TS K p most l W) (hb : Below W.heap.size W W') : TS K p most l W' :=
  h.keep (fun _ e => e) fun b _ hl => hb.block b hl
/-- What a call that turns timers leaves. -/
structure Turned (K : Nat → Prop) (p : Nat) (most : Int) (l : List Rw) (W w' : World) : Prop where
  st : TS (fun q => K q ∨ (W.heap.size ≤ q ∧ q < w'.heap.size)) p most l w'
  mod : Mod K W w'
theorem TS.turned {K : Nat → Prop} {p : Nat} {most : Int} {l : List Rw} {W W' : World} (h : TS K p most l W) (hb : Below W.heap.size W W') : Turned K p most l W W' :=
  ⟨h.keep (fun _ e => .inl e) fun b _ hl => hb.block b hl, Mod.of_below hb K⟩
theorem Turned.trans {K : Nat → Prop} {p : Nat} {most : Int} {l l' : List Rw} {W W' W'' : World} (h : Turned K p most l W W') (g : Turned (fun q => K q ∨ (W.heap.size ≤ q ∧ q < W'.heap.size)) p most l' W' W'') : Turned K p most l' W W'' :=
  ⟨g.st.keep (fun b e => by
    have := h.mod.size
    have := g.mod.size
    rcases e with (e | e) | e
    · exact .inl e
    · exact .inr ⟨e.1, by omega⟩
    · exact .inr ⟨by omega, e.2⟩) fun _ _ _ => rfl, h.mod.trans g.mod fun k hk e => by
      rcases e with e | e
      · exact e
      · omega⟩
end Go.Proofs.Ytnmbhcekcdicnaa
