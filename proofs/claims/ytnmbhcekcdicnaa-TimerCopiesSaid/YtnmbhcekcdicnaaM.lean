/-
  Maps of timers, entry by entry.
-/
import Derived.Test.YtnmbhcekcdicnaaD
import Derived.DeepKeys4
import Derived.Maps.Keyed
import Derived.Maps.Own
import Derived.Maps.OwnOps
import Derived.Maps.OwnSet
import Derived.KernelRfl
namespace Go.Proofs.Ytnmbhcekcdicnaa
open Go.RowKit Go.Maps Go.ChangeMaps
set_option linter.unusedVariables false
set_option linter.unusedSimpArgs false

theorem laidOut0 : laidOutB Try.prog = true := by kernel_rfl
theorem keyed26 : Keyed Try.prog 26 := Keyed.of_law (deep_law_laid laidOut0 (m := 5) (by decide) (of_decide_eq_true (by kernel_rfl)) (by kernel_rfl) (by kernel_rfl))
/-- A timer as a value. -/
def tmV (k i : Int) : Value := .agg #[.int .i64 k, .int .u64 i]
theorem tmV_inj {k i k' i' : Int} : tmV k i = tmV k' i' ↔ k = k' ∧ i = i' := by simp [tmV]
theorem c26 : Try.prog.cellsOf 26 = 2 := by kernel_rfl
theorem c23 : Try.prog.cellsOf 23 = 1 := by kernel_rfl
theorem c24 : Try.prog.cellsOf 24 = 1 := by kernel_rfl
theorem key26 {k i : Int} (k0 : -9223372036854775808 ≤ k) (k1 : k ≤ 9223372036854775807) (i0 : 0 ≤ i) (i1 : i ≤ 18446744073709551615) : ∃ l, keyOf Try.prog 26 (tmV k i) = some l := by
  have wk : (Lit.int .i64 k).wf = true := by simp [Lit.wf, IntKind.min, IntKind.max, IntKind.bits, IntKind.signed]; omega
  have wi : (Lit.int .u64 i).wf = true := by simp [Lit.wf, IntKind.min, IntKind.max, IntKind.bits, IntKind.signed]; omega
  obtain ⟨d, hd⟩ : ∃ d, Try.prog.types.size = d + 1 := ⟨Try.prog.types.size - 1, by
    have : 0 < Try.prog.types.size := of_decide_eq_true (by kernel_rfl)
    omega⟩
  unfold keyOf
  rw [Try.underlying26]
  simp only
  rw [if_pos]
  · rw [hd]
    simp [Program.keyLits, Try.underlying26, Try.underlying23, Try.underlying24, tmV, Value.cells, c26, c23, c24, wk, wi]
  · rw [Bool.and_eq_true]
    refine ⟨by kernel_rfl, ?_⟩
    simp [tmV, Value.formed, Try.underlying26, c26]
section
variable {P : Program} {t k e : TypeId} {w : World} {b clock : Nat} {es : Array MapEntry} {key : Value} {kl : Lit}
/-- The keys are keys. -/
def KeysOk (P : Program) (k : TypeId) (es : Array MapEntry) : Prop := ∀ x ∈ es.toList, ∃ l, keyOf P k x.key = some l
theorem run_put_new (K : Keyed P k) (ht : P.underlying t = some (.map k e)) (hb : w.heap[b]? = some (.map es clock)) (hk : KeysOk P k es) (hkey : keyOf P k key = some kl) (hne : ∀ x ∈ es.toList, x.key ≠ key) (val : Value) :
    (Instr.mapUpdate t (.map (some b)) key val).run P w = .ok () (setBlock w b (.map (es.push ⟨key, val, clock⟩) (clock + 1))) := by
  rcases K.find w hkey es.toList hk with ⟨h1, h2⟩ | ⟨j, e0, h1, h2, h3⟩
  · simp [Instr.mapUpdate, run_underlying ht, MapKept.run_getObj_map hb, K.check w false hkey, h1, MapKept.run_setObj_map _ hb, Result.andThen, setBlock]
  · exact absurd h3 (hne e0 (List.mem_of_getElem? h2))
theorem run_look (K : Keyed P k) (ht : P.underlying t = some (.map k e)) {z : Value} (hz : (zeroValue e).run P w = .ok z w) (hb : w.heap[b]? = some (.map es clock)) (hk : KeysOk P k es) (hkey : keyOf P k key = some kl) :
    ((Instr.lookup t (.map (some b)) key true).run P w = .ok (.tuple #[z, .bool false]) w ∧ (∀ x ∈ es.toList, x.key ≠ key)) ∨
    ∃ e0 ∈ es.toList, e0.key = key ∧ (Instr.lookup t (.map (some b)) key true).run P w = .ok (.tuple #[e0.val, .bool true]) w := by
  rcases K.find w hkey es.toList hk with ⟨h1, h2⟩ | ⟨j, e0, h1, h2, h3⟩
  · exact .inl ⟨by simp [Instr.lookup, run_underlying ht, MapKept.run_getObj_map hb, K.check w _ hkey, h1, hz, Result.andThen], h2⟩
  · exact .inr ⟨e0, List.mem_of_getElem? h2, h3, by simp [Instr.lookup, run_underlying ht, MapKept.run_getObj_map hb, K.check w _ hkey, h1, Result.andThen]⟩
theorem run_del (K : Keyed P k) (ht : P.underlying t = some (.map k e)) (hb : w.heap[b]? = some (.map es clock)) (hk : KeysOk P k es) (hkey : keyOf P k key = some kl) {e0 : MapEntry} (hm : e0 ∈ es.toList) (hme : e0.key = key) (ty : TypeId) :
    ∃ j e1, es.toList[j]? = some e1 ∧ e1.key = key ∧ (Builtin.delete_ #[t, k] ty #[.map (some b), key]).run P w = .ok (.tuple #[]) (setBlock w b (.map (es.eraseIdxIfInBounds j) clock)) := by
  rcases K.find w hkey es.toList hk with ⟨h1, h2⟩ | ⟨j, e1, h1, h2, h3⟩
  · exact absurd hme (h2 e0 hm)
  · exact ⟨j, e1, h2, h3, by simp [Builtin.delete_, run_underlying ht, MapKept.run_getObj_map hb, K.check w _ hkey, h1, MapKept.run_setObj_map _ hb, Result.andThen, setBlock]⟩
theorem setBlock_at {o : Obj} (h : b < w.heap.size) : (setBlock w b o).heap[b]? = some o := by
  unfold setBlock
  simp [h]
theorem setBlock_ne {o : Obj} {q : Nat} (h : q ≠ b) : (setBlock w b o).heap[q]? = w.heap[q]? := by
  unfold setBlock
  simp [Ne.symm h]
end
/-- A map that holds the rows' dues. -/
structure MapAt (W : World) (b : Nat) (l : List Rw) : Prop where
  ex : ∃ (es : Array MapEntry) (clock : Nat), W.heap[b]? = some (.map es clock) ∧ es.size = l.length ∧ (∀ x ∈ es.toList, ∃ r ∈ l, x.key = tmV r.k r.i ∧ x.val = .int .u64 r.d) ∧ (∀ r ∈ l, ∃ x ∈ es.toList, x.key = tmV r.k r.i) ∧ es.toList.Pairwise (fun x y => x.key ≠ y.key) ∧ (∀ x ∈ es.toList, x.born < clock) ∧ (es.toList.map (·.born)).Nodup
theorem MapAt.of_block {W W' : World} {b : Nat} {l : List Rw} (h : MapAt W b l) (hb : W'.heap[b]? = W.heap[b]?) : MapAt W' b l := by
  obtain ⟨es, clock, h1, h2⟩ := h.ex
  exact ⟨es, clock, hb.trans h1, h2⟩
theorem MapAt.lt {W : World} {b : Nat} {l : List Rw} (h : MapAt W b l) : b < W.heap.size := by
  obtain ⟨es, clock, h1, h2⟩ := h.ex
  exact blk_lt h1
theorem keys_ok {l : List Rw} (hl : ∀ r ∈ l, r.Ok) {es : Array MapEntry} (h : ∀ x ∈ es.toList, ∃ r ∈ l, x.key = tmV r.k r.i ∧ x.val = .int .u64 r.d) : KeysOk Try.prog 26 es := fun x hx => by
  obtain ⟨r, hr, e, _⟩ := h x hx
  have ok := hl r hr
  rw [e]
  exact key26 ok.k0 ok.k1 ok.i0 ok.i1
/-- Asked. -/
theorem MapAt.look {W : World} {b : Nat} {l : List Rw} (h : MapAt W b l) (hl : Srt l) {k i : Int} (k0 : -9223372036854775808 ≤ k) (k1 : k ≤ 9223372036854775807) (i0 : 0 ≤ i) (i1 : i ≤ 18446744073709551615) :
    (Instr.lookup 54 (.map (some b)) (tmV k i) true).run Try.prog W = .ok (.tuple #[.int .u64 ((dueOf l k i).getD 0), .bool (dueOf l k i).isSome]) W := by
  obtain ⟨es, clock, hb, hs, hm, ha, _⟩ := h.ex
  obtain ⟨kl, hkey⟩ := key26 k0 k1 i0 i1
  have hz : (zeroValue 24).run Try.prog W = .ok (.int .u64 0) W := by kernel_rfl
  rcases run_look keyed26 Try.underlying54 hz hb (keys_ok hl.ok hm) hkey with ⟨h1, h2⟩ | ⟨e0, h1, h2, h3⟩
  · have hd : dueOf l k i = none := by
      cases hq : dueOf l k i with
      | none => rfl
      | some d =>
        obtain ⟨x, hx, hxe⟩ := ha _ (dueOf_some hq)
        exact absurd hxe (h2 x hx)
    rw [h1, hd]
    rfl
  · obtain ⟨r, hr, e1, e2⟩ := hm e0 h1
    rw [h2, tmV_inj] at e1
    obtain ⟨rfl, rfl⟩ := e1
    rw [h3, dueOf_mem hl hr, e2]
    rfl
/-- One more. -/
theorem MapAt.put {W : World} {b : Nat} {l : List Rw} (h : MapAt W b l) (hl : Srt l) (r : Rw) (hr : r.Ok) (hn : ∀ x ∈ l, x.is r.k r.i = false) :
    ∃ o, (Instr.mapUpdate 54 (.map (some b)) (tmV r.k r.i) (.int .u64 r.d)).run Try.prog W = .ok () (setBlock W b o) ∧ MapAt (setBlock W b o) b (ins l r) := by
  have hlt := h.lt
  obtain ⟨es, clock, hb, hs, hm, ha, hp, hbo, hnd⟩ := h.ex
  obtain ⟨kl, hkey⟩ := key26 hr.k0 hr.k1 hr.i0 hr.i1
  have hne : ∀ x ∈ es.toList, x.key ≠ tmV r.k r.i := fun x hx e => by
    obtain ⟨y, hy, e1, _⟩ := hm x hx
    rw [e, tmV_inj] at e1
    have := hn y hy
    rw [Bool.eq_false_iff] at this
    exact this ((Rw.is_iff _ _ _).2 ⟨e1.1.symm, e1.2.symm⟩)
  refine ⟨_, run_put_new keyed26 Try.underlying54 hb (keys_ok hl.ok hm) hkey hne _, ⟨_, _, setBlock_at hlt, by rw [ins_length]; simp [hs], fun x hx => ?_, fun x hx => ?_, ?_, fun x hx => ?_, ?_⟩⟩
  · simp only [Array.toList_push, List.mem_append, List.mem_singleton] at hx
    rcases hx with hx | rfl
    · obtain ⟨y, hy, e⟩ := hm x hx
      exact ⟨y, (ins_mem l r y).2 (.inr hy), e⟩
    · exact ⟨r, (ins_mem l r r).2 (.inl rfl), rfl, rfl⟩
  · rcases (ins_mem l r x).1 hx with e | e
    · exact ⟨_, by simp only [Array.toList_push, List.mem_append, List.mem_singleton]; exact .inr rfl, by rw [e]⟩
    · obtain ⟨y, hy, e⟩ := ha x e
      exact ⟨y, by simp only [Array.toList_push, List.mem_append]; exact .inl hy, e⟩
  · rw [Array.toList_push, List.pairwise_append]
    exact ⟨hp, by simp, fun x hx y hy => by simp at hy; rw [hy]; exact hne x hx⟩
  · simp only [Array.toList_push, List.mem_append, List.mem_singleton] at hx
    rcases hx with hx | rfl
    · have := hbo x hx
      omega
    · exact Nat.lt_succ_self _
  · rw [Array.toList_push, List.map_append, List.nodup_append]
    refine ⟨hnd, by simp, fun x hx y hy => ?_⟩
    simp at hy
    obtain ⟨z, hz, rfl⟩ := List.mem_map.1 hx
    have := hbo z hz
    omega
/-- One less. -/
theorem MapAt.del {W : World} {b : Nat} {l : List Rw} (h : MapAt W b l) (hl : Srt l) {k i d : Int} (hd : dueOf l k i = some d) (ty : TypeId) :
    ∃ o, (Builtin.delete_ #[54, 26] ty #[.map (some b), tmV k i]).run Try.prog W = .ok (.tuple #[]) (setBlock W b o) ∧ MapAt (setBlock W b o) b (wo l k i) := by
  have hlt := h.lt
  obtain ⟨es, clock, hb, hs, hm, ha, hp, hbo, hnd⟩ := h.ex
  have hr := dueOf_some hd
  have ok := hl.ok _ hr
  obtain ⟨kl, hkey⟩ := key26 ok.k0 ok.k1 ok.i0 ok.i1
  obtain ⟨e0, he0, he1⟩ := ha _ hr
  obtain ⟨j, e1, hj, hje, hrun⟩ := run_del (ty := ty) keyed26 Try.underlying54 hb (keys_ok hl.ok hm) hkey he0 he1
  have hjl : j < es.size := by
    have := (List.getElem?_eq_some_iff.1 hj).1
    simpa using this
  have hes : (es.eraseIdxIfInBounds j).toList = es.toList.eraseIdx j := by
    rw [Array.eraseIdxIfInBounds, dif_pos hjl, Array.toList_eraseIdx]
  have hsub : ∀ x, x ∈ es.toList.eraseIdx j → x ∈ es.toList ∧ x.key ≠ tmV k i := fun x hx => by
    obtain ⟨q, hq, hqx⟩ := List.mem_eraseIdx_iff_getElem?.1 hx
    refine ⟨List.mem_of_getElem? hqx, fun e => ?_⟩
    rw [List.pairwise_iff_getElem] at hp
    obtain ⟨a1, a2⟩ := List.getElem?_eq_some_iff.1 hqx
    obtain ⟨b1, b2⟩ := List.getElem?_eq_some_iff.1 hj
    rcases Nat.lt_or_gt_of_ne hq with g | g
    · exact hp q j a1 b1 g (by rw [a2, b2, e, hje])
    · exact hp j q b1 a1 g (by rw [a2, b2, e, hje])
  refine ⟨_, hrun, ⟨_, _, setBlock_at hlt, ?_, fun x hx => ?_, fun x hx => ?_, ?_, fun x hx => ?_, ?_⟩⟩
  · obtain ⟨w1, w2, w3⟩ := wo_at hl hd
    rw [w3]
    rw [← Array.length_toList, hes, List.length_eraseIdx]
    simp only [Array.length_toList, if_pos hjl, List.length_append, List.length_take, List.length_drop]
    omega
  · rw [hes] at hx
    obtain ⟨g1, g2⟩ := hsub x hx
    obtain ⟨y, hy, e, e'⟩ := hm x g1
    refine ⟨y, List.mem_filter.2 ⟨hy, ?_⟩, e, e'⟩
    rw [Bool.not_eq_true', Bool.eq_false_iff]
    intro q
    rw [Rw.is_iff] at q
    exact g2 (by rw [e, q.1, q.2])
  · obtain ⟨hx1, hx2⟩ := List.mem_filter.1 hx
    obtain ⟨y, hy, e⟩ := ha x hx1
    refine ⟨y, ?_, e⟩
    rw [hes]
    obtain ⟨q, hq⟩ := List.getElem?_of_mem hy
    refine List.mem_eraseIdx_iff_getElem?.2 ⟨q, fun eq => ?_, hq⟩
    rw [eq, hj] at hq
    injection hq with hq
    rw [← hq, hje, tmV_inj] at e
    rw [Bool.not_eq_true', Bool.eq_false_iff] at hx2
    exact hx2 ((Rw.is_iff _ _ _).2 ⟨e.1.symm, e.2.symm⟩)
  · rw [hes]
    exact hp.sublist (List.eraseIdx_sublist _ _)
  · rw [hes] at hx
    exact hbo x (hsub x hx).1
  · rw [hes]
    exact hnd.sublist ((List.eraseIdx_sublist _ _).map _)
end Go.Proofs.Ytnmbhcekcdicnaa
