/-
  The table of what begins a point's bytes, in memory.
-/
import Derived.Test.YtfkfooclapogjaaE
import Derived.Deep.WholeRow
namespace Go.Proofs.Ytfkfooclapogjaa
open Go.RowKit
set_option linter.unusedVariables false
set_option linter.unusedSimpArgs false

def Zs : Array Value := #[.int .u8 0, .int .u8 0, .int .i64 0, .int .u8 0, .int .u8 0, .int .u8 0, .int .u8 0, .int .i64 0, .int .u8 0, .int .u8 0, .int .u8 0, .int .u8 0, .int .i64 0, .int .u8 0, .int .u8 0, .int .u8 0, .int .u8 0, .int .i64 0, .int .u8 0, .int .u8 0, .int .u8 0, .int .u8 0, .int .i64 0, .int .u8 0, .int .u8 0, .int .u8 0, .int .u8 0, .int .i64 0, .int .u8 0, .int .u8 0, .int .u8 0, .int .u8 0, .int .i64 0, .int .u8 0, .int .u8 0, .int .u8 0, .int .u8 0, .int .i64 0, .int .u8 0, .int .u8 0, .int .u8 0, .int .u8 0, .int .i64 0, .int .u8 0, .int .u8 0]
theorem size78 : (Try.prog.info? 111).map (·.size) = some 45 := by kernel_rfl
theorem wpList_build {P : Program} (w : World) {ops : Array Oper} {rest : List Oper} {o : Oper} {a : Act} {Q : Exit → Act → World → Prop} (hg : o.guard = none) (t : TypeId) (parts : Array (Nat × Operand)) (hop : o.op = .build t parts) (cells : Array Value)
    (h : P.built t (parts.map fun (i, x) => (i, a.eval x)).toList = some cells) (hK : wpList P ops Q rest (a.put o.dst (.agg cells)) w) : wpList P ops Q (o :: rest) a w := by
  refine wpList_plain hg fun K hK' => ?_
  exact wp_build t parts hop (by rw [h]; rfl) (by rw [h]; exact hK' _ _ hK)
theorem wpList_store_new {P : Program} (w : World) {ops : Array Oper} {rest : List Oper} {o : Oper} {a : Act} {Q : Exit → Act → World → Prop} (hg : o.guard = none) (t : TypeId) (x y : Operand) (hop : o.op = .store t x y) (c c' : Array Value)
    (hx : a.eval x = .pointer (some ⟨w.heap.size, 0, none⟩)) (hy : a.eval y = .agg c') (hi : (P.info? t).map (·.size) = some c'.size) (ho : c.size = c'.size) (h1 : c'.all (·.oneCell') = true)
    (hK : wpList P ops Q rest (a.put o.dst undef) (w.alloc (.cells c' t))) : wpList P ops Q (o :: rest) a (w.alloc (.cells c t)) := by
  refine wpList_plain hg fun K hK' => ?_
  unfold Oper.wp
  simp only [execOp, hop, hx, hy, run_storeAt_new w t c c' hi ho h1, Sem.run_bind, Result.andThen_ok]
  exact hK' _ _ hK
theorem one_leads : Leads.all (·.oneCell') = true := by simp [Leads, Value.oneCell']
set_option maxHeartbeats 1600000 in
set_option maxRecDepth 100000 in
theorem leads_any (w : World) : Calls Try.prog 57 #[] w fun e w' => e = .returned (.agg Leads) ∧ Below w.heap.size w w' := by
  have HB := Lib.hid (fun o => ((Below.refl _ w).alloc (Nat.le_refl _) o))
  go_enter Try.func57, Try.ntmps57
  go_wp2_with (first | (refine wpList_build _ rfl 111 #[(0, .tmp 1), (1, .tmp 2), (2, .tmp 3), (3, .tmp 4), (4, .tmp 5), (5, .tmp 6), (6, .tmp 7), (7, .tmp 8), (8, .tmp 9)] rfl Leads (by kernel_rfl) ?_) | (refine wpList_store_new w rfl 111 (.tmp 0) (.tmp 10) rfl Zs Leads rfl rfl size78 rfl one_leads ?_))
  have hr : (loadVar 111 ⟨w.heap.size, 0, none⟩).run Try.prog (w.alloc (.cells Leads 111)) = .ok (.agg Leads) (w.alloc (.cells Leads 111)) := run_loadVar_new w 111 Leads 9 110 Try.underlying111 size78
  refine bodyPost_ret (v := .agg Leads) (by simp [results, Try.f57, Act.put, asAddr, hr]) rfl ?_
  exact ⟨rfl, HB.out _⟩
end Go.Proofs.Ytfkfooclapogjaa
