/-
  A region that draws its order and only reads, within a round of a range over a function: one walk serves every order.
-/
import Derived.Test.YtnmbhcekcdicnaaCom
import Derived.Sort.QuietIn
namespace Go.Proofs.Ytnmbhcekcdicnaa
open Go Go.RowKit
set_option linter.unusedVariables false
set_option linter.unusedSimpArgs false

section
variable {F : Fence} {n : Nat} {P : Program} {ops : Array Oper} {md : Region.Mode} {C : World → Prop}
def plainOp (o : Oper) : Bool := match o.op with
  | .defer _ => false
  | _ => true
theorem plainOp_ne {o : Oper} (h : plainOp o = true) : ∀ c, o.op ≠ .defer c := fun c e => by
  unfold plainOp at h
  rw [e] at h
  cases h
theorem semAt_plain {o : Oper} (h : plainOp o = true) (r : Option Nat) (ρ : Operand → Value) : Oper.semAt r ρ o = execOp ρ o := by
  cases r with
  | none => rw [Oper.semAt_none]
  | some l => exact Oper.semAt_some l ρ o (plainOp_ne h)
theorem wpIn_of_quietR {o : Oper} {a : Act} {K : Act → Prop} {K' : Act → World → Prop} {Q' : Exit → Act → World → Prop} {w : World} (hp : plainOp o = true) (hw : C w) (h : ∀ a w', C w' → K a → K' a w')
    (ha : o.askedIn F P a C) (hh : o.quietIn F n P a C K) : o.wpIn F n P a w K' Q' := by
  obtain ⟨v, h1, h2⟩ := hh
  have h3 := h1 w hw
  unfold Oper.quietAtIn at h3
  unfold Oper.wpIn
  refine ⟨ha w hw, ?_⟩
  rw [semAt_plain hp]
  generalize (execOp a.eval o).run P w = r at *
  cases r with
  | ok x w' =>
    cases x <;> simp only [Oper.quietUponIn] at h3 <;> simp only [Oper.uponIn]
    case value u =>
      obtain ⟨e1, e2⟩ := h3
      rw [e1, e2]
      exact h _ _ hw h2
    case skip =>
      obtain ⟨e1, e2⟩ := h3
      rw [e1, ← e2]
      exact h _ _ hw h2
    case enter f args =>
      obtain ⟨e1, hd, hc⟩ := h3
      rw [e1]
      exact ⟨hd, hc.mono fun e w'' ⟨he, hw''⟩ => by subst he; exact h _ _ hw'' h2⟩
  | halt x w' => simp only [Oper.quietUponIn] at h3
theorem wpOpIn_of_quietR (hpl : ∀ (i : Nat) (o : Oper), ops[i]? = some o → plainOp o = true) {i : Nat} {a : Act} {K : Act → Prop} {K' : Act → World → Prop} {Q' : Exit → Act → World → Prop} {w : World} (hC : C w) (h : ∀ a w', C w' → K a → K' a w')
    (hh : qOpIn F n P ops C i K a) : wpOpIn F n P ops Q' i K' a w := by
  unfold qOpIn at hh
  unfold wpOpIn
  split
  · rename_i ho; simp only [ho] at hh; exact h _ _ hC hh
  · rename_i o ho
    have hp := hpl i o ho
    simp only [ho] at hh
    obtain ⟨ha, hh⟩ := hh
    split
    · rename_i hw; simp only [hw, if_true] at hh; exact wpIn_of_quietR hp hC h ha hh
    · rename_i hw; simp only [hw] at hh; exact ⟨ha w hC, h _ _ hC hh⟩
theorem wpAnyIn_of_quietR (hpl : ∀ (i : Nat) (o : Oper), ops[i]? = some o → plainOp o = true) {Q : Act → Prop} {Q' : Exit → Act → World → Prop} (hQ : ∀ a w, C w → Q a → Q' .normal a w) : ∀ (fuel : Nat) (listed : Array Bool) (a : Act) (w : World), C w →
    wpAnyQIn F n P md ops C Q fuel listed a → wpAnyIn F n P md ops Q' fuel listed a w
  | 0, _, _, _, hw, h => ⟨h.1, hQ _ _ hw h.2⟩
  | fuel + 1, _, _, _, hw, h => ⟨fun h0 => hQ _ _ hw (h.1 h0), fun i hi => wpOpIn_of_quietR hpl hw (fun a' w' hw' => wpAnyIn_of_quietR hpl hQ fuel _ a' w' hw') (h.2 i hi)⟩
theorem wpIn_region_roundC {id : Nat} {Q : Exit → Act → World → Prop} {a : Act} {w : World} {l : List Oper} (C : World → Prop) (hC : C w.drew) (hpl : l.all plainOp = true) (hm : P.follows .mixedOrders = true) (hB : Region.lexB .any l.toArray = true)
    (h : wpQuietIn F n P l.toArray C (fun a' => ∀ w', C w' → Q .normal a' w') l a) : (Code.region id l.toArray true).wpIn F n P Q a w := by
  simp only [Region.lexB, Bool.and_eq_true] at hB
  have hpl' : ∀ (i : Nat) (o : Oper), l.toArray[i]? = some o → plainOp o = true := fun i o ho => List.all_eq_true.1 hpl o (List.mem_of_getElem? (i := i) (by simpa using ho))
  refine wpIn_region_any hm (wpAnyIn_of_quietR hpl' (C := C) (Q := fun a' => ∀ w', C w' → Q .normal a' w') (fun _ w' hw' h => h w' hw') _ _ _ _ hC ?_)
  have := wpAnyQIn_lex (F := F) (n := n) (C := C) (md := .any) hB.1 l 0 (Array.replicate l.toArray.size false) a (by simp) (by simpa using hB.2) h
  simpa using this
theorem wpIn_region_round {id : Nat} {Q : Exit → Act → World → Prop} {a : Act} {w : World} {l : List Oper} (hpl : l.all plainOp = true) (hm : P.follows .mixedOrders = true) (hB : Region.lexB .any l.toArray = true)
    (h : wpQuietIn F n P l.toArray (fun w' => ∃ n, w' = w.drewN n) (fun a' => ∀ w', (∃ n, w' = w.drewN n) → Q .normal a' w') l a) : (Code.region id l.toArray true).wpIn F n P Q a w := by
  simp only [Region.lexB, Bool.and_eq_true] at hB
  have hpl' : ∀ (i : Nat) (o : Oper), l.toArray[i]? = some o → plainOp o = true := fun i o ho => List.all_eq_true.1 hpl o (List.mem_of_getElem? (i := i) (by simpa using ho))
  refine wpIn_region_any hm (wpAnyIn_of_quietR hpl' (C := fun w' => ∃ n, w' = w.drewN n) (Q := fun a' => ∀ w', (∃ n, w' = w.drewN n) → Q .normal a' w') (fun _ w' hw' h => h w' hw') _ _ _ _ ⟨1, rfl⟩ ?_)
  have := wpAnyQIn_lex (F := F) (n := n) (C := fun w' => ∃ n, w' = w.drewN n) (md := .any) hB.1 l 0 (Array.replicate l.toArray.size false) a (by simp) (by simpa using hB.2) h
  simpa using this
variable {Q : Act → Prop} {a : Act} {o : Oper} {rest : List Oper} {v : Value}
/-- One plain operation. -/
theorem wpQuietIn_take (ha : o.askedIn F P a C) (hw : Region.wanted o (yielded ops a.tmps) = true) (h : ∀ W, C W → (execOp a.eval o).run P W = .ok (.value v) W) (hr : wpQuietIn F n P ops C Q rest (a.put o.dst v)) : wpQuietIn F n P ops C Q (o :: rest) a := by
  refine ⟨ha, ?_⟩
  rw [if_pos hw]
  refine ⟨v, fun W hW => ?_, hr⟩
  unfold Oper.quietAtIn
  rw [h W hW]
  exact ⟨rfl, rfl⟩
/-- A call. -/
theorem wpQuietIn_enter {f : Nat} {args : Array Value} (ha : o.askedIn F P a C) (hw : Region.wanted o (yielded ops a.tmps) = true) (h : ∀ W, C W → (execOp a.eval o).run P W = .ok (.enter f args) W) (hd : F.depth.isSome = true → 1 ≤ n) (hc : ∀ W, C W → CallsIn F (n - 1) P f args W fun e W' => e = .returned v ∧ C W') (hr : wpQuietIn F n P ops C Q rest (a.put o.dst v)) : wpQuietIn F n P ops C Q (o :: rest) a := by
  refine ⟨ha, ?_⟩
  rw [if_pos hw]
  refine ⟨v, fun W hW => ?_, hr⟩
  unfold Oper.quietAtIn
  rw [h W hW]
  exact ⟨rfl, hd, hc W hW⟩
/-- One that is passed over. -/
theorem wpQuietIn_pass (ha : o.askedIn F P a C) (hw : Region.wanted o (yielded ops a.tmps) = false) (hr : wpQuietIn F n P ops C Q rest (a.put o.dst undef)) : wpQuietIn F n P ops C Q (o :: rest) a := by
  refine ⟨ha, ?_⟩
  rw [if_neg (by rw [hw]; simp)]
  exact hr
end
end Go.Proofs.Ytnmbhcekcdicnaa
