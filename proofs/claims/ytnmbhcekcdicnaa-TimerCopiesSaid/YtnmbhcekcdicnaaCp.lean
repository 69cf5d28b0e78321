/-
  Clones; Copy.
-/
import Derived.Test.YtnmbhcekcdicnaaVb
import Derived.Deep.RegionHeld3
import Derived.Test.YtnmbhcekcdicnaaOrd
import Derived.Laws.Externs
import Derived.MapKept
namespace Go.Proofs.Ytnmbhcekcdicnaa
open Go.RowKit
set_option linter.unusedVariables false
set_option linter.unusedSimpArgs false

/-- Rows of one's own are rows that are owned. -/
theorem RowsIn.own {W : World} {B : Nat} {v : Value} {n : Nat} {l : List Rw} (h : W.ownsRow B 80 3 v n (encR l)) (hl : n = l.length) : ∃ ao c, v = .slice ao n c ∧ RowsIn (fun q => B ≤ q ∧ q < W.heap.size) W ao n c l := by
  rcases h.2 with ⟨rfl, rfl⟩ | ⟨g, cap, cur, rfl, hb, hg, hc, hm, hs, ht⟩
  · exact ⟨none, 0, rfl, hl, Nat.le_refl _, fun _ => rfl, Nat.zero_le _, fun a e => by cases e⟩
  · refine ⟨some ⟨g, 0, none⟩, cap, rfl, Holds.rows (cur := cur) ⟨hl, hg, fun q u hu => ?_⟩ ⟨hb, blk_lt hg⟩ hc hm (by omega)⟩
    rw [← ht, List.getElem?_take] at hu
    split at hu
    · simpa using hu
    · cases hu
set_option maxHeartbeats 1600000 in
theorem clone31 {K : Nat → Prop} {w : World} {ao : Option Addr} {n c : Nat} {l : List Rw} (h : RowsIn K w ao n c l) (hn : n ≤ 100000) :
    Calls Try.prog 31 #[.slice ao n c] w fun e w' => ∃ ao' c', e = .returned (.slice ao' n c') ∧ RowsIn (fun q => w.heap.size ≤ q ∧ q < w'.heap.size) w' ao' n c' l ∧ Below w.heap.size w w' := by
  obtain ⟨i0, hi, hz0, hz1, hz2⟩ := inf80
  have hnil := fun (W : World) => Lib.run_eql_slice_nil (P := Try.prog) W 53 80 ao n c 0 0 Try.underlying53
  cases ao with
  | none =>
    have hc0 := h.none_ rfl
    have hn0 : n = 0 := by have := h.cap; omega
    subst hc0 hn0
    have hl : l = [] := List.eq_nil_of_length_eq_zero h.len.symm
    subst hl
    clear h
    go_enter Try.func31, Try.ntmps31
    go_wp2
    go_ret
    exact ⟨none, 0, rfl, ⟨rfl, Nat.le_refl _, fun _ => rfl, Nat.zero_le _, fun a e => by cases e⟩, Below.refl _ _⟩
  | some ad =>
    have HR : Hid ((w.alloc (.cells #[] 80)).ownsRow w.heap.size 80 3 (.slice (some ⟨w.heap.size, 0, none⟩) 0 0) 0 []) := Lib.hid (World.ownsRow_lit w #[] 0 (Nat.le_refl _) (by simp) rfl)
    have hb0 := (Below.refl _ w).alloc (Nat.le_refl _) (.cells #[] 80)
    obtain ⟨b, cur, rfl, hk, hh, hs⟩ := h.holds
    have hh2 := hh.below hb0
    have hnews : ∀ ad, some (⟨b, 0, none⟩ : Addr) = some ad → ∀ j u, (encR l)[j]? = some u → (w.alloc (.cells #[] 80)).cell? (ad.add j) = some u := fun ad e j u hj => by
      cases e
      rw [addr_add, Nat.zero_add]
      exact hh2.cell j u hj
    have HNews := Lib.hid hnews
    have hlen : (encR l).length = n * 3 := by rw [encR_len, ← h.len]
    have HLen := Lib.hid h.len
    clear h hh hh2 hb0 hnews
    go_enter Try.func31, Try.ntmps31
    go_wp2_with (at_builtin; refine wpList_append_f _ rfl (.tmp 5) (.tmp 6) 53 rfl w.heap.size 80 i0 _ 3 24 Try.underlying53 hi hz0 hz1 hz2 rfl (by decide) _ _ _ rfl HR.out (some ⟨b, 0, none⟩) n c (encR l) rfl hlen (fun e => by cases e) HNews.out (encR_one l) ?c3 ?c4 (by simp) ?_)
    case c3 => unfold maxLen; omega
    case c4 => omega
    intro v' w1 hown hg hf _
    have hb : Below w.heap.size w w1 := ((Below.refl _ w).alloc (Nat.le_refl _) (.cells #[] 80)).grown hg (by simp) (fun k e => by cases e; exact Nat.le_refl _)
    have hown : w1.ownsRow w.heap.size 80 3 v' n (encR l) := by simpa using hown
    obtain ⟨a1, c1, rfl, hr⟩ := RowsIn.own hown HLen.out
    have HO := Lib.hid hr
    have HB := Lib.hid hb
    clear hown hg hf hb hr
    go_wp2
    go_ret
    exact ⟨a1, c1, rfl, HO.out, HB.out⟩
theorem run_clone_map {P : Program} (w : World) {r : Nat} {es : Array MapEntry} {clock : Nat} (t : TypeId) (hb : w.heap[r]? = some (.map es clock)) :
    (Extern.MapsClone.clone #[.iface t (.map (some r))]).run P w = .ok (.iface t (.map (some w.heap.size))) (w.alloc (.map es clock)) := by
  have e : Extern.MapsClone.clone #[.iface t (.map (some r))] = (getObj r >>= fun o => match o with
      | .map entries clock => (newObj (.map entries clock) >>= fun n => pure (.iface t (.map (some n))))
      | _ => stuck "maps.clone: a map expected") := rfl
  rw [e]
  simp [MapKept.run_getObj_map hb, Result.andThen, go_sem]
theorem run_assert_map {P : Program} (w : World) (t xT k e : TypeId) (v : Value) (h : P.underlying t = some (.map k e)) : (Instr.typeAssert (.iface t v) xT t false).run P w = .ok v w := by
  simp [Instr.typeAssert, run_underlying h, go_sem, Result.andThen]
attribute [local go_sem] eql54
set_option maxRecDepth 100000 in
set_option maxHeartbeats 1600000 in
theorem clone33 {w : World} {mb : Nat} {l : List Rw} (h : MapAt w mb l) :
    Calls Try.prog 33 #[.map (some mb)] w fun e w' => ∃ mb', e = .returned (.map (some mb')) ∧ MapAt w' mb' l ∧ w.heap.size ≤ mb' ∧ Below w.heap.size w w' := by
  obtain ⟨es, clock, hb, hrest⟩ := h.ex
  have HRest := Lib.hid hrest
  clear h hrest
  go_enter Try.func33, Try.ntmps33
  go_wp2
  rw [run_callFunc_extern Try.func41 (by kernel_rfl) (by kernel_rfl) (by kernel_rfl) (e := Extern.MapsClone.clone) (by kernel_rfl), run_clone_map w 54 hb]
  simp only [Result.andThen]
  rw [Oper.upon_value]
  go_wp2
  rw [run_assert_map _ 54 20 _ _ _ Try.underlying54]
  simp only [Result.andThen]
  rw [Oper.upon_value]
  go_wp2
  go_ret
  exact ⟨_, rfl, ⟨es, clock, heap_alloc_new w _, HRest.out⟩, Nat.le_refl _, (Below.refl _ w).alloc (Nat.le_refl _) _⟩
set_option maxHeartbeats 3200000 in
set_option maxRecDepth 100000 in
theorem TS.copy {K : Nat → Prop} {p : Nat} {most : Int} {l : List Rw} {w : World} (h : TS K p most l w) :
    Calls Try.prog 14 #[.pointer (some ⟨p, 0, none⟩)] w fun e w' => ∃ p', e = .returned (.pointer (some ⟨p', 0, none⟩)) ∧ TS (fun q => w.heap.size ≤ q ∧ q < w'.heap.size) p' most l w' ∧ Below w.heap.size w w' := by
  obtain ⟨ao, n, c, mb, g⟩ := h.ex
  have HN := Lib.hid g.isT
  have hn : n ≤ 100000 := by have := g.le; have := g.m1; omega
  have HT := Lib.hid g
  have HCP : Hid (∀ W', Below w.heap.size w W' → (W'.cell? ⟨p, 0, none⟩ = some (.slice ao n c) ∧ W'.cell? ⟨p, 1, none⟩ = some (.map (some mb)) ∧ W'.cell? ⟨p, 2, none⟩ = some (.int .i64 most)) ∧ p < W'.heap.size) := Lib.hid fun W' hW => by
    have q := (g.below hW).blk
    exact ⟨⟨cell_blk q 0 _ rfl, cell_blk q 1 _ rfl, cell_blk q 2 _ rfl⟩, blk_lt q⟩
  have HC1 : Hid (∀ W', Below w.heap.size w W' → Calls Try.prog 31 #[.slice ao n c] W' fun e w' => ∃ ao' c', e = .returned (.slice ao' n c') ∧ RowsIn (fun q => W'.heap.size ≤ q ∧ q < w'.heap.size) w' ao' n c' l ∧ Below W'.heap.size W' w') := Lib.hid fun W' hW => clone31 (g.below hW).rows hn
  have HC2 : Hid (∀ W', Below w.heap.size w W' → Calls Try.prog 33 #[.map (some mb)] W' fun e w' => ∃ mb', e = .returned (.map (some mb')) ∧ MapAt w' mb' l ∧ W'.heap.size ≤ mb' ∧ Below W'.heap.size W' w') := Lib.hid fun W' hW => clone33 (g.below hW).map
  clear h g
  go_enter Try.func14, Try.ntmps14
  go_upto_region 3 with (go_at_call 30; refine HN.out.mono ?_; rintro e w' ⟨rfl, rfl⟩)
  obtain ⟨wd, hwd⟩ : ∃ W, W = (w).drew := ⟨_, rfl⟩
  have HBd : Hid (Below (w).heap.size (w) wd) := Lib.hid (by rw [hwd]; exact Below.drewN' (w) 1)
  have hS0 : (fun W : World => Below w.heap.size w W) wd := by rw [hwd]; exact (Below.refl _ w).drew
  refine wp_region_held_drew (S := fun W => Below w.heap.size w W) (by kernel_rfl) (by rw [← hwd]; exact hS0) (fun hHeld => ?_)
  rw [← hwd] at hHeld ⊢
  clear hwd hS0
  refine' wpAnyH_take (i := 0) (oi := { dst := some 5, op := Op.move (Operand.tmp 0), type := 30, pos := "timer.go:162", after := #[], guard := none }) (v := ?v121001) rfl (by kernel_rfl) (by kernel_rfl) (by kernel_rfl) (fun _ _ _ h => h) (.inl ⟨by first | rfl | simp [Region.wanted, yielded], ?hy121001⟩) (by assumption) ?rest121001
  case hy121001 => (intro W hW; obtain ⟨⟨f1, f2, f3⟩, f4⟩ := HCP.out _ hW; go_simp; try with_reducible rfl)
  simp only [Act.put, List.setIfInBounds_toArray, List.set_cons_zero, List.set_cons_succ]
  refine' wpAnyH_take (i := 1) (oi := { dst := some 6, op := Op.nilCheck (Operand.tmp 5), type := 0, pos := "timer.go:162", after := #[{ on := 0, ground := Ground.data }], guard := none }) (v := ?v121002) rfl (by kernel_rfl) (by kernel_rfl) (by kernel_rfl) (fun _ _ _ h => h) (.inl ⟨by first | rfl | simp [Region.wanted, yielded], ?hy121002⟩) (by assumption) ?rest121002
  case hy121002 => (intro W hW; obtain ⟨⟨f1, f2, f3⟩, f4⟩ := HCP.out _ hW; go_simp; try with_reducible rfl)
  simp only [Act.put, List.setIfInBounds_toArray, List.set_cons_zero, List.set_cons_succ]
  refine' wpAnyH_take (i := 2) (oi := { dst := some 7, op := Op.fieldAddr 56 (Operand.tmp 6) 0, type := 0, pos := "timer.go:162", after := #[{ on := 1, ground := Ground.data }], guard := none }) (v := ?v121003) rfl (by kernel_rfl) (by kernel_rfl) (by kernel_rfl) (fun _ _ _ h => h) (.inl ⟨by first | rfl | simp [Region.wanted, yielded], ?hy121003⟩) (by assumption) ?rest121003
  case hy121003 => (intro W hW; obtain ⟨⟨f1, f2, f3⟩, f4⟩ := HCP.out _ hW; go_simp; try with_reducible rfl)
  simp only [Act.put, List.setIfInBounds_toArray, List.set_cons_zero, List.set_cons_succ]
  refine' wpAnyH_take (i := 3) (oi := { dst := some 8, op := Op.load 53 (Operand.tmp 7), type := 53, pos := "timer.go:162", after := #[{ on := 2, ground := Ground.data }], guard := none }) (v := ?v121004) rfl (by kernel_rfl) (by kernel_rfl) (by kernel_rfl) (fun _ _ _ h => h) (.inl ⟨by first | rfl | simp [Region.wanted, yielded], ?hy121004⟩) (by assumption) ?rest121004
  case hy121004 => (intro W hW; obtain ⟨⟨f1, f2, f3⟩, f4⟩ := HCP.out _ hW; go_simp; try with_reducible rfl)
  simp only [Act.put, List.setIfInBounds_toArray, List.set_cons_zero, List.set_cons_succ]
  refine' wpAnyH_take (i := 5) (oi := { dst := some 10, op := Op.move (Operand.tmp 0), type := 30, pos := "timer.go:162", after := #[], guard := none }) (v := ?v121005) rfl (by kernel_rfl) (by kernel_rfl) (by kernel_rfl) (fun _ _ _ h => h) (.inl ⟨by first | rfl | simp [Region.wanted, yielded], ?hy121005⟩) (by assumption) ?rest121005
  case hy121005 => (intro W hW; obtain ⟨⟨f1, f2, f3⟩, f4⟩ := HCP.out _ hW; go_simp; try with_reducible rfl)
  simp only [Act.put, List.setIfInBounds_toArray, List.set_cons_zero, List.set_cons_succ]
  refine' wpAnyH_take (i := 6) (oi := { dst := some 11, op := Op.nilCheck (Operand.tmp 10), type := 0, pos := "timer.go:162", after := #[{ on := 5, ground := Ground.data }], guard := none }) (v := ?v121006) rfl (by kernel_rfl) (by kernel_rfl) (by kernel_rfl) (fun _ _ _ h => h) (.inl ⟨by first | rfl | simp [Region.wanted, yielded], ?hy121006⟩) (by assumption) ?rest121006
  case hy121006 => (intro W hW; obtain ⟨⟨f1, f2, f3⟩, f4⟩ := HCP.out _ hW; go_simp; try with_reducible rfl)
  simp only [Act.put, List.setIfInBounds_toArray, List.set_cons_zero, List.set_cons_succ]
  refine' wpAnyH_take (i := 7) (oi := { dst := some 12, op := Op.fieldAddr 56 (Operand.tmp 11) 1, type := 0, pos := "timer.go:162", after := #[{ on := 6, ground := Ground.data }], guard := none }) (v := ?v121007) rfl (by kernel_rfl) (by kernel_rfl) (by kernel_rfl) (fun _ _ _ h => h) (.inl ⟨by first | rfl | simp [Region.wanted, yielded], ?hy121007⟩) (by assumption) ?rest121007
  case hy121007 => (intro W hW; obtain ⟨⟨f1, f2, f3⟩, f4⟩ := HCP.out _ hW; go_simp; try with_reducible rfl)
  simp only [Act.put, List.setIfInBounds_toArray, List.set_cons_zero, List.set_cons_succ]
  refine' wpAnyH_take (i := 8) (oi := { dst := some 13, op := Op.load 54 (Operand.tmp 12), type := 54, pos := "timer.go:162", after := #[{ on := 7, ground := Ground.data }], guard := none }) (v := ?v121008) rfl (by kernel_rfl) (by kernel_rfl) (by kernel_rfl) (fun _ _ _ h => h) (.inl ⟨by first | rfl | simp [Region.wanted, yielded], ?hy121008⟩) (by assumption) ?rest121008
  case hy121008 => (intro W hW; obtain ⟨⟨f1, f2, f3⟩, f4⟩ := HCP.out _ hW; go_simp; try with_reducible rfl)
  simp only [Act.put, List.setIfInBounds_toArray, List.set_cons_zero, List.set_cons_succ]
  refine' wpAnyH_take (i := 10) (oi := { dst := some 15, op := Op.move (Operand.tmp 0), type := 30, pos := "timer.go:162", after := #[], guard := none }) (v := ?v121009) rfl (by kernel_rfl) (by kernel_rfl) (by kernel_rfl) (fun _ _ _ h => h) (.inl ⟨by first | rfl | simp [Region.wanted, yielded], ?hy121009⟩) (by assumption) ?rest121009
  case hy121009 => (intro W hW; obtain ⟨⟨f1, f2, f3⟩, f4⟩ := HCP.out _ hW; go_simp; try with_reducible rfl)
  simp only [Act.put, List.setIfInBounds_toArray, List.set_cons_zero, List.set_cons_succ]
  refine' wpAnyH_take (i := 11) (oi := { dst := some 16, op := Op.nilCheck (Operand.tmp 15), type := 0, pos := "timer.go:162", after := #[{ on := 10, ground := Ground.data }], guard := none }) (v := ?v121010) rfl (by kernel_rfl) (by kernel_rfl) (by kernel_rfl) (fun _ _ _ h => h) (.inl ⟨by first | rfl | simp [Region.wanted, yielded], ?hy121010⟩) (by assumption) ?rest121010
  case hy121010 => (intro W hW; obtain ⟨⟨f1, f2, f3⟩, f4⟩ := HCP.out _ hW; go_simp; try with_reducible rfl)
  simp only [Act.put, List.setIfInBounds_toArray, List.set_cons_zero, List.set_cons_succ]
  refine' wpAnyH_take (i := 12) (oi := { dst := some 17, op := Op.fieldAddr 56 (Operand.tmp 16) 2, type := 0, pos := "timer.go:162", after := #[{ on := 11, ground := Ground.data }], guard := none }) (v := ?v121011) rfl (by kernel_rfl) (by kernel_rfl) (by kernel_rfl) (fun _ _ _ h => h) (.inl ⟨by first | rfl | simp [Region.wanted, yielded], ?hy121011⟩) (by assumption) ?rest121011
  case hy121011 => (intro W hW; obtain ⟨⟨f1, f2, f3⟩, f4⟩ := HCP.out _ hW; go_simp; try with_reducible rfl)
  simp only [Act.put, List.setIfInBounds_toArray, List.set_cons_zero, List.set_cons_succ]
  refine' wpAnyH_take (i := 13) (oi := { dst := some 18, op := Op.load 3 (Operand.tmp 17), type := 3, pos := "timer.go:162", after := #[{ on := 12, ground := Ground.data }], guard := none }) (v := ?v121012) rfl (by kernel_rfl) (by kernel_rfl) (by kernel_rfl) (fun _ _ _ h => h) (.inl ⟨by first | rfl | simp [Region.wanted, yielded], ?hy121012⟩) (by assumption) ?rest121012
  case hy121012 => (intro W hW; obtain ⟨⟨f1, f2, f3⟩, f4⟩ := HCP.out _ hW; go_simp; try with_reducible rfl)
  simp only [Act.put, List.setIfInBounds_toArray, List.set_cons_zero, List.set_cons_succ]
  refine wpAnyH_ready (rs := [4]) (by kernel_rfl) (by simp) ?_
  refine AllReadyH.cons (o := { dst := some 9, op := Op.call { callee := Callee.value (Operand.func 31), args := #[Operand.tmp 8], argTypes := #[53] }, type := 53, pos := "timer.go:162", after := #[{ on := 3, ground := Ground.data }], guard := none }) rfl (fun KK hK => ?_) (AllReadyH.nil)
  try simp only [List.getElem_toArray, List.getElem_cons_succ, List.getElem_cons_zero]
  go_simp
  refine (HC1.out _ hHeld).mono ?_
  rintro e z1 ⟨ao', c', rfl, hr, hb⟩
  have hHeld1 : (fun W : World => Below w.heap.size w W) z1 := hHeld.trans (hb.mono hHeld.size)
  have HR1 : Hid (RowsIn (fun q => w.heap.size ≤ q ∧ q < z1.heap.size) z1 ao' n c' l) := Lib.hid (hr.keep (fun q e => ⟨Nat.le_trans hHeld.size e.1, e.2⟩) fun _ _ _ => rfl)
  clear hr hb hHeld
  refine hK.out _ _ (by assumption) (fun hHeld => ?_)
  clear hK KK
  try simp only [Act.put, List.setIfInBounds_toArray, List.set_cons_zero, List.set_cons_succ]
  refine wpAnyH_ready (rs := [9]) (by kernel_rfl) (by simp) ?_
  refine AllReadyH.cons (o := { dst := some 14, op := Op.call { callee := Callee.value (Operand.func 33), args := #[Operand.tmp 13], argTypes := #[54] }, type := 54, pos := "timer.go:162", after := #[{ on := 8, ground := Ground.data }, { on := 4, ground := Ground.chain }], guard := none }) rfl (fun KK hK => ?_) (AllReadyH.nil)
  try simp only [List.getElem_toArray, List.getElem_cons_succ, List.getElem_cons_zero]
  go_simp
  refine (HC2.out _ hHeld1).mono ?_
  rintro e z2 ⟨mb', rfl, hm, hmb, hb⟩
  have hHeld2 : (fun W : World => Below w.heap.size w W) z2 := hHeld1.trans (hb.mono hHeld1.size)
  have HR2 : Hid (RowsIn (fun q => w.heap.size ≤ q ∧ q < z2.heap.size) z2 ao' n c' l) := Lib.hid (HR1.out.keep (fun q e => ⟨e.1, Nat.lt_of_lt_of_le e.2 hb.size⟩) fun q _ hl => hb.block q hl)
  have HM2 : Hid (MapAt z2 mb' l ∧ w.heap.size ≤ mb') := Lib.hid ⟨hm, Nat.le_trans hHeld1.size hmb⟩
  clear hm hmb hb hHeld1
  refine hK.out _ _ (by assumption) (fun hHeld => ?_)
  clear hK KK
  try simp only [Act.put, List.setIfInBounds_toArray, List.set_cons_zero, List.set_cons_succ]
  refine' wpAnyH_take (i := 14) (oi := { dst := some 19, op := Op.build 56 #[(0, Operand.tmp 9), (1, Operand.tmp 14), (2, Operand.tmp 18)], type := 56, pos := "timer.go:162", after := #[{ on := 4, ground := Ground.data }, { on := 9, ground := Ground.data }, { on := 13, ground := Ground.data }], guard := none }) (v := ?v121013) rfl (by kernel_rfl) (by kernel_rfl) (by kernel_rfl) (fun _ _ _ h => h) (.inl ⟨by first | rfl | simp [Region.wanted, yielded], ?hy121013⟩) (by assumption) ?rest121013
  case hy121013 => (intro W hW; obtain ⟨⟨f1, f2, f3⟩, f4⟩ := HCP.out _ hW; go_simp; try with_reducible rfl)
  simp only [Act.put, List.setIfInBounds_toArray, List.set_cons_zero, List.set_cons_succ]
  refine wpAnyH_ready (rs := [15]) (by kernel_rfl) (by simp) ?_
  refine AllReadyH.cons (o := { dst := some 20, op := Op.box 56 (Operand.tmp 19), type := 30, pos := "timer.go:162", after := #[{ on := 14, ground := Ground.data }], guard := none }) rfl (fun KK hK => ?_) (AllReadyH.nil)
  try simp only [List.getElem_toArray, List.getElem_cons_succ, List.getElem_cons_zero]
  obtain ⟨z3, hz3⟩ : ∃ Y, Y = z2.alloc (.cells #[.slice ao' n c', .map (some mb'), .int .i64 most] 56) := ⟨_, rfl⟩
  obtain ⟨p', hp'⟩ : ∃ Y, Y = z2.heap.size := ⟨_, rfl⟩
  go_simp
  rw [← hz3, ← hp']
  have hb3 : Below z2.heap.size z2 z3 := by rw [hz3]; exact (Below.refl _ z2).alloc (Nat.le_refl _) _
  have hk3 : z3.heap[p']? = some (.cells #[.slice ao' n c', .map (some mb'), .int .i64 most] 56 (0, 0)) := by rw [hz3, hp']; exact alloc_blk_new _ _
  have hHeld3 : (fun W : World => Below w.heap.size w W) z3 := hHeld2.trans (hb3.mono hHeld2.size)
  have HK3 := Lib.hid hk3
  have HP3 : Hid (w.heap.size ≤ p') := Lib.hid (by rw [hp']; exact hHeld2.size)
  have HR3 : Hid (RowsIn (fun q => w.heap.size ≤ q ∧ q < z3.heap.size) z3 ao' n c' l) := Lib.hid (HR2.out.keep (fun q e => ⟨e.1, Nat.lt_of_lt_of_le e.2 hb3.size⟩) fun q _ hl => hb3.block q hl)
  have HM3 : Hid (MapAt z3 mb' l ∧ w.heap.size ≤ mb') := Lib.hid ⟨HM2.out.1.of_block (hb3.block _ HM2.out.1.lt), HM2.out.2⟩
  have HL3 := Lib.hid (blk_lt hk3)
  clear hz3 hp' hb3 hk3 hHeld2
  refine hK.out _ _ (by assumption) (fun hHeld => ?_)
  clear hK KK
  try simp only [Act.put, List.setIfInBounds_toArray, List.set_cons_zero, List.set_cons_succ]
  refine' wpAnyH_take (i := 16) (oi := { dst := some 2, op := Op.assign (Operand.tmp 20), type := 30, pos := "timer.go:162", after := #[{ on := 15, ground := Ground.data }, { on := 9, ground := Ground.chain }, { on := 0, ground := Ground.phase }, { on := 1, ground := Ground.phase }, { on := 2, ground := Ground.phase }, { on := 3, ground := Ground.phase }, { on := 4, ground := Ground.phase }, { on := 5, ground := Ground.phase }, { on := 6, ground := Ground.phase }, { on := 7, ground := Ground.phase }, { on := 8, ground := Ground.phase }, { on := 9, ground := Ground.phase }, { on := 10, ground := Ground.phase }, { on := 11, ground := Ground.phase }, { on := 12, ground := Ground.phase }, { on := 13, ground := Ground.phase }, { on := 14, ground := Ground.phase }, { on := 15, ground := Ground.phase }], guard := none }) (v := ?v121014) rfl (by kernel_rfl) (by kernel_rfl) (by kernel_rfl) (fun _ _ _ h => h) (.inl ⟨by first | rfl | simp [Region.wanted, yielded], ?hy121014⟩) (by assumption) ?rest121014
  case hy121014 => (intro W hW; obtain ⟨⟨f1, f2, f3⟩, f4⟩ := HCP.out _ hW; go_simp; try with_reducible rfl)
  simp only [Act.put, List.setIfInBounds_toArray, List.set_cons_zero, List.set_cons_succ]
  refine wpAnyH_done (by kernel_rfl) ?_ _
  go_wp2
  refine bodyPost_ret (v := .pointer (some ⟨p', 0, none⟩)) (by simp [results, Try.f14, go_sem]) rfl ⟨p', rfl, ⟨ao', n, c', mb', ⟨HK3.out, HM3.out.1, HR3.out, ⟨HP3.out, HL3.out⟩, ⟨HM3.out.2, HM3.out.1.lt⟩, HT.out.srt, HT.out.m0, HT.out.m1, HT.out.le⟩⟩, hHeld3⟩
end Go.Proofs.Ytnmbhcekcdicnaa
