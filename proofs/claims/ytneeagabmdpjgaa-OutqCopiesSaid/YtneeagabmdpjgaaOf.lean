/-
  A queue of frames: Push.
-/
import Derived.Test.YtneeagabmdpjgaaOe
import Derived.Deep.RegionHeld3
namespace Go.Proofs.Ytneeagabmdpjgaa
open Go.RowKit
set_option linter.unusedVariables false
set_option linter.unusedSimpArgs false

/-- A row of lengths, read. -/
theorem row_nar {w : World} {base : Nat} {a : Option Addr} {n c : Nat} {xs : List Int} (h : w.ownsRow base 3 1 (.slice a n c) n (xs.map (.int .i64))) : Nar (fun k => base ≤ k) w a n xs ∧ (a = none → n = 0 ∧ c = 0) := by
  have hl : xs.length = n := by simpa using h.1
  refine ⟨⟨hl, fun hp => ?_⟩, fun e => ?_⟩
  · obtain ⟨b, e, ha⟩ := row_window3 h 0 n (by omega) hp
    obtain ⟨_, h2⟩ := ha
    obtain ⟨b', off, e', hb, hT, hc⟩ := h2 hp
    subst e
    cases e'
    exact ⟨b, 0, rfl, hb, (h.lt b rfl).1, fun j hj => by have := hc j hj; rw [this]; simp [List.getD, List.getElem?_take_of_lt hj]⟩
  · subst e
    rcases h.2 with ⟨e, _⟩ | ⟨g', c', cur, e, _⟩
    · injection e with e1 e2 e3
      exact ⟨e2, e3⟩
    · cases e
/-- Behind a turn of some of the blocks that are none of its own. -/
theorem QS.turn2 {w wr w' : World} {K S : Nat → Prop} {p : Nat} {m : Int} {bs : List Int} (h : QS w K p m bs wr) (hm : Mod S wr w') (hS : ∀ k, S k → K k) (hk : ∀ k, S k → w.heap.size ≤ k) : QS w (More K wr w') p m bs w' := by
  obtain ⟨sv, g, vs, hq, hK⟩ := h.qu
  refine ⟨(Mod.trans (S := fun k => w.heap.size ≤ k) (Mod.of_below h.below _) hm (fun k _ e => hk k e)).below (fun k hk => by omega), ⟨sv, g, vs, hq.mod hm (fun k hf e => hK k (hS k e) hf), fun k e hf => ?_⟩, fun k e => ?_⟩
  · rcases e with e | e
    · exact hK k e hf
    · have := (hq.at_.fplt hf).2; omega
  · rcases e with e | e
    · exact Nat.lt_of_lt_of_le (h.klt k e) hm.size
    · exact e.2
theorem OS.turn2 {w wr w' : World} {K S : Nat → Prop} {p : Nat} {m part : Int} {fs bs : List Int} (h : OS w K p m fs part bs wr) (hm : Mod S wr w') (hS : ∀ k, S k → K k) (hk : ∀ k, S k → w.heap.size ≤ k) : OS w (More K wr w') p m fs part bs w' := by
  obtain ⟨sv, g, q, vs, h1, h2, h3, h4, h5, h6⟩ := h.at_
  have hq := h5.turn2 hm (fun k e => .inl (hS k e)) hk
  refine ⟨⟨sv, g, q, vs, h1.mod hm (fun k hf e => h6 k (hS k e) hf), h2, h3, h4, hq.mono fun k e => ?_, fun k e hf => ?_⟩, fun k e => ?_, h.inv⟩
  · rcases e with (e | e) | e
    · exact .inl (.inl e)
    · exact .inr e
    · exact .inl (.inr e)
  · rcases e with e | e
    · exact h6 k e hf
    · have := (h1.fplt hf).2; omega
  · rcases e with e | e
    · exact Nat.lt_of_lt_of_le (h.klt k e) hm.size
    · exact e.2
section
variable {w wr : World} {K : Nat → Prop} {p : Nat} {m part : Int} {fs bs : List Int}
set_option maxHeartbeats 1600000 in
theorem OS.push_empty {T : Nat → Prop} (h : OS w K p m fs part bs wr) (pa : Option Addr) (pc n : Nat) (ls : List (List Int)) (hn : ls.length = n) (hln : n ≤ 1000) (hP : Parts T wr pa ls) (he : ∃ l ∈ ls, l = []) :
    Calls Try.prog 11 #[.pointer (some ⟨p, 0, none⟩), .slice pa n pc] wr fun e w' => e = .returned (.int .i64 2) ∧ wr = w' := by
  obtain ⟨sv, g, q, vs, h1, _⟩ := h.at_
  have HN := Lib.hid (none_o p q wr h1.c3)
  have HC := Lib.hid (contains_any T pa pc n ls wr hn hln hP true ⟨fun _ => he, fun _ => rfl⟩)
  clear h h1 hP he hn
  go_enter Try.func11, Try.ntmps11
  go_wp2
  refine wp_scope_fwd 0 rfl ?_
  go_wp2_with (first | (go_at_call 28; refine HN.out.mono ?_; rintro e w' ⟨rfl, rfl⟩) | (go_at_call 29; refine HC.out.mono ?_; rintro e w' ⟨rfl, rfl⟩))
  refine wp_goto ?_
  refine ⟨rfl, ?_⟩
  go_wp2
  rw [Exit.noGoto_ret]
  go_ret
  exact ⟨rfl, rfl⟩
set_option maxHeartbeats 1600000 in
theorem OS.push_no (h : OS w K p m fs part bs wr) (pa : Option Addr) (pc n : Nat) (ls : List (List Int)) (hn : ls.length = n) (hln : n ≤ 1000) (hfl : ls.flatten.length ≤ 1000000) (hP : Parts (fun k => k < w.heap.size ∨ K k) wr pa ls) (he : ¬ ∃ l ∈ ls, l = []) (hf : m < (bs.length : Int) + ls.flatten.length) :
    Calls Try.prog 11 #[.pointer (some ⟨p, 0, none⟩), .slice pa n pc] wr fun e w' => e = .returned (.int .i64 120) ∧ OS w K p m fs part bs w' ∧ Mod (fun k => ¬ K k ∧ w.heap.size ≤ k) wr w' := by
  obtain ⟨sv, g, q, vs, h1, h2, h3, h4, h5, h6⟩ := h.at_
  have HN := Lib.hid (none_o p q wr h1.c3)
  have HC := Lib.hid (contains_any _ pa pc n ls wr hn hln hP false ⟨fun e => (by cases e), fun e => absurd e he⟩)
  have HQ := Lib.hid (h5.push_no pa pc n ls hn (by omega) hfl (hP.mono fun k _ hk => hk.imp id .inl) hf)
  have HH := Lib.hid h
  have H1 := Lib.hid h1
  have H6 := Lib.hid (And.intro h2 (And.intro h3 (And.intro h4 h6)))
  have c3 := h1.c3
  clear h h1 h2 h3 h4 h5 h6 hP he hn hf
  go_enter Try.func11, Try.ntmps11
  go_wp2
  refine wp_scope_fwd 0 rfl ?_
  go_wp2_with (first | (go_at_call 28; refine HN.out.mono ?_; rintro e w' ⟨rfl, rfl⟩) | (go_at_call 29; refine HC.out.mono ?_; rintro e w' ⟨rfl, rfl⟩) | (go_at_call 31; refine HQ.out.mono ?_; rintro e w2 ⟨rfl, hp⟩; have HP2 := Lib.hid hp; clear hp))
  refine wp_goto ?_
  refine ⟨rfl, ?_⟩
  go_wp2
  rw [Exit.noGoto_ret]
  go_ret
  obtain ⟨hq, hm⟩ := HP2.out
  obtain ⟨h2, h3, h4, h6⟩ := H6.out
  exact ⟨rfl, ⟨⟨sv, g, q, vs, H1.out.mod hm (fun k hf e => e.1 (.inr hf)), h2, h3, h4, hq, h6⟩, fun k hk => Nat.lt_of_lt_of_le (HH.out.klt k hk) hm.size, HH.out.inv⟩, hm.mono fun k _ e => ⟨fun e' => e.1 (.inl e'), e.2⟩⟩
set_option maxHeartbeats 3200000 in
set_option maxRecDepth 100000 in
theorem OS.push_ok (h : OS w K p m fs part bs wr) (pa : Option Addr) (pc n : Nat) (ls : List (List Int)) (hn : ls.length = n) (hln : n ≤ 1000) (hfl : ls.flatten.length ≤ 1000000) (hP : Parts (fun k => k < w.heap.size ∨ K k) wr pa ls) (he : ¬ ∃ l ∈ ls, l = []) (hf : (bs.length : Int) + ls.flatten.length ≤ m) (fs' bs' : List Int) (hfs : fs ++ lens ls = fs') (hbs : bs ++ ls.flatten = bs') :
    Calls Try.prog 11 #[.pointer (some ⟨p, 0, none⟩), .slice pa n pc] wr fun e w' => e = .returned (.int .i64 0) ∧ OS w K p m fs' part bs' w' ∧ Mod (fun k => ¬ K k ∧ w.heap.size ≤ k) wr w' := by
  obtain ⟨hm0, hm1, hbm⟩ := h.bounds
  have hinv := h.inv.push ls he (by omega)
  have hlen := h.inv.len
  rw [hfs, hbs] at hinv
  obtain ⟨sv, g, q, vs, h1, h2, h3, h4, h5, h6⟩ := h.at_
  have HN := Lib.hid (none_o p q wr h1.c3)
  have HC := Lib.hid (contains_any _ pa pc n ls wr hn hln hP false ⟨fun e => (by cases e), fun e => absurd e he⟩)
  have HQ := Lib.hid (h5.push_ok pa pc n ls hn (by omega) hfl (hP.mono fun k _ hk => hk.imp id .inl) hf bs' hbs)
  have hlo : w.heap.size ≤ wr.heap.size := h.below.size
  have hl1 : ∀ l ∈ ls, l.length ≤ 1099511627776 := fun l hl => by
    have : l.length ≤ ls.flatten.length := (List.sublist_flatten_of_mem hl).length_le
    omega
  have HLe : Hid (∀ W, Mod (fun k => ¬ (K k ∨ FP p sv k) ∧ w.heap.size ≤ k) wr W → Calls Try.prog 33 #[.slice none 0 0, .func (.func 34) #[] #[], .slice pa n pc] W fun e w' => ∃ a c, e = .returned (.slice a n c) ∧ w'.ownsRow W.heap.size 3 1 (.slice a n c) n ((lens ls).map (.int .i64)) ∧ Below W.heap.size W w') := Lib.hid fun W hW => lens_any _ pa pc n ls W hn hln (hP.mod hW fun k hk e => hk.elim (fun h => by omega) (fun h => e.1 (.inl h))) hl1
  have hfsl : vs.length - g = fs.length := by rw [← h4, List.length_drop]
  have HLl := Lib.hid (And.intro hfsl (And.intro hlen hbm))
  have HH := Lib.hid h
  have H1 := Lib.hid h1
  have H6 := Lib.hid (And.intro h2 (And.intro h3 (And.intro h4 h6)))
  have HI := Lib.hid hinv
  have HFS := Lib.hid hfs
  have c3 := h1.c3
  have lp := h1.lt
  clear h h1 h2 h3 h4 h5 h6 hP he hn hf hl1 hfsl hlen hbm hinv hfs hbs
  go_enter Try.func11, Try.ntmps11
  go_wp2
  refine wp_scope_straight ?_
  go_wp2_with (first | (go_at_call 28; refine HN.out.mono ?_; rintro e w' ⟨rfl, rfl⟩) | (go_at_call 29; refine HC.out.mono ?_; rintro e w' ⟨rfl, rfl⟩) | (go_at_call 31; refine HQ.out.mono ?_; rintro e w2 ⟨rfl, hp⟩; have HP2 := Lib.hid hp; clear hp))
  clear HQ HN HC c3
  obtain ⟨wd, hwd⟩ : ∃ W, W = w2.drew := ⟨_, rfl⟩
  have HD : Hid (Below w2.heap.size w2 wd) := Lib.hid (by rw [hwd]; exact Below.drewN' w2 1)
  refine wp_region_held_drew (S := fun W => True) (by kernel_rfl) trivial (fun hHeld => ?_)
  rw [← hwd]
  have hTriv : True := trivial
  clear hwd
  refine' wpAnyH_take (i := 0) (oi := { dst := some 17, op := Op.move (Operand.tmp 0), type := 25, pos := "outq.go:78", after := #[], guard := none }) (v := ?v1) rfl (by kernel_rfl) (by kernel_rfl) (by kernel_rfl) (fun _ _ _ h => h) (.inl ⟨by first | rfl | simp [Region.wanted, yielded], ?hy1⟩) (by assumption) ?rest1
  case hy1 => (intro W hW; go_simp; try with_reducible rfl)
  simp only [Act.put, List.setIfInBounds_toArray, List.set_cons_zero, List.set_cons_succ]
  refine' wpAnyH_take (i := 1) (oi := { dst := some 18, op := Op.nilCheck (Operand.tmp 17), type := 0, pos := "outq.go:78", after := #[{ on := 0, ground := Ground.data }], guard := none }) (v := ?v2) rfl (by kernel_rfl) (by kernel_rfl) (by kernel_rfl) (fun _ _ _ h => h) (.inl ⟨by first | rfl | simp [Region.wanted, yielded], ?hy2⟩) (by assumption) ?rest2
  case hy2 => (intro W hW; go_simp; try with_reducible rfl)
  simp only [Act.put, List.setIfInBounds_toArray, List.set_cons_zero, List.set_cons_succ]
  refine' wpAnyH_take (i := 2) (oi := { dst := some 19, op := Op.fieldAddr 63 (Operand.tmp 18) 0, type := 0, pos := "outq.go:78", after := #[{ on := 1, ground := Ground.data }], guard := none }) (v := ?v3) rfl (by kernel_rfl) (by kernel_rfl) (by kernel_rfl) (fun _ _ _ h => h) (.inl ⟨by first | rfl | simp [Region.wanted, yielded], ?hy3⟩) (by assumption) ?rest3
  case hy3 => (intro W hW; go_simp; try with_reducible rfl)
  simp only [Act.put, List.setIfInBounds_toArray, List.set_cons_zero, List.set_cons_succ]
  refine' wpAnyH_take (i := 3) (oi := { dst := some 20, op := Op.move (Operand.tmp 1), type := 30, pos := "outq.go:78", after := #[], guard := none }) (v := ?v4) rfl (by kernel_rfl) (by kernel_rfl) (by kernel_rfl) (fun _ _ _ h => h) (.inl ⟨by first | rfl | simp [Region.wanted, yielded], ?hy4⟩) (by assumption) ?rest4
  case hy4 => (intro W hW; go_simp; try with_reducible rfl)
  simp only [Act.put, List.setIfInBounds_toArray, List.set_cons_zero, List.set_cons_succ]
  refine wpAnyH_ready (rs := [4]) (by kernel_rfl) (by simp) ?_
  refine AllReadyH.cons (o := { dst := some 21, op := Op.call { callee := Callee.value (Operand.func 33), args := #[Operand.const (Value.slice none 0 0), Operand.func 34, Operand.tmp 20], argTypes := #[50, 72, 30] }, type := 50, pos := "outq.go:78", after := #[{ on := 3, ground := Ground.data }], guard := none }) rfl (fun K hK => ?_) (AllReadyH.nil)
  try simp only [List.getElem_toArray, List.getElem_cons_succ, List.getElem_cons_zero]
  go_simp
  refine (HLe.out _ (HP2.out.2.trans (Mod.of_below HD.out _) (fun _ _ e => e))).mono ?_
  rintro e w3 ⟨a, c, rfl, hrow, hb3⟩
  obtain ⟨hnar, hnn⟩ := row_nar hrow
  have hq3 := H1.out.mod (HP2.out.2.trans (Mod.of_below (HD.out.trans (hb3.mono HD.out.size)) _) (fun _ _ e => e)) (fun k hf e => e.1 (.inr hf))
  obtain ⟨h2, h3, h4, h6⟩ := H6.out
  obtain ⟨l1, l2, l3⟩ := HLl.out
  have hll := lens_len ls
  have hsz : wr.heap.size ≤ wd.heap.size := Nat.le_trans HP2.out.2.size HD.out.size
  have HPt := Lib.hid (oput_any _ p g q part m sv vs a c n (lens ls) w3 hq3 h2 h3 (by omega) hnar (fun k hk hf => by have := (H1.out.fplt hf).2; have hk' : wd.heap.size ≤ k := hk; omega) hnn)
  have HB3 := Lib.hid hb3
  have HNL : Hid ((lens ls).length = n) := Lib.hid hnar.1
  clear hrow hb3 hnar hnn hq3 h2 h3 h4 h6 l1 l2 l3 hll hsz
  refine hK.out _ _ (by assumption) (fun hHeld => ?_)
  clear hK K
  try simp only [Act.put, List.setIfInBounds_toArray, List.set_cons_zero, List.set_cons_succ]
  refine wpAnyH_ready (rs := [5]) (by kernel_rfl) (by simp) ?_
  refine AllReadyH.cons (o := { dst := some 22, op := Op.call { callee := Callee.value (Operand.func 32), args := #[Operand.tmp 19, Operand.tmp 21], argTypes := #[60, 50] }, type := 0, pos := "outq.go:78", after := #[{ on := 2, ground := Ground.data }, { on := 4, ground := Ground.data }, { on := 4, ground := Ground.chain }], guard := none }) rfl (fun K hK => ?_) (AllReadyH.nil)
  try simp only [List.getElem_toArray, List.getElem_cons_succ, List.getElem_cons_zero]
  go_simp
  refine HPt.out.mono ?_
  rintro e w4 ⟨rfl, hput⟩
  have HPU := Lib.hid hput
  clear hput HPt
  refine hK.out _ _ (by assumption) (fun hHeld => ?_)
  clear hK K
  try simp only [Act.put, List.setIfInBounds_toArray, List.set_cons_zero, List.set_cons_succ]
  refine wpAnyH_done (by kernel_rfl) ?_ _
  go_wp2
  rw [Exit.noGoto_ret]
  go_ret
  obtain ⟨sv', g', vs', q1, q2, q3, q4, q5⟩ := HPU.out
  obtain ⟨hq, hm⟩ := HP2.out
  obtain ⟨h2, h3, h4, h6⟩ := H6.out
  obtain ⟨l1, l2, l3⟩ := HLl.out
  have hb23 : Below w2.heap.size w2 w3 := HD.out.trans (HB3.out.mono HD.out.size)
  have hq3 := hq.grow hb23
  have hm4 := q5.mod
  have hq4 := hq3.turn2 hm4 (fun k hf => .inl (.inr hf)) (fun k hf => (H1.out.fplt hf).1)
  have hs2 := hm.size
  have hs3 := hb23.size
  have hnl := HNL.out
  refine ⟨rfl, ⟨⟨sv', g', q, vs', q1, q2, by omega, by rw [q3, h4]; exact HFS.out, hq4.mono fun k hk => ?_, fun k hk hf => ?_⟩, fun k hk => by have := HH.out.klt k hk; have := hm4.size; omega, HI.out⟩, (((hm.mono fun k _ e => ⟨fun e' => e.1 (.inl e'), e.2⟩).trans (Mod.of_below hb23 _) (fun _ _ e => e)).trans hm4 (fun k _ hf => ⟨fun e => h6 k e hf, (H1.out.fplt hf).1⟩))⟩
  · rcases hk with hk | hf
    · exact .inl (.inl (.inl hk))
    · rcases q5.fp k hf with hf' | hf'
      · exact .inl (.inl (.inr hf'))
      · exact .inr ⟨hf', (q1.fplt hf).2⟩
  · rcases q5.fp k hf with hf' | hf'
    · exact h6 k hk hf'
    · have := HH.out.klt k hk
      omega
end
end Go.Proofs.Ytneeagabmdpjgaa
