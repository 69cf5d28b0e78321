/-
  maps.Equal of two maps of timers.
-/
import Derived.Test.YtnmbhcekcdicnaaCp
import Derived.Maps.RangeRun
namespace Go.Proofs.Ytnmbhcekcdicnaa
open Go.RowKit Go.ChangeMaps
set_option linter.unusedVariables false
set_option linter.unusedSimpArgs false

theorem sub_of : ∀ {l2 l1 : List Rw}, l1.Pairwise (fun a b => lt a b = true) → l2.Pairwise (fun a b => lt a b = true) → (∀ r ∈ l1, r ∈ l2) → l1.Sublist l2
  | [], l1, _, _, hs => by
    cases l1 with
    | nil => exact List.Sublist.slnil
    | cons a t => have := hs a (by simp); simp at this
  | b :: s, l1, h1, h2, hs => by
    cases l1 with
    | nil => exact List.nil_sublist _
    | cons a t =>
      have h1' := h1
      rw [List.pairwise_cons] at h1 h2
      by_cases e : a = b
      · subst e
        refine List.Sublist.cons_cons a (sub_of h1.2 h2.2 fun r hr => ?_)
        rcases List.mem_cons.1 (hs r (by simp [hr])) with g | g
        · have := h1.1 r hr
          rw [g, lt_irrefl] at this
          cases this
        · exact g
      · refine List.Sublist.cons b (sub_of h1' h2.2 fun r hr => ?_)
        have ha : a ∈ s := by
          rcases List.mem_cons.1 (hs a (by simp)) with g | g
          · exact absurd g e
          · exact g
        have hba := h2.1 a ha
        rcases List.mem_cons.1 (hs r hr) with g | g
        · rcases List.mem_cons.1 hr with q | q
          · exact absurd (q.symm.trans g) e
          · have h3 := h1.1 r q
            rw [g] at h3
            have := lt_trans hba h3
            rw [lt_irrefl] at this
            cases this
        · exact g
theorem srt_eq {l1 l2 : List Rw} (h1 : Srt l1) (h2 : Srt l2) (hn : l1.length = l2.length) (hs : ∀ r ∈ l1, r ∈ l2) : l1 = l2 :=
  (sub_of h1.o h2.o hs).eq_of_length hn
theorem MapAt.len_ {W : World} {b : Nat} {l : List Rw} (h : MapAt W b l) (ty : TypeId) : (Builtin.len_ #[54] ty #[.map (some b)]).run Try.prog W = .ok (.int .i64 l.length) W := by
  obtain ⟨es, clock, hb, hs, _⟩ := h.ex
  rw [← hs]
  simp [Builtin.len_, run_underlying Try.underlying54, MapKept.run_getObj_map hb]
  rfl
set_option maxRecDepth 100000 in
set_option maxHeartbeats 3200000 in
theorem equal34 {w : World} {m1 m2 : Nat} {l1 l2 : List Rw} (h1 : MapAt w m1 l1) (h2 : MapAt w m2 l2) (s1 : Srt l1) (s2 : Srt l2) :
    Calls Try.prog 34 #[.map (some m1), .map (some m2)] w fun e w' => e = .returned (.bool (decide (l1 = l2))) ∧ Below w.heap.size w w' := by
  obtain ⟨R, hR⟩ : ∃ R, R = decide (l1 = l2) := ⟨_, rfl⟩
  rw [← hR]
  obtain ⟨n1, hn1⟩ : ∃ n, n = l1.length := ⟨_, rfl⟩
  obtain ⟨n2, hn2⟩ : ∃ n, n = l2.length := ⟨_, rfl⟩
  have len1 := h1.len_
  have len2 := h2.len_
  rw [← hn1] at len1
  rw [← hn2] at len2
  by_cases hne : n1 = n2
  · have e1 : ((n1 : Int) != (n2 : Int)) = false := by simp [hne]
    obtain ⟨es, clock, hb, hs, hm, ha, hp, hbo, hnd⟩ := h1.ex
    have hrg := run_range_map (P := Try.prog) w 54 26 24 m1 es clock Try.underlying54 hb
    have HL : Hid (∀ W, Below w.heap.size w W → ∀ k i, -9223372036854775808 ≤ k → k ≤ 9223372036854775807 → 0 ≤ i → i ≤ 18446744073709551615 → (Instr.lookup 54 (.map (some m2)) (tmV k i) true).run Try.prog W = .ok (.tuple #[.int .u64 ((dueOf l2 k i).getD 0), .bool (dueOf l2 k i).isSome]) W) :=
      Lib.hid fun W hW k i k0 k1 i0 i1 => (h2.of_block (hW.block _ h2.lt)).look s2 k0 k1 i0 i1
    have HB := Lib.hid hb
    have HM := Lib.hid hm
    have HBO := Lib.hid hbo
    have HND := Lib.hid hnd
    have HRR := Lib.hid hR
    have HAll : Hid ((∀ x ∈ es.toList, ∃ r ∈ l2, x.key = tmV r.k r.i ∧ x.val = .int .u64 r.d) → l1 = l2) := Lib.hid fun hg => by
      refine srt_eq s1 s2 (by omega) fun r hr => ?_
      obtain ⟨x, hx, hxk⟩ := ha r hr
      obtain ⟨r', hr', e1', e2'⟩ := hg x hx
      obtain ⟨r'', hr'', e3, e4⟩ := hm x hx
      have hk : r''.k = r.k ∧ r''.i = r.i := by rw [← tmV_inj, ← e3, hxk]
      have hk2 : r'.k = r.k ∧ r'.i = r.i := by rw [← tmV_inj, ← e1', hxk]
      have hd1 := dueOf_mem s1 hr''
      have hd2 := dueOf_mem s1 hr
      rw [hk.1, hk.2, hd2] at hd1
      have hd3 : r'.d = r''.d := by rw [e2'] at e4; injection e4
      have : r' = r := by
        obtain ⟨a, b, c⟩ := r
        obtain ⟨a', b', c'⟩ := r'
        simp only [Option.some.injEq] at hd1
        simp only at hk2 hd3
        rw [hk2.1, hk2.2, hd3, ← hd1]
      rw [← this]
      exact hr'
    have HS1 := Lib.hid s1
    have HS2 := Lib.hid s2
    have hlt1 := blk_lt hb
    have HLT := Lib.hid hlt1
    clear h1 h2 hn1 hn2 hs hm ha hp hbo hnd hR hlt1
    go_enter Try.func34, Try.ntmps34
    go_wp2
    obtain ⟨u, hu⟩ : ∃ W, W = w.alloc (.mapIter (some m1) clock #[] clock) := ⟨_, rfl⟩
    obtain ⟨r, hr⟩ : ∃ X, X = w.heap.size := ⟨_, rfl⟩
    have hbu : Below w.heap.size w u := by rw [hu]; exact (Below.refl _ w).alloc (Nat.le_refl _) _
    have hku : u.heap[r]? = some (.mapIter (some m1) clock #[] clock) := by rw [hu, hr]; exact heap_alloc_new w _
    rw [← hu, ← hr]
    have HR := Lib.hid (And.intro hr (And.intro hbu hku))
    clear hu hr hbu hku len1 len2 hrg hb
    go_loopg [18] es.size (fun gk v18 wr => ∃ (seen : Array Nat) (c0 : Nat), wr.heap[r]? = some (.mapIter (some m1) clock seen c0) ∧ clock ≤ c0 ∧ Below w.heap.size w wr ∧ gk = (leftOf es seen).size ∧ ∀ x ∈ es.toList, seen.contains x.born = true → ∃ r ∈ l2, x.key = tmV r.k r.i ∧ x.val = .int .u64 r.d)
    case atStart => exact ⟨#[], clock, HR.out.2.2, Nat.le_refl _, HR.out.2.1, by unfold leftOf; rw [Array.filter_eq_self.2 (by simp)], fun x _ e => by simp at e⟩
    case round =>
      obtain ⟨seen, c0, hit, hcc, hbw, hgk, hgood⟩ := hrel
      have hbm := (hbw.block _ HLT.out).trans HB.out
      rcases run_next_at (P := Try.prog) wr 0 r m1 clock c0 seen es clock hit hbm HBO.out hcc with ⟨h0, hrun⟩ | ⟨e, he, w1, hal, hrun⟩
      · have hall : R = true := by
          rw [HRR.out]
          exact decide_eq_true (HAll.out fun x hx => hgood x hx (all_seen es seen h0 x hx))
        have HBW := Lib.hid hbw
        clear hgood hgk hit hbm hbw
        go_wp2
        go_ret
        exact ⟨by rw [hall]; rfl, HBW.out⟩
      · obtain ⟨hem, hes⟩ := mem_left he
        obtain ⟨⟨yk, yi, yd⟩, hy, ek, ev⟩ := HM.out e hem
        have oky := HS1.out.ok _ hy
        simp only at ek ev
        rw [ek, ev] at hrun
        have hrl := blk_lt hit
        have hw1 : Below wr.heap.size wr w1 := by
          rcases hal with rfl | rfl
          · exact Below.refl _ _
          · exact Below.drewN' wr 1
        have hbw1 := hbw.trans (hw1.mono hbw.size)
        have hrw : w.heap.size ≤ r := by rw [HR.out.1]; exact Nat.le_refl _
        obtain ⟨u2, hu2⟩ : ∃ W, W = setBlock w1 r (.mapIter (some m1) clock (seen.push e.born) clock) := ⟨_, rfl⟩
        rw [← hu2] at hrun
        have hb2 : Below w.heap.size w u2 := ⟨by rw [hu2]; exact hbw1.os, by rw [hu2]; exact hbw1.tape, by rw [hu2]; exact hbw1.output, by rw [hu2]; unfold setBlock; simpa using hbw1.size, fun q hq => by rw [hu2]; exact (setBlock_ne (by omega)).trans (hbw1.block q hq)⟩
        have hit2 : u2.heap[r]? = some (.mapIter (some m1) clock (seen.push e.born) clock) := by rw [hu2]; exact setBlock_at (by have := hw1.size; omega)
        have hbm2 : u2.heap[m1]? = some (.map es clock) := (hb2.block _ HLT.out).trans HB.out
        have hen := run_entry_at (P := Try.prog) u2 r m1 clock seen es clock e hit2 hbm2 hem HND.out
        rw [ek, ev] at hen
        have hb3 := hb2.alloc hb2.size (.cells #[.int .i64 yk, .int .u64 yi] 26)
        have hlk := HL.out _ hb3 yk yi oky.k0 oky.k1 oky.i0 oky.i1
        unfold tmV at hrun hen hlk
        have hsome : l1 = l2 → dueOf l2 yk yi = some yd := fun g => by rw [← g]; exact dueOf_mem HS1.out hy
        have hin : dueOf l2 yk yi = some yd → (⟨yk, yi, yd⟩ : Rw) ∈ l2 := fun g => dueOf_some g
        obtain ⟨O, hO⟩ : ∃ O, O = dueOf l2 yk yi := ⟨_, rfl⟩
        rw [← hO] at hlk hsome hin
        have HI2 := Lib.hid hit2
        have HB2 := Lib.hid hb2
        have HB3 := Lib.hid hb3
        have HG := Lib.hid hgood
        have HGK := Lib.hid (And.intro hgk he)
        have HE := Lib.hid (And.intro hem (And.intro ek ev))
        have HIN := Lib.hid hin
        have HSO := Lib.hid hsome
        clear hgood hgk hit hbm hbw hem hes oky ek ev hal hw1 hbw1 hu2 hb2 hit2 hbm2 hb3 hy he hin hsome hO hrl hrw
        cases O with
        | none =>
          have hf : R = false := by rw [HRR.out]; exact decide_eq_false fun g => by have := HSO.out g; cases this
          simp only [Option.getD_none, Option.isSome_none] at hlk
          go_wp2
          go_ret
          exact ⟨by rw [hf]; rfl, HB3.out⟩
        | some D =>
          simp only [Option.getD_some, Option.isSome_some] at hlk
          by_cases hd : yd = D
          · subst hd
            have e2 : (yd != yd) = false := by simp
            go_wp2
            go_roundg (leftOf es (seen.push e.born)).size
            case measure => rw [HGK.out.1]; exact left_shrinks es seen e HGK.out.2
            case rel =>
              refine ⟨seen.push e.born, clock, alloc_blk HI2.out _, Nat.le_refl _, HB3.out, rfl, fun x hx hc => ?_⟩
              rw [contains_push] at hc
              cases hq : seen.contains x.born with
              | true => exact HG.out x hx hq
              | false =>
                rw [hq, Bool.false_or, beq_iff_eq] at hc
                obtain rfl := born_inj HND.out hx HE.out.1 hc
                exact ⟨⟨yk, yi, yd⟩, HIN.out trivial, HE.out.2.1, HE.out.2.2⟩
          · have e2 : (yd != D) = true := by simpa using hd
            have hf : R = false := by
              rw [HRR.out]
              exact decide_eq_false fun g => by have := HSO.out g; injection this with this; exact hd this.symm
            go_wp2
            go_ret
            exact ⟨by rw [hf]; rfl, HB3.out⟩
  · have e1 : ((n1 : Int) != (n2 : Int)) = true := by simp; omega
    have hf : R = false := by
      rw [hR]
      exact decide_eq_false fun e => hne (by rw [hn1, hn2, e])
    clear h1 h2 hn1 hn2 hR
    go_enter Try.func34, Try.ntmps34
    go_wp2
    go_ret
    exact ⟨by rw [hf]; rfl, Below.refl _ _⟩
end Go.Proofs.Ytnmbhcekcdicnaa
