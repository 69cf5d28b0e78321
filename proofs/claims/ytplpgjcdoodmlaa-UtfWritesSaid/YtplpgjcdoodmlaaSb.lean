/-
  every's iterator.
-/
import Derived.Test.YtplpgjcdoodmlaaSc
import Derived.Test.YtplpgjcdoodmlaaP
namespace Go.Proofs.Ytplpgjcdoodmlaa
open Go.RowKit Go.Shelf
set_option linter.unusedVariables false
set_option linter.unusedSimpArgs false
attribute [local go_sem] Oper.semAt_some

theorem YieldAt.wide {m k : Nat} {P : Program} {l : Nat} {args : Array Value} {W : World} {R : Ending → World → Prop} (h : YieldAt Fence.wide m P l args W R) : YieldAt Fence.wide k P l args W R := by
  obtain ⟨fn, tmps, assign, body, hy, hR⟩ := h
  exact ⟨fn, tmps, assign, body, hy, hR.1, fun c cs _ => hR.2 c cs (room_wide _)⟩

set_option maxRecDepth 100000 in
set_option maxHeartbeats 2000000 in
/-- every's own function: it hands on, and keeps what came back. -/
theorem inner_any (l Y O mm : Nat) (a p : Int) (V : World) (R : Ending → World → Prop) (hy : YieldAt Fence.wide mm Try.prog l #[.int .i64 a, .int .i64 p] V R) (hY : V.cell? ⟨Y, 0, none⟩ = some (.func (.yield l) #[] #[])) (hYl : Y < V.heap.size)
    (hR : ∀ e V', R e V' → ∃ b x, e = .returned (.bool b) ∧ V'.cell? ⟨O, 0, none⟩ = some x ∧ V'.frozen? ⟨O, 0, none⟩ = false ∧ O < V'.heap.size) :
    Calls Try.prog 38 #[.int .i64 a, .int .i64 p, .pointer (some ⟨Y, 0, none⟩), .pointer (some ⟨O, 0, none⟩)] V fun e V' => ∃ b V1, R (.returned (.bool b)) V1 ∧ e = .returned (.bool b) ∧ V' = V1.setCell ⟨O, 0, none⟩ (.bool b) := by
  have HR := Lib.hid hR
  refine (callsIn_wide (n := 5)).1 ?_
  refine callsIn_of_wp Try.func38 rfl trivial ?_ rfl
  simp only [Try.ntmps38, List.size_toArray, List.length_cons, List.length_nil, Nat.reduceAdd, Nat.reduceSub, Array.replicate_succ, Array.replicate_zero, List.push_toArray, List.append_toArray, List.nil_append, List.cons_append]
  obtain ⟨fn, tmps, assign, body, hy', hR'⟩ := YieldAt.wide (k := 4) hy
  clear hR hy
  gi_wp2
  refine hR'.mono ?_
  rintro e V1 hr
  obtain ⟨b, x, rfl, c0, f0, hl⟩ := HR.out e V1 hr
  have HRR := Lib.hid hr
  clear hr hR'
  gi_wp2
  go_ret
  exact ⟨b, V1, HRR.out, rfl, rfl⟩

/-- What the iterator of every holds: its caller's, its boxes, the bytes that wait. -/
def Eh (H0 : Nat → Prop) (Y : Nat) (B : Nat → Prop) (k : Nat) : Prop := H0 k ∨ (k = Y ∨ k = Y + 1 ∨ k = Y + 2) ∨ B k
/-- What stands between two points that every tells. -/
structure Ej (W : World) (H0 : Nat → Prop) (Y l : Nat) (on : Bool) (B : Nat → Prop) (Q : World → Prop) (V : World) : Prop where
  q : Q V
  y : V.heap[Y]? = some (.cells #[.func (.yield l) #[] #[]] 63 (0, 0))
  o : V.heap[Y + 1]? = some (.cells #[.bool on] 4 (0, 0))
  kp : Kp H0 W V
  bl : ∀ k, B k → k < V.heap.size
  bn : ∀ k, B k → Y + 2 < k
  sz : Y + 3 ≤ V.heap.size

theorem Kp.trans {S : Nat → Prop} {U V W : World} (h : Kp S U V) (g : Kp S V W) : Kp S U W :=
  ⟨Nat.le_trans h.1 g.1, fun k hk hl => (g.2 k hk (Nat.lt_of_lt_of_le hl h.1)).trans (h.2 k hk hl)⟩
theorem Kp.of_mod {S M : Nat → Prop} {U V : World} (h : Mod M U V) (hs : ∀ k, k < U.heap.size → S k → ¬ M k) : Kp S U V :=
  ⟨h.size, fun k hk hl => h.block k hl (hs k hl hk)⟩
theorem Kp.mono {S T : Nat → Prop} {U V : World} (h : Kp T U V) (hs : ∀ k, S k → T k) : Kp S U V := ⟨h.1, fun k hk hl => h.2 k (hs k hk) hl⟩

set_option maxRecDepth 100000 in
set_option maxHeartbeats 4000000 in
theorem every1_held (m : Nat) (hm : 1 ≤ m) (A n₀ : Nat) (H0 : Nat → Prop) (ao : Option Addr) (n cap : Nat) (zs : List Int) (hn : n ≤ 1000000) (hby : Byt zs) (w : World) (hA : H0 A) (hH0 : ∀ k, H0 k → k < w.heap.size)
    (hc : w.cell? ⟨A, 0, none⟩ = some (.slice ao n cap)) {T : Nat → Prop} (hI : Arg T w ao n zs) (hnn : ao = none → n = 0 ∧ cap = 0) :
    SeqHeld Fence.wide m Try.prog 37 #[.pointer (some ⟨A, 0, none⟩)] (fun x : Nat × Int => #[.int .i64 (x.1 : Nat), .int .i64 x.2]) H0 n₀ (fun ys => ys = allP zs) (fun pre => pre <+: allP zs) (allP zs).length w := by
  intro l J Jx W hW hJ hJx hY hj0
  show CallsIn Fence.wide m Try.prog 37 #[.func (.yield l) #[] #[], .pointer (some ⟨A, 0, none⟩)] W _
  have hWs := hW.size
  have hzl := hI.1
  have hAl := hH0 A hA
  -- the boxes
  obtain ⟨Y, hYe⟩ : ∃ Y, Y = W.heap.size := ⟨_, rfl⟩
  obtain ⟨W1, hW1⟩ : ∃ X, X = W.alloc (.cells #[.func (.yield l) #[] #[]] 63) := ⟨_, rfl⟩
  have s1 : W1.heap.size = Y + 1 := by rw [hW1, hYe]; simp
  have b1 : Below W.heap.size W W1 := by rw [hW1]; exact (Below.refl _ W).alloc (Nat.le_refl _) _
  have k1 : W1.heap[Y]? = some (.cells #[.func (.yield l) #[] #[]] 63 (0, 0)) := by rw [hW1, hYe]; exact alloc_blk_new _ _
  obtain ⟨W2, hW2⟩ : ∃ X, X = W1.alloc (.cells #[.bool true] 4) := ⟨_, rfl⟩
  have s2 : W2.heap.size = Y + 2 := by rw [hW2]; simp [s1]
  have b2 : Below W.heap.size W W2 := by rw [hW2]; exact b1.alloc b1.size _
  have k2 : W2.heap[Y + 1]? = some (.cells #[.bool true] 4 (0, 0)) := by rw [hW2, ← s1]; exact alloc_blk_new _ _
  have k21 : W2.heap[Y]? = some (.cells #[.func (.yield l) #[] #[]] 63 (0, 0)) := by rw [hW2]; exact alloc_blk k1 _
  obtain ⟨W3, hW3⟩ : ∃ X, X = W2.alloc (.cells #[.slice none 0 0] 55) := ⟨_, rfl⟩
  have s3 : W3.heap.size = Y + 3 := by rw [hW3]; simp [s2]
  have b3 : Below W.heap.size W W3 := by rw [hW3]; exact b2.alloc b2.size _
  have k3 : W3.heap[Y + 2]? = some (.cells #[.slice none 0 0] 55 (0, 0)) := by rw [hW3, ← s2]; exact alloc_blk_new _ _
  have k32 : W3.heap[Y + 1]? = some (.cells #[.bool true] 4 (0, 0)) := by rw [hW3]; exact alloc_blk k2 _
  have k31 : W3.heap[Y]? = some (.cells #[.func (.yield l) #[] #[]] 63 (0, 0)) := by rw [hW3]; exact alloc_blk k21 _
  have hI3 := (hI.below hW).below b3
  have hlenA : (told 0 zs).1.length ≤ (allP zs).length := by unfold allP; rw [List.length_append]; omega
  have hH0W : ∀ k, H0 k → k < Y := fun k hk => by have := hH0 k hk; omega
  -- what is held
  have eH : ∀ (B : Nat → Prop) (k : Nat), H0 k → Eh H0 Y B k := fun B k h => .inl h
  have eY : ∀ B : Nat → Prop, Eh H0 Y B Y := fun B => .inr (.inl (.inl rfl))
  have eO : ∀ B : Nat → Prop, Eh H0 Y B (Y + 1) := fun B => .inr (.inl (.inr (.inl rfl)))
  have eD : ∀ B : Nat → Prop, Eh H0 Y B (Y + 2) := fun B => .inr (.inl (.inr (.inr rfl)))
  have eB : ∀ (B : Nat → Prop) (k : Nat), B k → Eh H0 Y B k := fun B k h => .inr (.inr h)
  have same : ∀ {K : (Nat → Prop) → List (Nat × Int) → World → Prop} {H : Nat → Prop} {pre : List (Nat × Int)} {U V : World}, Steady K → K H pre U → Mod H U V → K H pre V := fun hK h hM => hK _ _ _ _ _ h (fun _ e => e) (fun _ e => .inl e) hM
  -- told
  have hTold := told_38 (T := fun _ => False) (Y + 2) Y (Y + 1) none ao 0 0 n cap [] zs W3 ⟨cell_blk k3 0 _ rfl, frozen_blk k3 0, blk_lt k3, ⟨rfl, fun h => by omega⟩, fun _ => ⟨rfl, rfl⟩, by simp, by omega, by simp [maxLen]⟩ (fun k hk => hk.elim) Byt.nil hI3 hnn hby (by omega)
    (fun B pre V => Ej W H0 Y l true B (J (Eh H0 Y B) pre) V) (fun B pre V => Ej W H0 Y l false B (Jx (Eh H0 Y B) pre) V)
    (fun B pre V V' hE hM hcc => by
      obtain ⟨q1, y, o, kp, bl, bn, sz⟩ := hE
      exact ⟨same hJ q1 (hM.mono fun k _ e => e ▸ eD B), (hM.block Y (blk_lt y) (by omega)).trans y, (hM.block (Y + 1) (blk_lt o) (by omega)).trans o,
        kp.trans (Kp.of_mod hM fun k _ hk e => by have := hH0W k hk; omega), fun k hk => Nat.lt_of_lt_of_le (bl k hk) hM.size, bn, Nat.le_trans sz hM.size⟩)
    (fun B V hM hcc hB => by
      have hbW : Below W.heap.size W V := ⟨hM.os.trans b3.os, hM.tape.trans b3.tape, hM.output.trans b3.output, Nat.le_trans b3.size hM.size, fun k hk => (hM.block k (by omega) (by omega)).trans (b3.block k hk)⟩
      have hBn : ∀ k, B k → Y + 2 < k ∧ k < V.heap.size := fun k hk => by
        rcases hB with hB | ⟨G, h1, h2, h3⟩
        · exact ((hB k).1 hk).elim
        · have := (h3 k).1 hk; omega
      refine ⟨hJ _ _ _ _ _ hj0 (fun k hk => eH B k hk) (fun k hk => ?_) (Mod.of_below hbW _), (hM.block Y (blk_lt k31) (by omega)).trans k31, (hM.block (Y + 1) (blk_lt k32) (by omega)).trans k32, ⟨hbW.size, fun k _ hl => hbW.block k hl⟩, fun k hk => (hBn k hk).2, fun k hk => (hBn k hk).1, by have := hM.size; omega⟩
      rcases hk with hk | hk | hk
      · exact .inl hk
      · exact .inr (by omega)
      · exact .inr (by have := (hBn k hk).1; omega))
    (fun B pre x V hE hp => by
      obtain ⟨q1, y, o, kp, bl, bn, sz⟩ := hE
      have hpl := hp.length_le
      rw [List.length_append, List.length_singleton, List.nil_append] at hpl
      have hOl := blk_lt o
      have hYx := hY (Eh H0 Y B) pre x V q1 (fun k hk => ?lt) (by omega)
      case lt =>
        rcases hk with hk | hk | hk
        · have := hH0W k hk; omega
        · omega
        · exact bl k hk
      refine (inner_any l Y (Y + 1) (m - 1) (x.1 : Nat) x.2 V _ hYx (cell_blk y 0 _ rfl) (blk_lt y) (fun e V' hr => ?_)).mono ?_
      · have ho := (hr.1.2 (Y + 1) (eO B) hOl).trans o
        rcases hr.2 with ⟨rfl, _⟩ | ⟨rfl, _⟩
        · exact ⟨_, _, rfl, cell_blk ho 0 _ rfl, frozen_blk ho 0, blk_lt ho⟩
        · exact ⟨_, _, rfl, cell_blk ho 0 _ rfl, frozen_blk ho 0, blk_lt ho⟩
      · rintro e V' ⟨b, V1, ⟨hst, hr⟩, rfl, rfl⟩
        have ho := (hst.2 (Y + 1) (eO B) hOl).trans o
        have hy' := (hst.2 Y (eY B) (blk_lt y)).trans y
        have hMS : Mod (fun k => k = Y + 1) V1 (V1.setCell ⟨Y + 1, 0, none⟩ (.bool b)) := (Mod.refl (fun k => k = Y + 1) V1).setCell ⟨Y + 1, 0, none⟩ (.inl rfl) _
        have hyS : (V1.setCell ⟨Y + 1, 0, none⟩ (.bool b)).heap[Y]? = some (.cells #[.func (.yield l) #[] #[]] 63 (0, 0)) := (hMS.block Y (blk_lt hy') (by omega)).trans hy'
        have hoS := setCell_blk ho 0 (.bool b)
        have hkS : Kp (fun k => k = Y + 2 ∨ B k) V (V1.setCell ⟨Y + 1, 0, none⟩ (.bool b)) :=
          (hst.mono (fun k hk => hk.elim (fun e => e ▸ eD B) (eB B k))).trans (Kp.of_mod hMS fun k _ hk e => by
            rcases hk with hk | hk
            · omega
            · have := bn k hk; omega)
        have hkH : Kp H0 W (V1.setCell ⟨Y + 1, 0, none⟩ (.bool b)) := kp.trans ((hst.mono (fun k hk => eH B k hk)).trans (Kp.of_mod hMS fun k _ hk e => by have := hH0W k hk; omega))
        have hbl : ∀ k, B k → k < (V1.setCell ⟨Y + 1, 0, none⟩ (.bool b)).heap.size := fun k hk => Nat.lt_of_lt_of_le (bl k hk) (Nat.le_trans hst.1 hMS.size)
        refine ⟨hkS, ?_⟩
        rcases hr with ⟨e, h1, h2⟩ | ⟨e, h1⟩
        · injection e with e
          injection e with e
          subst e
          exact .inl ⟨rfl, same hJ h1 (hMS.mono fun k _ e => e ▸ eO B), hyS, hoS, hkH, hbl, bn, Nat.le_trans sz hkS.1⟩
        · injection e with e
          injection e with e
          subst e
          exact .inr ⟨rfl, same hJx h1 (hMS.mono fun k _ e => e ▸ eO B), hyS, hoS, hkH, hbl, bn, Nat.le_trans sz hkS.1⟩)
  rw [List.nil_append] at hTold
  have HTold := Lib.hid hTold
  have HJ := Lib.hid hJ
  have HJx := Lib.hid hJx
  have HY := Lib.hid hY
  have E1 := Lib.hid hW1
  have E2 := Lib.hid hW2
  have E3 := Lib.hid hW3
  have EY := Lib.hid hYe
  have HEY := Lib.hid eY
  have HEO := Lib.hid eO
  have HCA : Hid (W.cell? ⟨A, 0, none⟩ = some (.slice ao n cap)) := Lib.hid ((hW.cell (p := ⟨A, 0, none⟩) hAl).trans hc)
  have hA3 : A < W3.heap.size := by omega
  have hAW : A < W.heap.size := by omega
  have HAA := Lib.hid hA
  have HH0 : Hid (∀ k, H0 k → k < W.heap.size) := Lib.hid (fun k hk => by have := hH0 k hk; omega)
  have S1 := Lib.hid s1
  have S2 := Lib.hid s2
  have cA3 := (b3.cell (p := ⟨A, 0, none⟩) hAW).trans HCA.out
  clear hTold hJ hJx hY hW1 hW2 hW3 hYe b1 b2 k1 k2 k21 k3 k32 k31 hI3 hlenA hW hI hj0 hc s1 s2 b3 eH eY eO eD eB same hH0W hH0 hA
  refine callsIn_of_wp Try.func37 rfl trivial ?_ rfl
  simp only [Try.ntmps37, List.size_toArray, List.length_cons, List.length_nil, Nat.reduceAdd, Nat.reduceSub, Array.replicate_succ, Array.replicate_zero, List.push_toArray, List.append_toArray, List.nil_append, List.cons_append]
  refine wpIn_wide.2 ?_
  go_upto_region 3 with fail
  rw [← E1.out, ← EY.out, ← E2.out, ← E3.out]
  go_wp2_with (go_at_call 32; fail)
  refine HTold.out.mono ?_
  rintro e V ⟨⟨v, rfl⟩, B, a', n', c', zs', hwb, hB, h⟩
  have c2 : V.cell? ⟨Y + 1 + 1, 0, none⟩ = some (.slice a' n' c') := hwb.c0
  have hl2 : Y + 1 + 1 < V.heap.size := hwb.lt
  have hn'1 := hwb.arg.1
  have hn'2 := hwb.nc
  have hn'3 := hwb.cm
  unfold maxLen at hn'3
  have hBH : Hid (∀ k, Eh H0 Y B k → H0 k ∨ W.heap.size ≤ k) := Lib.hid (fun k hk => by
    have hYW := EY.out
    rcases hk with hk | hk | hk
    · exact .inl hk
    · exact .inr (by omega)
    · rcases hB with hB | ⟨G, h1, h3⟩
      · exact ((hB k).1 hk).elim
      · have := (h3 k).1 hk; exact .inr (by omega))
  rcases h with ⟨⟨q1, y, o, kp, bl, bn, sz⟩, rfl⟩ | ⟨pre, hp, q1, y, o, kp, bl, bn, sz⟩
  · have cA := (kp.cell (p := ⟨A, 0, none⟩) hAW HAA.out).trans HCA.out
    have cY := cell_blk y 0 (.func (.yield l) #[] #[]) rfl
    have cO := cell_blk o 0 (.bool true) rfl
    have hA4 : A < V.heap.size := Nat.lt_of_lt_of_le hAW kp.1
    have hYl := blk_lt y
    have hOl := blk_lt o
    have hwl := wts_len zs
    have hw : (told 0 zs).2 = wts zs := rfl
    rw [hw] at hn'1
    have HJ4 : Hid (∀ k, J (Eh H0 Y B) (told 0 zs).1 (V.drewN k)) := Lib.hid (fun k => HJ.out _ _ _ V _ q1 (fun _ e => e) (fun _ e => .inl e) (Mod.of_below (Below.drewN' V k) _))
    have HHl : Hid (∀ k, Eh H0 Y B k → k < V.heap.size) := Lib.hid (fun k hk => by
      rcases hk with hk | hk | hk
      · exact Nat.lt_of_lt_of_le (HH0.out k hk) kp.1
      · omega
      · exact bl k hk)
    obtain ⟨q, hq⟩ : ∃ q : Nat, q = n - n' := ⟨_, rfl⟩
    have hq2 : (n : Int) - (n' : Int) = (q : Int) := by omega
    have HQ := Lib.hid hq
    have hqn : q ≤ n := by omega
    have hn'n : n' ≤ n := by omega
    clear hwb hB q1 y o hw HTold HCA kp bl bn
    by_cases hz : n' = 0
    · subst hz
      have hwz : wts zs = [] := List.eq_nil_of_length_eq_zero hn'1
      have hall : allP zs = (told 0 zs).1 := by unfold allP; rw [if_pos hwz, List.append_nil]
      have HAll := Lib.hid hall
      obtain rfl : q = n := by omega
      clear hwl hn'1 hwz hall hq hq2
      go_wp2_with fail
      go_quiet (fail)
      go_wp2_with fail
      go_end0
      exact ⟨⟨_, rfl⟩, _, hBH.out, .inl ⟨_, rfl, by rw [HAll.out]; exact HJ4.out _⟩⟩
    · have hwz : wts zs ≠ [] := fun e => by rw [e] at hn'1; simp at hn'1; omega
      have hall : allP zs = (told 0 zs).1 ++ [(q, 65533)] := by unfold allP; rw [if_neg hwz, hn'1, hzl, hq]
      have HAll := Lib.hid hall
      have d1 : decide (q < n) = true := by simp; omega
      have d2 : decide ((q : Int) < n) = true := by simp; omega
      clear hwl hn'1 hwz hall hq
      go_wp2_with fail
      go_quiet (fail)
      go_upto_region 6 with fail
      have hyl := HY.out (Eh H0 Y B) (told 0 zs).1 (q, 65533) (V.drewN nq) (HJ4.out nq) HHl.out (by rw [HAll.out, List.length_append]; simp)
      refine (wpIn_wide (n := m)).1 ?_
      obtain ⟨fn, tmps, assign, body, hy', hR'⟩ := hyl
      clear HY
      gi_wp2
      refine hR'.mono ?_
      rintro e V1 ⟨hst, ⟨rfl, h1, h2⟩ | ⟨rfl, h1⟩⟩
      · gi_wp2
        go_end0
        exact ⟨⟨_, rfl⟩, _, hBH.out, .inl ⟨_, rfl, by rw [HAll.out]; exact h1⟩⟩
      · gi_wp2
        go_end0
        exact ⟨⟨_, rfl⟩, _, hBH.out, .inr ⟨_, List.prefix_rfl, by rw [HAll.out]; exact h1⟩⟩
  · have cA := (kp.cell (p := ⟨A, 0, none⟩) hAW HAA.out).trans HCA.out
    have cO := cell_blk o 0 (.bool false) rfl
    have hA4 : A < V.heap.size := Nat.lt_of_lt_of_le hAW kp.1
    have hOl := blk_lt o
    have HJ4 : Hid (∀ k, Jx (Eh H0 Y B) pre (V.drewN k)) := Lib.hid (fun k => HJx.out _ _ _ V _ q1 (fun _ e => e) (fun _ e => .inl e) (Mod.of_below (Below.drewN' V k) _))
    have hpa : pre <+: allP zs := hp.trans (by unfold allP; exact List.prefix_append _ _)
    have HPA := Lib.hid hpa
    clear hwb hB q1 y o HTold HCA kp bl bn hpa hp HY HJ HJx
    obtain ⟨x, hx⟩ : ∃ x : Int, (n : Int) - (n' : Int) = x := ⟨_, rfl⟩
    have hxw : IntKind.i64.wrap x = x := by rw [IntKind.wrap_i64]; omega
    go_wp2_with fail
    go_quiet (fail)
    go_wp2_with fail
    go_end0
    exact ⟨⟨_, rfl⟩, _, hBH.out, .inr ⟨_, HPA.out, HJ4.out _⟩⟩
end Go.Proofs.Ytplpgjcdoodmlaa
