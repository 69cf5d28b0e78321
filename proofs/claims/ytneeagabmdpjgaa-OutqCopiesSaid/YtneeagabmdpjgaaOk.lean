/-
  works.
-/
import Derived.Test.YtneeagabmdpjgaaOj
namespace Go.Proofs.Ytneeagabmdpjgaa
open Go.RowKit
set_option linter.unusedVariables false
set_option linter.unusedSimpArgs false

set_option maxHeartbeats 6400000 in
set_option maxRecDepth 100000 in
theorem works_true (w : World) : Calls Try.prog 8 #[] w fun e w' => e = .returned (.bool true) ∧ Below w.heap.size w w' := by
  have HNew := Lib.hid (New_os 9 w w (by decide) (by decide) (Below.refl _ _))
  have HBad := Lib.hid (fun w => (New_obad (-1) w (.inl (by decide))))
  have HNum := Lib.hid num_any
  go_enter Try.func8, Try.ntmps8
  go_wp2_with fail
  refine HNew.out.mono ?_
  rintro e w0 ⟨p, rfl, hq, hb, hp⟩
  obtain ⟨K0, hK0⟩ : ∃ K : Nat → Prop, K = fun _ => False := ⟨_, rfl⟩
  have Q0 : Hid (OS w K0 p 9 [] 0 [] w0) := Lib.hid (hq.mono (L := K0) (fun k e => by rw [hK0] at e; exact e.elim))
  clear hq hb hp HNew hK0
  obtain ⟨u1, hu⟩ : ∃ W, W = w0.alloc (.cells #[.string ⟨#[97, 98, 99]⟩, .string ⟨#[100, 101]⟩] 9) := ⟨_, rfl⟩
  have bu : Below w0.heap.size w0 u1 := by rw [hu]; exact (Below.refl _ _).alloc (Nat.le_refl _) _
  have ku : u1.heap[w0.heap.size]? = some (.cells #[.string ⟨#[97, 98, 99]⟩, .string ⟨#[100, 101]⟩] 9 (0, 0)) := by rw [hu]; exact alloc_blk_new _ _
  have HO1 := Lib.hid (of_any w0.heap.size 2 2 [⟨#[97, 98, 99]⟩, ⟨#[100, 101]⟩] u1 rfl (by decide) (blk_lt ku) (fun j hj => by
    match j, hj with
      | 0, _ => exact cell_blk ku 0 _ rfl
      | 1, _ => exact cell_blk ku 1 _ rfl))
  have BU1 := Lib.hid bu
  have EU1 := Lib.hid hu
  clear bu ku hu
  go_wp2_with (go_at_call 10; refine (HNum.out _ _).mono ?_; rintro e w' ⟨rfl, rfl⟩)
  rw [← EU1.out]
  refine HO1.out.mono ?_
  rintro e v1 ⟨a1, c1, rfl, hb, hn, hP⟩
  rw [show ([⟨#[97, 98, 99]⟩, ⟨#[100, 101]⟩] : List ByteArray).map nums = [[97, 98, 99], [100, 101]] from rfl] at hP
  obtain ⟨K1, hK⟩ : ∃ K', K' = More K0 w0 v1 := ⟨_, rfl⟩
  have hbb := BU1.out.trans (hb.mono BU1.out.size)
  have Qg := Q0.out.grow hbb
  rw [← hK] at Qg
  have Q1 := Lib.hid Qg
  have HP1 : Hid (Parts (fun k => k < w.heap.size ∨ K1 k) v1 a1 [[97, 98, 99], [100, 101]]) := Lib.hid (hP.mono (fun k h1 h2 => by rw [hK]; exact .inr (.inr ⟨Nat.le_trans BU1.out.size h2.1, h2.2⟩)))
  clear hb hn hP hK Qg hbb Q0 BU1 EU1 HO1 
  go_wp2_with fail
  refine (Q1.out.push_ok a1 c1 2 [[97, 98, 99], [100, 101]] rfl (by decide) (by decide) HP1.out (by simp) (by decide) [3, 2] [97, 98, 99, 100, 101] rfl rfl).mono ?_
  rintro e w2 ⟨rfl, hq, hm⟩
  have Q2 : Hid (OS w K1 p 9 [3, 2] 0 [97, 98, 99, 100, 101] w2) := Lib.hid hq
  clear hq hm Q1 
  go_wp2_with fail
  refine (Q2.out.push_ok none 0 0 [] rfl (by decide) (by decide) (fun h => absurd h (by simp)) (by simp) (by decide) [3, 2] [97, 98, 99, 100, 101] rfl rfl).mono ?_
  rintro e w3 ⟨rfl, hq, hm⟩
  have Q3 : Hid (OS w K1 p 9 [3, 2] 0 [97, 98, 99, 100, 101] w3) := Lib.hid hq
  clear hq hm Q2 
  obtain ⟨u4, hu⟩ : ∃ W, W = w3.alloc (.cells #[.string ⟨#[102, 103, 104, 105, 106]⟩] 9) := ⟨_, rfl⟩
  have bu : Below w3.heap.size w3 u4 := by rw [hu]; exact (Below.refl _ _).alloc (Nat.le_refl _) _
  have ku : u4.heap[w3.heap.size]? = some (.cells #[.string ⟨#[102, 103, 104, 105, 106]⟩] 9 (0, 0)) := by rw [hu]; exact alloc_blk_new _ _
  have HO4 := Lib.hid (of_any w3.heap.size 1 1 [⟨#[102, 103, 104, 105, 106]⟩] u4 rfl (by decide) (blk_lt ku) (fun j hj => by
    match j, hj with
      | 0, _ => exact cell_blk ku 0 _ rfl))
  have BU4 := Lib.hid bu
  have EU4 := Lib.hid hu
  clear bu ku hu
  go_wp2_with (go_at_call 10; refine (HNum.out _ _).mono ?_; rintro e w' ⟨rfl, rfl⟩)
  rw [← EU4.out]
  refine HO4.out.mono ?_
  rintro e v4 ⟨a4, c4, rfl, hb, hn, hP⟩
  rw [show ([⟨#[102, 103, 104, 105, 106]⟩] : List ByteArray).map nums = [[102, 103, 104, 105, 106]] from rfl] at hP
  obtain ⟨K4, hK⟩ : ∃ K', K' = More K1 w3 v4 := ⟨_, rfl⟩
  have hbb := BU4.out.trans (hb.mono BU4.out.size)
  have Qg := Q3.out.grow hbb
  rw [← hK] at Qg
  have Q4 := Lib.hid Qg
  have HP4 : Hid (Parts (fun k => k < w.heap.size ∨ K4 k) v4 a4 [[102, 103, 104, 105, 106]]) := Lib.hid (hP.mono (fun k h1 h2 => by rw [hK]; exact .inr (.inr ⟨Nat.le_trans BU4.out.size h2.1, h2.2⟩)))
  clear hb hn hP hK Qg hbb Q3 BU4 EU4 HO4 
  go_wp2_with fail
  refine (Q4.out.push_no a4 c4 1 [[102, 103, 104, 105, 106]] rfl (by decide) (by decide) HP4.out (by simp) (by decide)).mono ?_
  rintro e w5 ⟨rfl, hq, hm⟩
  have Q5 : Hid (OS w K4 p 9 [3, 2] 0 [97, 98, 99, 100, 101] w5) := Lib.hid hq
  clear hq hm Q4 
  obtain ⟨u6, hu⟩ : ∃ W, W = w5.alloc (.cells #[.string ⟨#[120]⟩, .string ⟨#[]⟩] 9) := ⟨_, rfl⟩
  have bu : Below w5.heap.size w5 u6 := by rw [hu]; exact (Below.refl _ _).alloc (Nat.le_refl _) _
  have ku : u6.heap[w5.heap.size]? = some (.cells #[.string ⟨#[120]⟩, .string ⟨#[]⟩] 9 (0, 0)) := by rw [hu]; exact alloc_blk_new _ _
  have HO6 := Lib.hid (of_any w5.heap.size 2 2 [⟨#[120]⟩, ⟨#[]⟩] u6 rfl (by decide) (blk_lt ku) (fun j hj => by
    match j, hj with
      | 0, _ => exact cell_blk ku 0 _ rfl
      | 1, _ => exact cell_blk ku 1 _ rfl))
  have BU6 := Lib.hid bu
  have EU6 := Lib.hid hu
  clear bu ku hu
  go_wp2_with (go_at_call 10; refine (HNum.out _ _).mono ?_; rintro e w' ⟨rfl, rfl⟩)
  rw [← EU6.out]
  refine HO6.out.mono ?_
  rintro e v6 ⟨a6, c6, rfl, hb, hn, hP⟩
  rw [show ([⟨#[120]⟩, ⟨#[]⟩] : List ByteArray).map nums = [[120], []] from rfl] at hP
  obtain ⟨K6, hK⟩ : ∃ K', K' = More K4 w5 v6 := ⟨_, rfl⟩
  have hbb := BU6.out.trans (hb.mono BU6.out.size)
  have Qg := Q5.out.grow hbb
  rw [← hK] at Qg
  have Q6 := Lib.hid Qg
  have HP6 : Hid (Parts (fun k => k < w.heap.size ∨ K6 k) v6 a6 [[120], []]) := Lib.hid (hP.mono (fun k h1 h2 => by rw [hK]; exact .inr (.inr ⟨Nat.le_trans BU6.out.size h2.1, h2.2⟩)))
  clear hb hn hP hK Qg hbb Q5 BU6 EU6 HO6 
  go_wp2_with fail
  refine (Q6.out.push_empty a6 c6 2 [[120], []] rfl (by decide) HP6.out ⟨[], by simp, rfl⟩).mono ?_
  rintro e w7 ⟨rfl, rfl⟩
  go_wp2_with (go_at_call 10; refine (HNum.out _ _).mono ?_; rintro e w' ⟨rfl, rfl⟩)
  refine (Q6.out.take 2 (by decide) 2 rfl [97, 98] [99, 100, 101] rfl rfl 0 2 (by decide) [3, 2] rfl).mono ?_
  rintro e w8 ⟨a8, c8, rfl, hr, hq, hm⟩
  obtain ⟨_, hA, hn⟩ := row_arg hr
  obtain ⟨K8, hK⟩ : ∃ K', K' = More K6 v6 w8 := ⟨_, rfl⟩
  rw [← hK] at hq
  have Q8 : Hid (OS w K8 p 9 [3, 2] 2 [99, 100, 101] w8) := Lib.hid hq
  have s : Hid (Arg K8 w8 a8 2 [97, 98]) := Lib.hid (hA.mono (fun k h1 h2 => by rw [hK]; exact .inr ⟨h2, h1⟩))
  have Ns := Lib.hid hn
  clear hr hq hm hA hn hK Q6 
  have cvs := conv_any (xs := [97, 98]) c8 s.out Ns.out
  simp only [List.length_cons, List.length_nil, Nat.zero_add, Nat.reduceAdd] at cvs
  rw [show strOfNums [97, 98] = ⟨#[97, 98]⟩ from rfl] at cvs
  go_wp2_with (go_at_call 10; refine (HNum.out _ _).mono ?_; rintro e w' ⟨rfl, rfl⟩)
  refine Q8.out.begun.mono ?_
  rintro e w9 ⟨rfl, q9, hw⟩
  have Q9 : Hid (OS w K8 p 9 [3, 2] 2 [99, 100, 101] w9) := by rw [hw]; exact Lib.hid (Q8.out.drewN q9)
  have s_9 : Hid (Arg K8 w9 a8 2 [97, 98]) := by rw [hw]; exact Lib.hid (s.out.drewN q9)
  clear hw Q8 s
  go_wp2_with (go_at_call 10; refine (HNum.out _ _).mono ?_; rintro e w' ⟨rfl, rfl⟩)
  refine Q9.out.frames.mono ?_
  rintro e w10 ⟨rfl, q10, hw⟩
  have Q10 : Hid (OS w K8 p 9 [3, 2] 2 [99, 100, 101] w10) := by rw [hw]; exact Lib.hid (Q9.out.drewN q10)
  have s_9_10 : Hid (Arg K8 w10 a8 2 [97, 98]) := by rw [hw]; exact Lib.hid (s_9.out.drewN q10)
  clear hw Q9 s_9
  go_wp2_with (go_at_call 10; refine (HNum.out _ _).mono ?_; rintro e w' ⟨rfl, rfl⟩)
  refine Q10.out.room.mono ?_
  rintro e w11 ⟨rfl, q11, hw⟩
  have Q11 : Hid (OS w K8 p 9 [3, 2] 2 [99, 100, 101] w11) := by rw [hw]; exact Lib.hid (Q10.out.drewN q11)
  have s_9_10_11 : Hid (Arg K8 w11 a8 2 [97, 98]) := by rw [hw]; exact Lib.hid (s_9_10.out.drewN q11)
  clear hw Q10 s_9_10
  clear cvs
  go_wp2_with (go_at_call 10; refine (HNum.out _ _).mono ?_; rintro e w' ⟨rfl, rfl⟩)
  refine (Q11.out.take 2 (by decide) 2 rfl [99, 100] [101] rfl rfl 1 1 (by decide) [2] rfl).mono ?_
  rintro e w12 ⟨a12, c12, rfl, hr, hq, hm⟩
  obtain ⟨_, hA, hn⟩ := row_arg hr
  obtain ⟨K12, hK⟩ : ∃ K', K' = More K8 w11 w12 := ⟨_, rfl⟩
  rw [← hK] at hq
  have Q12 : Hid (OS w K12 p 9 [2] 1 [101] w12) := Lib.hid hq
  have t : Hid (Arg K12 w12 a12 2 [99, 100]) := Lib.hid (hA.mono (fun k h1 h2 => by rw [hK]; exact .inr ⟨h2, h1⟩))
  have Nt := Lib.hid hn
  clear hr hq hm hA hn hK Q11 
  go_wp2_with (go_at_call 10; refine (HNum.out _ _).mono ?_; rintro e w' ⟨rfl, rfl⟩)
  refine Q12.out.len.mono ?_
  rintro e w13 ⟨rfl, q13, hw⟩
  have Q13 : Hid (OS w K12 p 9 [2] 1 [101] w13) := by rw [hw]; exact Lib.hid (Q12.out.drewN q13)
  have t_13 : Hid (Arg K12 w13 a12 2 [99, 100]) := by rw [hw]; exact Lib.hid (t.out.drewN q13)
  clear hw Q12 t
  go_wp2_with (go_at_call 10; refine (HNum.out _ _).mono ?_; rintro e w' ⟨rfl, rfl⟩)
  refine Q13.out.frames.mono ?_
  rintro e w14 ⟨rfl, q14, hw⟩
  have Q14 : Hid (OS w K12 p 9 [2] 1 [101] w14) := by rw [hw]; exact Lib.hid (Q13.out.drewN q14)
  have t_13_14 : Hid (Arg K12 w14 a12 2 [99, 100]) := by rw [hw]; exact Lib.hid (t_13.out.drewN q14)
  clear hw Q13 t_13
  go_wp2_with (go_at_call 10; refine (HNum.out _ _).mono ?_; rintro e w' ⟨rfl, rfl⟩)
  refine Q14.out.begun.mono ?_
  rintro e w15 ⟨rfl, q15, hw⟩
  have Q15 : Hid (OS w K12 p 9 [2] 1 [101] w15) := by rw [hw]; exact Lib.hid (Q14.out.drewN q15)
  have t_13_14_15 : Hid (Arg K12 w15 a12 2 [99, 100]) := by rw [hw]; exact Lib.hid (t_13_14.out.drewN q15)
  clear hw Q14 t_13_14
  obtain ⟨u16, hu⟩ : ∃ W, W = w15.alloc (.cells #[.string ⟨#[102, 103]⟩] 9) := ⟨_, rfl⟩
  have bu : Below w15.heap.size w15 u16 := by rw [hu]; exact (Below.refl _ _).alloc (Nat.le_refl _) _
  have ku : u16.heap[w15.heap.size]? = some (.cells #[.string ⟨#[102, 103]⟩] 9 (0, 0)) := by rw [hu]; exact alloc_blk_new _ _
  have HO16 := Lib.hid (of_any w15.heap.size 1 1 [⟨#[102, 103]⟩] u16 rfl (by decide) (blk_lt ku) (fun j hj => by
    match j, hj with
      | 0, _ => exact cell_blk ku 0 _ rfl))
  have BU16 := Lib.hid bu
  have EU16 := Lib.hid hu
  clear bu ku hu
  go_wp2_with (go_at_call 10; refine (HNum.out _ _).mono ?_; rintro e w' ⟨rfl, rfl⟩)
  rw [← EU16.out]
  refine HO16.out.mono ?_
  rintro e v16 ⟨a16, c16, rfl, hb, hn, hP⟩
  rw [show ([⟨#[102, 103]⟩] : List ByteArray).map nums = [[102, 103]] from rfl] at hP
  obtain ⟨K16, hK⟩ : ∃ K', K' = More K12 w15 v16 := ⟨_, rfl⟩
  have hbb := BU16.out.trans (hb.mono BU16.out.size)
  have Qg := Q15.out.grow hbb
  rw [← hK] at Qg
  have Q16 := Lib.hid Qg
  have HP16 : Hid (Parts (fun k => k < w.heap.size ∨ K16 k) v16 a16 [[102, 103]]) := Lib.hid (hP.mono (fun k h1 h2 => by rw [hK]; exact .inr (.inr ⟨Nat.le_trans BU16.out.size h2.1, h2.2⟩)))
  have t_13_14_15_16 : Hid (Arg K16 v16 a12 2 [99, 100]) := Lib.hid ((t_13_14_15.out.below hbb).mono (fun k _ h => by rw [hK]; exact .inl h))
  clear hb hn hP hK Qg hbb Q15 BU16 EU16 HO16 t_13_14_15
  go_wp2_with fail
  refine (Q16.out.push_ok a16 c16 1 [[102, 103]] rfl (by decide) (by decide) HP16.out (by simp) (by decide) [2, 2] [101, 102, 103] rfl rfl).mono ?_
  rintro e w17 ⟨rfl, hq, hm⟩
  have Q17 : Hid (OS w K16 p 9 [2, 2] 1 [101, 102, 103] w17) := Lib.hid hq
  have t_13_14_15_16_17 : Hid (Arg K16 w17 a12 2 [99, 100]) := Lib.hid (t_13_14_15_16.out.keep hm (fun _ e => e))
  clear hq hm Q16 t_13_14_15_16
  go_wp2_with (go_at_call 10; refine (HNum.out _ _).mono ?_; rintro e w' ⟨rfl, rfl⟩)
  refine (Q17.out.take 9 (by decide) 3 rfl [101, 102, 103] [] rfl rfl 2 0 (by decide) [] rfl).mono ?_
  rintro e w18 ⟨a18, c18, rfl, hr, hq, hm⟩
  obtain ⟨_, hA, hn⟩ := row_arg hr
  obtain ⟨K18, hK⟩ : ∃ K', K' = More K16 w17 w18 := ⟨_, rfl⟩
  rw [← hK] at hq
  have Q18 : Hid (OS w K18 p 9 [] 0 [] w18) := Lib.hid hq
  have u : Hid (Arg K18 w18 a18 3 [101, 102, 103]) := Lib.hid (hA.mono (fun k h1 h2 => by rw [hK]; exact .inr ⟨h2, h1⟩))
  have Nu := Lib.hid hn
  have t_13_14_15_16_17_18 : Hid (Arg K18 w18 a12 2 [99, 100]) := Lib.hid ((t_13_14_15_16_17.out.keep hm (fun _ e => e)).mono (fun k _ h => by rw [hK]; exact .inl h))
  clear hr hq hm hA hn hK Q17 t_13_14_15_16_17
  go_wp2_with fail
  refine (HBad.out _).mono ?_
  rintro e wx ⟨rfl, rfl⟩
  go_wp2_with fail
  refine (Q18.out.take_bad (-1) (by decide)).mono ?_
  rintro e wx ⟨rfl, rfl⟩
  have cvt := conv_any (xs := [99, 100]) c12 t_13_14_15_16_17_18.out Nt.out
  simp only [List.length_cons, List.length_nil, Nat.zero_add, Nat.reduceAdd] at cvt
  rw [show strOfNums [99, 100] = ⟨#[99, 100]⟩ from rfl] at cvt
  have cvu := conv_any (xs := [101, 102, 103]) c18 u.out Nu.out
  simp only [List.length_cons, List.length_nil, Nat.zero_add, Nat.reduceAdd] at cvu
  rw [show strOfNums [101, 102, 103] = ⟨#[101, 102, 103]⟩ from rfl] at cvu
  go_wp2_with (go_at_call 10; refine (HNum.out _ _).mono ?_; rintro e w' ⟨rfl, rfl⟩)
  refine Q18.out.len.mono ?_
  rintro e w19 ⟨rfl, q19, hw⟩
  have Q19 : Hid (OS w K18 p 9 [] 0 [] w19) := by rw [hw]; exact Lib.hid (Q18.out.drewN q19)
  have t_13_14_15_16_17_18_19 : Hid (Arg K18 w19 a12 2 [99, 100]) := by rw [hw]; exact Lib.hid (t_13_14_15_16_17_18.out.drewN q19)
  have u_19 : Hid (Arg K18 w19 a18 3 [101, 102, 103]) := by rw [hw]; exact Lib.hid (u.out.drewN q19)
  clear hw Q18 t_13_14_15_16_17_18 u
  clear cvt cvu
  obtain ⟨u20, hu⟩ : ∃ W, W = w19.alloc (.cells #[.string ⟨#[97, 98, 99]⟩, .string ⟨#[100]⟩, .string ⟨#[101]⟩] 9) := ⟨_, rfl⟩
  have bu : Below w19.heap.size w19 u20 := by rw [hu]; exact (Below.refl _ _).alloc (Nat.le_refl _) _
  have ku : u20.heap[w19.heap.size]? = some (.cells #[.string ⟨#[97, 98, 99]⟩, .string ⟨#[100]⟩, .string ⟨#[101]⟩] 9 (0, 0)) := by rw [hu]; exact alloc_blk_new _ _
  have HO20 := Lib.hid (of_any w19.heap.size 3 3 [⟨#[97, 98, 99]⟩, ⟨#[100]⟩, ⟨#[101]⟩] u20 rfl (by decide) (blk_lt ku) (fun j hj => by
    match j, hj with
      | 0, _ => exact cell_blk ku 0 _ rfl
      | 1, _ => exact cell_blk ku 1 _ rfl
      | 2, _ => exact cell_blk ku 2 _ rfl))
  have BU20 := Lib.hid bu
  have EU20 := Lib.hid hu
  clear bu ku hu
  go_wp2_with (go_at_call 10; refine (HNum.out _ _).mono ?_; rintro e w' ⟨rfl, rfl⟩)
  rw [← EU20.out]
  refine HO20.out.mono ?_
  rintro e v20 ⟨a20, c20, rfl, hb, hn, hP⟩
  rw [show ([⟨#[97, 98, 99]⟩, ⟨#[100]⟩, ⟨#[101]⟩] : List ByteArray).map nums = [[97, 98, 99], [100], [101]] from rfl] at hP
  obtain ⟨K20, hK⟩ : ∃ K', K' = More K18 w19 v20 := ⟨_, rfl⟩
  have hbb := BU20.out.trans (hb.mono BU20.out.size)
  have Qg := Q19.out.grow hbb
  rw [← hK] at Qg
  have Q20 := Lib.hid Qg
  have HP20 : Hid (Parts (fun k => k < w.heap.size ∨ K20 k) v20 a20 [[97, 98, 99], [100], [101]]) := Lib.hid (hP.mono (fun k h1 h2 => by rw [hK]; exact .inr (.inr ⟨Nat.le_trans BU20.out.size h2.1, h2.2⟩)))
  clear hb hn hP hK Qg hbb Q19 BU20 EU20 HO20 
  go_wp2_with fail
  refine (Q20.out.push_ok a20 c20 3 [[97, 98, 99], [100], [101]] rfl (by decide) (by decide) HP20.out (by simp) (by decide) [3, 1, 1] [97, 98, 99, 100, 101] rfl rfl).mono ?_
  rintro e w21 ⟨rfl, hq, hm⟩
  have Q21 : Hid (OS w K20 p 9 [3, 1, 1] 0 [97, 98, 99, 100, 101] w21) := Lib.hid hq
  clear hq hm Q20 
  go_wp2_with (go_at_call 10; refine (HNum.out _ _).mono ?_; rintro e w' ⟨rfl, rfl⟩)
  refine (Q21.out.take 1 (by decide) 1 rfl [97] [98, 99, 100, 101] rfl rfl 0 1 (by decide) [3, 1, 1] rfl).mono ?_
  rintro e w22 ⟨a22, c22, rfl, hr, hq, hm⟩
  obtain ⟨_, hA, hn⟩ := row_arg hr
  obtain ⟨K22, hK⟩ : ∃ K', K' = More K20 w21 w22 := ⟨_, rfl⟩
  rw [← hK] at hq
  have Q22 : Hid (OS w K22 p 9 [3, 1, 1] 1 [98, 99, 100, 101] w22) := Lib.hid hq
  have v : Hid (Arg K22 w22 a22 1 [97]) := Lib.hid (hA.mono (fun k h1 h2 => by rw [hK]; exact .inr ⟨h2, h1⟩))
  have Nv := Lib.hid hn
  clear hr hq hm hA hn hK Q21 
  go_wp2_with (go_at_call 10; refine (HNum.out _ _).mono ?_; rintro e w' ⟨rfl, rfl⟩)
  refine (Q22.out.clear 2 (by decide)).mono ?_
  rintro e w23 ⟨rfl, hq, hm⟩
  have Q23 : Hid (OS w K22 p 9 [] 0 [] w23) := Lib.hid hq
  have v_23 : Hid (Arg K22 w23 a22 1 [97]) := Lib.hid (v.out.keep hm (fun _ e => e))
  clear hq hm Q22 v
  have cvv := conv_any (xs := [97]) c22 v_23.out Nv.out
  simp only [List.length_cons, List.length_nil, Nat.zero_add, Nat.reduceAdd] at cvv
  rw [show strOfNums [97] = ⟨#[97]⟩ from rfl] at cvv
  go_wp2_with (go_at_call 10; refine (HNum.out _ _).mono ?_; rintro e w' ⟨rfl, rfl⟩)
  refine Q23.out.begun.mono ?_
  rintro e w24 ⟨rfl, q24, hw⟩
  have Q24 : Hid (OS w K22 p 9 [] 0 [] w24) := by rw [hw]; exact Lib.hid (Q23.out.drewN q24)
  have v_23_24 : Hid (Arg K22 w24 a22 1 [97]) := by rw [hw]; exact Lib.hid (v_23.out.drewN q24)
  clear hw Q23 v_23
  go_wp2_with (go_at_call 10; refine (HNum.out _ _).mono ?_; rintro e w' ⟨rfl, rfl⟩)
  refine Q24.out.room.mono ?_
  rintro e w25 ⟨rfl, q25, hw⟩
  have Q25 : Hid (OS w K22 p 9 [] 0 [] w25) := by rw [hw]; exact Lib.hid (Q24.out.drewN q25)
  have v_23_24_25 : Hid (Arg K22 w25 a22 1 [97]) := by rw [hw]; exact Lib.hid (v_23_24.out.drewN q25)
  clear hw Q24 v_23_24
  have HB := Lib.hid Q25.out.below
  go_wp2_with fail
  go_ret
  exact ⟨rfl, HB.out⟩
end Go.Proofs.Ytneeagabmdpjgaa
