/- Messages: which are the same. Helper. -/
import Derived.Test.YtnbcjjgilndlaaaRdSm
namespace Go.Proofs.Ytnbcjjgilndlaaa
open Go.RowKit
set_option linter.unusedVariables false
set_option linter.unusedSimpArgs false
set_option maxRecDepth 100000
set_option maxHeartbeats 6400000 in
theorem sameRs_any (w : World) (a b : Rs) (A B : Option Addr) (c d : Nat) (hA : IntsAt w A a.vs) (hB : IntsAt w B b.vs) (hl : a.vs.length ≤ 9223372036854775807) (hm : b.vs.length ≤ 9223372036854775807) :
    Calls Try.prog 16 #[.agg (a.c A c).toArray, .agg (b.c B d).toArray] w fun r w' => r = .returned (.bool (decide (a = b))) ∧ Nw w w' := by
  obtain ⟨x0, x1, x2, x3, x4, x5, x6, x7, x8, x9, x10, x11, x12, x13, x14, x15, x16, x17⟩ := a
  obtain ⟨y0, y1, y2, y3, y4, y5, y6, y7, y8, y9, y10, y11, y12, y13, y14, y15, y16, y17⟩ := b
  simp only at hA hB hl hm
  simp only [Rs.c]
  obtain ⟨wb, hwb⟩ : ∃ wb, (w.alloc (.cells #[.int .i64 x0, .int .u32 x1, .int .i64 x2, .int .i64 x3, .slice A x4.length c, .int .i64 x5, .int .i64 x6, .int .i64 x7, .int .i64 x8, .int .i64 x9, .int .i64 x10, .int .u32 x11, .int .i64 x12, .int .i64 x13, .int .i64 x14, .int .i64 x15, .int .i64 x16, .int .i64 x17] 42)).alloc (.cells #[.int .i64 y0, .int .u32 y1, .int .i64 y2, .int .i64 y3, .slice B y4.length d, .int .i64 y5, .int .i64 y6, .int .i64 y7, .int .i64 y8, .int .i64 y9, .int .i64 y10, .int .u32 y11, .int .i64 y12, .int .i64 y13, .int .i64 y14, .int .i64 y15, .int .i64 y16, .int .i64 y17] 42) = wb := ⟨_, rfl⟩
  have hba : Blk wb w.heap.size 42 #[.int .i64 x0, .int .u32 x1, .int .i64 x2, .int .i64 x3, .slice A x4.length c, .int .i64 x5, .int .i64 x6, .int .i64 x7, .int .i64 x8, .int .i64 x9, .int .i64 x10, .int .u32 x11, .int .i64 x12, .int .i64 x13, .int .i64 x14, .int .i64 x15, .int .i64 x16, .int .i64 x17] := by rw [← hwb]; exact (Blk.last w _ _ rfl).alloc _
  have hbb : Blk wb (w.heap.size + 1) 42 #[.int .i64 y0, .int .u32 y1, .int .i64 y2, .int .i64 y3, .slice B y4.length d, .int .i64 y5, .int .i64 y6, .int .i64 y7, .int .i64 y8, .int .i64 y9, .int .i64 y10, .int .u32 y11, .int .i64 y12, .int .i64 y13, .int .i64 y14, .int .i64 y15, .int .i64 y16, .int .i64 y17] := by rw [← hwb]; exact Blk.last _ _ _ (by simp)
  have hn0 : Nw w wb := by rw [← hwb]; exact ((Nw.refl w).alloc _).alloc _
  have HWB := Lib.hid hwb
  have HN0 := Lib.hid hn0
  have hA1 := Rd.nw hA hn0
  have hB1 := Rd.nw hB hn0
  have u0 : wb.cell? ⟨w.heap.size, 0, none⟩ = some (.int .i64 x0) := (hba.cell 0).trans rfl
  have v0 : wb.cell? ⟨w.heap.size + 1, 0, none⟩ = some (.int .i64 y0) := (hbb.cell 0).trans rfl
  have u1 : wb.cell? ⟨w.heap.size, 1, none⟩ = some (.int .u32 x1) := (hba.cell 1).trans rfl
  have v1 : wb.cell? ⟨w.heap.size + 1, 1, none⟩ = some (.int .u32 y1) := (hbb.cell 1).trans rfl
  have u2 : wb.cell? ⟨w.heap.size, 2, none⟩ = some (.int .i64 x2) := (hba.cell 2).trans rfl
  have v2 : wb.cell? ⟨w.heap.size + 1, 2, none⟩ = some (.int .i64 y2) := (hbb.cell 2).trans rfl
  have u3 : wb.cell? ⟨w.heap.size, 3, none⟩ = some (.int .i64 x3) := (hba.cell 3).trans rfl
  have v3 : wb.cell? ⟨w.heap.size + 1, 3, none⟩ = some (.int .i64 y3) := (hbb.cell 3).trans rfl
  have u4 : wb.cell? ⟨w.heap.size, 4, none⟩ = some (.slice A x4.length c) := (hba.cell 4).trans rfl
  have v4 : wb.cell? ⟨w.heap.size + 1, 4, none⟩ = some (.slice B y4.length d) := (hbb.cell 4).trans rfl
  have u5 : wb.cell? ⟨w.heap.size, 5, none⟩ = some (.int .i64 x5) := (hba.cell 5).trans rfl
  have v5 : wb.cell? ⟨w.heap.size + 1, 5, none⟩ = some (.int .i64 y5) := (hbb.cell 5).trans rfl
  have u6 : wb.cell? ⟨w.heap.size, 6, none⟩ = some (.int .i64 x6) := (hba.cell 6).trans rfl
  have v6 : wb.cell? ⟨w.heap.size + 1, 6, none⟩ = some (.int .i64 y6) := (hbb.cell 6).trans rfl
  have u7 : wb.cell? ⟨w.heap.size, 7, none⟩ = some (.int .i64 x7) := (hba.cell 7).trans rfl
  have v7 : wb.cell? ⟨w.heap.size + 1, 7, none⟩ = some (.int .i64 y7) := (hbb.cell 7).trans rfl
  have u8 : wb.cell? ⟨w.heap.size, 8, none⟩ = some (.int .i64 x8) := (hba.cell 8).trans rfl
  have v8 : wb.cell? ⟨w.heap.size + 1, 8, none⟩ = some (.int .i64 y8) := (hbb.cell 8).trans rfl
  have u9 : wb.cell? ⟨w.heap.size, 9, none⟩ = some (.int .i64 x9) := (hba.cell 9).trans rfl
  have v9 : wb.cell? ⟨w.heap.size + 1, 9, none⟩ = some (.int .i64 y9) := (hbb.cell 9).trans rfl
  have u10 : wb.cell? ⟨w.heap.size, 10, none⟩ = some (.int .i64 x10) := (hba.cell 10).trans rfl
  have v10 : wb.cell? ⟨w.heap.size + 1, 10, none⟩ = some (.int .i64 y10) := (hbb.cell 10).trans rfl
  have u11 : wb.cell? ⟨w.heap.size, 11, none⟩ = some (.int .u32 x11) := (hba.cell 11).trans rfl
  have v11 : wb.cell? ⟨w.heap.size + 1, 11, none⟩ = some (.int .u32 y11) := (hbb.cell 11).trans rfl
  have u12 : wb.cell? ⟨w.heap.size, 12, none⟩ = some (.int .i64 x12) := (hba.cell 12).trans rfl
  have v12 : wb.cell? ⟨w.heap.size + 1, 12, none⟩ = some (.int .i64 y12) := (hbb.cell 12).trans rfl
  have u13 : wb.cell? ⟨w.heap.size, 13, none⟩ = some (.int .i64 x13) := (hba.cell 13).trans rfl
  have v13 : wb.cell? ⟨w.heap.size + 1, 13, none⟩ = some (.int .i64 y13) := (hbb.cell 13).trans rfl
  have u14 : wb.cell? ⟨w.heap.size, 14, none⟩ = some (.int .i64 x14) := (hba.cell 14).trans rfl
  have v14 : wb.cell? ⟨w.heap.size + 1, 14, none⟩ = some (.int .i64 y14) := (hbb.cell 14).trans rfl
  have u15 : wb.cell? ⟨w.heap.size, 15, none⟩ = some (.int .i64 x15) := (hba.cell 15).trans rfl
  have v15 : wb.cell? ⟨w.heap.size + 1, 15, none⟩ = some (.int .i64 y15) := (hbb.cell 15).trans rfl
  have u16 : wb.cell? ⟨w.heap.size, 16, none⟩ = some (.int .i64 x16) := (hba.cell 16).trans rfl
  have v16 : wb.cell? ⟨w.heap.size + 1, 16, none⟩ = some (.int .i64 y16) := (hbb.cell 16).trans rfl
  have u17 : wb.cell? ⟨w.heap.size, 17, none⟩ = some (.int .i64 x17) := (hba.cell 17).trans rfl
  have v17 : wb.cell? ⟨w.heap.size + 1, 17, none⟩ = some (.int .i64 y17) := (hbb.cell 17).trans rfl
  have KE := Lib.hid (eqInts_any A B c d x4 y4 wb hA1 hB1 hl hm)
  clear hba hbb hwb hn0 hA1 hB1 hA hB
  by_cases h : ¬ x0 = y0
  · rw [decide_eq_false (fun e => h (congrArg Rs.k e))]
    go_enter Try.func16, Try.ntmps16
    go_upto_region 1 with (fail)
    rw [HWB.out]
    go_wp2_with fail
    go_ret
    first | exact ⟨rfl, HN0.out⟩ | exact ⟨ret_bool (by simpa using h), HN0.out⟩
  replace h := Classical.not_not.1 h
  subst h
  by_cases h : ¬ x1 = y1
  · rw [decide_eq_false (fun e => h (congrArg Rs.id e))]
    go_enter Try.func16, Try.ntmps16
    go_upto_region 1 with (fail)
    rw [HWB.out]
    go_wp2_with fail
    go_ret
    first | exact ⟨rfl, HN0.out⟩ | exact ⟨ret_bool (by simpa using h), HN0.out⟩
  replace h := Classical.not_not.1 h
  subst h
  by_cases h : ¬ x2 = y2
  · rw [decide_eq_false (fun e => h (congrArg Rs.er e))]
    go_enter Try.func16, Try.ntmps16
    go_upto_region 1 with (fail)
    rw [HWB.out]
    go_wp2_with fail
    go_ret
    first | exact ⟨rfl, HN0.out⟩ | exact ⟨ret_bool (by simpa using h), HN0.out⟩
  replace h := Classical.not_not.1 h
  subst h
  by_cases h : ¬ x3 = y3
  · rw [decide_eq_false (fun e => h (congrArg Rs.fl e))]
    go_enter Try.func16, Try.ntmps16
    go_upto_region 1 with (fail)
    rw [HWB.out]
    go_wp2_with fail
    go_ret
    first | exact ⟨rfl, HN0.out⟩ | exact ⟨ret_bool (by simpa using h), HN0.out⟩
  replace h := Classical.not_not.1 h
  subst h
  by_cases h : ¬ x4 = y4
  · rw [decide_eq_false (fun e => h (congrArg Rs.vs e))]
    rw [decide_eq_false h] at KE
    go_enter Try.func16, Try.ntmps16
    go_upto_region 1 with (fail)
    rw [HWB.out]
    go_wp2_with fail
    refine KE.out.mono ?_
    rintro r w2 ⟨rfl, n2⟩
    have p0 := n2.cell u0
    have q0 := n2.cell v0
    have p1 := n2.cell u1
    have q1 := n2.cell v1
    have p2 := n2.cell u2
    have q2 := n2.cell v2
    have p3 := n2.cell u3
    have q3 := n2.cell v3
    have p4 := n2.cell u4
    have q4 := n2.cell v4
    have p5 := n2.cell u5
    have q5 := n2.cell v5
    have p6 := n2.cell u6
    have q6 := n2.cell v6
    have p7 := n2.cell u7
    have q7 := n2.cell v7
    have p8 := n2.cell u8
    have q8 := n2.cell v8
    have p9 := n2.cell u9
    have q9 := n2.cell v9
    have p10 := n2.cell u10
    have q10 := n2.cell v10
    have p11 := n2.cell u11
    have q11 := n2.cell v11
    have p12 := n2.cell u12
    have q12 := n2.cell v12
    have p13 := n2.cell u13
    have q13 := n2.cell v13
    have p14 := n2.cell u14
    have q14 := n2.cell v14
    have p15 := n2.cell u15
    have q15 := n2.cell v15
    have p16 := n2.cell u16
    have q16 := n2.cell v16
    have p17 := n2.cell u17
    have q17 := n2.cell v17
    have N2 := Lib.hid (HN0.out.trans (n2.mono HN0.out.size))
    clear n2 u0 v0 u1 v1 u2 v2 u3 v3 u4 v4 u5 v5 u6 v6 u7 v7 u8 v8 u9 v9 u10 v10 u11 v11 u12 v12 u13 v13 u14 v14 u15 v15 u16 v16 u17 v17
    go_wp2_with fail
    go_ret
    first | exact ⟨rfl, N2.out⟩ | exact ⟨ret_bool (by simpa using h), N2.out⟩
  replace h := Classical.not_not.1 h
  subst h
  simp only [decide_true] at KE
  by_cases h : ¬ x5 = y5
  · rw [decide_eq_false (fun e => h (congrArg Rs.rT e))]
    go_enter Try.func16, Try.ntmps16
    go_upto_region 1 with (fail)
    rw [HWB.out]
    go_wp2_with fail
    refine KE.out.mono ?_
    rintro r w2 ⟨rfl, n2⟩
    have p0 := n2.cell u0
    have q0 := n2.cell v0
    have p1 := n2.cell u1
    have q1 := n2.cell v1
    have p2 := n2.cell u2
    have q2 := n2.cell v2
    have p3 := n2.cell u3
    have q3 := n2.cell v3
    have p4 := n2.cell u4
    have q4 := n2.cell v4
    have p5 := n2.cell u5
    have q5 := n2.cell v5
    have p6 := n2.cell u6
    have q6 := n2.cell v6
    have p7 := n2.cell u7
    have q7 := n2.cell v7
    have p8 := n2.cell u8
    have q8 := n2.cell v8
    have p9 := n2.cell u9
    have q9 := n2.cell v9
    have p10 := n2.cell u10
    have q10 := n2.cell v10
    have p11 := n2.cell u11
    have q11 := n2.cell v11
    have p12 := n2.cell u12
    have q12 := n2.cell v12
    have p13 := n2.cell u13
    have q13 := n2.cell v13
    have p14 := n2.cell u14
    have q14 := n2.cell v14
    have p15 := n2.cell u15
    have q15 := n2.cell v15
    have p16 := n2.cell u16
    have q16 := n2.cell v16
    have p17 := n2.cell u17
    have q17 := n2.cell v17
    have N2 := Lib.hid (HN0.out.trans (n2.mono HN0.out.size))
    clear n2 u0 v0 u1 v1 u2 v2 u3 v3 u4 v4 u5 v5 u6 v6 u7 v7 u8 v8 u9 v9 u10 v10 u11 v11 u12 v12 u13 v13 u14 v14 u15 v15 u16 v16 u17 v17
    go_wp2_with fail
    go_ret
    first | exact ⟨rfl, N2.out⟩ | exact ⟨ret_bool (by simpa using h), N2.out⟩
  replace h := Classical.not_not.1 h
  subst h
  by_cases h : ¬ x6 = y6
  · rw [decide_eq_false (fun e => h (congrArg Rs.rO e))]
    go_enter Try.func16, Try.ntmps16
    go_upto_region 1 with (fail)
    rw [HWB.out]
    go_wp2_with fail
    refine KE.out.mono ?_
    rintro r w2 ⟨rfl, n2⟩
    have p0 := n2.cell u0
    have q0 := n2.cell v0
    have p1 := n2.cell u1
    have q1 := n2.cell v1
    have p2 := n2.cell u2
    have q2 := n2.cell v2
    have p3 := n2.cell u3
    have q3 := n2.cell v3
    have p4 := n2.cell u4
    have q4 := n2.cell v4
    have p5 := n2.cell u5
    have q5 := n2.cell v5
    have p6 := n2.cell u6
    have q6 := n2.cell v6
    have p7 := n2.cell u7
    have q7 := n2.cell v7
    have p8 := n2.cell u8
    have q8 := n2.cell v8
    have p9 := n2.cell u9
    have q9 := n2.cell v9
    have p10 := n2.cell u10
    have q10 := n2.cell v10
    have p11 := n2.cell u11
    have q11 := n2.cell v11
    have p12 := n2.cell u12
    have q12 := n2.cell v12
    have p13 := n2.cell u13
    have q13 := n2.cell v13
    have p14 := n2.cell u14
    have q14 := n2.cell v14
    have p15 := n2.cell u15
    have q15 := n2.cell v15
    have p16 := n2.cell u16
    have q16 := n2.cell v16
    have p17 := n2.cell u17
    have q17 := n2.cell v17
    have N2 := Lib.hid (HN0.out.trans (n2.mono HN0.out.size))
    clear n2 u0 v0 u1 v1 u2 v2 u3 v3 u4 v4 u5 v5 u6 v6 u7 v7 u8 v8 u9 v9 u10 v10 u11 v11 u12 v12 u13 v13 u14 v14 u15 v15 u16 v16 u17 v17
    go_wp2_with fail
    go_ret
    first | exact ⟨rfl, N2.out⟩ | exact ⟨ret_bool (by simpa using h), N2.out⟩
  replace h := Classical.not_not.1 h
  subst h
  by_cases h : ¬ x7 = y7
  · rw [decide_eq_false (fun e => h (congrArg Rs.rS e))]
    go_enter Try.func16, Try.ntmps16
    go_upto_region 1 with (fail)
    rw [HWB.out]
    go_wp2_with fail
    refine KE.out.mono ?_
    rintro r w2 ⟨rfl, n2⟩
    have p0 := n2.cell u0
    have q0 := n2.cell v0
    have p1 := n2.cell u1
    have q1 := n2.cell v1
    have p2 := n2.cell u2
    have q2 := n2.cell v2
    have p3 := n2.cell u3
    have q3 := n2.cell v3
    have p4 := n2.cell u4
    have q4 := n2.cell v4
    have p5 := n2.cell u5
    have q5 := n2.cell v5
    have p6 := n2.cell u6
    have q6 := n2.cell v6
    have p7 := n2.cell u7
    have q7 := n2.cell v7
    have p8 := n2.cell u8
    have q8 := n2.cell v8
    have p9 := n2.cell u9
    have q9 := n2.cell v9
    have p10 := n2.cell u10
    have q10 := n2.cell v10
    have p11 := n2.cell u11
    have q11 := n2.cell v11
    have p12 := n2.cell u12
    have q12 := n2.cell v12
    have p13 := n2.cell u13
    have q13 := n2.cell v13
    have p14 := n2.cell u14
    have q14 := n2.cell v14
    have p15 := n2.cell u15
    have q15 := n2.cell v15
    have p16 := n2.cell u16
    have q16 := n2.cell v16
    have p17 := n2.cell u17
    have q17 := n2.cell v17
    have N2 := Lib.hid (HN0.out.trans (n2.mono HN0.out.size))
    clear n2 u0 v0 u1 v1 u2 v2 u3 v3 u4 v4 u5 v5 u6 v6 u7 v7 u8 v8 u9 v9 u10 v10 u11 v11 u12 v12 u13 v13 u14 v14 u15 v15 u16 v16 u17 v17
    go_wp2_with fail
    go_ret
    first | exact ⟨rfl, N2.out⟩ | exact ⟨ret_bool (by simpa using h), N2.out⟩
  replace h := Classical.not_not.1 h
  subst h
  by_cases h : ¬ x8 = y8
  · rw [decide_eq_false (fun e => h (congrArg Rs.rp e))]
    go_enter Try.func16, Try.ntmps16
    go_upto_region 1 with (fail)
    rw [HWB.out]
    go_wp2_with fail
    refine KE.out.mono ?_
    rintro r w2 ⟨rfl, n2⟩
    have p0 := n2.cell u0
    have q0 := n2.cell v0
    have p1 := n2.cell u1
    have q1 := n2.cell v1
    have p2 := n2.cell u2
    have q2 := n2.cell v2
    have p3 := n2.cell u3
    have q3 := n2.cell v3
    have p4 := n2.cell u4
    have q4 := n2.cell v4
    have p5 := n2.cell u5
    have q5 := n2.cell v5
    have p6 := n2.cell u6
    have q6 := n2.cell v6
    have p7 := n2.cell u7
    have q7 := n2.cell v7
    have p8 := n2.cell u8
    have q8 := n2.cell v8
    have p9 := n2.cell u9
    have q9 := n2.cell v9
    have p10 := n2.cell u10
    have q10 := n2.cell v10
    have p11 := n2.cell u11
    have q11 := n2.cell v11
    have p12 := n2.cell u12
    have q12 := n2.cell v12
    have p13 := n2.cell u13
    have q13 := n2.cell v13
    have p14 := n2.cell u14
    have q14 := n2.cell v14
    have p15 := n2.cell u15
    have q15 := n2.cell v15
    have p16 := n2.cell u16
    have q16 := n2.cell v16
    have p17 := n2.cell u17
    have q17 := n2.cell v17
    have N2 := Lib.hid (HN0.out.trans (n2.mono HN0.out.size))
    clear n2 u0 v0 u1 v1 u2 v2 u3 v3 u4 v4 u5 v5 u6 v6 u7 v7 u8 v8 u9 v9 u10 v10 u11 v11 u12 v12 u13 v13 u14 v14 u15 v15 u16 v16 u17 v17
    go_wp2_with fail
    go_ret
    first | exact ⟨rfl, N2.out⟩ | exact ⟨ret_bool (by simpa using h), N2.out⟩
  replace h := Classical.not_not.1 h
  subst h
  by_cases h : ¬ x9 = y9
  · rw [decide_eq_false (fun e => h (congrArg Rs.rn e))]
    go_enter Try.func16, Try.ntmps16
    go_upto_region 1 with (fail)
    rw [HWB.out]
    go_wp2_with fail
    refine KE.out.mono ?_
    rintro r w2 ⟨rfl, n2⟩
    have p0 := n2.cell u0
    have q0 := n2.cell v0
    have p1 := n2.cell u1
    have q1 := n2.cell v1
    have p2 := n2.cell u2
    have q2 := n2.cell v2
    have p3 := n2.cell u3
    have q3 := n2.cell v3
    have p4 := n2.cell u4
    have q4 := n2.cell v4
    have p5 := n2.cell u5
    have q5 := n2.cell v5
    have p6 := n2.cell u6
    have q6 := n2.cell v6
    have p7 := n2.cell u7
    have q7 := n2.cell v7
    have p8 := n2.cell u8
    have q8 := n2.cell v8
    have p9 := n2.cell u9
    have q9 := n2.cell v9
    have p10 := n2.cell u10
    have q10 := n2.cell v10
    have p11 := n2.cell u11
    have q11 := n2.cell v11
    have p12 := n2.cell u12
    have q12 := n2.cell v12
    have p13 := n2.cell u13
    have q13 := n2.cell v13
    have p14 := n2.cell u14
    have q14 := n2.cell v14
    have p15 := n2.cell u15
    have q15 := n2.cell v15
    have p16 := n2.cell u16
    have q16 := n2.cell v16
    have p17 := n2.cell u17
    have q17 := n2.cell v17
    have N2 := Lib.hid (HN0.out.trans (n2.mono HN0.out.size))
    clear n2 u0 v0 u1 v1 u2 v2 u3 v3 u4 v4 u5 v5 u6 v6 u7 v7 u8 v8 u9 v9 u10 v10 u11 v11 u12 v12 u13 v13 u14 v14 u15 v15 u16 v16 u17 v17
    go_wp2_with fail
    go_ret
    first | exact ⟨rfl, N2.out⟩ | exact ⟨ret_bool (by simpa using h), N2.out⟩
  replace h := Classical.not_not.1 h
  subst h
  by_cases h : ¬ x10 = y10
  · rw [decide_eq_false (fun e => h (congrArg Rs.rv e))]
    go_enter Try.func16, Try.ntmps16
    go_upto_region 1 with (fail)
    rw [HWB.out]
    go_wp2_with fail
    refine KE.out.mono ?_
    rintro r w2 ⟨rfl, n2⟩
    have p0 := n2.cell u0
    have q0 := n2.cell v0
    have p1 := n2.cell u1
    have q1 := n2.cell v1
    have p2 := n2.cell u2
    have q2 := n2.cell v2
    have p3 := n2.cell u3
    have q3 := n2.cell v3
    have p4 := n2.cell u4
    have q4 := n2.cell v4
    have p5 := n2.cell u5
    have q5 := n2.cell v5
    have p6 := n2.cell u6
    have q6 := n2.cell v6
    have p7 := n2.cell u7
    have q7 := n2.cell v7
    have p8 := n2.cell u8
    have q8 := n2.cell v8
    have p9 := n2.cell u9
    have q9 := n2.cell v9
    have p10 := n2.cell u10
    have q10 := n2.cell v10
    have p11 := n2.cell u11
    have q11 := n2.cell v11
    have p12 := n2.cell u12
    have q12 := n2.cell v12
    have p13 := n2.cell u13
    have q13 := n2.cell v13
    have p14 := n2.cell u14
    have q14 := n2.cell v14
    have p15 := n2.cell u15
    have q15 := n2.cell v15
    have p16 := n2.cell u16
    have q16 := n2.cell v16
    have p17 := n2.cell u17
    have q17 := n2.cell v17
    have N2 := Lib.hid (HN0.out.trans (n2.mono HN0.out.size))
    clear n2 u0 v0 u1 v1 u2 v2 u3 v3 u4 v4 u5 v5 u6 v6 u7 v7 u8 v8 u9 v9 u10 v10 u11 v11 u12 v12 u13 v13 u14 v14 u15 v15 u16 v16 u17 v17
    go_wp2_with fail
    go_ret
    first | exact ⟨rfl, N2.out⟩ | exact ⟨ret_bool (by simpa using h), N2.out⟩
  replace h := Classical.not_not.1 h
  subst h
  by_cases h : ¬ x11 = y11
  · rw [decide_eq_false (fun e => h (congrArg Rs.nu e))]
    go_enter Try.func16, Try.ntmps16
    go_upto_region 1 with (fail)
    rw [HWB.out]
    go_wp2_with fail
    refine KE.out.mono ?_
    rintro r w2 ⟨rfl, n2⟩
    have p0 := n2.cell u0
    have q0 := n2.cell v0
    have p1 := n2.cell u1
    have q1 := n2.cell v1
    have p2 := n2.cell u2
    have q2 := n2.cell v2
    have p3 := n2.cell u3
    have q3 := n2.cell v3
    have p4 := n2.cell u4
    have q4 := n2.cell v4
    have p5 := n2.cell u5
    have q5 := n2.cell v5
    have p6 := n2.cell u6
    have q6 := n2.cell v6
    have p7 := n2.cell u7
    have q7 := n2.cell v7
    have p8 := n2.cell u8
    have q8 := n2.cell v8
    have p9 := n2.cell u9
    have q9 := n2.cell v9
    have p10 := n2.cell u10
    have q10 := n2.cell v10
    have p11 := n2.cell u11
    have q11 := n2.cell v11
    have p12 := n2.cell u12
    have q12 := n2.cell v12
    have p13 := n2.cell u13
    have q13 := n2.cell v13
    have p14 := n2.cell u14
    have q14 := n2.cell v14
    have p15 := n2.cell u15
    have q15 := n2.cell v15
    have p16 := n2.cell u16
    have q16 := n2.cell v16
    have p17 := n2.cell u17
    have q17 := n2.cell v17
    have N2 := Lib.hid (HN0.out.trans (n2.mono HN0.out.size))
    clear n2 u0 v0 u1 v1 u2 v2 u3 v3 u4 v4 u5 v5 u6 v6 u7 v7 u8 v8 u9 v9 u10 v10 u11 v11 u12 v12 u13 v13 u14 v14 u15 v15 u16 v16 u17 v17
    go_wp2_with fail
    go_ret
    first | exact ⟨rfl, N2.out⟩ | exact ⟨ret_bool (by simpa using h), N2.out⟩
  replace h := Classical.not_not.1 h
  subst h
  by_cases h : ¬ x12 = y12
  · rw [decide_eq_false (fun e => h (congrArg Rs.T e))]
    go_enter Try.func16, Try.ntmps16
    go_upto_region 1 with (fail)
    rw [HWB.out]
    go_wp2_with fail
    refine KE.out.mono ?_
    rintro r w2 ⟨rfl, n2⟩
    have p0 := n2.cell u0
    have q0 := n2.cell v0
    have p1 := n2.cell u1
    have q1 := n2.cell v1
    have p2 := n2.cell u2
    have q2 := n2.cell v2
    have p3 := n2.cell u3
    have q3 := n2.cell v3
    have p4 := n2.cell u4
    have q4 := n2.cell v4
    have p5 := n2.cell u5
    have q5 := n2.cell v5
    have p6 := n2.cell u6
    have q6 := n2.cell v6
    have p7 := n2.cell u7
    have q7 := n2.cell v7
    have p8 := n2.cell u8
    have q8 := n2.cell v8
    have p9 := n2.cell u9
    have q9 := n2.cell v9
    have p10 := n2.cell u10
    have q10 := n2.cell v10
    have p11 := n2.cell u11
    have q11 := n2.cell v11
    have p12 := n2.cell u12
    have q12 := n2.cell v12
    have p13 := n2.cell u13
    have q13 := n2.cell v13
    have p14 := n2.cell u14
    have q14 := n2.cell v14
    have p15 := n2.cell u15
    have q15 := n2.cell v15
    have p16 := n2.cell u16
    have q16 := n2.cell v16
    have p17 := n2.cell u17
    have q17 := n2.cell v17
    have N2 := Lib.hid (HN0.out.trans (n2.mono HN0.out.size))
    clear n2 u0 v0 u1 v1 u2 v2 u3 v3 u4 v4 u5 v5 u6 v6 u7 v7 u8 v8 u9 v9 u10 v10 u11 v11 u12 v12 u13 v13 u14 v14 u15 v15 u16 v16 u17 v17
    go_wp2_with fail
    go_ret
    first | exact ⟨rfl, N2.out⟩ | exact ⟨ret_bool (by simpa using h), N2.out⟩
  replace h := Classical.not_not.1 h
  subst h
  by_cases h : ¬ x13 = y13
  · rw [decide_eq_false (fun e => h (congrArg Rs.O e))]
    go_enter Try.func16, Try.ntmps16
    go_upto_region 1 with (fail)
    rw [HWB.out]
    go_wp2_with fail
    refine KE.out.mono ?_
    rintro r w2 ⟨rfl, n2⟩
    have p0 := n2.cell u0
    have q0 := n2.cell v0
    have p1 := n2.cell u1
    have q1 := n2.cell v1
    have p2 := n2.cell u2
    have q2 := n2.cell v2
    have p3 := n2.cell u3
    have q3 := n2.cell v3
    have p4 := n2.cell u4
    have q4 := n2.cell v4
    have p5 := n2.cell u5
    have q5 := n2.cell v5
    have p6 := n2.cell u6
    have q6 := n2.cell v6
    have p7 := n2.cell u7
    have q7 := n2.cell v7
    have p8 := n2.cell u8
    have q8 := n2.cell v8
    have p9 := n2.cell u9
    have q9 := n2.cell v9
    have p10 := n2.cell u10
    have q10 := n2.cell v10
    have p11 := n2.cell u11
    have q11 := n2.cell v11
    have p12 := n2.cell u12
    have q12 := n2.cell v12
    have p13 := n2.cell u13
    have q13 := n2.cell v13
    have p14 := n2.cell u14
    have q14 := n2.cell v14
    have p15 := n2.cell u15
    have q15 := n2.cell v15
    have p16 := n2.cell u16
    have q16 := n2.cell v16
    have p17 := n2.cell u17
    have q17 := n2.cell v17
    have N2 := Lib.hid (HN0.out.trans (n2.mono HN0.out.size))
    clear n2 u0 v0 u1 v1 u2 v2 u3 v3 u4 v4 u5 v5 u6 v6 u7 v7 u8 v8 u9 v9 u10 v10 u11 v11 u12 v12 u13 v13 u14 v14 u15 v15 u16 v16 u17 v17
    go_wp2_with fail
    go_ret
    first | exact ⟨rfl, N2.out⟩ | exact ⟨ret_bool (by simpa using h), N2.out⟩
  replace h := Classical.not_not.1 h
  subst h
  by_cases h : ¬ x14 = y14
  · rw [decide_eq_false (fun e => h (congrArg Rs.S e))]
    go_enter Try.func16, Try.ntmps16
    go_upto_region 1 with (fail)
    rw [HWB.out]
    go_wp2_with fail
    refine KE.out.mono ?_
    rintro r w2 ⟨rfl, n2⟩
    have p0 := n2.cell u0
    have q0 := n2.cell v0
    have p1 := n2.cell u1
    have q1 := n2.cell v1
    have p2 := n2.cell u2
    have q2 := n2.cell v2
    have p3 := n2.cell u3
    have q3 := n2.cell v3
    have p4 := n2.cell u4
    have q4 := n2.cell v4
    have p5 := n2.cell u5
    have q5 := n2.cell v5
    have p6 := n2.cell u6
    have q6 := n2.cell v6
    have p7 := n2.cell u7
    have q7 := n2.cell v7
    have p8 := n2.cell u8
    have q8 := n2.cell v8
    have p9 := n2.cell u9
    have q9 := n2.cell v9
    have p10 := n2.cell u10
    have q10 := n2.cell v10
    have p11 := n2.cell u11
    have q11 := n2.cell v11
    have p12 := n2.cell u12
    have q12 := n2.cell v12
    have p13 := n2.cell u13
    have q13 := n2.cell v13
    have p14 := n2.cell u14
    have q14 := n2.cell v14
    have p15 := n2.cell u15
    have q15 := n2.cell v15
    have p16 := n2.cell u16
    have q16 := n2.cell v16
    have p17 := n2.cell u17
    have q17 := n2.cell v17
    have N2 := Lib.hid (HN0.out.trans (n2.mono HN0.out.size))
    clear n2 u0 v0 u1 v1 u2 v2 u3 v3 u4 v4 u5 v5 u6 v6 u7 v7 u8 v8 u9 v9 u10 v10 u11 v11 u12 v12 u13 v13 u14 v14 u15 v15 u16 v16 u17 v17
    go_wp2_with fail
    go_ret
    first | exact ⟨rfl, N2.out⟩ | exact ⟨ret_bool (by simpa using h), N2.out⟩
  replace h := Classical.not_not.1 h
  subst h
  by_cases h : ¬ x15 = y15
  · rw [decide_eq_false (fun e => h (congrArg Rs.tt e))]
    go_enter Try.func16, Try.ntmps16
    go_upto_region 1 with (fail)
    rw [HWB.out]
    go_wp2_with fail
    refine KE.out.mono ?_
    rintro r w2 ⟨rfl, n2⟩
    have p0 := n2.cell u0
    have q0 := n2.cell v0
    have p1 := n2.cell u1
    have q1 := n2.cell v1
    have p2 := n2.cell u2
    have q2 := n2.cell v2
    have p3 := n2.cell u3
    have q3 := n2.cell v3
    have p4 := n2.cell u4
    have q4 := n2.cell v4
    have p5 := n2.cell u5
    have q5 := n2.cell v5
    have p6 := n2.cell u6
    have q6 := n2.cell v6
    have p7 := n2.cell u7
    have q7 := n2.cell v7
    have p8 := n2.cell u8
    have q8 := n2.cell v8
    have p9 := n2.cell u9
    have q9 := n2.cell v9
    have p10 := n2.cell u10
    have q10 := n2.cell v10
    have p11 := n2.cell u11
    have q11 := n2.cell v11
    have p12 := n2.cell u12
    have q12 := n2.cell v12
    have p13 := n2.cell u13
    have q13 := n2.cell v13
    have p14 := n2.cell u14
    have q14 := n2.cell v14
    have p15 := n2.cell u15
    have q15 := n2.cell v15
    have p16 := n2.cell u16
    have q16 := n2.cell v16
    have p17 := n2.cell u17
    have q17 := n2.cell v17
    have N2 := Lib.hid (HN0.out.trans (n2.mono HN0.out.size))
    clear n2 u0 v0 u1 v1 u2 v2 u3 v3 u4 v4 u5 v5 u6 v6 u7 v7 u8 v8 u9 v9 u10 v10 u11 v11 u12 v12 u13 v13 u14 v14 u15 v15 u16 v16 u17 v17
    go_wp2_with fail
    go_ret
    first | exact ⟨rfl, N2.out⟩ | exact ⟨ret_bool (by simpa using h), N2.out⟩
  replace h := Classical.not_not.1 h
  subst h
  by_cases h : ¬ x16 = y16
  · rw [decide_eq_false (fun e => h (congrArg Rs.kd e))]
    go_enter Try.func16, Try.ntmps16
    go_upto_region 1 with (fail)
    rw [HWB.out]
    go_wp2_with fail
    refine KE.out.mono ?_
    rintro r w2 ⟨rfl, n2⟩
    have p0 := n2.cell u0
    have q0 := n2.cell v0
    have p1 := n2.cell u1
    have q1 := n2.cell v1
    have p2 := n2.cell u2
    have q2 := n2.cell v2
    have p3 := n2.cell u3
    have q3 := n2.cell v3
    have p4 := n2.cell u4
    have q4 := n2.cell v4
    have p5 := n2.cell u5
    have q5 := n2.cell v5
    have p6 := n2.cell u6
    have q6 := n2.cell v6
    have p7 := n2.cell u7
    have q7 := n2.cell v7
    have p8 := n2.cell u8
    have q8 := n2.cell v8
    have p9 := n2.cell u9
    have q9 := n2.cell v9
    have p10 := n2.cell u10
    have q10 := n2.cell v10
    have p11 := n2.cell u11
    have q11 := n2.cell v11
    have p12 := n2.cell u12
    have q12 := n2.cell v12
    have p13 := n2.cell u13
    have q13 := n2.cell v13
    have p14 := n2.cell u14
    have q14 := n2.cell v14
    have p15 := n2.cell u15
    have q15 := n2.cell v15
    have p16 := n2.cell u16
    have q16 := n2.cell v16
    have p17 := n2.cell u17
    have q17 := n2.cell v17
    have N2 := Lib.hid (HN0.out.trans (n2.mono HN0.out.size))
    clear n2 u0 v0 u1 v1 u2 v2 u3 v3 u4 v4 u5 v5 u6 v6 u7 v7 u8 v8 u9 v9 u10 v10 u11 v11 u12 v12 u13 v13 u14 v14 u15 v15 u16 v16 u17 v17
    go_wp2_with fail
    go_ret
    first | exact ⟨rfl, N2.out⟩ | exact ⟨ret_bool (by simpa using h), N2.out⟩
  replace h := Classical.not_not.1 h
  subst h
  by_cases h : ¬ x17 = y17
  · rw [decide_eq_false (fun e => h (congrArg Rs.da e))]
    go_enter Try.func16, Try.ntmps16
    go_upto_region 1 with (fail)
    rw [HWB.out]
    go_wp2_with fail
    refine KE.out.mono ?_
    rintro r w2 ⟨rfl, n2⟩
    have p0 := n2.cell u0
    have q0 := n2.cell v0
    have p1 := n2.cell u1
    have q1 := n2.cell v1
    have p2 := n2.cell u2
    have q2 := n2.cell v2
    have p3 := n2.cell u3
    have q3 := n2.cell v3
    have p4 := n2.cell u4
    have q4 := n2.cell v4
    have p5 := n2.cell u5
    have q5 := n2.cell v5
    have p6 := n2.cell u6
    have q6 := n2.cell v6
    have p7 := n2.cell u7
    have q7 := n2.cell v7
    have p8 := n2.cell u8
    have q8 := n2.cell v8
    have p9 := n2.cell u9
    have q9 := n2.cell v9
    have p10 := n2.cell u10
    have q10 := n2.cell v10
    have p11 := n2.cell u11
    have q11 := n2.cell v11
    have p12 := n2.cell u12
    have q12 := n2.cell v12
    have p13 := n2.cell u13
    have q13 := n2.cell v13
    have p14 := n2.cell u14
    have q14 := n2.cell v14
    have p15 := n2.cell u15
    have q15 := n2.cell v15
    have p16 := n2.cell u16
    have q16 := n2.cell v16
    have p17 := n2.cell u17
    have q17 := n2.cell v17
    have N2 := Lib.hid (HN0.out.trans (n2.mono HN0.out.size))
    clear n2 u0 v0 u1 v1 u2 v2 u3 v3 u4 v4 u5 v5 u6 v6 u7 v7 u8 v8 u9 v9 u10 v10 u11 v11 u12 v12 u13 v13 u14 v14 u15 v15 u16 v16 u17 v17
    go_wp2_with fail
    go_ret
    first | exact ⟨rfl, N2.out⟩ | exact ⟨ret_bool (by simpa using h), N2.out⟩
  replace h := Classical.not_not.1 h
  subst h
  rw [decide_eq_true rfl]
  go_enter Try.func16, Try.ntmps16
  go_upto_region 1 with (fail)
  rw [HWB.out]
  go_wp2_with fail
  refine KE.out.mono ?_
  rintro r w2 ⟨rfl, n2⟩
  have p0 := n2.cell u0
  have q0 := n2.cell v0
  have p1 := n2.cell u1
  have q1 := n2.cell v1
  have p2 := n2.cell u2
  have q2 := n2.cell v2
  have p3 := n2.cell u3
  have q3 := n2.cell v3
  have p4 := n2.cell u4
  have q4 := n2.cell v4
  have p5 := n2.cell u5
  have q5 := n2.cell v5
  have p6 := n2.cell u6
  have q6 := n2.cell v6
  have p7 := n2.cell u7
  have q7 := n2.cell v7
  have p8 := n2.cell u8
  have q8 := n2.cell v8
  have p9 := n2.cell u9
  have q9 := n2.cell v9
  have p10 := n2.cell u10
  have q10 := n2.cell v10
  have p11 := n2.cell u11
  have q11 := n2.cell v11
  have p12 := n2.cell u12
  have q12 := n2.cell v12
  have p13 := n2.cell u13
  have q13 := n2.cell v13
  have p14 := n2.cell u14
  have q14 := n2.cell v14
  have p15 := n2.cell u15
  have q15 := n2.cell v15
  have p16 := n2.cell u16
  have q16 := n2.cell v16
  have p17 := n2.cell u17
  have q17 := n2.cell v17
  have N2 := Lib.hid (HN0.out.trans (n2.mono HN0.out.size))
  clear n2 u0 v0 u1 v1 u2 v2 u3 v3 u4 v4 u5 v5 u6 v6 u7 v7 u8 v8 u9 v9 u10 v10 u11 v11 u12 v12 u13 v13 u14 v14 u15 v15 u16 v16 u17 v17
  go_wp2_with fail
  go_ret
  first | exact ⟨rfl, N2.out⟩ | exact ⟨ret_bool (by simpa using h), N2.out⟩
end Go.Proofs.Ytnbcjjgilndlaaa
