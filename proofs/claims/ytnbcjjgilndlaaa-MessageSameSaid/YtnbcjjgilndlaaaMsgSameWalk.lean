/- MessageSame: the walk of the law. Helper. -/
import Derived.Test.YtnbcjjgilndlaaaMsgKnown
import Derived.Test.YtnbcjjgilndlaaaMsgRefQ
import Derived.Test.YtnbcjjgilndlaaaMsgRefS
namespace Go.Proofs.Ytnbcjjgilndlaaa
open Go.RowKit
set_option linter.unusedVariables false
set_option linter.unusedSimpArgs false
set_option maxRecDepth 100000
set_option maxHeartbeats 6400000
theorem same_out0 (w : World) (a b : Rq) (x y : Rs) (A B X Y : Option Addr) (c d cx cy : Nat)  (i0 : (5000 : Int) < (a.md.length : Int)) : Calls Try.prog 4 #[.agg (a.c A c).toArray, .agg (b.c B d).toArray, .agg (x.c X cx).toArray, .agg (y.c Y cy).toArray] w fun e w' => e = .returned (.bool true) ∧ Nw w w' := by
  obtain ⟨QA, hQA⟩ : ∃ Q, (a.c A c).toArray = Q := ⟨_, rfl⟩
  obtain ⟨QB, hQB⟩ : ∃ Q, (b.c B d).toArray = Q := ⟨_, rfl⟩
  obtain ⟨XA, hXA⟩ : ∃ Q, (x.c X cx).toArray = Q := ⟨_, rfl⟩
  obtain ⟨XB, hXB⟩ : ∃ Q, (y.c Y cy).toArray = Q := ⟨_, rfl⟩
  obtain ⟨wb, hwb⟩ : ∃ W, (((w.alloc (.cells QA 33)).alloc (.cells QB 33)).alloc (.cells XA 42)).alloc (.cells XB 42) = W := ⟨_, rfl⟩
  have b4 : Blk wb w.heap.size 33 QA := by rw [← hwb]; exact (((Blk.last w _ _ rfl).alloc _).alloc _).alloc _
  have b5 : Blk wb (w.heap.size + 1) 33 QB := by rw [← hwb]; exact ((Blk.last _ _ _ (by simp)).alloc _).alloc _
  have b6 : Blk wb (w.heap.size + 1 + 1) 42 XA := by rw [← hwb]; exact (Blk.last _ _ _ (by simp)).alloc _
  have b7 : Blk wb (w.heap.size + 1 + 1 + 1) 42 XB := by rw [← hwb]; exact Blk.last _ _ _ (by simp)
  have nb : Nw w wb := by rw [← hwb]; exact ((((Nw.refl w).alloc _).alloc _).alloc _).alloc _
  have u4 : wb.cell? ⟨w.heap.size, 3, none⟩ = some (.slice A a.md.length c) := (b4.cell 3).trans (by rw [← hQA]; rfl)
  have u5 : wb.cell? ⟨w.heap.size + 1, 3, none⟩ = some (.slice B b.md.length d) := (b5.cell 3).trans (by rw [← hQB]; rfl)
  have u6 : wb.cell? ⟨w.heap.size + 1 + 1, 4, none⟩ = some (.slice X x.vs.length cx) := (b6.cell 4).trans (by rw [← hXA]; rfl)
  have u7 : wb.cell? ⟨w.heap.size + 1 + 1 + 1, 4, none⟩ = some (.slice Y y.vs.length cy) := (b7.cell 4).trans (by rw [← hXB]; rfl)
  rw [hQA, hQB, hXA, hXB]
  have HWB := Lib.hid hwb
  have NB := Lib.hid nb
  clear hwb nb b4 b5 b6 b7 hQA hQB hXA hXB
  go_enter Try.func4, Try.ntmps4
  go_upto_region 1 with (fail)
  rw [HWB.out]
  go_wp2_with fail
  refine (known_any wb).mono ?_
  rintro e w1 ⟨rfl, n1⟩
  have N1 := Lib.hid (NB.out.trans (n1.mono NB.out.size))
  clear n1
  go_wp2_with fail
  go_ret
  exact ⟨rfl, N1.out⟩
theorem same_out1 (w : World) (a b : Rq) (x y : Rs) (A B X Y : Option Addr) (c d cx cy : Nat) (i0 : ¬ (5000 : Int) < (a.md.length : Int)) (i1 : (5000 : Int) < (b.md.length : Int)) : Calls Try.prog 4 #[.agg (a.c A c).toArray, .agg (b.c B d).toArray, .agg (x.c X cx).toArray, .agg (y.c Y cy).toArray] w fun e w' => e = .returned (.bool true) ∧ Nw w w' := by
  obtain ⟨QA, hQA⟩ : ∃ Q, (a.c A c).toArray = Q := ⟨_, rfl⟩
  obtain ⟨QB, hQB⟩ : ∃ Q, (b.c B d).toArray = Q := ⟨_, rfl⟩
  obtain ⟨XA, hXA⟩ : ∃ Q, (x.c X cx).toArray = Q := ⟨_, rfl⟩
  obtain ⟨XB, hXB⟩ : ∃ Q, (y.c Y cy).toArray = Q := ⟨_, rfl⟩
  obtain ⟨wb, hwb⟩ : ∃ W, (((w.alloc (.cells QA 33)).alloc (.cells QB 33)).alloc (.cells XA 42)).alloc (.cells XB 42) = W := ⟨_, rfl⟩
  have b4 : Blk wb w.heap.size 33 QA := by rw [← hwb]; exact (((Blk.last w _ _ rfl).alloc _).alloc _).alloc _
  have b5 : Blk wb (w.heap.size + 1) 33 QB := by rw [← hwb]; exact ((Blk.last _ _ _ (by simp)).alloc _).alloc _
  have b6 : Blk wb (w.heap.size + 1 + 1) 42 XA := by rw [← hwb]; exact (Blk.last _ _ _ (by simp)).alloc _
  have b7 : Blk wb (w.heap.size + 1 + 1 + 1) 42 XB := by rw [← hwb]; exact Blk.last _ _ _ (by simp)
  have nb : Nw w wb := by rw [← hwb]; exact ((((Nw.refl w).alloc _).alloc _).alloc _).alloc _
  have u4 : wb.cell? ⟨w.heap.size, 3, none⟩ = some (.slice A a.md.length c) := (b4.cell 3).trans (by rw [← hQA]; rfl)
  have u5 : wb.cell? ⟨w.heap.size + 1, 3, none⟩ = some (.slice B b.md.length d) := (b5.cell 3).trans (by rw [← hQB]; rfl)
  have u6 : wb.cell? ⟨w.heap.size + 1 + 1, 4, none⟩ = some (.slice X x.vs.length cx) := (b6.cell 4).trans (by rw [← hXA]; rfl)
  have u7 : wb.cell? ⟨w.heap.size + 1 + 1 + 1, 4, none⟩ = some (.slice Y y.vs.length cy) := (b7.cell 4).trans (by rw [← hXB]; rfl)
  rw [hQA, hQB, hXA, hXB]
  have HWB := Lib.hid hwb
  have NB := Lib.hid nb
  clear hwb nb b4 b5 b6 b7 hQA hQB hXA hXB
  go_enter Try.func4, Try.ntmps4
  go_upto_region 1 with (fail)
  rw [HWB.out]
  go_wp2_with fail
  refine (known_any wb).mono ?_
  rintro e w1 ⟨rfl, n1⟩
  have N1 := Lib.hid (NB.out.trans (n1.mono NB.out.size))
  clear n1
  go_wp2_with fail
  go_ret
  exact ⟨rfl, N1.out⟩
theorem same_out2 (w : World) (a b : Rq) (x y : Rs) (A B X Y : Option Addr) (c d cx cy : Nat) (i0 : ¬ (5000 : Int) < (a.md.length : Int)) (i1 : ¬ (5000 : Int) < (b.md.length : Int)) (i2 : (100 : Int) < (x.vs.length : Int)) : Calls Try.prog 4 #[.agg (a.c A c).toArray, .agg (b.c B d).toArray, .agg (x.c X cx).toArray, .agg (y.c Y cy).toArray] w fun e w' => e = .returned (.bool true) ∧ Nw w w' := by
  obtain ⟨QA, hQA⟩ : ∃ Q, (a.c A c).toArray = Q := ⟨_, rfl⟩
  obtain ⟨QB, hQB⟩ : ∃ Q, (b.c B d).toArray = Q := ⟨_, rfl⟩
  obtain ⟨XA, hXA⟩ : ∃ Q, (x.c X cx).toArray = Q := ⟨_, rfl⟩
  obtain ⟨XB, hXB⟩ : ∃ Q, (y.c Y cy).toArray = Q := ⟨_, rfl⟩
  obtain ⟨wb, hwb⟩ : ∃ W, (((w.alloc (.cells QA 33)).alloc (.cells QB 33)).alloc (.cells XA 42)).alloc (.cells XB 42) = W := ⟨_, rfl⟩
  have b4 : Blk wb w.heap.size 33 QA := by rw [← hwb]; exact (((Blk.last w _ _ rfl).alloc _).alloc _).alloc _
  have b5 : Blk wb (w.heap.size + 1) 33 QB := by rw [← hwb]; exact ((Blk.last _ _ _ (by simp)).alloc _).alloc _
  have b6 : Blk wb (w.heap.size + 1 + 1) 42 XA := by rw [← hwb]; exact (Blk.last _ _ _ (by simp)).alloc _
  have b7 : Blk wb (w.heap.size + 1 + 1 + 1) 42 XB := by rw [← hwb]; exact Blk.last _ _ _ (by simp)
  have nb : Nw w wb := by rw [← hwb]; exact ((((Nw.refl w).alloc _).alloc _).alloc _).alloc _
  have u4 : wb.cell? ⟨w.heap.size, 3, none⟩ = some (.slice A a.md.length c) := (b4.cell 3).trans (by rw [← hQA]; rfl)
  have u5 : wb.cell? ⟨w.heap.size + 1, 3, none⟩ = some (.slice B b.md.length d) := (b5.cell 3).trans (by rw [← hQB]; rfl)
  have u6 : wb.cell? ⟨w.heap.size + 1 + 1, 4, none⟩ = some (.slice X x.vs.length cx) := (b6.cell 4).trans (by rw [← hXA]; rfl)
  have u7 : wb.cell? ⟨w.heap.size + 1 + 1 + 1, 4, none⟩ = some (.slice Y y.vs.length cy) := (b7.cell 4).trans (by rw [← hXB]; rfl)
  rw [hQA, hQB, hXA, hXB]
  have HWB := Lib.hid hwb
  have NB := Lib.hid nb
  clear hwb nb b4 b5 b6 b7 hQA hQB hXA hXB
  go_enter Try.func4, Try.ntmps4
  go_upto_region 1 with (fail)
  rw [HWB.out]
  go_wp2_with fail
  refine (known_any wb).mono ?_
  rintro e w1 ⟨rfl, n1⟩
  have N1 := Lib.hid (NB.out.trans (n1.mono NB.out.size))
  clear n1
  go_wp2_with fail
  go_ret
  exact ⟨rfl, N1.out⟩
theorem same_out3 (w : World) (a b : Rq) (x y : Rs) (A B X Y : Option Addr) (c d cx cy : Nat) (i0 : ¬ (5000 : Int) < (a.md.length : Int)) (i1 : ¬ (5000 : Int) < (b.md.length : Int)) (i2 : ¬ (100 : Int) < (x.vs.length : Int)) (i3 : (100 : Int) < (y.vs.length : Int)) : Calls Try.prog 4 #[.agg (a.c A c).toArray, .agg (b.c B d).toArray, .agg (x.c X cx).toArray, .agg (y.c Y cy).toArray] w fun e w' => e = .returned (.bool true) ∧ Nw w w' := by
  obtain ⟨QA, hQA⟩ : ∃ Q, (a.c A c).toArray = Q := ⟨_, rfl⟩
  obtain ⟨QB, hQB⟩ : ∃ Q, (b.c B d).toArray = Q := ⟨_, rfl⟩
  obtain ⟨XA, hXA⟩ : ∃ Q, (x.c X cx).toArray = Q := ⟨_, rfl⟩
  obtain ⟨XB, hXB⟩ : ∃ Q, (y.c Y cy).toArray = Q := ⟨_, rfl⟩
  obtain ⟨wb, hwb⟩ : ∃ W, (((w.alloc (.cells QA 33)).alloc (.cells QB 33)).alloc (.cells XA 42)).alloc (.cells XB 42) = W := ⟨_, rfl⟩
  have b4 : Blk wb w.heap.size 33 QA := by rw [← hwb]; exact (((Blk.last w _ _ rfl).alloc _).alloc _).alloc _
  have b5 : Blk wb (w.heap.size + 1) 33 QB := by rw [← hwb]; exact ((Blk.last _ _ _ (by simp)).alloc _).alloc _
  have b6 : Blk wb (w.heap.size + 1 + 1) 42 XA := by rw [← hwb]; exact (Blk.last _ _ _ (by simp)).alloc _
  have b7 : Blk wb (w.heap.size + 1 + 1 + 1) 42 XB := by rw [← hwb]; exact Blk.last _ _ _ (by simp)
  have nb : Nw w wb := by rw [← hwb]; exact ((((Nw.refl w).alloc _).alloc _).alloc _).alloc _
  have u4 : wb.cell? ⟨w.heap.size, 3, none⟩ = some (.slice A a.md.length c) := (b4.cell 3).trans (by rw [← hQA]; rfl)
  have u5 : wb.cell? ⟨w.heap.size + 1, 3, none⟩ = some (.slice B b.md.length d) := (b5.cell 3).trans (by rw [← hQB]; rfl)
  have u6 : wb.cell? ⟨w.heap.size + 1 + 1, 4, none⟩ = some (.slice X x.vs.length cx) := (b6.cell 4).trans (by rw [← hXA]; rfl)
  have u7 : wb.cell? ⟨w.heap.size + 1 + 1 + 1, 4, none⟩ = some (.slice Y y.vs.length cy) := (b7.cell 4).trans (by rw [← hXB]; rfl)
  rw [hQA, hQB, hXA, hXB]
  have HWB := Lib.hid hwb
  have NB := Lib.hid nb
  clear hwb nb b4 b5 b6 b7 hQA hQB hXA hXB
  go_enter Try.func4, Try.ntmps4
  go_upto_region 1 with (fail)
  rw [HWB.out]
  go_wp2_with fail
  refine (known_any wb).mono ?_
  rintro e w1 ⟨rfl, n1⟩
  have N1 := Lib.hid (NB.out.trans (n1.mono NB.out.size))
  clear n1
  go_wp2_with fail
  go_ret
  exact ⟨rfl, N1.out⟩
theorem same_in (w : World) (a b : Rq) (x y : Rs) (A B X Y : Option Addr) (c d cx cy : Nat) (hA : BytesAt w A a.md) (hB : BytesAt w B b.md) (hX : IntsAt w X x.vs) (hY : IntsAt w Y y.vs) (j0 : a.md.length ≤ 5000) (j1 : b.md.length ≤ 5000) (j2 : x.vs.length ≤ 100) (j3 : y.vs.length ≤ 100) : Calls Try.prog 4 #[.agg (a.c A c).toArray, .agg (b.c B d).toArray, .agg (x.c X cx).toArray, .agg (y.c Y cy).toArray] w fun e w' => e = .returned (.bool true) ∧ Nw w w' := by
  have i0 : ¬ (5000 : Int) < (a.md.length : Int) := by omega
  have i1 : ¬ (5000 : Int) < (b.md.length : Int) := by omega
  have i2 : ¬ (100 : Int) < (x.vs.length : Int) := by omega
  have i3 : ¬ (100 : Int) < (y.vs.length : Int) := by omega
  obtain ⟨QA, hQA⟩ : ∃ Q, (a.c A c).toArray = Q := ⟨_, rfl⟩
  obtain ⟨QB, hQB⟩ : ∃ Q, (b.c B d).toArray = Q := ⟨_, rfl⟩
  obtain ⟨XA, hXA⟩ : ∃ Q, (x.c X cx).toArray = Q := ⟨_, rfl⟩
  obtain ⟨XB, hXB⟩ : ∃ Q, (y.c Y cy).toArray = Q := ⟨_, rfl⟩
  obtain ⟨wb, hwb⟩ : ∃ W, (((w.alloc (.cells QA 33)).alloc (.cells QB 33)).alloc (.cells XA 42)).alloc (.cells XB 42) = W := ⟨_, rfl⟩
  have b4 : Blk wb w.heap.size 33 QA := by rw [← hwb]; exact (((Blk.last w _ _ rfl).alloc _).alloc _).alloc _
  have b5 : Blk wb (w.heap.size + 1) 33 QB := by rw [← hwb]; exact ((Blk.last _ _ _ (by simp)).alloc _).alloc _
  have b6 : Blk wb (w.heap.size + 1 + 1) 42 XA := by rw [← hwb]; exact (Blk.last _ _ _ (by simp)).alloc _
  have b7 : Blk wb (w.heap.size + 1 + 1 + 1) 42 XB := by rw [← hwb]; exact Blk.last _ _ _ (by simp)
  have nb : Nw w wb := by rw [← hwb]; exact ((((Nw.refl w).alloc _).alloc _).alloc _).alloc _
  have u4 : wb.cell? ⟨w.heap.size, 3, none⟩ = some (.slice A a.md.length c) := (b4.cell 3).trans (by rw [← hQA]; rfl)
  have u5 : wb.cell? ⟨w.heap.size + 1, 3, none⟩ = some (.slice B b.md.length d) := (b5.cell 3).trans (by rw [← hQB]; rfl)
  have u6 : wb.cell? ⟨w.heap.size + 1 + 1, 4, none⟩ = some (.slice X x.vs.length cx) := (b6.cell 4).trans (by rw [← hXA]; rfl)
  have u7 : wb.cell? ⟨w.heap.size + 1 + 1 + 1, 4, none⟩ = some (.slice Y y.vs.length cy) := (b7.cell 4).trans (by rw [← hXB]; rfl)
  rw [hQA, hQB, hXA, hXB]
  have K1 := Lib.hid (fun W (hW : Nw wb W) => sameRq_any W a b A B c d (Rd.nw (Rd.nw hA nb) hW) (Rd.nw (Rd.nw hB nb) hW) (by omega) (by omega))
  have K2 := Lib.hid (fun W (hW : Nw wb W) => refRq_any W a b A B c d (Rd.nw (Rd.nw hA nb) hW) (Rd.nw (Rd.nw hB nb) hW) (by omega) (by omega))
  have K3 := Lib.hid (fun W (hW : Nw wb W) => sameRs_any W x y X Y cx cy (Rd.nw (Rd.nw hX nb) hW) (Rd.nw (Rd.nw hY nb) hW) (by omega) (by omega))
  have K4 := Lib.hid (fun W (hW : Nw wb W) => refRs_any W x y X Y cx cy (Rd.nw (Rd.nw hX nb) hW) (Rd.nw (Rd.nw hY nb) hW) (by omega) (by omega))
  have K5 := Lib.hid (fun W (hW : Nw wb W) => sameRq_any W a a A A c c (Rd.nw (Rd.nw hA nb) hW) (Rd.nw (Rd.nw hA nb) hW) (by omega) (by omega))
  have K6 := Lib.hid (fun W (hW : Nw wb W) => sameRs_any W x x X X cx cx (Rd.nw (Rd.nw hX nb) hW) (Rd.nw (Rd.nw hX nb) hW) (by omega) (by omega))
  have KK := Lib.hid (fun W (hW : Nw wb W) => known_any W)
  rw [hQA, hQB] at K1 K2
  rw [hXA, hXB] at K3 K4
  rw [hQA] at K5
  rw [hXA] at K6
  simp only [decide_true] at K5 K6
  obtain ⟨D1, hD1⟩ : ∃ D, decide (a = b) = D := ⟨_, rfl⟩
  obtain ⟨D2, hD2⟩ : ∃ D, decide (x = y) = D := ⟨_, rfl⟩
  rw [hD1] at K1 K2
  rw [hD2] at K3 K4
  have HSW := Lib.hid (fun W (hW : Nw wb W) => (⟨hW, b4.below hW b4.lt, b5.below hW b5.lt, b6.below hW b6.lt, b7.below hW b7.lt⟩ : Nw wb W ∧ Blk W w.heap.size 33 QA ∧ Blk W (w.heap.size + 1) 33 QB ∧ Blk W (w.heap.size + 1 + 1) 42 XA ∧ Blk W (w.heap.size + 1 + 1 + 1) 42 XB))
  obtain ⟨dq, hdq⟩ := stRq
  obtain ⟨ds, hds⟩ := stRs
  have Hdq := Lib.hid hdq
  have Hds := Lib.hid hds
  have I4 := Lib.hid (show (Try.prog.info? 33).map (·.size) = some QA.size by rw [← hQA]; kernel_rfl)
  have I5 := Lib.hid (show (Try.prog.info? 33).map (·.size) = some QB.size by rw [← hQB]; kernel_rfl)
  have I6 := Lib.hid (show (Try.prog.info? 42).map (·.size) = some XA.size by rw [← hXA]; kernel_rfl)
  have I7 := Lib.hid (show (Try.prog.info? 42).map (·.size) = some XB.size by rw [← hXB]; kernel_rfl)
  have HWB := Lib.hid hwb
  have NB := Lib.hid nb
  clear hwb nb b4 b5 b6 b7 hQA hQB hXA hXB hA hB hX hY hdq hds hD1 hD2 j0 j1 j2 j3
  go_enter Try.func4, Try.ntmps4
  go_upto_region 1 with (fail)
  rw [HWB.out]
  go_upto_region 3 with (fail)
  clear u4 u5 u6 u7 i0 i1 i2 i3
  refine wp_region_F (fun W => Nw wb W ∧ Blk W w.heap.size 33 QA ∧ Blk W (w.heap.size + 1) 33 QB ∧ Blk W (w.heap.size + 1 + 1) 42 XA ∧ Blk W (w.heap.size + 1 + 1 + 1) 42 XB) [29] (by kernel_rfl) ?_
  have hS := HSW.out wb.drew (Nw.refl wb).drew
  refine wpAnyF_takeT (i := 0) (v := ?_) rfl (by kernel_rfl) (by kernel_rfl) (by kernel_rfl) (by kernel_rfl) (by kernel_rfl) (by kernel_rfl) (fun _ _ _ h => h) (by rfl) ?_ hS ?_
  rotate_left
  · intro u hu
    try simp only [List.getElem_toArray, List.getElem_cons_succ, List.getElem_cons_zero]
    refine Eq.trans (exec_load_row 33 _ rfl (w.heap.size) rfl 33 QA (0, 0) (.struct dq) hu.2.1 Hdq.out rfl I4.out) ?_
    with_reducible rfl
  try simp only [List.getElem_toArray, List.getElem_cons_succ, List.getElem_cons_zero, Act.put, List.setIfInBounds_toArray, List.set_cons_zero, List.set_cons_succ]
  refine wpAnyF_takeT (i := 1) (v := ?_) rfl (by kernel_rfl) (by kernel_rfl) (by kernel_rfl) (by kernel_rfl) (by kernel_rfl) (by kernel_rfl) (fun _ _ _ h => h) (by rfl) ?_ hS ?_
  rotate_left
  · intro u hu
    try simp only [List.getElem_toArray, List.getElem_cons_succ, List.getElem_cons_zero]
    refine Eq.trans (exec_load_row 33 _ rfl (w.heap.size + 1) rfl 33 QB (0, 0) (.struct dq) hu.2.2.1 Hdq.out rfl I5.out) ?_
    with_reducible rfl
  try simp only [List.getElem_toArray, List.getElem_cons_succ, List.getElem_cons_zero, Act.put, List.setIfInBounds_toArray, List.set_cons_zero, List.set_cons_succ]
  refine wpAnyF_takeT (i := 3) (v := ?_) rfl (by kernel_rfl) (by kernel_rfl) (by kernel_rfl) (by kernel_rfl) (by kernel_rfl) (by kernel_rfl) (fun _ _ _ h => h) (by rfl) ?_ hS ?_
  rotate_left
  · intro u hu
    try simp only [List.getElem_toArray, List.getElem_cons_succ, List.getElem_cons_zero]
    refine Eq.trans (exec_load_row 33 _ rfl (w.heap.size) rfl 33 QA (0, 0) (.struct dq) hu.2.1 Hdq.out rfl I4.out) ?_
    with_reducible rfl
  try simp only [List.getElem_toArray, List.getElem_cons_succ, List.getElem_cons_zero, Act.put, List.setIfInBounds_toArray, List.set_cons_zero, List.set_cons_succ]
  refine wpAnyF_takeT (i := 4) (v := ?_) rfl (by kernel_rfl) (by kernel_rfl) (by kernel_rfl) (by kernel_rfl) (by kernel_rfl) (by kernel_rfl) (fun _ _ _ h => h) (by rfl) ?_ hS ?_
  rotate_left
  · intro u hu
    try simp only [List.getElem_toArray, List.getElem_cons_succ, List.getElem_cons_zero]
    refine Eq.trans (exec_load_row 33 _ rfl (w.heap.size + 1) rfl 33 QB (0, 0) (.struct dq) hu.2.2.1 Hdq.out rfl I5.out) ?_
    with_reducible rfl
  try simp only [List.getElem_toArray, List.getElem_cons_succ, List.getElem_cons_zero, Act.put, List.setIfInBounds_toArray, List.set_cons_zero, List.set_cons_succ]
  refine wpAnyF_step (i := 2) (by kernel_rfl) rfl (by rfl) fun K hK => ?_
  go_simp
  go_at_call 15
  refine (K1.out _ hS.1).mono ?_
  rintro r wk ⟨rfl, nk⟩
  have ik := Nw.step hS.1 nk
  have hS := HSW.out wk ik
  refine hK _ _ (.inr (HSW.out wk ik)) ?_
  clear hK K
  try simp only [List.getElem_toArray, List.getElem_cons_succ, List.getElem_cons_zero, Act.put, List.setIfInBounds_toArray, List.set_cons_zero, List.set_cons_succ]
  refine wpAnyF_step (i := 5) (by kernel_rfl) rfl (by rfl) fun K hK => ?_
  go_simp
  go_at_call 13
  refine (K2.out _ hS.1).mono ?_
  rintro r wk ⟨rfl, nk⟩
  have ik := Nw.step hS.1 nk
  have hS := HSW.out wk ik
  refine hK _ _ (.inr (HSW.out wk ik)) ?_
  clear hK K
  try simp only [List.getElem_toArray, List.getElem_cons_succ, List.getElem_cons_zero, Act.put, List.setIfInBounds_toArray, List.set_cons_zero, List.set_cons_succ]
  refine wpAnyF_freeT (i := 6) (v := ?_) rfl (by kernel_rfl) (by kernel_rfl) (by kernel_rfl) (by kernel_rfl) (by kernel_rfl) (fun _ _ _ h => h) (by rfl) ?_ hS ?_
  rotate_left
  · intro u
    go_simp
    try with_reducible rfl
  try simp only [List.getElem_toArray, List.getElem_cons_succ, List.getElem_cons_zero, Act.put, List.setIfInBounds_toArray, List.set_cons_zero, List.set_cons_succ]
  refine wpAnyF_freeT (i := 7) (v := ?_) rfl (by kernel_rfl) (by kernel_rfl) (by kernel_rfl) (by kernel_rfl) (by kernel_rfl) (fun _ _ _ h => h) (by rfl) ?_ hS ?_
  rotate_left
  · intro u
    go_simp
    try with_reducible rfl
  try simp only [List.getElem_toArray, List.getElem_cons_succ, List.getElem_cons_zero, Act.put, List.setIfInBounds_toArray, List.set_cons_zero, List.set_cons_succ]
  refine wpAnyF_takeT (i := 8) (v := ?_) rfl (by kernel_rfl) (by kernel_rfl) (by kernel_rfl) (by kernel_rfl) (by kernel_rfl) (by kernel_rfl) (fun _ _ _ h => h) (by rfl) ?_ hS ?_
  rotate_left
  · intro u hu
    try simp only [List.getElem_toArray, List.getElem_cons_succ, List.getElem_cons_zero]
    refine Eq.trans (exec_load_row 42 _ rfl (w.heap.size + 1 + 1) rfl 42 XA (0, 0) (.struct ds) hu.2.2.2.1 Hds.out rfl I6.out) ?_
    with_reducible rfl
  try simp only [List.getElem_toArray, List.getElem_cons_succ, List.getElem_cons_zero, Act.put, List.setIfInBounds_toArray, List.set_cons_zero, List.set_cons_succ]
  refine wpAnyF_takeT (i := 9) (v := ?_) rfl (by kernel_rfl) (by kernel_rfl) (by kernel_rfl) (by kernel_rfl) (by kernel_rfl) (by kernel_rfl) (fun _ _ _ h => h) (by rfl) ?_ hS ?_
  rotate_left
  · intro u hu
    try simp only [List.getElem_toArray, List.getElem_cons_succ, List.getElem_cons_zero]
    refine Eq.trans (exec_load_row 42 _ rfl (w.heap.size + 1 + 1 + 1) rfl 42 XB (0, 0) (.struct ds) hu.2.2.2.2 Hds.out rfl I7.out) ?_
    with_reducible rfl
  try simp only [List.getElem_toArray, List.getElem_cons_succ, List.getElem_cons_zero, Act.put, List.setIfInBounds_toArray, List.set_cons_zero, List.set_cons_succ]
  refine wpAnyF_takeT (i := 11) (v := ?_) rfl (by kernel_rfl) (by kernel_rfl) (by kernel_rfl) (by kernel_rfl) (by kernel_rfl) (by kernel_rfl) (fun _ _ _ h => h) (by rfl) ?_ hS ?_
  rotate_left
  · intro u hu
    try simp only [List.getElem_toArray, List.getElem_cons_succ, List.getElem_cons_zero]
    refine Eq.trans (exec_load_row 42 _ rfl (w.heap.size + 1 + 1) rfl 42 XA (0, 0) (.struct ds) hu.2.2.2.1 Hds.out rfl I6.out) ?_
    with_reducible rfl
  try simp only [List.getElem_toArray, List.getElem_cons_succ, List.getElem_cons_zero, Act.put, List.setIfInBounds_toArray, List.set_cons_zero, List.set_cons_succ]
  refine wpAnyF_takeT (i := 12) (v := ?_) rfl (by kernel_rfl) (by kernel_rfl) (by kernel_rfl) (by kernel_rfl) (by kernel_rfl) (by kernel_rfl) (fun _ _ _ h => h) (by rfl) ?_ hS ?_
  rotate_left
  · intro u hu
    try simp only [List.getElem_toArray, List.getElem_cons_succ, List.getElem_cons_zero]
    refine Eq.trans (exec_load_row 42 _ rfl (w.heap.size + 1 + 1 + 1) rfl 42 XB (0, 0) (.struct ds) hu.2.2.2.2 Hds.out rfl I7.out) ?_
    with_reducible rfl
  try simp only [List.getElem_toArray, List.getElem_cons_succ, List.getElem_cons_zero, Act.put, List.setIfInBounds_toArray, List.set_cons_zero, List.set_cons_succ]
  refine wpAnyF_step (i := 10) (by kernel_rfl) rfl (by rfl) fun K hK => ?_
  go_simp
  go_at_call 16
  refine (K3.out _ hS.1).mono ?_
  rintro r wk ⟨rfl, nk⟩
  have ik := Nw.step hS.1 nk
  have hS := HSW.out wk ik
  refine hK _ _ (.inr (HSW.out wk ik)) ?_
  clear hK K
  try simp only [List.getElem_toArray, List.getElem_cons_succ, List.getElem_cons_zero, Act.put, List.setIfInBounds_toArray, List.set_cons_zero, List.set_cons_succ]
  refine wpAnyF_step (i := 13) (by kernel_rfl) rfl (by rfl) fun K hK => ?_
  go_simp
  go_at_call 14
  refine (K4.out _ hS.1).mono ?_
  rintro r wk ⟨rfl, nk⟩
  have ik := Nw.step hS.1 nk
  have hS := HSW.out wk ik
  refine hK _ _ (.inr (HSW.out wk ik)) ?_
  clear hK K
  try simp only [List.getElem_toArray, List.getElem_cons_succ, List.getElem_cons_zero, Act.put, List.setIfInBounds_toArray, List.set_cons_zero, List.set_cons_succ]
  refine wpAnyF_freeT (i := 14) (v := ?_) rfl (by kernel_rfl) (by kernel_rfl) (by kernel_rfl) (by kernel_rfl) (by kernel_rfl) (fun _ _ _ h => h) (by rfl) ?_ hS ?_
  rotate_left
  · intro u
    go_simp
    try with_reducible rfl
  try simp only [List.getElem_toArray, List.getElem_cons_succ, List.getElem_cons_zero, Act.put, List.setIfInBounds_toArray, List.set_cons_zero, List.set_cons_succ]
  refine wpAnyF_freeT (i := 15) (v := ?_) rfl (by kernel_rfl) (by kernel_rfl) (by kernel_rfl) (by kernel_rfl) (by kernel_rfl) (fun _ _ _ h => h) (by rfl) ?_ hS ?_
  rotate_left
  · intro u
    go_simp
    try with_reducible rfl
  try simp only [List.getElem_toArray, List.getElem_cons_succ, List.getElem_cons_zero, Act.put, List.setIfInBounds_toArray, List.set_cons_zero, List.set_cons_succ]
  refine wpAnyF_freeT (i := 16) (v := ?_) rfl (by kernel_rfl) (by kernel_rfl) (by kernel_rfl) (by kernel_rfl) (by kernel_rfl) (fun _ _ _ h => h) (by rfl) ?_ hS ?_
  rotate_left
  · intro u
    go_simp
    try with_reducible rfl
  try simp only [List.getElem_toArray, List.getElem_cons_succ, List.getElem_cons_zero, Act.put, List.setIfInBounds_toArray, List.set_cons_zero, List.set_cons_succ]
  refine wpAnyF_takeT (i := 17) (v := ?_) rfl (by kernel_rfl) (by kernel_rfl) (by kernel_rfl) (by kernel_rfl) (by kernel_rfl) (by kernel_rfl) (fun _ _ _ h => h) (by rfl) ?_ hS ?_
  rotate_left
  · intro u hu
    try simp only [List.getElem_toArray, List.getElem_cons_succ, List.getElem_cons_zero]
    refine Eq.trans (exec_load_row 33 _ rfl (w.heap.size) rfl 33 QA (0, 0) (.struct dq) hu.2.1 Hdq.out rfl I4.out) ?_
    with_reducible rfl
  try simp only [List.getElem_toArray, List.getElem_cons_succ, List.getElem_cons_zero, Act.put, List.setIfInBounds_toArray, List.set_cons_zero, List.set_cons_succ]
  refine wpAnyF_takeT (i := 18) (v := ?_) rfl (by kernel_rfl) (by kernel_rfl) (by kernel_rfl) (by kernel_rfl) (by kernel_rfl) (by kernel_rfl) (fun _ _ _ h => h) (by rfl) ?_ hS ?_
  rotate_left
  · intro u hu
    try simp only [List.getElem_toArray, List.getElem_cons_succ, List.getElem_cons_zero]
    refine Eq.trans (exec_load_row 33 _ rfl (w.heap.size) rfl 33 QA (0, 0) (.struct dq) hu.2.1 Hdq.out rfl I4.out) ?_
    with_reducible rfl
  try simp only [List.getElem_toArray, List.getElem_cons_succ, List.getElem_cons_zero, Act.put, List.setIfInBounds_toArray, List.set_cons_zero, List.set_cons_succ]
  refine wpAnyF_step (i := 19) (by kernel_rfl) rfl (by rfl) fun K hK => ?_
  go_simp
  go_at_call 15
  refine (K5.out _ hS.1).mono ?_
  rintro r wk ⟨rfl, nk⟩
  have ik := Nw.step hS.1 nk
  have hS := HSW.out wk ik
  refine hK _ _ (.inr (HSW.out wk ik)) ?_
  clear hK K
  try simp only [List.getElem_toArray, List.getElem_cons_succ, List.getElem_cons_zero, Act.put, List.setIfInBounds_toArray, List.set_cons_zero, List.set_cons_succ]
  refine wpAnyF_freeT (i := 20) (v := ?_) rfl (by kernel_rfl) (by kernel_rfl) (by kernel_rfl) (by kernel_rfl) (by kernel_rfl) (fun _ _ _ h => h) (by rfl) ?_ hS ?_
  rotate_left
  · intro u
    go_simp
    try with_reducible rfl
  try simp only [List.getElem_toArray, List.getElem_cons_succ, List.getElem_cons_zero, Act.put, List.setIfInBounds_toArray, List.set_cons_zero, List.set_cons_succ]
  refine wpAnyF_freeT (i := 21) (v := ?_) rfl (by kernel_rfl) (by kernel_rfl) (by kernel_rfl) (by kernel_rfl) (by kernel_rfl) (fun _ _ _ h => h) (by rfl) ?_ hS ?_
  rotate_left
  · intro u
    go_simp
    try with_reducible rfl
  try simp only [List.getElem_toArray, List.getElem_cons_succ, List.getElem_cons_zero, Act.put, List.setIfInBounds_toArray, List.set_cons_zero, List.set_cons_succ]
  refine wpAnyF_takeT (i := 22) (v := ?_) rfl (by kernel_rfl) (by kernel_rfl) (by kernel_rfl) (by kernel_rfl) (by kernel_rfl) (by kernel_rfl) (fun _ _ _ h => h) (by rfl) ?_ hS ?_
  rotate_left
  · intro u hu
    try simp only [List.getElem_toArray, List.getElem_cons_succ, List.getElem_cons_zero]
    refine Eq.trans (exec_load_row 42 _ rfl (w.heap.size + 1 + 1) rfl 42 XA (0, 0) (.struct ds) hu.2.2.2.1 Hds.out rfl I6.out) ?_
    with_reducible rfl
  try simp only [List.getElem_toArray, List.getElem_cons_succ, List.getElem_cons_zero, Act.put, List.setIfInBounds_toArray, List.set_cons_zero, List.set_cons_succ]
  refine wpAnyF_takeT (i := 23) (v := ?_) rfl (by kernel_rfl) (by kernel_rfl) (by kernel_rfl) (by kernel_rfl) (by kernel_rfl) (by kernel_rfl) (fun _ _ _ h => h) (by rfl) ?_ hS ?_
  rotate_left
  · intro u hu
    try simp only [List.getElem_toArray, List.getElem_cons_succ, List.getElem_cons_zero]
    refine Eq.trans (exec_load_row 42 _ rfl (w.heap.size + 1 + 1) rfl 42 XA (0, 0) (.struct ds) hu.2.2.2.1 Hds.out rfl I6.out) ?_
    with_reducible rfl
  try simp only [List.getElem_toArray, List.getElem_cons_succ, List.getElem_cons_zero, Act.put, List.setIfInBounds_toArray, List.set_cons_zero, List.set_cons_succ]
  refine wpAnyF_step (i := 24) (by kernel_rfl) rfl (by rfl) fun K hK => ?_
  go_simp
  go_at_call 16
  refine (K6.out _ hS.1).mono ?_
  rintro r wk ⟨rfl, nk⟩
  have ik := Nw.step hS.1 nk
  have hS := HSW.out wk ik
  refine hK _ _ (.inr (HSW.out wk ik)) ?_
  clear hK K
  try simp only [List.getElem_toArray, List.getElem_cons_succ, List.getElem_cons_zero, Act.put, List.setIfInBounds_toArray, List.set_cons_zero, List.set_cons_succ]
  refine wpAnyF_freeT (i := 25) (v := ?_) rfl (by kernel_rfl) (by kernel_rfl) (by kernel_rfl) (by kernel_rfl) (by kernel_rfl) (fun _ _ _ h => h) (by rfl) ?_ hS ?_
  rotate_left
  · intro u
    go_simp
    try with_reducible rfl
  try simp only [List.getElem_toArray, List.getElem_cons_succ, List.getElem_cons_zero, Act.put, List.setIfInBounds_toArray, List.set_cons_zero, List.set_cons_succ]
  refine wpAnyF_freeT (i := 26) (v := ?_) rfl (by kernel_rfl) (by kernel_rfl) (by kernel_rfl) (by kernel_rfl) (by kernel_rfl) (fun _ _ _ h => h) (by rfl) ?_ hS ?_
  rotate_left
  · intro u
    go_simp
    try with_reducible rfl
  try simp only [List.getElem_toArray, List.getElem_cons_succ, List.getElem_cons_zero, Act.put, List.setIfInBounds_toArray, List.set_cons_zero, List.set_cons_succ]
  refine wpAnyF_step (i := 27) (by kernel_rfl) rfl (by rfl) fun K hK => ?_
  go_simp
  go_at_call 8
  refine (KK.out _ hS.1).mono ?_
  rintro r wk ⟨rfl, nk⟩
  have ik := Nw.step hS.1 nk
  have hS := HSW.out wk ik
  refine hK _ _ (.inr (HSW.out wk ik)) ?_
  clear hK K
  try simp only [List.getElem_toArray, List.getElem_cons_succ, List.getElem_cons_zero, Act.put, List.setIfInBounds_toArray, List.set_cons_zero, List.set_cons_succ]
  refine wpAnyF_freeT (i := 28) (v := ?_) rfl (by kernel_rfl) (by kernel_rfl) (by kernel_rfl) (by kernel_rfl) (by kernel_rfl) (fun _ _ _ h => h) (by rfl) ?_ hS ?_
  rotate_left
  · intro u
    go_simp
    try with_reducible rfl
  try simp only [List.getElem_toArray, List.getElem_cons_succ, List.getElem_cons_zero, Act.put, List.setIfInBounds_toArray, List.set_cons_zero, List.set_cons_succ]
  refine wpAnyF_step (i := 29) (by kernel_rfl) rfl (by rfl) fun K hK => ?_
  go_simp
  refine hK _ _ (.inl (by kernel_rfl)) ?_
  clear hK K
  try simp only [List.getElem_toArray, List.getElem_cons_succ, List.getElem_cons_zero, Act.put, List.setIfInBounds_toArray, List.set_cons_zero, List.set_cons_succ]
  refine wpAnyF_done (by kernel_rfl) ?_ _
  have HE := Lib.hid (NB.out.trans (hS.1.mono NB.out.size))
  clear hS
  go_wp2_with fail
  go_ret
  exact ⟨rfl, HE.out⟩
end Go.Proofs.Ytnbcjjgilndlaaa
