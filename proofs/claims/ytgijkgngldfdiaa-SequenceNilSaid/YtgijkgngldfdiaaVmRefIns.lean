/- Which programs may be: the reference's instr. Helper. -/
import Derived.Test.YtgijkgngldfdiaaVmRefMay
namespace Go.Proofs.Ytgijkgngldfdiaa
open Go.RowKit
set_option linter.unusedVariables false
set_option linter.unusedSimpArgs false
section
variable (vars : Int) (kA : Option Addr) (kn kc : Nat) (w : World)
set_option maxRecDepth 100000
set_option maxHeartbeats 1600000
theorem refIns1 (n : Int) (ln : Nat) (hl : ln ≤ 4294967295) :
    Calls Try.prog 52 #[.agg #[.int .i64 vars, .slice kA kn kc], .agg #[.int .i64 1, .int .i64 n], .int .i64 (ln : Int)] w fun e w' => e = .returned (.bool (insB vars kn ln 1 n)) ∧ Below w.heap.size w w' := by
  obtain ⟨w1, hw1⟩ : ∃ w1, (w.alloc (.cells #[.int .i64 vars, .slice kA kn kc] 77)).alloc (.cells #[.int .i64 1, .int .i64 n] 110) = w1 := ⟨_, rfl⟩
  have n1 : Nw w w1 := by rw [← hw1]; exact ((Nw.refl w).alloc _).alloc _
  have hb1 : Blk w1 w.heap.size 77 #[.int .i64 vars, .slice kA kn kc] := by rw [← hw1]; exact (Blk.last w _ _ rfl).alloc _
  have hb2 : Blk w1 (w.heap.size + 1) 110 #[.int .i64 1, .int .i64 n] := by rw [← hw1]; exact Blk.last _ _ _ (by simp)
  have p0 : w1.cell? ⟨w.heap.size, 0, none⟩ = some (.int .i64 vars) := hb1.cell 0
  have p1 : w1.cell? ⟨w.heap.size, 1, none⟩ = some (.slice kA kn kc) := hb1.cell 1
  have x0 : w1.cell? ⟨w.heap.size + 1, 0, none⟩ = some (.int .i64 1) := hb2.cell 0
  have x1 : w1.cell? ⟨w.heap.size + 1, 1, none⟩ = some (.int .i64 n) := hb2.cell 1
  have P0 := Lib.hid p0
  have P1 := Lib.hid p1
  have X1 := Lib.hid x1
  have N1 := Lib.hid n1
  have HW := Lib.hid hw1
  have KW := Lib.hid (fun W => refWord_any W 1)
  rw [show wordB 1 = ⟨#[112, 117, 115, 104]⟩ from rfl] at KW
  obtain ⟨B, hB⟩ : ∃ B, insB vars kn ln 1 n = B := ⟨_, rfl⟩
  rw [hB]
  unfold insB numB mostOf at hB
  have HB := Lib.hid hB
  clear hw1 n1 hb1 hb2 p0 p1 x1 hB
  go_enter Try.func52, Try.ntmps52
  go_upto_region 1 with (fail)
  rw [HW.out]
  go_wp2_with fail
  refine (KW.out _).mono ?_
  rintro e w2 ⟨rfl, b2⟩
  have N2 := Lib.hid ((Nw.refl w1).step b2)
  have q0 := N2.out.cell P0.out
  have q1 := N2.out.cell P1.out
  have q2 := N2.out.cell X1.out
  clear b2 x0
  go_wp2_with fail
  go_ret
  exact ⟨ret_bool (by rw [← HB.out]; simp [] <;> omega), N1.out.step N2.out⟩
theorem refIns2 (n : Int) (ln : Nat) (hl : ln ≤ 4294967295) :
    Calls Try.prog 52 #[.agg #[.int .i64 vars, .slice kA kn kc], .agg #[.int .i64 2, .int .i64 n], .int .i64 (ln : Int)] w fun e w' => e = .returned (.bool (insB vars kn ln 2 n)) ∧ Below w.heap.size w w' := by
  obtain ⟨w1, hw1⟩ : ∃ w1, (w.alloc (.cells #[.int .i64 vars, .slice kA kn kc] 77)).alloc (.cells #[.int .i64 2, .int .i64 n] 110) = w1 := ⟨_, rfl⟩
  have n1 : Nw w w1 := by rw [← hw1]; exact ((Nw.refl w).alloc _).alloc _
  have hb1 : Blk w1 w.heap.size 77 #[.int .i64 vars, .slice kA kn kc] := by rw [← hw1]; exact (Blk.last w _ _ rfl).alloc _
  have hb2 : Blk w1 (w.heap.size + 1) 110 #[.int .i64 2, .int .i64 n] := by rw [← hw1]; exact Blk.last _ _ _ (by simp)
  have p0 : w1.cell? ⟨w.heap.size, 0, none⟩ = some (.int .i64 vars) := hb1.cell 0
  have p1 : w1.cell? ⟨w.heap.size, 1, none⟩ = some (.slice kA kn kc) := hb1.cell 1
  have x0 : w1.cell? ⟨w.heap.size + 1, 0, none⟩ = some (.int .i64 2) := hb2.cell 0
  have x1 : w1.cell? ⟨w.heap.size + 1, 1, none⟩ = some (.int .i64 n) := hb2.cell 1
  have P0 := Lib.hid p0
  have P1 := Lib.hid p1
  have X1 := Lib.hid x1
  have N1 := Lib.hid n1
  have HW := Lib.hid hw1
  have KW := Lib.hid (fun W => refWord_any W 2)
  rw [show wordB 2 = ⟨#[108, 111, 97, 100]⟩ from rfl] at KW
  obtain ⟨B, hB⟩ : ∃ B, insB vars kn ln 2 n = B := ⟨_, rfl⟩
  rw [hB]
  unfold insB numB mostOf at hB
  have HB := Lib.hid hB
  clear hw1 n1 hb1 hb2 p0 p1 x1 hB
  by_cases e1 : 0 ≤ n
  · by_cases e2 : n < vars
    · skip
      go_enter Try.func52, Try.ntmps52
      go_upto_region 1 with (fail)
      rw [HW.out]
      go_wp2_with fail
      refine (KW.out _).mono ?_
      rintro e w2 ⟨rfl, b2⟩
      have N2 := Lib.hid ((Nw.refl w1).step b2)
      have q0 := N2.out.cell P0.out
      have q1 := N2.out.cell P1.out
      have q2 := N2.out.cell X1.out
      clear b2 x0
      go_wp2_with fail
      go_ret
      exact ⟨ret_bool (by rw [← HB.out]; simp [e1, e2] <;> omega), N1.out.step N2.out⟩
    · skip
      go_enter Try.func52, Try.ntmps52
      go_upto_region 1 with (fail)
      rw [HW.out]
      go_wp2_with fail
      refine (KW.out _).mono ?_
      rintro e w2 ⟨rfl, b2⟩
      have N2 := Lib.hid ((Nw.refl w1).step b2)
      have q0 := N2.out.cell P0.out
      have q1 := N2.out.cell P1.out
      have q2 := N2.out.cell X1.out
      clear b2 x0
      go_wp2_with fail
      go_ret
      exact ⟨ret_bool (by rw [← HB.out]; simp [e1, e2] <;> omega), N1.out.step N2.out⟩
  · skip
    go_enter Try.func52, Try.ntmps52
    go_upto_region 1 with (fail)
    rw [HW.out]
    go_wp2_with fail
    refine (KW.out _).mono ?_
    rintro e w2 ⟨rfl, b2⟩
    have N2 := Lib.hid ((Nw.refl w1).step b2)
    have q0 := N2.out.cell P0.out
    have q1 := N2.out.cell P1.out
    have q2 := N2.out.cell X1.out
    clear b2 x0
    go_wp2_with fail
    go_ret
    exact ⟨ret_bool (by rw [← HB.out]; simp [e1] <;> omega), N1.out.step N2.out⟩
theorem refIns3 (n : Int) (ln : Nat) (hl : ln ≤ 4294967295) :
    Calls Try.prog 52 #[.agg #[.int .i64 vars, .slice kA kn kc], .agg #[.int .i64 3, .int .i64 n], .int .i64 (ln : Int)] w fun e w' => e = .returned (.bool (insB vars kn ln 3 n)) ∧ Below w.heap.size w w' := by
  obtain ⟨w1, hw1⟩ : ∃ w1, (w.alloc (.cells #[.int .i64 vars, .slice kA kn kc] 77)).alloc (.cells #[.int .i64 3, .int .i64 n] 110) = w1 := ⟨_, rfl⟩
  have n1 : Nw w w1 := by rw [← hw1]; exact ((Nw.refl w).alloc _).alloc _
  have hb1 : Blk w1 w.heap.size 77 #[.int .i64 vars, .slice kA kn kc] := by rw [← hw1]; exact (Blk.last w _ _ rfl).alloc _
  have hb2 : Blk w1 (w.heap.size + 1) 110 #[.int .i64 3, .int .i64 n] := by rw [← hw1]; exact Blk.last _ _ _ (by simp)
  have p0 : w1.cell? ⟨w.heap.size, 0, none⟩ = some (.int .i64 vars) := hb1.cell 0
  have p1 : w1.cell? ⟨w.heap.size, 1, none⟩ = some (.slice kA kn kc) := hb1.cell 1
  have x0 : w1.cell? ⟨w.heap.size + 1, 0, none⟩ = some (.int .i64 3) := hb2.cell 0
  have x1 : w1.cell? ⟨w.heap.size + 1, 1, none⟩ = some (.int .i64 n) := hb2.cell 1
  have P0 := Lib.hid p0
  have P1 := Lib.hid p1
  have X1 := Lib.hid x1
  have N1 := Lib.hid n1
  have HW := Lib.hid hw1
  have KW := Lib.hid (fun W => refWord_any W 3)
  rw [show wordB 3 = ⟨#[115, 116, 111, 114, 101]⟩ from rfl] at KW
  obtain ⟨B, hB⟩ : ∃ B, insB vars kn ln 3 n = B := ⟨_, rfl⟩
  rw [hB]
  unfold insB numB mostOf at hB
  have HB := Lib.hid hB
  clear hw1 n1 hb1 hb2 p0 p1 x1 hB
  by_cases e1 : 0 ≤ n
  · by_cases e2 : n < vars
    · skip
      go_enter Try.func52, Try.ntmps52
      go_upto_region 1 with (fail)
      rw [HW.out]
      go_wp2_with fail
      refine (KW.out _).mono ?_
      rintro e w2 ⟨rfl, b2⟩
      have N2 := Lib.hid ((Nw.refl w1).step b2)
      have q0 := N2.out.cell P0.out
      have q1 := N2.out.cell P1.out
      have q2 := N2.out.cell X1.out
      clear b2 x0
      go_wp2_with fail
      go_ret
      exact ⟨ret_bool (by rw [← HB.out]; simp [e1, e2] <;> omega), N1.out.step N2.out⟩
    · skip
      go_enter Try.func52, Try.ntmps52
      go_upto_region 1 with (fail)
      rw [HW.out]
      go_wp2_with fail
      refine (KW.out _).mono ?_
      rintro e w2 ⟨rfl, b2⟩
      have N2 := Lib.hid ((Nw.refl w1).step b2)
      have q0 := N2.out.cell P0.out
      have q1 := N2.out.cell P1.out
      have q2 := N2.out.cell X1.out
      clear b2 x0
      go_wp2_with fail
      go_ret
      exact ⟨ret_bool (by rw [← HB.out]; simp [e1, e2] <;> omega), N1.out.step N2.out⟩
  · skip
    go_enter Try.func52, Try.ntmps52
    go_upto_region 1 with (fail)
    rw [HW.out]
    go_wp2_with fail
    refine (KW.out _).mono ?_
    rintro e w2 ⟨rfl, b2⟩
    have N2 := Lib.hid ((Nw.refl w1).step b2)
    have q0 := N2.out.cell P0.out
    have q1 := N2.out.cell P1.out
    have q2 := N2.out.cell X1.out
    clear b2 x0
    go_wp2_with fail
    go_ret
    exact ⟨ret_bool (by rw [← HB.out]; simp [e1] <;> omega), N1.out.step N2.out⟩
theorem refIns4 (n : Int) (ln : Nat) (hl : ln ≤ 4294967295) :
    Calls Try.prog 52 #[.agg #[.int .i64 vars, .slice kA kn kc], .agg #[.int .i64 4, .int .i64 n], .int .i64 (ln : Int)] w fun e w' => e = .returned (.bool (insB vars kn ln 4 n)) ∧ Below w.heap.size w w' := by
  obtain ⟨w1, hw1⟩ : ∃ w1, (w.alloc (.cells #[.int .i64 vars, .slice kA kn kc] 77)).alloc (.cells #[.int .i64 4, .int .i64 n] 110) = w1 := ⟨_, rfl⟩
  have n1 : Nw w w1 := by rw [← hw1]; exact ((Nw.refl w).alloc _).alloc _
  have hb1 : Blk w1 w.heap.size 77 #[.int .i64 vars, .slice kA kn kc] := by rw [← hw1]; exact (Blk.last w _ _ rfl).alloc _
  have hb2 : Blk w1 (w.heap.size + 1) 110 #[.int .i64 4, .int .i64 n] := by rw [← hw1]; exact Blk.last _ _ _ (by simp)
  have p0 : w1.cell? ⟨w.heap.size, 0, none⟩ = some (.int .i64 vars) := hb1.cell 0
  have p1 : w1.cell? ⟨w.heap.size, 1, none⟩ = some (.slice kA kn kc) := hb1.cell 1
  have x0 : w1.cell? ⟨w.heap.size + 1, 0, none⟩ = some (.int .i64 4) := hb2.cell 0
  have x1 : w1.cell? ⟨w.heap.size + 1, 1, none⟩ = some (.int .i64 n) := hb2.cell 1
  have P0 := Lib.hid p0
  have P1 := Lib.hid p1
  have X1 := Lib.hid x1
  have N1 := Lib.hid n1
  have HW := Lib.hid hw1
  have KW := Lib.hid (fun W => refWord_any W 4)
  rw [show wordB 4 = ⟨#[116, 105, 109, 101]⟩ from rfl] at KW
  obtain ⟨B, hB⟩ : ∃ B, insB vars kn ln 4 n = B := ⟨_, rfl⟩
  rw [hB]
  unfold insB numB mostOf at hB
  have HB := Lib.hid hB
  clear hw1 n1 hb1 hb2 p0 p1 x1 hB
  by_cases e1 : n = 0
  · subst e1
    have g : ((0 : Int) == 0) = true := rfl
    go_enter Try.func52, Try.ntmps52
    go_upto_region 1 with (fail)
    rw [HW.out]
    go_wp2_with fail
    refine (KW.out _).mono ?_
    rintro e w2 ⟨rfl, b2⟩
    have N2 := Lib.hid ((Nw.refl w1).step b2)
    have q0 := N2.out.cell P0.out
    have q1 := N2.out.cell P1.out
    have q2 := N2.out.cell X1.out
    clear b2 x0
    go_wp2_with fail
    go_ret
    exact ⟨ret_bool (by rw [← HB.out]; simp [] <;> omega), N1.out.step N2.out⟩
  · have g : (n == 0) = false := beq_eq_false_iff_ne.2 e1
    go_enter Try.func52, Try.ntmps52
    go_upto_region 1 with (fail)
    rw [HW.out]
    go_wp2_with fail
    refine (KW.out _).mono ?_
    rintro e w2 ⟨rfl, b2⟩
    have N2 := Lib.hid ((Nw.refl w1).step b2)
    have q0 := N2.out.cell P0.out
    have q1 := N2.out.cell P1.out
    have q2 := N2.out.cell X1.out
    clear b2 x0
    go_wp2_with fail
    go_ret
    exact ⟨ret_bool (by rw [← HB.out]; simp [e1] <;> omega), N1.out.step N2.out⟩
theorem refIns5 (n : Int) (ln : Nat) (hl : ln ≤ 4294967295) :
    Calls Try.prog 52 #[.agg #[.int .i64 vars, .slice kA kn kc], .agg #[.int .i64 5, .int .i64 n], .int .i64 (ln : Int)] w fun e w' => e = .returned (.bool (insB vars kn ln 5 n)) ∧ Below w.heap.size w w' := by
  obtain ⟨w1, hw1⟩ : ∃ w1, (w.alloc (.cells #[.int .i64 vars, .slice kA kn kc] 77)).alloc (.cells #[.int .i64 5, .int .i64 n] 110) = w1 := ⟨_, rfl⟩
  have n1 : Nw w w1 := by rw [← hw1]; exact ((Nw.refl w).alloc _).alloc _
  have hb1 : Blk w1 w.heap.size 77 #[.int .i64 vars, .slice kA kn kc] := by rw [← hw1]; exact (Blk.last w _ _ rfl).alloc _
  have hb2 : Blk w1 (w.heap.size + 1) 110 #[.int .i64 5, .int .i64 n] := by rw [← hw1]; exact Blk.last _ _ _ (by simp)
  have p0 : w1.cell? ⟨w.heap.size, 0, none⟩ = some (.int .i64 vars) := hb1.cell 0
  have p1 : w1.cell? ⟨w.heap.size, 1, none⟩ = some (.slice kA kn kc) := hb1.cell 1
  have x0 : w1.cell? ⟨w.heap.size + 1, 0, none⟩ = some (.int .i64 5) := hb2.cell 0
  have x1 : w1.cell? ⟨w.heap.size + 1, 1, none⟩ = some (.int .i64 n) := hb2.cell 1
  have P0 := Lib.hid p0
  have P1 := Lib.hid p1
  have X1 := Lib.hid x1
  have N1 := Lib.hid n1
  have HW := Lib.hid hw1
  have KW := Lib.hid (fun W => refWord_any W 5)
  rw [show wordB 5 = ⟨#[100, 97, 116, 97]⟩ from rfl] at KW
  obtain ⟨B, hB⟩ : ∃ B, insB vars kn ln 5 n = B := ⟨_, rfl⟩
  rw [hB]
  unfold insB numB mostOf at hB
  have HB := Lib.hid hB
  clear hw1 n1 hb1 hb2 p0 p1 x1 hB
  by_cases e1 : n = 0
  · subst e1
    have g : ((0 : Int) == 0) = true := rfl
    go_enter Try.func52, Try.ntmps52
    go_upto_region 1 with (fail)
    rw [HW.out]
    go_wp2_with fail
    refine (KW.out _).mono ?_
    rintro e w2 ⟨rfl, b2⟩
    have N2 := Lib.hid ((Nw.refl w1).step b2)
    have q0 := N2.out.cell P0.out
    have q1 := N2.out.cell P1.out
    have q2 := N2.out.cell X1.out
    clear b2 x0
    go_wp2_with fail
    go_ret
    exact ⟨ret_bool (by rw [← HB.out]; simp [] <;> omega), N1.out.step N2.out⟩
  · have g : (n == 0) = false := beq_eq_false_iff_ne.2 e1
    go_enter Try.func52, Try.ntmps52
    go_upto_region 1 with (fail)
    rw [HW.out]
    go_wp2_with fail
    refine (KW.out _).mono ?_
    rintro e w2 ⟨rfl, b2⟩
    have N2 := Lib.hid ((Nw.refl w1).step b2)
    have q0 := N2.out.cell P0.out
    have q1 := N2.out.cell P1.out
    have q2 := N2.out.cell X1.out
    clear b2 x0
    go_wp2_with fail
    go_ret
    exact ⟨ret_bool (by rw [← HB.out]; simp [e1] <;> omega), N1.out.step N2.out⟩
theorem refIns6 (n : Int) (ln : Nat) (hl : ln ≤ 4294967295) :
    Calls Try.prog 52 #[.agg #[.int .i64 vars, .slice kA kn kc], .agg #[.int .i64 6, .int .i64 n], .int .i64 (ln : Int)] w fun e w' => e = .returned (.bool (insB vars kn ln 6 n)) ∧ Below w.heap.size w w' := by
  obtain ⟨w1, hw1⟩ : ∃ w1, (w.alloc (.cells #[.int .i64 vars, .slice kA kn kc] 77)).alloc (.cells #[.int .i64 6, .int .i64 n] 110) = w1 := ⟨_, rfl⟩
  have n1 : Nw w w1 := by rw [← hw1]; exact ((Nw.refl w).alloc _).alloc _
  have hb1 : Blk w1 w.heap.size 77 #[.int .i64 vars, .slice kA kn kc] := by rw [← hw1]; exact (Blk.last w _ _ rfl).alloc _
  have hb2 : Blk w1 (w.heap.size + 1) 110 #[.int .i64 6, .int .i64 n] := by rw [← hw1]; exact Blk.last _ _ _ (by simp)
  have p0 : w1.cell? ⟨w.heap.size, 0, none⟩ = some (.int .i64 vars) := hb1.cell 0
  have p1 : w1.cell? ⟨w.heap.size, 1, none⟩ = some (.slice kA kn kc) := hb1.cell 1
  have x0 : w1.cell? ⟨w.heap.size + 1, 0, none⟩ = some (.int .i64 6) := hb2.cell 0
  have x1 : w1.cell? ⟨w.heap.size + 1, 1, none⟩ = some (.int .i64 n) := hb2.cell 1
  have P0 := Lib.hid p0
  have P1 := Lib.hid p1
  have X1 := Lib.hid x1
  have N1 := Lib.hid n1
  have HW := Lib.hid hw1
  have KW := Lib.hid (fun W => refWord_any W 6)
  rw [show wordB 6 = ⟨#[115, 101, 108, 102]⟩ from rfl] at KW
  obtain ⟨B, hB⟩ : ∃ B, insB vars kn ln 6 n = B := ⟨_, rfl⟩
  rw [hB]
  unfold insB numB mostOf at hB
  have HB := Lib.hid hB
  clear hw1 n1 hb1 hb2 p0 p1 x1 hB
  by_cases e1 : n = 0
  · subst e1
    have g : ((0 : Int) == 0) = true := rfl
    go_enter Try.func52, Try.ntmps52
    go_upto_region 1 with (fail)
    rw [HW.out]
    go_wp2_with fail
    refine (KW.out _).mono ?_
    rintro e w2 ⟨rfl, b2⟩
    have N2 := Lib.hid ((Nw.refl w1).step b2)
    have q0 := N2.out.cell P0.out
    have q1 := N2.out.cell P1.out
    have q2 := N2.out.cell X1.out
    clear b2 x0
    go_wp2_with fail
    go_ret
    exact ⟨ret_bool (by rw [← HB.out]; simp [] <;> omega), N1.out.step N2.out⟩
  · have g : (n == 0) = false := beq_eq_false_iff_ne.2 e1
    go_enter Try.func52, Try.ntmps52
    go_upto_region 1 with (fail)
    rw [HW.out]
    go_wp2_with fail
    refine (KW.out _).mono ?_
    rintro e w2 ⟨rfl, b2⟩
    have N2 := Lib.hid ((Nw.refl w1).step b2)
    have q0 := N2.out.cell P0.out
    have q1 := N2.out.cell P1.out
    have q2 := N2.out.cell X1.out
    clear b2 x0
    go_wp2_with fail
    go_ret
    exact ⟨ret_bool (by rw [← HB.out]; simp [e1] <;> omega), N1.out.step N2.out⟩
theorem refIns7 (n : Int) (ln : Nat) (hl : ln ≤ 4294967295) :
    Calls Try.prog 52 #[.agg #[.int .i64 vars, .slice kA kn kc], .agg #[.int .i64 7, .int .i64 n], .int .i64 (ln : Int)] w fun e w' => e = .returned (.bool (insB vars kn ln 7 n)) ∧ Below w.heap.size w w' := by
  obtain ⟨w1, hw1⟩ : ∃ w1, (w.alloc (.cells #[.int .i64 vars, .slice kA kn kc] 77)).alloc (.cells #[.int .i64 7, .int .i64 n] 110) = w1 := ⟨_, rfl⟩
  have n1 : Nw w w1 := by rw [← hw1]; exact ((Nw.refl w).alloc _).alloc _
  have hb1 : Blk w1 w.heap.size 77 #[.int .i64 vars, .slice kA kn kc] := by rw [← hw1]; exact (Blk.last w _ _ rfl).alloc _
  have hb2 : Blk w1 (w.heap.size + 1) 110 #[.int .i64 7, .int .i64 n] := by rw [← hw1]; exact Blk.last _ _ _ (by simp)
  have p0 : w1.cell? ⟨w.heap.size, 0, none⟩ = some (.int .i64 vars) := hb1.cell 0
  have p1 : w1.cell? ⟨w.heap.size, 1, none⟩ = some (.slice kA kn kc) := hb1.cell 1
  have x0 : w1.cell? ⟨w.heap.size + 1, 0, none⟩ = some (.int .i64 7) := hb2.cell 0
  have x1 : w1.cell? ⟨w.heap.size + 1, 1, none⟩ = some (.int .i64 n) := hb2.cell 1
  have P0 := Lib.hid p0
  have P1 := Lib.hid p1
  have X1 := Lib.hid x1
  have N1 := Lib.hid n1
  have HW := Lib.hid hw1
  have KW := Lib.hid (fun W => refWord_any W 7)
  rw [show wordB 7 = ⟨#[114, 97, 110, 100]⟩ from rfl] at KW
  obtain ⟨B, hB⟩ : ∃ B, insB vars kn ln 7 n = B := ⟨_, rfl⟩
  rw [hB]
  unfold insB numB mostOf at hB
  have HB := Lib.hid hB
  clear hw1 n1 hb1 hb2 p0 p1 x1 hB
  by_cases e1 : n = 0
  · subst e1
    have g : ((0 : Int) == 0) = true := rfl
    go_enter Try.func52, Try.ntmps52
    go_upto_region 1 with (fail)
    rw [HW.out]
    go_wp2_with fail
    refine (KW.out _).mono ?_
    rintro e w2 ⟨rfl, b2⟩
    have N2 := Lib.hid ((Nw.refl w1).step b2)
    have q0 := N2.out.cell P0.out
    have q1 := N2.out.cell P1.out
    have q2 := N2.out.cell X1.out
    clear b2 x0
    go_wp2_with fail
    go_ret
    exact ⟨ret_bool (by rw [← HB.out]; simp [] <;> omega), N1.out.step N2.out⟩
  · have g : (n == 0) = false := beq_eq_false_iff_ne.2 e1
    go_enter Try.func52, Try.ntmps52
    go_upto_region 1 with (fail)
    rw [HW.out]
    go_wp2_with fail
    refine (KW.out _).mono ?_
    rintro e w2 ⟨rfl, b2⟩
    have N2 := Lib.hid ((Nw.refl w1).step b2)
    have q0 := N2.out.cell P0.out
    have q1 := N2.out.cell P1.out
    have q2 := N2.out.cell X1.out
    clear b2 x0
    go_wp2_with fail
    go_ret
    exact ⟨ret_bool (by rw [← HB.out]; simp [e1] <;> omega), N1.out.step N2.out⟩
theorem refIns8 (n : Int) (ln : Nat) (hl : ln ≤ 4294967295) :
    Calls Try.prog 52 #[.agg #[.int .i64 vars, .slice kA kn kc], .agg #[.int .i64 8, .int .i64 n], .int .i64 (ln : Int)] w fun e w' => e = .returned (.bool (insB vars kn ln 8 n)) ∧ Below w.heap.size w w' := by
  obtain ⟨w1, hw1⟩ : ∃ w1, (w.alloc (.cells #[.int .i64 vars, .slice kA kn kc] 77)).alloc (.cells #[.int .i64 8, .int .i64 n] 110) = w1 := ⟨_, rfl⟩
  have n1 : Nw w w1 := by rw [← hw1]; exact ((Nw.refl w).alloc _).alloc _
  have hb1 : Blk w1 w.heap.size 77 #[.int .i64 vars, .slice kA kn kc] := by rw [← hw1]; exact (Blk.last w _ _ rfl).alloc _
  have hb2 : Blk w1 (w.heap.size + 1) 110 #[.int .i64 8, .int .i64 n] := by rw [← hw1]; exact Blk.last _ _ _ (by simp)
  have p0 : w1.cell? ⟨w.heap.size, 0, none⟩ = some (.int .i64 vars) := hb1.cell 0
  have p1 : w1.cell? ⟨w.heap.size, 1, none⟩ = some (.slice kA kn kc) := hb1.cell 1
  have x0 : w1.cell? ⟨w.heap.size + 1, 0, none⟩ = some (.int .i64 8) := hb2.cell 0
  have x1 : w1.cell? ⟨w.heap.size + 1, 1, none⟩ = some (.int .i64 n) := hb2.cell 1
  have P0 := Lib.hid p0
  have P1 := Lib.hid p1
  have X1 := Lib.hid x1
  have N1 := Lib.hid n1
  have HW := Lib.hid hw1
  have KW := Lib.hid (fun W => refWord_any W 8)
  rw [show wordB 8 = ⟨#[97, 100, 100]⟩ from rfl] at KW
  obtain ⟨B, hB⟩ : ∃ B, insB vars kn ln 8 n = B := ⟨_, rfl⟩
  rw [hB]
  unfold insB numB mostOf at hB
  have HB := Lib.hid hB
  clear hw1 n1 hb1 hb2 p0 p1 x1 hB
  by_cases e1 : n = 0
  · subst e1
    have g : ((0 : Int) == 0) = true := rfl
    go_enter Try.func52, Try.ntmps52
    go_upto_region 1 with (fail)
    rw [HW.out]
    go_wp2_with fail
    refine (KW.out _).mono ?_
    rintro e w2 ⟨rfl, b2⟩
    have N2 := Lib.hid ((Nw.refl w1).step b2)
    have q0 := N2.out.cell P0.out
    have q1 := N2.out.cell P1.out
    have q2 := N2.out.cell X1.out
    clear b2 x0
    go_wp2_with fail
    go_ret
    exact ⟨ret_bool (by rw [← HB.out]; simp [] <;> omega), N1.out.step N2.out⟩
  · have g : (n == 0) = false := beq_eq_false_iff_ne.2 e1
    go_enter Try.func52, Try.ntmps52
    go_upto_region 1 with (fail)
    rw [HW.out]
    go_wp2_with fail
    refine (KW.out _).mono ?_
    rintro e w2 ⟨rfl, b2⟩
    have N2 := Lib.hid ((Nw.refl w1).step b2)
    have q0 := N2.out.cell P0.out
    have q1 := N2.out.cell P1.out
    have q2 := N2.out.cell X1.out
    clear b2 x0
    go_wp2_with fail
    go_ret
    exact ⟨ret_bool (by rw [← HB.out]; simp [e1] <;> omega), N1.out.step N2.out⟩
theorem refIns9 (n : Int) (ln : Nat) (hl : ln ≤ 4294967295) :
    Calls Try.prog 52 #[.agg #[.int .i64 vars, .slice kA kn kc], .agg #[.int .i64 9, .int .i64 n], .int .i64 (ln : Int)] w fun e w' => e = .returned (.bool (insB vars kn ln 9 n)) ∧ Below w.heap.size w w' := by
  obtain ⟨w1, hw1⟩ : ∃ w1, (w.alloc (.cells #[.int .i64 vars, .slice kA kn kc] 77)).alloc (.cells #[.int .i64 9, .int .i64 n] 110) = w1 := ⟨_, rfl⟩
  have n1 : Nw w w1 := by rw [← hw1]; exact ((Nw.refl w).alloc _).alloc _
  have hb1 : Blk w1 w.heap.size 77 #[.int .i64 vars, .slice kA kn kc] := by rw [← hw1]; exact (Blk.last w _ _ rfl).alloc _
  have hb2 : Blk w1 (w.heap.size + 1) 110 #[.int .i64 9, .int .i64 n] := by rw [← hw1]; exact Blk.last _ _ _ (by simp)
  have p0 : w1.cell? ⟨w.heap.size, 0, none⟩ = some (.int .i64 vars) := hb1.cell 0
  have p1 : w1.cell? ⟨w.heap.size, 1, none⟩ = some (.slice kA kn kc) := hb1.cell 1
  have x0 : w1.cell? ⟨w.heap.size + 1, 0, none⟩ = some (.int .i64 9) := hb2.cell 0
  have x1 : w1.cell? ⟨w.heap.size + 1, 1, none⟩ = some (.int .i64 n) := hb2.cell 1
  have P0 := Lib.hid p0
  have P1 := Lib.hid p1
  have X1 := Lib.hid x1
  have N1 := Lib.hid n1
  have HW := Lib.hid hw1
  have KW := Lib.hid (fun W => refWord_any W 9)
  rw [show wordB 9 = ⟨#[115, 117, 98]⟩ from rfl] at KW
  obtain ⟨B, hB⟩ : ∃ B, insB vars kn ln 9 n = B := ⟨_, rfl⟩
  rw [hB]
  unfold insB numB mostOf at hB
  have HB := Lib.hid hB
  clear hw1 n1 hb1 hb2 p0 p1 x1 hB
  by_cases e1 : n = 0
  · subst e1
    have g : ((0 : Int) == 0) = true := rfl
    go_enter Try.func52, Try.ntmps52
    go_upto_region 1 with (fail)
    rw [HW.out]
    go_wp2_with fail
    refine (KW.out _).mono ?_
    rintro e w2 ⟨rfl, b2⟩
    have N2 := Lib.hid ((Nw.refl w1).step b2)
    have q0 := N2.out.cell P0.out
    have q1 := N2.out.cell P1.out
    have q2 := N2.out.cell X1.out
    clear b2 x0
    go_wp2_with fail
    go_ret
    exact ⟨ret_bool (by rw [← HB.out]; simp [] <;> omega), N1.out.step N2.out⟩
  · have g : (n == 0) = false := beq_eq_false_iff_ne.2 e1
    go_enter Try.func52, Try.ntmps52
    go_upto_region 1 with (fail)
    rw [HW.out]
    go_wp2_with fail
    refine (KW.out _).mono ?_
    rintro e w2 ⟨rfl, b2⟩
    have N2 := Lib.hid ((Nw.refl w1).step b2)
    have q0 := N2.out.cell P0.out
    have q1 := N2.out.cell P1.out
    have q2 := N2.out.cell X1.out
    clear b2 x0
    go_wp2_with fail
    go_ret
    exact ⟨ret_bool (by rw [← HB.out]; simp [e1] <;> omega), N1.out.step N2.out⟩
theorem refIns10 (n : Int) (ln : Nat) (hl : ln ≤ 4294967295) :
    Calls Try.prog 52 #[.agg #[.int .i64 vars, .slice kA kn kc], .agg #[.int .i64 10, .int .i64 n], .int .i64 (ln : Int)] w fun e w' => e = .returned (.bool (insB vars kn ln 10 n)) ∧ Below w.heap.size w w' := by
  obtain ⟨w1, hw1⟩ : ∃ w1, (w.alloc (.cells #[.int .i64 vars, .slice kA kn kc] 77)).alloc (.cells #[.int .i64 10, .int .i64 n] 110) = w1 := ⟨_, rfl⟩
  have n1 : Nw w w1 := by rw [← hw1]; exact ((Nw.refl w).alloc _).alloc _
  have hb1 : Blk w1 w.heap.size 77 #[.int .i64 vars, .slice kA kn kc] := by rw [← hw1]; exact (Blk.last w _ _ rfl).alloc _
  have hb2 : Blk w1 (w.heap.size + 1) 110 #[.int .i64 10, .int .i64 n] := by rw [← hw1]; exact Blk.last _ _ _ (by simp)
  have p0 : w1.cell? ⟨w.heap.size, 0, none⟩ = some (.int .i64 vars) := hb1.cell 0
  have p1 : w1.cell? ⟨w.heap.size, 1, none⟩ = some (.slice kA kn kc) := hb1.cell 1
  have x0 : w1.cell? ⟨w.heap.size + 1, 0, none⟩ = some (.int .i64 10) := hb2.cell 0
  have x1 : w1.cell? ⟨w.heap.size + 1, 1, none⟩ = some (.int .i64 n) := hb2.cell 1
  have P0 := Lib.hid p0
  have P1 := Lib.hid p1
  have X1 := Lib.hid x1
  have N1 := Lib.hid n1
  have HW := Lib.hid hw1
  have KW := Lib.hid (fun W => refWord_any W 10)
  rw [show wordB 10 = ⟨#[109, 117, 108]⟩ from rfl] at KW
  obtain ⟨B, hB⟩ : ∃ B, insB vars kn ln 10 n = B := ⟨_, rfl⟩
  rw [hB]
  unfold insB numB mostOf at hB
  have HB := Lib.hid hB
  clear hw1 n1 hb1 hb2 p0 p1 x1 hB
  by_cases e1 : n = 0
  · subst e1
    have g : ((0 : Int) == 0) = true := rfl
    go_enter Try.func52, Try.ntmps52
    go_upto_region 1 with (fail)
    rw [HW.out]
    go_wp2_with fail
    refine (KW.out _).mono ?_
    rintro e w2 ⟨rfl, b2⟩
    have N2 := Lib.hid ((Nw.refl w1).step b2)
    have q0 := N2.out.cell P0.out
    have q1 := N2.out.cell P1.out
    have q2 := N2.out.cell X1.out
    clear b2 x0
    go_wp2_with fail
    go_ret
    exact ⟨ret_bool (by rw [← HB.out]; simp [] <;> omega), N1.out.step N2.out⟩
  · have g : (n == 0) = false := beq_eq_false_iff_ne.2 e1
    go_enter Try.func52, Try.ntmps52
    go_upto_region 1 with (fail)
    rw [HW.out]
    go_wp2_with fail
    refine (KW.out _).mono ?_
    rintro e w2 ⟨rfl, b2⟩
    have N2 := Lib.hid ((Nw.refl w1).step b2)
    have q0 := N2.out.cell P0.out
    have q1 := N2.out.cell P1.out
    have q2 := N2.out.cell X1.out
    clear b2 x0
    go_wp2_with fail
    go_ret
    exact ⟨ret_bool (by rw [← HB.out]; simp [e1] <;> omega), N1.out.step N2.out⟩
theorem refIns11 (n : Int) (ln : Nat) (hl : ln ≤ 4294967295) :
    Calls Try.prog 52 #[.agg #[.int .i64 vars, .slice kA kn kc], .agg #[.int .i64 11, .int .i64 n], .int .i64 (ln : Int)] w fun e w' => e = .returned (.bool (insB vars kn ln 11 n)) ∧ Below w.heap.size w w' := by
  obtain ⟨w1, hw1⟩ : ∃ w1, (w.alloc (.cells #[.int .i64 vars, .slice kA kn kc] 77)).alloc (.cells #[.int .i64 11, .int .i64 n] 110) = w1 := ⟨_, rfl⟩
  have n1 : Nw w w1 := by rw [← hw1]; exact ((Nw.refl w).alloc _).alloc _
  have hb1 : Blk w1 w.heap.size 77 #[.int .i64 vars, .slice kA kn kc] := by rw [← hw1]; exact (Blk.last w _ _ rfl).alloc _
  have hb2 : Blk w1 (w.heap.size + 1) 110 #[.int .i64 11, .int .i64 n] := by rw [← hw1]; exact Blk.last _ _ _ (by simp)
  have p0 : w1.cell? ⟨w.heap.size, 0, none⟩ = some (.int .i64 vars) := hb1.cell 0
  have p1 : w1.cell? ⟨w.heap.size, 1, none⟩ = some (.slice kA kn kc) := hb1.cell 1
  have x0 : w1.cell? ⟨w.heap.size + 1, 0, none⟩ = some (.int .i64 11) := hb2.cell 0
  have x1 : w1.cell? ⟨w.heap.size + 1, 1, none⟩ = some (.int .i64 n) := hb2.cell 1
  have P0 := Lib.hid p0
  have P1 := Lib.hid p1
  have X1 := Lib.hid x1
  have N1 := Lib.hid n1
  have HW := Lib.hid hw1
  have KW := Lib.hid (fun W => refWord_any W 11)
  rw [show wordB 11 = ⟨#[108, 101, 115, 115]⟩ from rfl] at KW
  obtain ⟨B, hB⟩ : ∃ B, insB vars kn ln 11 n = B := ⟨_, rfl⟩
  rw [hB]
  unfold insB numB mostOf at hB
  have HB := Lib.hid hB
  clear hw1 n1 hb1 hb2 p0 p1 x1 hB
  by_cases e1 : n = 0
  · subst e1
    have g : ((0 : Int) == 0) = true := rfl
    go_enter Try.func52, Try.ntmps52
    go_upto_region 1 with (fail)
    rw [HW.out]
    go_wp2_with fail
    refine (KW.out _).mono ?_
    rintro e w2 ⟨rfl, b2⟩
    have N2 := Lib.hid ((Nw.refl w1).step b2)
    have q0 := N2.out.cell P0.out
    have q1 := N2.out.cell P1.out
    have q2 := N2.out.cell X1.out
    clear b2 x0
    go_wp2_with fail
    go_ret
    exact ⟨ret_bool (by rw [← HB.out]; simp [] <;> omega), N1.out.step N2.out⟩
  · have g : (n == 0) = false := beq_eq_false_iff_ne.2 e1
    go_enter Try.func52, Try.ntmps52
    go_upto_region 1 with (fail)
    rw [HW.out]
    go_wp2_with fail
    refine (KW.out _).mono ?_
    rintro e w2 ⟨rfl, b2⟩
    have N2 := Lib.hid ((Nw.refl w1).step b2)
    have q0 := N2.out.cell P0.out
    have q1 := N2.out.cell P1.out
    have q2 := N2.out.cell X1.out
    clear b2 x0
    go_wp2_with fail
    go_ret
    exact ⟨ret_bool (by rw [← HB.out]; simp [e1] <;> omega), N1.out.step N2.out⟩
theorem refIns12 (n : Int) (ln : Nat) (hl : ln ≤ 4294967295) :
    Calls Try.prog 52 #[.agg #[.int .i64 vars, .slice kA kn kc], .agg #[.int .i64 12, .int .i64 n], .int .i64 (ln : Int)] w fun e w' => e = .returned (.bool (insB vars kn ln 12 n)) ∧ Below w.heap.size w w' := by
  obtain ⟨w1, hw1⟩ : ∃ w1, (w.alloc (.cells #[.int .i64 vars, .slice kA kn kc] 77)).alloc (.cells #[.int .i64 12, .int .i64 n] 110) = w1 := ⟨_, rfl⟩
  have n1 : Nw w w1 := by rw [← hw1]; exact ((Nw.refl w).alloc _).alloc _
  have hb1 : Blk w1 w.heap.size 77 #[.int .i64 vars, .slice kA kn kc] := by rw [← hw1]; exact (Blk.last w _ _ rfl).alloc _
  have hb2 : Blk w1 (w.heap.size + 1) 110 #[.int .i64 12, .int .i64 n] := by rw [← hw1]; exact Blk.last _ _ _ (by simp)
  have p0 : w1.cell? ⟨w.heap.size, 0, none⟩ = some (.int .i64 vars) := hb1.cell 0
  have p1 : w1.cell? ⟨w.heap.size, 1, none⟩ = some (.slice kA kn kc) := hb1.cell 1
  have x0 : w1.cell? ⟨w.heap.size + 1, 0, none⟩ = some (.int .i64 12) := hb2.cell 0
  have x1 : w1.cell? ⟨w.heap.size + 1, 1, none⟩ = some (.int .i64 n) := hb2.cell 1
  have P0 := Lib.hid p0
  have P1 := Lib.hid p1
  have X1 := Lib.hid x1
  have N1 := Lib.hid n1
  have HW := Lib.hid hw1
  have KW := Lib.hid (fun W => refWord_any W 12)
  rw [show wordB 12 = ⟨#[115, 97, 109, 101]⟩ from rfl] at KW
  obtain ⟨B, hB⟩ : ∃ B, insB vars kn ln 12 n = B := ⟨_, rfl⟩
  rw [hB]
  unfold insB numB mostOf at hB
  have HB := Lib.hid hB
  clear hw1 n1 hb1 hb2 p0 p1 x1 hB
  by_cases e1 : n = 0
  · subst e1
    have g : ((0 : Int) == 0) = true := rfl
    go_enter Try.func52, Try.ntmps52
    go_upto_region 1 with (fail)
    rw [HW.out]
    go_wp2_with fail
    refine (KW.out _).mono ?_
    rintro e w2 ⟨rfl, b2⟩
    have N2 := Lib.hid ((Nw.refl w1).step b2)
    have q0 := N2.out.cell P0.out
    have q1 := N2.out.cell P1.out
    have q2 := N2.out.cell X1.out
    clear b2 x0
    go_wp2_with fail
    go_ret
    exact ⟨ret_bool (by rw [← HB.out]; simp [] <;> omega), N1.out.step N2.out⟩
  · have g : (n == 0) = false := beq_eq_false_iff_ne.2 e1
    go_enter Try.func52, Try.ntmps52
    go_upto_region 1 with (fail)
    rw [HW.out]
    go_wp2_with fail
    refine (KW.out _).mono ?_
    rintro e w2 ⟨rfl, b2⟩
    have N2 := Lib.hid ((Nw.refl w1).step b2)
    have q0 := N2.out.cell P0.out
    have q1 := N2.out.cell P1.out
    have q2 := N2.out.cell X1.out
    clear b2 x0
    go_wp2_with fail
    go_ret
    exact ⟨ret_bool (by rw [← HB.out]; simp [e1] <;> omega), N1.out.step N2.out⟩
theorem refIns13 (n : Int) (ln : Nat) (hl : ln ≤ 4294967295) :
    Calls Try.prog 52 #[.agg #[.int .i64 vars, .slice kA kn kc], .agg #[.int .i64 13, .int .i64 n], .int .i64 (ln : Int)] w fun e w' => e = .returned (.bool (insB vars kn ln 13 n)) ∧ Below w.heap.size w w' := by
  obtain ⟨w1, hw1⟩ : ∃ w1, (w.alloc (.cells #[.int .i64 vars, .slice kA kn kc] 77)).alloc (.cells #[.int .i64 13, .int .i64 n] 110) = w1 := ⟨_, rfl⟩
  have n1 : Nw w w1 := by rw [← hw1]; exact ((Nw.refl w).alloc _).alloc _
  have hb1 : Blk w1 w.heap.size 77 #[.int .i64 vars, .slice kA kn kc] := by rw [← hw1]; exact (Blk.last w _ _ rfl).alloc _
  have hb2 : Blk w1 (w.heap.size + 1) 110 #[.int .i64 13, .int .i64 n] := by rw [← hw1]; exact Blk.last _ _ _ (by simp)
  have p0 : w1.cell? ⟨w.heap.size, 0, none⟩ = some (.int .i64 vars) := hb1.cell 0
  have p1 : w1.cell? ⟨w.heap.size, 1, none⟩ = some (.slice kA kn kc) := hb1.cell 1
  have x0 : w1.cell? ⟨w.heap.size + 1, 0, none⟩ = some (.int .i64 13) := hb2.cell 0
  have x1 : w1.cell? ⟨w.heap.size + 1, 1, none⟩ = some (.int .i64 n) := hb2.cell 1
  have P0 := Lib.hid p0
  have P1 := Lib.hid p1
  have X1 := Lib.hid x1
  have N1 := Lib.hid n1
  have HW := Lib.hid hw1
  have KW := Lib.hid (fun W => refWord_any W 13)
  rw [show wordB 13 = ⟨#[106, 117, 109, 112]⟩ from rfl] at KW
  obtain ⟨B, hB⟩ : ∃ B, insB vars kn ln 13 n = B := ⟨_, rfl⟩
  rw [hB]
  unfold insB numB mostOf at hB
  have HB := Lib.hid hB
  clear hw1 n1 hb1 hb2 p0 p1 x1 hB
  by_cases e1 : 0 ≤ n
  · by_cases e2 : n ≤ (ln : Int)
    · skip
      go_enter Try.func52, Try.ntmps52
      go_upto_region 1 with (fail)
      rw [HW.out]
      go_wp2_with fail
      refine (KW.out _).mono ?_
      rintro e w2 ⟨rfl, b2⟩
      have N2 := Lib.hid ((Nw.refl w1).step b2)
      have q0 := N2.out.cell P0.out
      have q1 := N2.out.cell P1.out
      have q2 := N2.out.cell X1.out
      clear b2 x0
      go_wp2_with fail
      go_ret
      exact ⟨ret_bool (by rw [← HB.out]; simp [e1, e2] <;> omega), N1.out.step N2.out⟩
    · skip
      go_enter Try.func52, Try.ntmps52
      go_upto_region 1 with (fail)
      rw [HW.out]
      go_wp2_with fail
      refine (KW.out _).mono ?_
      rintro e w2 ⟨rfl, b2⟩
      have N2 := Lib.hid ((Nw.refl w1).step b2)
      have q0 := N2.out.cell P0.out
      have q1 := N2.out.cell P1.out
      have q2 := N2.out.cell X1.out
      clear b2 x0
      go_wp2_with fail
      go_ret
      exact ⟨ret_bool (by rw [← HB.out]; simp [e1, e2] <;> omega), N1.out.step N2.out⟩
  · skip
    go_enter Try.func52, Try.ntmps52
    go_upto_region 1 with (fail)
    rw [HW.out]
    go_wp2_with fail
    refine (KW.out _).mono ?_
    rintro e w2 ⟨rfl, b2⟩
    have N2 := Lib.hid ((Nw.refl w1).step b2)
    have q0 := N2.out.cell P0.out
    have q1 := N2.out.cell P1.out
    have q2 := N2.out.cell X1.out
    clear b2 x0
    go_wp2_with fail
    go_ret
    exact ⟨ret_bool (by rw [← HB.out]; simp [e1] <;> omega), N1.out.step N2.out⟩
theorem refIns14 (n : Int) (ln : Nat) (hl : ln ≤ 4294967295) :
    Calls Try.prog 52 #[.agg #[.int .i64 vars, .slice kA kn kc], .agg #[.int .i64 14, .int .i64 n], .int .i64 (ln : Int)] w fun e w' => e = .returned (.bool (insB vars kn ln 14 n)) ∧ Below w.heap.size w w' := by
  obtain ⟨w1, hw1⟩ : ∃ w1, (w.alloc (.cells #[.int .i64 vars, .slice kA kn kc] 77)).alloc (.cells #[.int .i64 14, .int .i64 n] 110) = w1 := ⟨_, rfl⟩
  have n1 : Nw w w1 := by rw [← hw1]; exact ((Nw.refl w).alloc _).alloc _
  have hb1 : Blk w1 w.heap.size 77 #[.int .i64 vars, .slice kA kn kc] := by rw [← hw1]; exact (Blk.last w _ _ rfl).alloc _
  have hb2 : Blk w1 (w.heap.size + 1) 110 #[.int .i64 14, .int .i64 n] := by rw [← hw1]; exact Blk.last _ _ _ (by simp)
  have p0 : w1.cell? ⟨w.heap.size, 0, none⟩ = some (.int .i64 vars) := hb1.cell 0
  have p1 : w1.cell? ⟨w.heap.size, 1, none⟩ = some (.slice kA kn kc) := hb1.cell 1
  have x0 : w1.cell? ⟨w.heap.size + 1, 0, none⟩ = some (.int .i64 14) := hb2.cell 0
  have x1 : w1.cell? ⟨w.heap.size + 1, 1, none⟩ = some (.int .i64 n) := hb2.cell 1
  have P0 := Lib.hid p0
  have P1 := Lib.hid p1
  have X1 := Lib.hid x1
  have N1 := Lib.hid n1
  have HW := Lib.hid hw1
  have KW := Lib.hid (fun W => refWord_any W 14)
  rw [show wordB 14 = ⟨#[122, 101, 114, 111]⟩ from rfl] at KW
  obtain ⟨B, hB⟩ : ∃ B, insB vars kn ln 14 n = B := ⟨_, rfl⟩
  rw [hB]
  unfold insB numB mostOf at hB
  have HB := Lib.hid hB
  clear hw1 n1 hb1 hb2 p0 p1 x1 hB
  by_cases e1 : 0 ≤ n
  · by_cases e2 : n ≤ (ln : Int)
    · skip
      go_enter Try.func52, Try.ntmps52
      go_upto_region 1 with (fail)
      rw [HW.out]
      go_wp2_with fail
      refine (KW.out _).mono ?_
      rintro e w2 ⟨rfl, b2⟩
      have N2 := Lib.hid ((Nw.refl w1).step b2)
      have q0 := N2.out.cell P0.out
      have q1 := N2.out.cell P1.out
      have q2 := N2.out.cell X1.out
      clear b2 x0
      go_wp2_with fail
      go_ret
      exact ⟨ret_bool (by rw [← HB.out]; simp [e1, e2] <;> omega), N1.out.step N2.out⟩
    · skip
      go_enter Try.func52, Try.ntmps52
      go_upto_region 1 with (fail)
      rw [HW.out]
      go_wp2_with fail
      refine (KW.out _).mono ?_
      rintro e w2 ⟨rfl, b2⟩
      have N2 := Lib.hid ((Nw.refl w1).step b2)
      have q0 := N2.out.cell P0.out
      have q1 := N2.out.cell P1.out
      have q2 := N2.out.cell X1.out
      clear b2 x0
      go_wp2_with fail
      go_ret
      exact ⟨ret_bool (by rw [← HB.out]; simp [e1, e2] <;> omega), N1.out.step N2.out⟩
  · skip
    go_enter Try.func52, Try.ntmps52
    go_upto_region 1 with (fail)
    rw [HW.out]
    go_wp2_with fail
    refine (KW.out _).mono ?_
    rintro e w2 ⟨rfl, b2⟩
    have N2 := Lib.hid ((Nw.refl w1).step b2)
    have q0 := N2.out.cell P0.out
    have q1 := N2.out.cell P1.out
    have q2 := N2.out.cell X1.out
    clear b2 x0
    go_wp2_with fail
    go_ret
    exact ⟨ret_bool (by rw [← HB.out]; simp [e1] <;> omega), N1.out.step N2.out⟩
theorem refIns15 (n : Int) (ln : Nat) (hl : ln ≤ 4294967295) :
    Calls Try.prog 52 #[.agg #[.int .i64 vars, .slice kA kn kc], .agg #[.int .i64 15, .int .i64 n], .int .i64 (ln : Int)] w fun e w' => e = .returned (.bool (insB vars kn ln 15 n)) ∧ Below w.heap.size w w' := by
  obtain ⟨w1, hw1⟩ : ∃ w1, (w.alloc (.cells #[.int .i64 vars, .slice kA kn kc] 77)).alloc (.cells #[.int .i64 15, .int .i64 n] 110) = w1 := ⟨_, rfl⟩
  have n1 : Nw w w1 := by rw [← hw1]; exact ((Nw.refl w).alloc _).alloc _
  have hb1 : Blk w1 w.heap.size 77 #[.int .i64 vars, .slice kA kn kc] := by rw [← hw1]; exact (Blk.last w _ _ rfl).alloc _
  have hb2 : Blk w1 (w.heap.size + 1) 110 #[.int .i64 15, .int .i64 n] := by rw [← hw1]; exact Blk.last _ _ _ (by simp)
  have p0 : w1.cell? ⟨w.heap.size, 0, none⟩ = some (.int .i64 vars) := hb1.cell 0
  have p1 : w1.cell? ⟨w.heap.size, 1, none⟩ = some (.slice kA kn kc) := hb1.cell 1
  have x0 : w1.cell? ⟨w.heap.size + 1, 0, none⟩ = some (.int .i64 15) := hb2.cell 0
  have x1 : w1.cell? ⟨w.heap.size + 1, 1, none⟩ = some (.int .i64 n) := hb2.cell 1
  have P0 := Lib.hid p0
  have P1 := Lib.hid p1
  have X1 := Lib.hid x1
  have N1 := Lib.hid n1
  have HW := Lib.hid hw1
  have KW := Lib.hid (fun W => refWord_any W 15)
  rw [show wordB 15 = ⟨#[115, 101, 110, 100]⟩ from rfl] at KW
  obtain ⟨B, hB⟩ : ∃ B, insB vars kn ln 15 n = B := ⟨_, rfl⟩
  rw [hB]
  unfold insB numB mostOf at hB
  have HB := Lib.hid hB
  clear hw1 n1 hb1 hb2 p0 p1 x1 hB
  by_cases e1 : 0 ≤ n
  · by_cases e2 : n < (kn : Int)
    · skip
      go_enter Try.func52, Try.ntmps52
      go_upto_region 1 with (fail)
      rw [HW.out]
      go_wp2_with fail
      refine (KW.out _).mono ?_
      rintro e w2 ⟨rfl, b2⟩
      have N2 := Lib.hid ((Nw.refl w1).step b2)
      have q0 := N2.out.cell P0.out
      have q1 := N2.out.cell P1.out
      have q2 := N2.out.cell X1.out
      clear b2 x0
      go_wp2_with fail
      go_ret
      exact ⟨ret_bool (by rw [← HB.out]; simp [e1, e2] <;> omega), N1.out.step N2.out⟩
    · skip
      go_enter Try.func52, Try.ntmps52
      go_upto_region 1 with (fail)
      rw [HW.out]
      go_wp2_with fail
      refine (KW.out _).mono ?_
      rintro e w2 ⟨rfl, b2⟩
      have N2 := Lib.hid ((Nw.refl w1).step b2)
      have q0 := N2.out.cell P0.out
      have q1 := N2.out.cell P1.out
      have q2 := N2.out.cell X1.out
      clear b2 x0
      go_wp2_with fail
      go_ret
      exact ⟨ret_bool (by rw [← HB.out]; simp [e1, e2] <;> omega), N1.out.step N2.out⟩
  · skip
    go_enter Try.func52, Try.ntmps52
    go_upto_region 1 with (fail)
    rw [HW.out]
    go_wp2_with fail
    refine (KW.out _).mono ?_
    rintro e w2 ⟨rfl, b2⟩
    have N2 := Lib.hid ((Nw.refl w1).step b2)
    have q0 := N2.out.cell P0.out
    have q1 := N2.out.cell P1.out
    have q2 := N2.out.cell X1.out
    clear b2 x0
    go_wp2_with fail
    go_ret
    exact ⟨ret_bool (by rw [← HB.out]; simp [e1] <;> omega), N1.out.step N2.out⟩
theorem refIns16 (n : Int) (ln : Nat) (hl : ln ≤ 4294967295) :
    Calls Try.prog 52 #[.agg #[.int .i64 vars, .slice kA kn kc], .agg #[.int .i64 16, .int .i64 n], .int .i64 (ln : Int)] w fun e w' => e = .returned (.bool (insB vars kn ln 16 n)) ∧ Below w.heap.size w w' := by
  obtain ⟨w1, hw1⟩ : ∃ w1, (w.alloc (.cells #[.int .i64 vars, .slice kA kn kc] 77)).alloc (.cells #[.int .i64 16, .int .i64 n] 110) = w1 := ⟨_, rfl⟩
  have n1 : Nw w w1 := by rw [← hw1]; exact ((Nw.refl w).alloc _).alloc _
  have hb1 : Blk w1 w.heap.size 77 #[.int .i64 vars, .slice kA kn kc] := by rw [← hw1]; exact (Blk.last w _ _ rfl).alloc _
  have hb2 : Blk w1 (w.heap.size + 1) 110 #[.int .i64 16, .int .i64 n] := by rw [← hw1]; exact Blk.last _ _ _ (by simp)
  have p0 : w1.cell? ⟨w.heap.size, 0, none⟩ = some (.int .i64 vars) := hb1.cell 0
  have p1 : w1.cell? ⟨w.heap.size, 1, none⟩ = some (.slice kA kn kc) := hb1.cell 1
  have x0 : w1.cell? ⟨w.heap.size + 1, 0, none⟩ = some (.int .i64 16) := hb2.cell 0
  have x1 : w1.cell? ⟨w.heap.size + 1, 1, none⟩ = some (.int .i64 n) := hb2.cell 1
  have P0 := Lib.hid p0
  have P1 := Lib.hid p1
  have X1 := Lib.hid x1
  have N1 := Lib.hid n1
  have HW := Lib.hid hw1
  have KW := Lib.hid (fun W => refWord_any W 16)
  rw [show wordB 16 = ⟨#[116, 101, 108, 108]⟩ from rfl] at KW
  obtain ⟨B, hB⟩ : ∃ B, insB vars kn ln 16 n = B := ⟨_, rfl⟩
  rw [hB]
  unfold insB numB mostOf at hB
  have HB := Lib.hid hB
  clear hw1 n1 hb1 hb2 p0 p1 x1 hB
  by_cases e1 : n = 0
  · subst e1
    have g : ((0 : Int) == 0) = true := rfl
    go_enter Try.func52, Try.ntmps52
    go_upto_region 1 with (fail)
    rw [HW.out]
    go_wp2_with fail
    refine (KW.out _).mono ?_
    rintro e w2 ⟨rfl, b2⟩
    have N2 := Lib.hid ((Nw.refl w1).step b2)
    have q0 := N2.out.cell P0.out
    have q1 := N2.out.cell P1.out
    have q2 := N2.out.cell X1.out
    clear b2 x0
    go_wp2_with fail
    go_ret
    exact ⟨ret_bool (by rw [← HB.out]; simp [] <;> omega), N1.out.step N2.out⟩
  · have g : (n == 0) = false := beq_eq_false_iff_ne.2 e1
    go_enter Try.func52, Try.ntmps52
    go_upto_region 1 with (fail)
    rw [HW.out]
    go_wp2_with fail
    refine (KW.out _).mono ?_
    rintro e w2 ⟨rfl, b2⟩
    have N2 := Lib.hid ((Nw.refl w1).step b2)
    have q0 := N2.out.cell P0.out
    have q1 := N2.out.cell P1.out
    have q2 := N2.out.cell X1.out
    clear b2 x0
    go_wp2_with fail
    go_ret
    exact ⟨ret_bool (by rw [← HB.out]; simp [e1] <;> omega), N1.out.step N2.out⟩
theorem refIns17 (n : Int) (ln : Nat) (hl : ln ≤ 4294967295) :
    Calls Try.prog 52 #[.agg #[.int .i64 vars, .slice kA kn kc], .agg #[.int .i64 17, .int .i64 n], .int .i64 (ln : Int)] w fun e w' => e = .returned (.bool (insB vars kn ln 17 n)) ∧ Below w.heap.size w w' := by
  obtain ⟨w1, hw1⟩ : ∃ w1, (w.alloc (.cells #[.int .i64 vars, .slice kA kn kc] 77)).alloc (.cells #[.int .i64 17, .int .i64 n] 110) = w1 := ⟨_, rfl⟩
  have n1 : Nw w w1 := by rw [← hw1]; exact ((Nw.refl w).alloc _).alloc _
  have hb1 : Blk w1 w.heap.size 77 #[.int .i64 vars, .slice kA kn kc] := by rw [← hw1]; exact (Blk.last w _ _ rfl).alloc _
  have hb2 : Blk w1 (w.heap.size + 1) 110 #[.int .i64 17, .int .i64 n] := by rw [← hw1]; exact Blk.last _ _ _ (by simp)
  have p0 : w1.cell? ⟨w.heap.size, 0, none⟩ = some (.int .i64 vars) := hb1.cell 0
  have p1 : w1.cell? ⟨w.heap.size, 1, none⟩ = some (.slice kA kn kc) := hb1.cell 1
  have x0 : w1.cell? ⟨w.heap.size + 1, 0, none⟩ = some (.int .i64 17) := hb2.cell 0
  have x1 : w1.cell? ⟨w.heap.size + 1, 1, none⟩ = some (.int .i64 n) := hb2.cell 1
  have P0 := Lib.hid p0
  have P1 := Lib.hid p1
  have X1 := Lib.hid x1
  have N1 := Lib.hid n1
  have HW := Lib.hid hw1
  have KW := Lib.hid (fun W => refWord_any W 17)
  rw [show wordB 17 = ⟨#[101, 110, 100]⟩ from rfl] at KW
  obtain ⟨B, hB⟩ : ∃ B, insB vars kn ln 17 n = B := ⟨_, rfl⟩
  rw [hB]
  unfold insB numB mostOf at hB
  have HB := Lib.hid hB
  clear hw1 n1 hb1 hb2 p0 p1 x1 hB
  by_cases e1 : n = 0
  · subst e1
    have g : ((0 : Int) == 0) = true := rfl
    go_enter Try.func52, Try.ntmps52
    go_upto_region 1 with (fail)
    rw [HW.out]
    go_wp2_with fail
    refine (KW.out _).mono ?_
    rintro e w2 ⟨rfl, b2⟩
    have N2 := Lib.hid ((Nw.refl w1).step b2)
    have q0 := N2.out.cell P0.out
    have q1 := N2.out.cell P1.out
    have q2 := N2.out.cell X1.out
    clear b2 x0
    go_wp2_with fail
    go_ret
    exact ⟨ret_bool (by rw [← HB.out]; simp [] <;> omega), N1.out.step N2.out⟩
  · have g : (n == 0) = false := beq_eq_false_iff_ne.2 e1
    go_enter Try.func52, Try.ntmps52
    go_upto_region 1 with (fail)
    rw [HW.out]
    go_wp2_with fail
    refine (KW.out _).mono ?_
    rintro e w2 ⟨rfl, b2⟩
    have N2 := Lib.hid ((Nw.refl w1).step b2)
    have q0 := N2.out.cell P0.out
    have q1 := N2.out.cell P1.out
    have q2 := N2.out.cell X1.out
    clear b2 x0
    go_wp2_with fail
    go_ret
    exact ⟨ret_bool (by rw [← HB.out]; simp [e1] <;> omega), N1.out.step N2.out⟩
theorem refIns_any (op n : Int) (ln : Nat) (hl : ln ≤ 4294967295) :
    Calls Try.prog 52 #[.agg #[.int .i64 vars, .slice kA kn kc], .agg #[.int .i64 op, .int .i64 n], .int .i64 (ln : Int)] w fun e w' => e = .returned (.bool (insB vars kn ln op n)) ∧ Below w.heap.size w w' := by
  by_cases h : 1 ≤ op ∧ op ≤ 17
  · rcases op_cases h.1 h.2 with rfl | rfl | rfl | rfl | rfl | rfl | rfl | rfl | rfl | rfl | rfl | rfl | rfl | rfl | rfl | rfl | rfl
    · exact refIns1 vars kA kn kc w n ln hl
    · exact refIns2 vars kA kn kc w n ln hl
    · exact refIns3 vars kA kn kc w n ln hl
    · exact refIns4 vars kA kn kc w n ln hl
    · exact refIns5 vars kA kn kc w n ln hl
    · exact refIns6 vars kA kn kc w n ln hl
    · exact refIns7 vars kA kn kc w n ln hl
    · exact refIns8 vars kA kn kc w n ln hl
    · exact refIns9 vars kA kn kc w n ln hl
    · exact refIns10 vars kA kn kc w n ln hl
    · exact refIns11 vars kA kn kc w n ln hl
    · exact refIns12 vars kA kn kc w n ln hl
    · exact refIns13 vars kA kn kc w n ln hl
    · exact refIns14 vars kA kn kc w n ln hl
    · exact refIns15 vars kA kn kc w n ln hl
    · exact refIns16 vars kA kn kc w n ln hl
    · exact refIns17 vars kA kn kc w n ln hl
  · have KW := Lib.hid (fun W => refWord_any W op)
    have e : wordB op = ⟨#[]⟩ := by unfold wordB; rw [if_neg h]
    rw [e] at KW
    have e2 : insB vars kn ln op n = false := by unfold insB; by_cases h1 : 1 ≤ op <;> simp [h1] <;> omega
    rw [e2]
    have B2 := Lib.hid (fun o1 o2 => (((Nw.refl w).alloc o1).alloc o2))
    clear e e2 h
    go_enter Try.func52, Try.ntmps52
    go_wp2_with fail
    refine (KW.out _).mono ?_
    rintro e w2 ⟨rfl, b2⟩
    have N2 := Lib.hid ((B2.out _ _).step b2)
    clear b2
    go_wp2_with fail
    go_ret
    exact ⟨rfl, N2.out⟩
end
end Go.Proofs.Ytgijkgngldfdiaa
