/- Which programs may be: code.May. Helper. -/
import Derived.Test.YtgijkgngldfdiaaVmCode
namespace Go.Proofs.Ytgijkgngldfdiaa
open Go.RowKit
set_option linter.unusedVariables false
set_option linter.unusedSimpArgs false
def mostOf (vars : Int) (kn ln : Nat) (op : Int) : Int := if op = 2 ∨ op = 3 then vars else if op = 13 ∨ op = 14 then (ln : Int) + 1 else if op = 15 then (kn : Int) else 1
def numB (vars : Int) (kn ln : Nat) (op n : Int) : Bool := decide (op = 1) || (decide (0 ≤ n) && decide (n < mostOf vars kn ln op))
def insB (vars : Int) (kn ln : Nat) (op n : Int) : Bool := decide (1 ≤ op) && decide (op ≤ 17) && numB vars kn ln op n
section
variable (vars : Int) (kA : Option Addr) (kn kc : Nat) (w : World)
set_option maxRecDepth 100000
set_option maxHeartbeats 800000
theorem number_most (op n : Int) (ln : Nat) (m : Int) (hl : ln ≤ 4294967295) (hm : mostOf vars kn ln op = m) (h1 : op ≠ 1)
    (hop : op = 2 ∨ op = 3 ∨ op = 13 ∨ op = 14 ∨ op = 15 ∨ (op ≠ 2 ∧ op ≠ 3 ∧ op ≠ 13 ∧ op ≠ 14 ∧ op ≠ 15)) :
    Calls Try.prog 72 #[.agg #[.int .i64 vars, .slice kA kn kc], .agg #[.int .i64 op, .int .i64 n], .int .i64 (ln : Int)] w fun e w' => e = .returned (.bool (decide (0 ≤ n) && decide (n < m))) ∧ Below w.heap.size w w' := by
  skip
  have hB : ∀ o1 o2, Below w.heap.size w ((w.alloc o1).alloc o2) := fun o1 o2 => ((Below.refl _ _).alloc (Nat.le_refl _) _).alloc (by simp) _
  have HB := Lib.hid hB
  clear hB
  have g1 : (op == 1) = false := beq_eq_false_iff_ne.2 h1
  rcases hop with rfl | rfl | rfl | rfl | rfl | ⟨n2, n3, n13, n14, n15⟩
  · obtain rfl : vars = m := by rw [← hm]; rfl
    clear hm g1 h1
    by_cases e1 : 0 ≤ n
    · by_cases e2 : n < vars
      all_goals
        go_enter Try.func72, Try.ntmps72
        go_wp2_with fail
        go_ret
        exact ⟨ret_bool (by simp [e1, e2]), HB.out _ _⟩
    · go_enter Try.func72, Try.ntmps72
      go_wp2_with fail
      go_ret
      exact ⟨ret_bool (by simp [e1] <;> omega), HB.out _ _⟩
  · obtain rfl : vars = m := by rw [← hm]; rfl
    clear hm g1 h1
    by_cases e1 : 0 ≤ n
    · by_cases e2 : n < vars
      all_goals
        go_enter Try.func72, Try.ntmps72
        go_wp2_with fail
        go_ret
        exact ⟨ret_bool (by simp [e1, e2]), HB.out _ _⟩
    · go_enter Try.func72, Try.ntmps72
      go_wp2_with fail
      go_ret
      exact ⟨ret_bool (by simp [e1] <;> omega), HB.out _ _⟩
  · obtain rfl : (ln : Int) + 1 = m := by rw [← hm]; rfl
    clear hm g1 h1
    by_cases e1 : 0 ≤ n
    · by_cases e2 : n < (ln : Int) + 1
      all_goals
        go_enter Try.func72, Try.ntmps72
        go_wp2_with fail
        go_ret
        exact ⟨ret_bool (by simp [e1, e2]), HB.out _ _⟩
    · go_enter Try.func72, Try.ntmps72
      go_wp2_with fail
      go_ret
      exact ⟨ret_bool (by simp [e1] <;> omega), HB.out _ _⟩
  · obtain rfl : (ln : Int) + 1 = m := by rw [← hm]; rfl
    clear hm g1 h1
    by_cases e1 : 0 ≤ n
    · by_cases e2 : n < (ln : Int) + 1
      all_goals
        go_enter Try.func72, Try.ntmps72
        go_wp2_with fail
        go_ret
        exact ⟨ret_bool (by simp [e1, e2]), HB.out _ _⟩
    · go_enter Try.func72, Try.ntmps72
      go_wp2_with fail
      go_ret
      exact ⟨ret_bool (by simp [e1] <;> omega), HB.out _ _⟩
  · obtain rfl : (kn : Int) = m := by rw [← hm]; rfl
    clear hm g1 h1
    by_cases e1 : 0 ≤ n
    · by_cases e2 : n < (kn : Int)
      all_goals
        go_enter Try.func72, Try.ntmps72
        go_wp2_with fail
        go_ret
        exact ⟨ret_bool (by simp [e1, e2]), HB.out _ _⟩
    · go_enter Try.func72, Try.ntmps72
      go_wp2_with fail
      go_ret
      exact ⟨ret_bool (by simp [e1] <;> omega), HB.out _ _⟩
  · obtain rfl : 1 = m := by rw [← hm]; unfold mostOf; rw [if_neg (by omega), if_neg (by omega), if_neg (by omega)]
    have g2 : (op == 2) = false := beq_eq_false_iff_ne.2 n2
    have g3 : (op == 3) = false := beq_eq_false_iff_ne.2 n3
    have g13 : (op == 13) = false := beq_eq_false_iff_ne.2 n13
    have g14 : (op == 14) = false := beq_eq_false_iff_ne.2 n14
    have g15 : (op == 15) = false := beq_eq_false_iff_ne.2 n15
    clear hm n2 n3 n13 n14 n15 h1
    by_cases e1 : 0 ≤ n
    · by_cases e2 : n < 1
      all_goals
        go_enter Try.func72, Try.ntmps72
        go_wp2_with fail
        go_ret
        exact ⟨ret_bool (by simp [e1, e2]), HB.out _ _⟩
    · go_enter Try.func72, Try.ntmps72
      go_wp2_with fail
      go_ret
      exact ⟨ret_bool (by simp [e1] <;> omega), HB.out _ _⟩
theorem number_any (op n : Int) (ln : Nat) (hl : ln ≤ 4294967295) :
    Calls Try.prog 72 #[.agg #[.int .i64 vars, .slice kA kn kc], .agg #[.int .i64 op, .int .i64 n], .int .i64 (ln : Int)] w fun e w' => e = .returned (.bool (numB vars kn ln op n)) ∧ Below w.heap.size w w' := by
  by_cases h1 : op = 1
  · subst h1
    go_enter Try.func72, Try.ntmps72
    go_wp2_with fail
    go_ret
    exact ⟨rfl, ((Below.refl _ _).alloc (Nat.le_refl _) _).alloc (by simp) _⟩
  · have e : numB vars kn ln op n = (decide (0 ≤ n) && decide (n < mostOf vars kn ln op)) := by unfold numB; simp [h1]
    rw [e]
    exact number_most vars kA kn kc w op n ln _ hl rfl h1 (by omega)
/-- The closure: is an instruction bad? -/
theorem bad_any (PB KB : Nat) (lA : Option Addr) (ln lc : Nat) (op n : Int) (hl : ln ≤ 4294967295) (p0 : w.cell? ⟨PB, 0, none⟩ = some (.int .i64 vars)) (p1 : w.cell? ⟨PB, 1, none⟩ = some (.slice kA kn kc)) (k0 : w.cell? ⟨KB, 0, none⟩ = some (.slice lA ln lc)) :
    Calls Try.prog 70 #[.agg #[.int .i64 op, .int .i64 n], .pointer (some ⟨PB, 0, none⟩), .pointer (some ⟨KB, 0, none⟩)] w fun e w' => e = .returned (.bool (!insB vars kn ln op n)) ∧ Below w.heap.size w w' := by
  obtain ⟨w1, hw1⟩ : ∃ w1, w.alloc (.cells #[.int .i64 op, .int .i64 n] 110) = w1 := ⟨_, rfl⟩
  have b1 : Nw w w1 := by rw [← hw1]; exact (Nw.refl w).alloc _
  have hb : Blk w1 w.heap.size 110 #[.int .i64 op, .int .i64 n] := by rw [← hw1]; exact Blk.last w _ _ rfl
  have x0 : w1.cell? ⟨w.heap.size, 0, none⟩ = some (.int .i64 op) := hb.cell 0
  have x1 : w1.cell? ⟨w.heap.size, 1, none⟩ = some (.int .i64 n) := hb.cell 1
  have p0 := b1.cell p0
  have p1 := b1.cell p1
  have k0 := b1.cell k0
  have B1 := Lib.hid b1
  have HW := Lib.hid hw1
  have KW := Lib.hid (fun W => word_any op W)
  have KN := Lib.hid (fun W => number_any vars kA kn kc W op n ln hl)
  clear b1 hb hw1 hl
  by_cases h : 1 ≤ op ∧ op ≤ 17
  · have hs := word_some h.1 h.2
    have e : insB vars kn ln op n = numB vars kn ln op n := by unfold insB; simp [h.1, h.2]
    rw [e]
    generalize wordB op = W at *
    generalize numB vars kn ln op n = N at *
    have hs4 : W.toList.isEmpty = false := by rw [ByteArray.toList_eq]; exact hs
    have hs5 : ¬ W.toList = [] := fun e => by rw [e] at hs4; cases hs4
    clear hs
    clear e h
    go_enter Try.func70, Try.ntmps70
    go_upto_region 1 with (fail)
    rw [HW.out]
    go_wp2_with fail
    refine (KW.out _).mono ?_
    rintro e wx ⟨rfl, bx⟩
    have ix := Lib.hid ((Nw.refl w1).step bx)
    have p0 := ix.out.cell p0
    have p1 := ix.out.cell p1
    have k0 := ix.out.cell k0
    have x0 := ix.out.cell x0
    have x1 := ix.out.cell x1
    clear bx
    go_wp2_with fail
    refine (KN.out _).mono ?_
    rintro e wy ⟨rfl, by_⟩
    have iy := Lib.hid (ix.out.step by_)
    clear by_
    go_wp2_with fail
    go_ret
    exact ⟨rfl, B1.out.step iy.out⟩
  · have hs : wordB op = ⟨#[]⟩ := by unfold wordB; rw [if_neg h]
    have e : insB vars kn ln op n = false := by unfold insB; by_cases h1 : 1 ≤ op <;> simp [h1] <;> omega
    rw [e]
    rw [hs] at KW
    clear e h hs
    go_enter Try.func70, Try.ntmps70
    go_upto_region 1 with (fail)
    rw [HW.out]
    go_wp2_with fail
    refine (KW.out _).mono ?_
    rintro e wx ⟨rfl, bx⟩
    have ix := Lib.hid ((Nw.refl w1).step bx)
    clear bx
    go_wp2_with fail
    go_ret
    exact ⟨rfl, B1.out.step ix.out⟩
end
end Go.Proofs.Ytgijkgngldfdiaa
