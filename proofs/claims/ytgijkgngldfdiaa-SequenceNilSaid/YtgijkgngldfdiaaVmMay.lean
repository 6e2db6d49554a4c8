/- order.May and the document's: which events may be. Helper. -/
import Derived.Test.YtgijkgngldfdiaaOpen
namespace Go.Proofs.Ytgijkgngldfdiaa
open Go.RowKit
set_option linter.unusedVariables false
set_option linter.unusedSimpArgs false
theorem within_any (n l m : Int) (w : World) : Calls Try.prog 63 #[.int .i64 n, .int .i64 l, .int .i64 m] w fun e w' => e = .returned (.bool (decide (l ≤ n) && decide (n ≤ m))) ∧ w' = w := by
  by_cases h : l ≤ n
  · go_enter Try.func63, Try.ntmps63
    go_wp2
    go_ret
    exact ⟨ret_bool (by simp; omega), rfl⟩
  · go_enter Try.func63, Try.ntmps63
    go_wp2
    go_ret
    exact ⟨ret_bool (by simp; omega), rfl⟩
theorem withinI_any (n l m : Int) (w : World) : Calls Try.prog 64 #[.int .i64 n, .int .i64 l, .int .i64 m] w fun e w' => e = .returned (.bool (decide (l ≤ n) && decide (n ≤ m))) ∧ w' = w := by
  by_cases h : l ≤ n
  · go_enter Try.func64, Try.ntmps64
    go_wp2
    go_ret
    exact ⟨ret_bool (by simp; omega), rfl⟩
  · go_enter Try.func64, Try.ntmps64
    go_wp2
    go_ret
    exact ⟨ret_bool (by simp; omega), rfl⟩
def MayB (T O S p q d procs : Int) : Bool := decide (0 ≤ T) && decide (T ≤ 1099511627776) && (decide (0 ≤ O) && decide (O ≤ 17)) && (decide (0 ≤ S) && decide (S ≤ 4611686018427387904)) && (decide (1 ≤ p) && decide (p ≤ procs)) && (decide (0 ≤ q) && decide (q ≤ 7))
set_option maxHeartbeats 1600000 in
theorem may_any (T O S p q d procs : Int) (w : World) :
    Calls Try.prog 40 #[.agg #[.int .i64 T, .int .i64 O, .int .i64 S, .int .i64 p, .int .i64 q, .int .i64 d], .int .i64 procs] w fun r w' => r = .returned (.bool (MayB T O S p q d procs)) ∧ Below w.heap.size w w' := by
  unfold MayB
  have hB : ∀ o, Below w.heap.size w (w.alloc o) := fun o => (Below.refl _ _).alloc (Nat.le_refl _) _
  have k1 := Lib.hid (fun W => within_any T 0 1099511627776 W)
  have k2 := Lib.hid (fun W => withinI_any O 0 17 W)
  have k3 := Lib.hid (fun W => within_any S 0 4611686018427387904 W)
  have k4 := Lib.hid (fun W => withinI_any p 1 procs W)
  have k5 := Lib.hid (fun W => withinI_any q 0 7 W)
  generalize (decide (0 ≤ T) && decide (T ≤ 1099511627776)) = b1 at *
  generalize (decide (0 ≤ O) && decide (O ≤ 17)) = b2 at *
  generalize (decide (0 ≤ S) && decide (S ≤ 4611686018427387904)) = b3 at *
  generalize (decide (1 ≤ p) && decide (p ≤ procs)) = b4 at *
  generalize (decide (0 ≤ q) && decide (q ≤ 7)) = b5 at *
  cases b1 with
  | false =>
    go_enter Try.func40, Try.ntmps40
    go_wp2_with fail
    refine (k1.out _).mono ?_
    rintro r w1 ⟨rfl, rfl⟩
    go_wp2_with fail
    go_ret
    exact ⟨ret_bool (by simp), hB _⟩
  | true =>
    cases b2 with
    | false =>
      go_enter Try.func40, Try.ntmps40
      go_wp2_with fail
      refine (k1.out _).mono ?_
      rintro r w1 ⟨rfl, rfl⟩
      go_wp2_with fail
      refine (k2.out _).mono ?_
      rintro r w2 ⟨rfl, rfl⟩
      go_wp2_with fail
      go_ret
      exact ⟨ret_bool (by simp), hB _⟩
    | true =>
      cases b3 with
      | false =>
        go_enter Try.func40, Try.ntmps40
        go_wp2_with fail
        refine (k1.out _).mono ?_
        rintro r w1 ⟨rfl, rfl⟩
        go_wp2_with fail
        refine (k2.out _).mono ?_
        rintro r w2 ⟨rfl, rfl⟩
        go_wp2_with fail
        refine (k3.out _).mono ?_
        rintro r w3 ⟨rfl, rfl⟩
        go_wp2_with fail
        go_ret
        exact ⟨ret_bool (by simp), hB _⟩
      | true =>
        cases b4 with
        | false =>
          go_enter Try.func40, Try.ntmps40
          go_wp2_with fail
          refine (k1.out _).mono ?_
          rintro r w1 ⟨rfl, rfl⟩
          go_wp2_with fail
          refine (k2.out _).mono ?_
          rintro r w2 ⟨rfl, rfl⟩
          go_wp2_with fail
          refine (k3.out _).mono ?_
          rintro r w3 ⟨rfl, rfl⟩
          go_wp2_with fail
          refine (k4.out _).mono ?_
          rintro r w4 ⟨rfl, rfl⟩
          go_wp2_with fail
          go_ret
          exact ⟨ret_bool (by simp), hB _⟩
        | true =>
          go_enter Try.func40, Try.ntmps40
          go_wp2_with fail
          refine (k1.out _).mono ?_
          rintro r w1 ⟨rfl, rfl⟩
          go_wp2_with fail
          refine (k2.out _).mono ?_
          rintro r w2 ⟨rfl, rfl⟩
          go_wp2_with fail
          refine (k3.out _).mono ?_
          rintro r w3 ⟨rfl, rfl⟩
          go_wp2_with fail
          refine (k4.out _).mono ?_
          rintro r w4 ⟨rfl, rfl⟩
          go_wp2_with fail
          refine (k5.out _).mono ?_
          rintro r w5 ⟨rfl, rfl⟩
          go_wp2_with fail
          go_ret
          exact ⟨ret_bool (by simp), hB _⟩
theorem refMay_any (T O S p q d procs : Int) (w : World) :
    Calls Try.prog 29 #[.agg #[.int .i64 T, .int .i64 O, .int .i64 S, .int .i64 p, .int .i64 q, .int .i64 d], .int .i64 procs] w fun r w' => r = .returned (.bool (MayB T O S p q d procs)) ∧ Below w.heap.size w w' := by
  obtain ⟨R, hR⟩ : ∃ R, R = MayB T O S p q d procs := ⟨_, rfl⟩
  rw [← hR]
  unfold MayB at hR
  have HR := Lib.hid hR
  clear hR
  have hB : ∀ o, Below w.heap.size w (w.alloc o) := fun o => (Below.refl _ _).alloc (Nat.le_refl _) _
  by_cases t0 : T < 0
  · skip
    go_enter Try.func29, Try.ntmps29
    go_wp2
    go_ret
    exact ⟨ret_bool (by rw [HR.out]; simp [*] <;> omega), hB _⟩
  · skip
    by_cases t1 : 1099511627776 < T
    · skip
      go_enter Try.func29, Try.ntmps29
      go_wp2
      go_ret
      exact ⟨ret_bool (by rw [HR.out]; simp [*] <;> omega), hB _⟩
    · skip
      by_cases t2 : O < 0
      · skip
        go_enter Try.func29, Try.ntmps29
        go_wp2
        go_ret
        exact ⟨ret_bool (by rw [HR.out]; simp [*] <;> omega), hB _⟩
      · skip
        by_cases t3 : 17 < O
        · skip
          go_enter Try.func29, Try.ntmps29
          go_wp2
          go_ret
          exact ⟨ret_bool (by rw [HR.out]; simp [*] <;> omega), hB _⟩
        · skip
          by_cases t4 : S < 0
          · skip
            go_enter Try.func29, Try.ntmps29
            go_wp2
            go_ret
            exact ⟨ret_bool (by rw [HR.out]; simp [*] <;> omega), hB _⟩
          · skip
            by_cases t5 : 4611686018427387904 < S
            · skip
              go_enter Try.func29, Try.ntmps29
              go_wp2
              go_ret
              exact ⟨ret_bool (by rw [HR.out]; simp [*] <;> omega), hB _⟩
            · skip
              by_cases u0 : 1 ≤ p
              · skip
                by_cases u1 : p ≤ procs
                · skip
                  by_cases u2 : 0 ≤ q
                  · skip
                    go_enter Try.func29, Try.ntmps29
                    go_wp2
                    go_ret
                    exact ⟨ret_bool (by rw [HR.out]; simp [*] <;> omega), hB _⟩
                  · skip
                    go_enter Try.func29, Try.ntmps29
                    go_wp2
                    go_ret
                    exact ⟨ret_bool (by rw [HR.out]; simp [*] <;> omega), hB _⟩
                · skip
                  go_enter Try.func29, Try.ntmps29
                  go_wp2
                  go_ret
                  exact ⟨ret_bool (by rw [HR.out]; simp [*] <;> omega), hB _⟩
              · skip
                go_enter Try.func29, Try.ntmps29
                go_wp2
                go_ret
                exact ⟨ret_bool (by rw [HR.out]; simp [*] <;> omega), hB _⟩
end Go.Proofs.Ytgijkgngldfdiaa
