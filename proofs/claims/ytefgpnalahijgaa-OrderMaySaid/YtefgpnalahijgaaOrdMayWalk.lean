/- OrderMay's walk. -/
import Derived.Test.YtefgpnalahijgaaOrdKnown
namespace Go.Proofs.Ytefgpnalahijgaa
open Go.RowKit
set_option linter.unusedVariables false
set_option linter.unusedSimpArgs false
def MayB (e : Ev) (procs : Int) : Bool := decide (0 ≤ e.k.T) && decide (e.k.T ≤ 1099511627776) && (decide (0 ≤ e.k.O) && decide (e.k.O ≤ 17)) && (decide (0 ≤ e.k.S) && decide (e.k.S ≤ 4611686018427387904)) && (decide (1 ≤ e.p) && decide (e.p ≤ procs)) && (decide (0 ≤ e.q) && decide (e.q ≤ 7))
set_option maxHeartbeats 1600000 in
theorem may_any (e : Ev) (procs : Int) (w : World) :
    Calls Try.prog 13 #[.agg #[.int .i64 e.k.T, .int .i64 e.k.O, .int .i64 e.k.S, .int .i64 e.p, .int .i64 e.q, .int .i64 e.d], .int .i64 procs] w fun r w' => r = .returned (.bool (MayB e procs)) ∧ Below w.heap.size w w' := by
  unfold MayB
  obtain ⟨⟨T, O, S⟩, p, q, d⟩ := e
  dsimp only
  have hB : ∀ o, Below w.heap.size w (w.alloc o) := fun o => (Below.refl _ _).alloc (Nat.le_refl _) _
  have k1 := Lib.hid (fun W => within_any T 0 1099511627776 W)
  have k2 := Lib.hid (fun W => withinI_any O 0 17 W)
  have k3 := Lib.hid (fun W => within_any S 0 4611686018427387904 W)
  have k4 := Lib.hid (fun W => withinI_any p 1 procs W)
  have k5 := Lib.hid (fun W => withinI_any q 0 7 W)
  generalize (decide (0 ≤ T) && decide (T ≤ 1099511627776)) = b1 at *
  generalize (decide (0 ≤ O) && decide (O ≤ 17)) = b2 at *
  generalize (decide (0 ≤ S) && decide (S ≤ 4611686018427387904)) = b3 at *
  generalize (decide (1 ≤ p) && decide (p ≤ procs)) = b4 at *
  generalize (decide (0 ≤ q) && decide (q ≤ 7)) = b5 at *
  cases b1 with
  | false =>
    go_enter Try.func13, Try.ntmps13
    go_wp2_with fail
    refine (k1.out _).mono ?_
    rintro r w1 ⟨rfl, rfl⟩
    go_wp2_with fail
    go_ret
    exact ⟨ret_bool (by simp), hB _⟩
  | true =>
    cases b2 with
    | false =>
      go_enter Try.func13, Try.ntmps13
      go_wp2_with fail
      refine (k1.out _).mono ?_
      rintro r w1 ⟨rfl, rfl⟩
      go_wp2_with fail
      refine (k2.out _).mono ?_
      rintro r w2 ⟨rfl, rfl⟩
      go_wp2_with fail
      go_ret
      exact ⟨ret_bool (by simp), hB _⟩
    | true =>
      cases b3 with
      | false =>
        go_enter Try.func13, Try.ntmps13
        go_wp2_with fail
        refine (k1.out _).mono ?_
        rintro r w1 ⟨rfl, rfl⟩
        go_wp2_with fail
        refine (k2.out _).mono ?_
        rintro r w2 ⟨rfl, rfl⟩
        go_wp2_with fail
        refine (k3.out _).mono ?_
        rintro r w3 ⟨rfl, rfl⟩
        go_wp2_with fail
        go_ret
        exact ⟨ret_bool (by simp), hB _⟩
      | true =>
        cases b4 with
        | false =>
          go_enter Try.func13, Try.ntmps13
          go_wp2_with fail
          refine (k1.out _).mono ?_
          rintro r w1 ⟨rfl, rfl⟩
          go_wp2_with fail
          refine (k2.out _).mono ?_
          rintro r w2 ⟨rfl, rfl⟩
          go_wp2_with fail
          refine (k3.out _).mono ?_
          rintro r w3 ⟨rfl, rfl⟩
          go_wp2_with fail
          refine (k4.out _).mono ?_
          rintro r w4 ⟨rfl, rfl⟩
          go_wp2_with fail
          go_ret
          exact ⟨ret_bool (by simp), hB _⟩
        | true =>
          go_enter Try.func13, Try.ntmps13
          go_wp2_with fail
          refine (k1.out _).mono ?_
          rintro r w1 ⟨rfl, rfl⟩
          go_wp2_with fail
          refine (k2.out _).mono ?_
          rintro r w2 ⟨rfl, rfl⟩
          go_wp2_with fail
          refine (k3.out _).mono ?_
          rintro r w3 ⟨rfl, rfl⟩
          go_wp2_with fail
          refine (k4.out _).mono ?_
          rintro r w4 ⟨rfl, rfl⟩
          go_wp2_with fail
          refine (k5.out _).mono ?_
          rintro r w5 ⟨rfl, rfl⟩
          go_wp2_with fail
          go_ret
          exact ⟨ret_bool (by simp), hB _⟩
theorem refMay_any (e : Ev) (procs : Int) (w : World) :
    Calls Try.prog 12 #[.agg #[.int .i64 e.k.T, .int .i64 e.k.O, .int .i64 e.k.S, .int .i64 e.p, .int .i64 e.q, .int .i64 e.d], .int .i64 procs] w fun r w' => r = .returned (.bool (MayB e procs)) ∧ Below w.heap.size w w' := by
  obtain ⟨R, hR⟩ : ∃ R, R = MayB e procs := ⟨_, rfl⟩
  rw [← hR]
  unfold MayB at hR
  obtain ⟨⟨T, O, S⟩, p, q, d⟩ := e
  dsimp only at hR ⊢
  have HR := Lib.hid hR
  clear hR
  have hB : ∀ o, Below w.heap.size w (w.alloc o) := fun o => (Below.refl _ _).alloc (Nat.le_refl _) _
  by_cases t0 : T < 0
  · skip
    go_enter Try.func12, Try.ntmps12
    go_wp2
    go_ret
    exact ⟨ret_bool (by rw [HR.out]; simp [*] <;> omega), hB _⟩
  · skip
    by_cases t1 : 1099511627776 < T
    · skip
      go_enter Try.func12, Try.ntmps12
      go_wp2
      go_ret
      exact ⟨ret_bool (by rw [HR.out]; simp [*] <;> omega), hB _⟩
    · skip
      by_cases t2 : O < 0
      · skip
        go_enter Try.func12, Try.ntmps12
        go_wp2
        go_ret
        exact ⟨ret_bool (by rw [HR.out]; simp [*] <;> omega), hB _⟩
      · skip
        by_cases t3 : 17 < O
        · skip
          go_enter Try.func12, Try.ntmps12
          go_wp2
          go_ret
          exact ⟨ret_bool (by rw [HR.out]; simp [*] <;> omega), hB _⟩
        · skip
          by_cases t4 : S < 0
          · skip
            go_enter Try.func12, Try.ntmps12
            go_wp2
            go_ret
            exact ⟨ret_bool (by rw [HR.out]; simp [*] <;> omega), hB _⟩
          · skip
            by_cases t5 : 4611686018427387904 < S
            · skip
              go_enter Try.func12, Try.ntmps12
              go_wp2
              go_ret
              exact ⟨ret_bool (by rw [HR.out]; simp [*] <;> omega), hB _⟩
            · skip
              by_cases u0 : 1 ≤ p
              · skip
                by_cases u1 : p ≤ procs
                · skip
                  by_cases u2 : 0 ≤ q
                  · skip
                    go_enter Try.func12, Try.ntmps12
                    go_wp2
                    go_ret
                    exact ⟨ret_bool (by rw [HR.out]; simp [*] <;> omega), hB _⟩
                  · skip
                    go_enter Try.func12, Try.ntmps12
                    go_wp2
                    go_ret
                    exact ⟨ret_bool (by rw [HR.out]; simp [*] <;> omega), hB _⟩
                · skip
                  go_enter Try.func12, Try.ntmps12
                  go_wp2
                  go_ret
                  exact ⟨ret_bool (by rw [HR.out]; simp [*] <;> omega), hB _⟩
              · skip
                go_enter Try.func12, Try.ntmps12
                go_wp2
                go_ret
                exact ⟨ret_bool (by rw [HR.out]; simp [*] <;> omega), hB _⟩
theorem MayB_less (e : Ev) (procs : Int) (h : MayB e procs = true) : e.k.less ⟨1099511627777, 0, 0⟩ = true := by
  rw [Ky.less_iff]
  unfold MayB at h
  simp only [Bool.and_eq_true, decide_eq_true_eq] at h
  dsimp only
  omega
set_option maxHeartbeats 4000000 in
set_option maxRecDepth 100000 in
theorem orderMay_any (e : Ev) (procs : Int) (w : World) :
    Calls Try.prog 4 #[.agg #[.int .i64 e.k.T, .int .i64 e.k.O, .int .i64 e.k.S, .int .i64 e.p, .int .i64 e.q, .int .i64 e.d], .int .i64 procs] w fun r w' => r = .returned (.bool true) ∧ Below w.heap.size w w' := by
  have hml := MayB_less e procs
  have k1 := Lib.hid (fun W => may_any e procs W)
  have k2 := Lib.hid (fun W => refMay_any e procs W)
  have k3 := Lib.hid (fun W => max_any W)
  have k5 := Lib.hid (fun W => known_any W)
  generalize MayB e procs = R at *
  have i0 : Nw w (w.alloc (.cells #[.int .i64 e.k.T, .int .i64 e.k.O, .int .i64 e.k.S, .int .i64 e.p, .int .i64 e.q, .int .i64 e.d] 28)) := (Nw.refl w).alloc _
  have u : Blk (w.alloc (.cells #[.int .i64 e.k.T, .int .i64 e.k.O, .int .i64 e.k.S, .int .i64 e.p, .int .i64 e.q, .int .i64 e.d] 28)) w.heap.size 28 #[.int .i64 e.k.T, .int .i64 e.k.O, .int .i64 e.k.S, .int .i64 e.p, .int .i64 e.q, .int .i64 e.d] := Blk.last w _ _ rfl
  go_enter Try.func4, Try.ntmps4
  go_upto_region 1 with (fail)
  generalize w.alloc (.cells #[.int .i64 e.k.T, .int .i64 e.k.O, .int .i64 e.k.S, .int .i64 e.p, .int .i64 e.q, .int .i64 e.d] 28) = wb at i0 u ⊢
  obtain ⟨ga, hga⟩ : ∃ ga, w.heap.size = ga := ⟨_, rfl⟩
  have I0 := Lib.hid i0
  clear i0
  rw [hga] at u ⊢

  have c0 : wb.cell? ⟨ga, 0, none⟩ = some (.int .i64 e.k.T) := u.cell 0
  have c1 : wb.cell? ⟨ga, 1, none⟩ = some (.int .i64 e.k.O) := u.cell 1
  have c2 : wb.cell? ⟨ga, 2, none⟩ = some (.int .i64 e.k.S) := u.cell 2
  have c3 : wb.cell? ⟨ga, 3, none⟩ = some (.int .i64 e.p) := u.cell 3
  have c4 : wb.cell? ⟨ga, 4, none⟩ = some (.int .i64 e.q) := u.cell 4
  have c5 : wb.cell? ⟨ga, 5, none⟩ = some (.int .i64 e.d) := u.cell 5
  go_wp2_with fail
  refine (k2.out _).mono ?_
  rintro r wc ⟨rfl, bl⟩
  have n0 : Nw wb wc := bl
  have d0 : wc.cell? ⟨ga, 0, none⟩ = some (.int .i64 e.k.T) := n0.cell c0
  have d1 : wc.cell? ⟨ga, 1, none⟩ = some (.int .i64 e.k.O) := n0.cell c1
  have d2 : wc.cell? ⟨ga, 2, none⟩ = some (.int .i64 e.k.S) := n0.cell c2
  have d3 : wc.cell? ⟨ga, 3, none⟩ = some (.int .i64 e.p) := n0.cell c3
  have d4 : wc.cell? ⟨ga, 4, none⟩ = some (.int .i64 e.q) := n0.cell c4
  have d5 : wc.cell? ⟨ga, 5, none⟩ = some (.int .i64 e.d) := n0.cell c5
  have hss : ∀ W, Nw wc W → Nw wc W ∧ W.cell? ⟨ga, 0, none⟩ = some (.int .i64 e.k.T) ∧ W.cell? ⟨ga, 1, none⟩ = some (.int .i64 e.k.O) ∧ W.cell? ⟨ga, 2, none⟩ = some (.int .i64 e.k.S) ∧ W.cell? ⟨ga, 3, none⟩ = some (.int .i64 e.p) ∧ W.cell? ⟨ga, 4, none⟩ = some (.int .i64 e.q) ∧ W.cell? ⟨ga, 5, none⟩ = some (.int .i64 e.d) := fun W h => ⟨h, h.cell d0, h.cell d1, h.cell d2, h.cell d3, h.cell d4, h.cell d5⟩
  have HSS := Lib.hid hss
  have NN := Lib.hid n0
  clear hss n0 bl c0 c1 c2 c3 c4 c5 u k2
  have j0 : Nw wc wc.drew := (Nw.refl wc).drew
  cases R with
  | true =>
    have k4 := Lib.hid (fun W => by have := refLess_any e.k ⟨1099511627777, 0, 0⟩ W; rw [hml rfl] at this; exact this)
    clear hml
    go_wp2_with fail
    go_region_held3 (fun W => Nw wc W ∧ W.cell? ⟨ga, 0, none⟩ = some (.int .i64 e.k.T) ∧ W.cell? ⟨ga, 1, none⟩ = some (.int .i64 e.k.O) ∧ W.cell? ⟨ga, 2, none⟩ = some (.int .i64 e.k.S) ∧ W.cell? ⟨ga, 3, none⟩ = some (.int .i64 e.p) ∧ W.cell? ⟨ga, 4, none⟩ = some (.int .i64 e.q) ∧ W.cell? ⟨ga, 5, none⟩ = some (.int .i64 e.d)) ((refine HSS.out _ ?_; repeat (first | assumption | exact Nw.refl wc | refine Nw.drew ?_ | refine Nw.alloc ?_ _))) (first
      | (go_at_call 13; refine (k1.out _).mono ?_; rintro r w1 ⟨rfl, b1⟩; have i1 := Nw.step (by assumption) b1)
      | (go_at_call 14; refine (k3.out _).mono ?_; rintro r w1 ⟨rfl, b1⟩; have i1 := Nw.step (by assumption) b1)
      | (go_at_call 7; refine (k4.out _).mono ?_; rintro r w1 ⟨rfl, b1⟩; have i1 := Nw.step (by assumption) b1)
      | (go_at_call 11; refine (k5.out _).mono ?_; rintro r w1 ⟨rfl, b1⟩; have i1 := Nw.step (by assumption) b1))
    all_goals
      rename_i hH
      have hN := hH.1
      clear hH
      go_wp2_with fail
      go_ret
      subst hga
      exact ⟨rfl, (I0.out.step NN.out).step hN⟩
  | false =>
    clear hml
    go_wp2_with fail
    first
    | go_region_with (first
        | (go_at_call 13; refine (k1.out _).mono ?_; rintro r w1 ⟨rfl, b1⟩; have i1 : Nw wc w1 := (Nw.drew (Nw.refl wc)).step b1)
        | (go_at_call 14; refine (k3.out _).mono ?_; rintro r w2 ⟨rfl, b2⟩; have i2 : Nw wc w2 := i1.step b2)
        | (go_at_call 11; refine (k5.out _).mono ?_; rintro r w3 ⟨rfl, b3⟩; have i3 : Nw wc w3 := i2.step b3))
    | fail
    all_goals
      go_wp2_with fail
      go_ret
      subst hga
      exact ⟨rfl, (I0.out.step NN.out).step i3⟩
end Go.Proofs.Ytefgpnalahijgaa
