/- The document's pace: Scaled, Horizon, New, Tick. Helper of the paces. -/
import Derived.Test.YtpmcabjplnfdgaaPaceA
namespace Go.Proofs.Ytpmcabjplnfdgaa
open Go.RowKit
set_option linter.unusedVariables false
set_option linter.unusedSimpArgs false
theorem scaled_le (n num den most i : Nat) : scaled n num den most i ≤ most + 1 := Nat.min_le_right _ _
def ScRel (n num den most : Nat) (a b i : Value) : Prop :=
  (∃ j : Nat, j ≤ 62 ∧ i = .int .i64 j ∧ a = .int .i64 (scaled n num den most (j + 1) : Nat) ∧ b = .int .i64 (n / 2 ^ (j + 1) * num % den : Nat)) ∨ (i = .int .i64 (-1) ∧ a = .int .i64 (scaled n num den most 0 : Nat))
theorem rel_next (n num den most j : Nat) (hj : j ≤ 62) (x y : Int) (hx : x = (scaled n num den most j : Nat)) (hy : y = (n / 2 ^ j * num % den : Nat)) : ScRel n num den most (.int .i64 x) (.int .i64 y) (.int .i64 ((j : Int) - 1)) := by
  subst hx hy
  cases j with
  | zero => exact .inr ⟨rfl, rfl⟩
  | succ k => exact .inl ⟨k, by omega, by go_num, rfl, rfl⟩
set_option maxHeartbeats 800000 in
theorem Scaled_any (n num den most : Nat) (w : World) (hn : n ≤ 9223372036854775807) (hnum : num ≤ 1048576) (hd : 1 ≤ den) (hd2 : den ≤ 1048576) (hm : most ≤ 1099511627776) :
    Calls Try.prog 23 #[.int .i64 n, .int .i64 num, .int .i64 den, .int .i64 most] w fun e w' => e = .returned (.int .i64 (min (n * num / den) most : Nat)) ∧ w' = w := by
  have hend := scaled_end n num den most
  have HE := Lib.hid hend
  clear hend
  go_enter Try.func23, Try.ntmps23
  go_wp2
  go_loop [9, 10, 11] (fun a b i => ScRel n num den most a b i) (fun _ _ i => (intOf i + 1).toNat)
  case atStart =>
    refine .inl ⟨62, by omega, rfl, ?_, ?_⟩
    · rw [scaled_top n num den most (by omega)]; rfl
    · rw [Nat.div_eq_of_lt (show n < 2 ^ (62 + 1) by omega)]; simp
  case round =>
    rcases hrel with ⟨j, hj, rfl, rfl, rfl⟩ | ⟨rfl, rfl⟩
    · have hst := scaled_step n num den most j (by omega)
      have hW := scaled_le n num den most (j + 1)
      have hr : n / 2 ^ (j + 1) * num % den < den := Nat.mod_lt _ (by omega)
      have hb : n / 2 ^ j % 2 = 0 ∨ n / 2 ^ j % 2 = 1 := by omega
      have ce : ((n / 2 ^ j : Nat) : Int) = (n : Int) / 2 ^ j := by push_cast; rfl
      rcases hb with hb | hb
      · have cb : ((n : Int) / 2 ^ j).tmod 2 = 0 := by rw [← ce, Int.tmod_eq_emod_of_nonneg (Int.natCast_nonneg _)]; omega
        rw [hb, Nat.zero_mul, Nat.add_zero] at hst
        have HS := Lib.hid hst
        generalize n / 2 ^ (j + 1) * num % den = r at *
        generalize scaled n num den most (j + 1) = W at *
        have hx : (((2 * r) / den : Nat) : Int) = 2 * (r : Int) / (den : Int) := by push_cast; rfl
        have hx2 : (((2 * r) % den : Nat) : Int) = 2 * (r : Int) % (den : Int) := by push_cast; rfl
        have hq : (2 * r) / den ≤ (2 * r) := Nat.div_le_self _ _
        have hmm : (2 * r) % den < den := Nat.mod_lt _ (by omega)
        clear ce hst
        generalize (2 * r) / den = q at *
        generalize (2 * r) % den = m at *
        have hx' := hx.symm
        have hx2' := hx2.symm
        clear hx hx2 hb
        by_cases hc : most < 2 * W + q
        all_goals
          have hcI := hc
          rw [← Int.ofNat_lt] at hcI
          push_cast at hcI
          go_wp2
          go_round
          case rel =>
            have h1 := HS.out
            simp only [hc, if_true, if_false] at h1
            exact rel_next n num den most j hj _ _ (by have := h1.1; omega) (by have := h1.2; omega)
          case measure => simp [intOf]
      · have cb : ((n : Int) / 2 ^ j).tmod 2 = 1 := by rw [← ce, Int.tmod_eq_emod_of_nonneg (Int.natCast_nonneg _)]; omega
        rw [hb, Nat.one_mul] at hst
        have HS := Lib.hid hst
        generalize n / 2 ^ (j + 1) * num % den = r at *
        generalize scaled n num den most (j + 1) = W at *
        have hx : (((2 * r + num) / den : Nat) : Int) = (2 * (r : Int) + (num : Int)) / (den : Int) := by push_cast; rfl
        have hx2 : (((2 * r + num) % den : Nat) : Int) = (2 * (r : Int) + (num : Int)) % (den : Int) := by push_cast; rfl
        have hq : (2 * r + num) / den ≤ (2 * r + num) := Nat.div_le_self _ _
        have hmm : (2 * r + num) % den < den := Nat.mod_lt _ (by omega)
        clear ce hst
        generalize (2 * r + num) / den = q at *
        generalize (2 * r + num) % den = m at *
        have hx' := hx.symm
        have hx2' := hx2.symm
        clear hx hx2 hb
        by_cases hc : most < 2 * W + q
        all_goals
          have hcI := hc
          rw [← Int.ofNat_lt] at hcI
          push_cast at hcI
          go_wp2
          go_round
          case rel =>
            have h1 := HS.out
            simp only [hc, if_true, if_false] at h1
            exact rel_next n num den most j hj _ _ (by have := h1.1; omega) (by have := h1.2; omega)
          case measure => simp [intOf]
    · have hW := scaled_le n num den most 0
      generalize scaled n num den most 0 = W at *
      go_wp2
      go_ret
      exact ⟨ret_int (by have := HE.out; omega), rfl⟩
end Go.Proofs.Ytpmcabjplnfdgaa
