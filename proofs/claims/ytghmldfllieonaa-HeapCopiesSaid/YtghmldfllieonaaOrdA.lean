/- Keys in order: the document's Less, our Compare, Less, Max. Helper. -/
import Derived.Test.YtghmldfllieonaaProg
import Derived.Test.YtghmldfllieonaaMore
import Derived.Deep.RegionHeld3
import Derived.Deep.RegionWith
import Derived.Deep.RegionLaw
import Derived.Outline
namespace Go.Proofs.Ytghmldfllieonaa
open Go.RowKit
set_option linter.unusedVariables false
set_option linter.unusedSimpArgs false
/-- A key. -/
structure Ky where
  T : Int
  O : Int
  S : Int
deriving DecidableEq
def Ky.less (a b : Ky) : Bool := if a.T = b.T then (if a.O = b.O then decide (a.S < b.S) else decide (a.O < b.O)) else decide (a.T < b.T)
def c3 (a b : Int) : Int := if a < b then -1 else if b < a then 1 else 0
def Ky.cmp (a b : Ky) : Int := if a.less b then -1 else if b.less a then 1 else 0
theorem refLess_any (a b : Ky) (w : World) :
    Calls Try.prog 30 #[.agg #[.int .i64 a.T, .int .i64 a.O, .int .i64 a.S], .agg #[.int .i64 b.T, .int .i64 b.O, .int .i64 b.S]] w fun e w' => e = .returned (.bool (a.less b)) ∧ Below w.heap.size w w' := by
  unfold Ky.less
  obtain ⟨a1, a2, a3⟩ := a
  obtain ⟨b1, b2, b3⟩ := b
  dsimp only
  by_cases h1 : a1 = b1
  · rw [if_pos h1]
    by_cases h2 : a2 = b2
    · rw [if_pos h2]
      go_enter Try.func30, Try.ntmps30
      go_wp2
      go_ret
      exact ⟨rfl, ((Below.refl _ _).alloc (Nat.le_refl _) _).alloc (by simp) _⟩
    · rw [if_neg h2]
      go_enter Try.func30, Try.ntmps30
      go_wp2
      go_ret
      exact ⟨rfl, ((Below.refl _ _).alloc (Nat.le_refl _) _).alloc (by simp) _⟩
  · rw [if_neg h1]
    go_enter Try.func30, Try.ntmps30
    go_wp2
    go_ret
    exact ⟨rfl, ((Below.refl _ _).alloc (Nat.le_refl _) _).alloc (by simp) _⟩
theorem nan_any (a : Int) (w : World) : Calls Try.prog 50 #[.int .i64 a] w fun e w' => e = .returned (.bool false) ∧ w = w' := by
  go_enter Try.func50, Try.ntmps50
  go_wp2
  go_ret
  exact ⟨rfl, rfl⟩
theorem nanI_any (a : Int) (w : World) : Calls Try.prog 58 #[.int .i64 a] w fun e w' => e = .returned (.bool false) ∧ w = w' := by
  go_enter Try.func58, Try.ntmps58
  go_wp2
  go_ret
  exact ⟨rfl, rfl⟩
theorem cmp_any (a b : Int) (w : World) : Calls Try.prog 44 #[.int .i64 a, .int .i64 b] w fun e w' => e = .returned (.int .i64 (c3 a b)) ∧ w' = w := by
  have k := fun a w => nan_any a w
  unfold c3
  by_cases h1 : a < b
  · rw [if_pos h1]
    go_enter Try.func44, Try.ntmps44
    go_wp2_with (go_at_call 50; refine (k _ _).mono ?_; rintro e w' ⟨rfl, rfl⟩)
    go_ret
    exact ⟨rfl, rfl⟩
  · rw [if_neg h1]
    by_cases h2 : b < a
    · rw [if_pos h2]
      go_enter Try.func44, Try.ntmps44
      go_wp2_with (go_at_call 50; refine (k _ _).mono ?_; rintro e w' ⟨rfl, rfl⟩)
      go_ret
      exact ⟨rfl, rfl⟩
    · rw [if_neg h2]
      go_enter Try.func44, Try.ntmps44
      go_wp2_with (go_at_call 50; refine (k _ _).mono ?_; rintro e w' ⟨rfl, rfl⟩)
      go_ret
      exact ⟨rfl, rfl⟩
theorem cmpI_any (a b : Int) (w : World) : Calls Try.prog 54 #[.int .i64 a, .int .i64 b] w fun e w' => e = .returned (.int .i64 (c3 a b)) ∧ w' = w := by
  have k := fun a w => nanI_any a w
  unfold c3
  by_cases h1 : a < b
  · rw [if_pos h1]
    go_enter Try.func54, Try.ntmps54
    go_wp2_with (go_at_call 58; refine (k _ _).mono ?_; rintro e w' ⟨rfl, rfl⟩)
    go_ret
    exact ⟨rfl, rfl⟩
  · rw [if_neg h1]
    by_cases h2 : b < a
    · rw [if_pos h2]
      go_enter Try.func54, Try.ntmps54
      go_wp2_with (go_at_call 58; refine (k _ _).mono ?_; rintro e w' ⟨rfl, rfl⟩)
      go_ret
      exact ⟨rfl, rfl⟩
    · rw [if_neg h2]
      go_enter Try.func54, Try.ntmps54
      go_wp2_with (go_at_call 58; refine (k _ _).mono ?_; rintro e w' ⟨rfl, rfl⟩)
      go_ret
      exact ⟨rfl, rfl⟩
def or3 (x y z : Int) : Int := if x ≠ 0 then x else if y ≠ 0 then y else z
theorem or_any (g : Nat) (x y z : Int) (w : World) (h0 : w.cell? ⟨g, 0, none⟩ = some (.int .i64 x)) (h1 : w.cell? ⟨g, 1, none⟩ = some (.int .i64 y)) (h2 : w.cell? ⟨g, 2, none⟩ = some (.int .i64 z)) :
    Calls Try.prog 42 #[.slice (some ⟨g, 0, none⟩) 3 3] w fun e w' => e = .returned (.int .i64 (or3 x y z)) ∧ w' = w := by
  obtain ⟨R, hR⟩ : ∃ R, R = or3 x y z := ⟨_, rfl⟩
  rw [← hR]
  have HR := Lib.hid hR
  clear hR
  go_enter Try.func42, Try.ntmps42
  go_wp2
  go_loopw [8] (fun i wr => wr = w ∧ ∃ k : Nat, k ≤ 3 ∧ i = .int .i64 k ∧ (0 < k → x = 0) ∧ (1 < k → y = 0) ∧ (2 < k → z = 0)) (fun i _ => 3 - (intOf i).toNat)
  case atStart => exact ⟨rfl, 0, by omega, rfl, by omega, by omega, by omega⟩
  case round =>
    obtain ⟨rfl, k, hk, rfl, z0, z1, z2⟩ := hrel
    have hcase : k = 0 ∨ k = 1 ∨ k = 2 ∨ k = 3 := by omega
    rcases hcase with rfl | rfl | rfl | rfl
    · by_cases hx : x = 0
      · subst hx
        go_wp2
        go_roundw
        case rel => refine ⟨?_, 1, ?_, ?_, ?_, ?_, ?_⟩ <;> first | trivial | rfl | omega | simp
        case measure => simp [intOf]
      · go_wp2
        go_ret
        exact ⟨ret_int (by rw [HR.out]; simp [or3, *]), rfl⟩
    · have hx := z0 (by omega)
      subst hx
      by_cases hy : y = 0
      · subst hy
        go_wp2
        go_roundw
        case rel => refine ⟨?_, 2, ?_, ?_, ?_, ?_, ?_⟩ <;> first | trivial | rfl | omega | simp
        case measure => simp [intOf]
      · skip
        go_wp2
        go_ret
        exact ⟨ret_int (by rw [HR.out]; simp [or3, *]), rfl⟩
    · have hx := z0 (by omega)
      subst hx
      have hy := z1 (by omega)
      subst hy
      by_cases hz : z = 0
      · subst hz
        go_wp2
        go_roundw
        case rel => refine ⟨?_, 3, ?_, ?_, ?_, ?_, ?_⟩ <;> first | trivial | rfl | omega | simp
        case measure => simp [intOf]
      · go_wp2
        go_ret
        exact ⟨ret_int (by rw [HR.out]; simp [or3, *]), rfl⟩
    · have hx := z0 (by omega)
      subst hx
      have hy := z1 (by omega)
      subst hy
      have hz := z2 (by omega)
      subst hz
      go_wp2
      go_ret
      exact ⟨ret_int (by rw [HR.out]; simp [or3, *]), rfl⟩
end Go.Proofs.Ytghmldfllieonaa
