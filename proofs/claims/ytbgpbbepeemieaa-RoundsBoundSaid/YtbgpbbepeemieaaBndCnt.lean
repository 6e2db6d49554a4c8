/- RoundsBound: how many have the round's colour. Helper. -/
import Derived.Test.YtbgpbbepeemieaaBndState
namespace Go.Proofs.Ytbgpbbepeemieaa
open Go.RowKit
set_option linter.unusedVariables false
set_option linter.unusedSimpArgs false
def Rn.cnt (r : Rn) : Nat → Nat
  | 0 => 0
  | u + 1 => r.cnt u + if r.colour ((u : Int) + 1) = r.num then 1 else 0
theorem Rn.cnt_le (r : Rn) (u : Nat) : r.cnt u ≤ u := by
  induction u with
  | zero => exact Nat.le_refl _
  | succ u ih => simp only [Rn.cnt]; split <;> omega
theorem Rn.cnt_full (r : Rn) (h : r.num = 1) (u : Nat) (hu : u ≤ r.n) : r.cnt u = u ↔ ∀ q, 1 ≤ q → q ≤ u → r.col q = 1 := by
  induction u with
  | zero => exact ⟨fun _ q h1 h2 => by omega, fun _ => rfl⟩
  | succ u ih =>
    have hle := r.cnt_le u
    have hcol : r.colour ((u : Int) + 1) = r.col (u + 1) := by
      unfold Rn.colour
      rw [if_pos ⟨by omega, by omega⟩]
      congr 1
    have ih' := ih (by omega)
    simp only [Rn.cnt]
    rw [hcol, h]
    by_cases hc : r.col (u + 1) = 1
    · rw [if_pos hc]
      refine ⟨fun e q h1 h2 => ?_, fun g => ?_⟩
      · by_cases e2 : q = u + 1
        · subst e2; exact hc
        · exact ih'.1 (by omega) q h1 (by omega)
      · have := ih'.2 fun q h1 h2 => g q h1 (by omega)
        omega
    · rw [if_neg hc]
      refine ⟨fun e => by omega, fun g => absurd (g (u + 1) (by omega) (by omega)) hc⟩
theorem Rn.see_n (r : Rn) (p : Nat) (k : Ky) : (r.see p k).n = r.n := by
  have h1 : r.turned.n = r.n := by unfold Rn.turned; split <;> rfl
  unfold Rn.see
  split
  · rfl
  · split
    · rfl
    · unfold Rn.seeTwo
      split <;> exact h1
theorem St.toldFree {w0 w : World} {R C S L LB TB n : Nat} {r : Rn} {low : Ky} {told : Nat → Bool} (h : St w0 w R C S L LB TB n r low told) (p : Nat) : w.frozen? ⟨TB, p, none⟩ = false := by
  obtain ⟨a, ha, fa⟩ := h.tl
  exact ha.frozen p
end Go.Proofs.Ytbgpbbepeemieaa
