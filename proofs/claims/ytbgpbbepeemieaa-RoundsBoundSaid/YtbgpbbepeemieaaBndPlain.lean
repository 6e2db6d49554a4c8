/- RoundsBound, plainly: what See does, what is kept from round to round. Helper. -/
import Derived.Test.YtbgpbbepeemieaaRndSee
namespace Go.Proofs.Ytbgpbbepeemieaa
open Go.RowKit
set_option linter.unusedVariables false
set_option linter.unusedSimpArgs false
/-- x is not above y. -/
def Ky.le (x y : Ky) : Prop := y.less x = false
theorem Ky.le_refl (x : Ky) : x.le x := Ky.less_irrefl x
theorem Ky.le.trans {x y z : Ky} (h : x.le y) (g : y.le z) : x.le z := Ky.le_trans h g
theorem Ky.le_min {x a b : Ky} : x.le (a.min b) ↔ x.le a ∧ x.le b := by
  unfold Ky.min
  by_cases h : b.less a = true
  · rw [if_pos h]
    refine ⟨fun g => ⟨g.trans (Ky.less_asymm h), g⟩, fun g => g.2⟩
  · rw [if_neg h]
    refine ⟨fun g => ⟨g, g.trans (show b.less a = false by simpa using h)⟩, fun g => g.1⟩
theorem Ky.min_le_left (a b : Ky) : (a.min b).le a := (Ky.le_min.1 (Ky.le_refl (a.min b))).1
theorem Ky.min_le_right (a b : Ky) : (a.min b).le b := (Ky.le_min.1 (Ky.le_refl (a.min b))).2
/-- No list without repetition holds more than n numbers from 1 to n. -/
theorem few_of (n : Nat) : ∀ l : List Nat, l.Nodup → (∀ p ∈ l, 1 ≤ p ∧ p ≤ n) → l.length ≤ n := by
  induction n with
  | zero =>
    intro l _ h
    cases l with
    | nil => exact Nat.le_refl _
    | cons a t => have := h a (by simp); omega
  | succ n ih =>
    intro l hn h
    have h1 := ih (l.filter (fun p => decide (p ≠ n + 1))) (hn.filter _) (fun p hp => by
      have := List.mem_filter.1 hp
      have h2 := h p this.1
      have h3 : p ≠ n + 1 := by simpa using this.2
      omega)
    have h2 : l.length ≤ (l.filter (fun p => decide (p ≠ n + 1))).length + 1 := by
      clear ih h h1
      induction l with
      | nil => simp
      | cons a t iht =>
        have hn' := List.nodup_cons.1 hn
        by_cases e : a = n + 1
        · subst e
          have : t.filter (fun p => decide (p ≠ n + 1)) = t := List.filter_eq_self.2 fun p hp => by
            have : p ≠ n + 1 := fun e => hn'.1 (e ▸ hp)
            simpa using this
          rw [List.filter_cons, if_neg (by simp), this]
          simp
        · rw [List.filter_cons, if_pos (by simpa using e)]
          have := iht hn'.2
          simp only [List.length_cons]
          omega
    omega
theorem all_of {n : Nat} {l : List Nat} (hn : l.Nodup) (h : ∀ p ∈ l, 1 ≤ p ∧ p ≤ n) (hl : l.length = n) : ∀ p, 1 ≤ p → p ≤ n → p ∈ l := by
  intro p h1 h2
  refine Classical.byContradiction fun hp => ?_
  have := few_of n (p :: l) (List.nodup_cons.2 ⟨hp, hn⟩) (fun q hq => by
    rcases List.mem_cons.1 hq with rfl | hq
    · exact ⟨h1, h2⟩
    · exact h q hq)
  simp at this
  omega
/-- What See answers (nothing older waits), and what is left. -/
def Rn.turned (r : Rn) : Rn := if r.half = 1 ∧ r.seen.length = r.n then { r with half := 2, seen := [] } else r
def Rn.seeTwo (r : Rn) (p : Nat) (k : Ky) : Rn :=
  if r.seen.length + 1 = r.n then { r with seen := p :: r.seen, rep := r.rep.min (k.min (r.least p)), half := 0, bnd := (r.rep.min (k.min (r.least p))).min (r.least 0), is := true }
  else { r with seen := p :: r.seen, rep := r.rep.min (k.min (r.least p)) }
def Rn.refuses (r : Rn) (p : Nat) : Prop := r.half = 0 ∨ p ∈ r.turned.seen
instance (r : Rn) (p : Nat) : Decidable (r.refuses p) := by unfold Rn.refuses; infer_instance
def Rn.see (r : Rn) (p : Nat) (k : Ky) : Rn := if r.refuses p then r else if r.turned.half = 1 then r.seeOne p else r.turned.seeTwo p k
end Go.Proofs.Ytbgpbbepeemieaa
