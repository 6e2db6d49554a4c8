/- See, all its ways as one. Helper. -/
import Derived.Test.YtbgpbbepeemieaaBndPlain
import Derived.Test.YtbgpbbepeemieaaRndSeeA
import Derived.Test.YtbgpbbepeemieaaRndSeeB
import Derived.Test.YtbgpbbepeemieaaRndSeeC
import Derived.Test.YtbgpbbepeemieaaRndSeeD
namespace Go.Proofs.Ytbgpbbepeemieaa
open Go.RowKit
set_option linter.unusedVariables false
set_option linter.unusedSimpArgs false
theorem see_any (R C S L : Nat) (r : Rn) (p : Nat) (k : Ky) (w : World) (h : RM w R C S L r) (hp1 : 1 ≤ p) (hp : p ≤ r.n) (ht : r.half = 2 → r.seen.length < r.n) :
    Calls Try.prog 16 #[.pointer (some ⟨R, 0, none⟩), .int .i64 (p : Int), .agg #[.int .i64 k.T, .int .i64 k.O, .int .i64 k.S], .int .i64 0] w fun e w' => e = .returned (.int .i64 (if r.refuses p then 9 else 0)) ∧ RM w' R C S L (r.see p k) ∧ Chg (Four R C S L) w w' := by
  have same : ∀ e w', e = Ending.returned (.int .i64 9) ∧ Below w.heap.size w w' → r.refuses p → e = Ending.returned (.int .i64 (if r.refuses p then 9 else 0)) ∧ RM w' R C S L (r.see p k) ∧ Chg (Four R C S L) w w' := by
    rintro e w' ⟨rfl, b⟩ hr
    unfold Rn.see
    rw [if_pos hr, if_pos hr]
    exact ⟨rfl, h.new b, Chg.of_below b (Nat.le_refl _) _⟩
  have hf := h.hf
  have hsn := h.sn
  have h0 : r.half = 0 ∨ r.half = 1 ∨ r.half = 2 := by omega
  rcases h0 with h0 | h0 | h0
  · exact (see_again R C S L r p k w h hp1 hp (.inl h0)).mono fun e w' g => same e w' g (.inl h0)
  · by_cases hl : r.seen.length = r.n
    · have et : r.turned = { r with half := 2, seen := [] } := if_pos ⟨h0, hl⟩
      have hr : ¬ r.refuses p := by
        rintro (g | g)
        · omega
        · rw [et] at g; simp at g
      have es : r.see p k = (r.turned).seeTwo p k := by unfold Rn.see; rw [if_neg hr, et, if_neg (by simp)]
      rw [if_neg hr, es, et]
      unfold Rn.seeTwo
      by_cases h1 : r.n = 1
      · rw [if_pos (by simp; omega)]
        exact see_alone R C S L r p k w h hp1 hp h0 hl h1
      · rw [if_neg (by simp; omega)]
        exact see_turn R C S L r p k w h hp1 hp h0 hl (by have := h.n1; omega)
    · have et : r.turned = r := if_neg (fun g => hl g.2)
      by_cases hm : p ∈ r.seen
      · exact (see_twice R C S L r p k w h hp1 hp h0 (by omega) hm).mono fun e w' g => same e w' g (.inr (by rw [et]; exact hm))
      · have hr : ¬ r.refuses p := by
          rintro (g | g)
          · omega
          · rw [et] at g; exact hm g
        have es : r.see p k = r.seeOne p := by unfold Rn.see; rw [if_neg hr, et, if_pos h0]
        rw [if_neg hr, es]
        exact see_one R C S L r p k w h hp1 hp h0 (by omega) hm
  · have et : r.turned = r := if_neg (fun g => by omega)
    by_cases hm : p ∈ r.seen
    · exact (see_again R C S L r p k w h hp1 hp (.inr ⟨h0, hm⟩)).mono fun e w' g => same e w' g (.inr (by rw [et]; exact hm))
    · have hr : ¬ r.refuses p := by
        rintro (g | g)
        · omega
        · rw [et] at g; exact hm g
      have hlt := ht h0
      have es : r.see p k = r.seeTwo p k := by unfold Rn.see; rw [if_neg hr, et, if_neg (by omega)]
      rw [if_neg hr, es]
      unfold Rn.seeTwo
      by_cases h1 : r.seen.length + 1 = r.n
      · rw [if_pos h1]
        exact see_end R C S L r p k w h hp1 hp h0 hm h1
      · rw [if_neg h1]
        exact see_two R C S L r p k w h hp1 hp h0 hm (by omega)
end Go.Proofs.Ytbgpbbepeemieaa
