/- Openers of arguments: slices of integers, slices of structs of integers, structs of integers by value. -/
import Derived.Test.YtpmcabjplnfdgaaMore
import Derived.ProofKit
import Derived.OpenShut
import Derived.ShutString
import Derived.ChangeOld
import Derived.Below
import Derived.Deep.Matrix
import Derived.Deep.Strs
namespace Go.Proofs.Ytpmcabjplnfdgaa
open Go.RowKit Go.ChangeShapes Go.WideShapes
set_option linter.unusedVariables false
set_option linter.unusedSimpArgs false
theorem ints_of {w : World} {x : Addr} {len cap : Nat} {zs : List Int} (hl : len ≤ cap) (hz : zs.length = cap) (h : ∀ i, i < zs.length → w.cell? (x.add i) = some (.int .i64 (zs.getD i 0))) (hw : ∀ z ∈ zs, (Lit.int .i64 z).wf = true) :
    ∃ ns : List Int, ns.length = len ∧ Rd w (some x) (ns.map (Value.int .i64)) ∧ ∀ z ∈ ns, (Lit.int .i64 z).wf = true := by
  refine ⟨zs.take len, by simp; omega, ?_, fun z hz => hw z (List.mem_of_mem_take hz)⟩
  by_cases h0 : len = 0
  · left; subst h0; rfl
  · obtain ⟨b, off, spot⟩ := x
    have hspot : spot = none := by simpa [Addr.add] using World.cell?_spot (h 0 (by omega))
    subst hspot
    refine .inr ⟨b, off, rfl, fun j u hu => ?_⟩
    have hj : j < len := by
      rcases Nat.lt_or_ge j len with h' | h'
      · exact h'
      · rw [List.getElem?_eq_none (by simp; omega)] at hu; cases hu
    have hc := h j (by omega)
    rw [add_plain] at hc
    rw [hc, ← hu]
    simp [hj, List.getD_eq_getElem?_getD, List.getElem?_eq_getElem (show j < zs.length by omega)]
end Go.Proofs.Ytpmcabjplnfdgaa
