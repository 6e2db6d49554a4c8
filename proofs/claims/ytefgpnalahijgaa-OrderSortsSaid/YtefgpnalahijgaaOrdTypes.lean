/- The types of keys and events: integers all. Helper. -/
import Derived.Test.YtefgpnalahijgaaOpen
import Derived.Test.YtefgpnalahijgaaOrdEv
namespace Go.Proofs.Ytefgpnalahijgaa
open Go.RowKit
theorem ai64 : AllInt 2 := AllInt.int Try.underlying2
theorem aiInt : AllInt 3 := AllInt.int Try.underlying3
theorem aiKey : AllInt 23 := by
  have c2 : Try.prog.cellsOf 2 = 1 := by kernel_rfl
  have c3 : Try.prog.cellsOf 3 = 1 := by kernel_rfl
  have cA : Try.prog.cellsOf 23 = 3 := by kernel_rfl
  refine @AllInt.struct _ _ Try.underlying23 ?_
  intro j hj
  rw [cA] at hj
  have : j = 0 ∨ j = 1 ∨ j = 2 := by omega
  rcases this with rfl | rfl | rfl
  · exact ⟨0, _, rfl, by decide, by show 0 < 0 + Try.prog.cellsOf 2; omega, ai64⟩
  · exact ⟨1, _, rfl, by decide, by show 1 < 1 + Try.prog.cellsOf 3; omega, aiInt⟩
  · exact ⟨2, _, rfl, by decide, by show 2 < 2 + Try.prog.cellsOf 2; omega, ai64⟩
theorem aiEvent : AllInt 28 := by
  have c2 : Try.prog.cellsOf 2 = 1 := by kernel_rfl
  have c3 : Try.prog.cellsOf 3 = 1 := by kernel_rfl
  have cK : Try.prog.cellsOf 23 = 3 := by kernel_rfl
  have cA : Try.prog.cellsOf 28 = 6 := by kernel_rfl
  refine @AllInt.struct _ _ Try.underlying28 ?_
  intro j hj
  rw [cA] at hj
  have : j < 3 ∨ j = 3 ∨ j = 4 ∨ j = 5 := by omega
  rcases this with h | rfl | rfl | rfl
  · exact ⟨0, _, rfl, by simp, by show j < 0 + Try.prog.cellsOf 23; omega, aiKey⟩
  · exact ⟨1, _, rfl, by decide, by show 3 < 3 + Try.prog.cellsOf 3; omega, aiInt⟩
  · exact ⟨2, _, rfl, by decide, by show 4 < 4 + Try.prog.cellsOf 3; omega, aiInt⟩
  · exact ⟨3, _, rfl, by decide, by show 5 < 5 + Try.prog.cellsOf 2; omega, ai64⟩
theorem three {zs : List Int} (h : zs.length = 3) : ∃ a b c, zs = [a, b, c] := by
  match zs, h with
  | [a, b, c], _ => exact ⟨a, b, c, rfl⟩
theorem six {zs : List Int} (h : zs.length = 6) : ∃ a b c d e f, zs = [a, b, c, d, e, f] := by
  match zs, h with
  | [a, b, c, d, e, f], _ => exact ⟨a, b, c, d, e, f, rfl⟩
end Go.Proofs.Ytefgpnalahijgaa
