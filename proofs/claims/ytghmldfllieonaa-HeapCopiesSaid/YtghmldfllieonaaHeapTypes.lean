/- The types of keys, events and items: integers all. Helper. -/
import Derived.Test.YtghmldfllieonaaOpen
import Derived.Test.YtghmldfllieonaaHeapNames
namespace Go.Proofs.Ytghmldfllieonaa
open Go.RowKit
set_option maxRecDepth 100000
theorem ai64 : AllInt 2 := AllInt.int Try.underlying2
theorem aiInt : AllInt 3 := AllInt.int Try.underlying3
theorem aiKey : AllInt 32 := by
  have c2 : Try.prog.cellsOf 2 = 1 := by kernel_rfl
  have c3 : Try.prog.cellsOf 3 = 1 := by kernel_rfl
  have cA : Try.prog.cellsOf 32 = 3 := by kernel_rfl
  refine @AllInt.struct _ _ Try.underlying32 ?_
  intro j hj
  rw [cA] at hj
  have : j = 0 ∨ j = 1 ∨ j = 2 := by omega
  rcases this with rfl | rfl | rfl
  · exact ⟨0, _, rfl, by decide, by show 0 < 0 + Try.prog.cellsOf 2; omega, ai64⟩
  · exact ⟨1, _, rfl, by decide, by show 1 < 1 + Try.prog.cellsOf 3; omega, aiInt⟩
  · exact ⟨2, _, rfl, by decide, by show 2 < 2 + Try.prog.cellsOf 2; omega, ai64⟩
theorem aiEvent : AllInt 34 := by
  have c2 : Try.prog.cellsOf 2 = 1 := by kernel_rfl
  have c3 : Try.prog.cellsOf 3 = 1 := by kernel_rfl
  have cK : Try.prog.cellsOf 32 = 3 := by kernel_rfl
  have cA : Try.prog.cellsOf 34 = 6 := by kernel_rfl
  refine @AllInt.struct _ _ Try.underlying34 ?_
  intro j hj
  rw [cA] at hj
  have : j < 3 ∨ j = 3 ∨ j = 4 ∨ j = 5 := by omega
  rcases this with h | rfl | rfl | rfl
  · exact ⟨0, _, rfl, by simp, by show j < 0 + Try.prog.cellsOf 32; omega, aiKey⟩
  · exact ⟨1, _, rfl, by decide, by show 3 < 3 + Try.prog.cellsOf 3; omega, aiInt⟩
  · exact ⟨2, _, rfl, by decide, by show 4 < 4 + Try.prog.cellsOf 3; omega, aiInt⟩
  · exact ⟨3, _, rfl, by decide, by show 5 < 5 + Try.prog.cellsOf 2; omega, ai64⟩
theorem aiItem : AllInt 36 := by
  have c2 : Try.prog.cellsOf 2 = 1 := by kernel_rfl
  have cE : Try.prog.cellsOf 34 = 6 := by kernel_rfl
  have cA : Try.prog.cellsOf 36 = 7 := by kernel_rfl
  refine @AllInt.struct _ _ Try.underlying36 ?_
  intro j hj
  rw [cA] at hj
  have : j < 6 ∨ j = 6 := by omega
  rcases this with h | rfl
  · exact ⟨0, _, rfl, by simp, by show j < 0 + Try.prog.cellsOf 34; omega, aiEvent⟩
  · exact ⟨1, _, rfl, by decide, by show 6 < 6 + Try.prog.cellsOf 2; omega, ai64⟩
theorem seven {zs : List Int} (h : zs.length = 7) : ∃ a b c d e f i, zs = [a, b, c, d, e, f, i] := by
  match zs, h with
  | [a, b, c, d, e, f, i], _ => exact ⟨a, b, c, d, e, f, i, rfl⟩
def itOf (r : List Int) : It := ⟨⟨r.getD 0 0, r.getD 1 0, r.getD 2 0⟩, r.getD 3 0, r.getD 4 0, r.getD 5 0, r.getD 6 0⟩
theorem rd_of {w : World} {A : Option Addr} {zs : List (List Int)} (h : Rows w A 7 zs) : Rd w A (rowsI (zs.map itOf)) := by
  rcases h with rfl | ⟨b, o, rfl, h⟩
  · exact .inl rfl
  · refine .inr ⟨b, o, rfl, fun j u hu => ?_⟩
    have hlen : (rowsI (zs.map itOf)).length = zs.length * 7 := by rw [rowsI_length, List.length_map]
    have hj : j < zs.length * 7 := by
      rcases Nat.lt_or_ge j (zs.length * 7) with h' | h'
      · exact h'
      · rw [List.getElem?_eq_none (by omega)] at hu; cases hu
    have hi : j / 7 < zs.length := by omega
    have hc : j % 7 < 7 := by omega
    have hr := rowsI_get (zs.map itOf) (j / 7) (by simpa using hi) (j % 7) hc
    rw [show j / 7 * 7 + j % 7 = j by omega] at hr
    obtain ⟨hl, hcell⟩ := h (j / 7) hi
    have hcj := hcell (j % 7) (by omega)
    rw [Nat.add_assoc, show j / 7 * 7 + j % 7 = j by omega] at hcj
    rw [hcj, ← hu, hr, g_get _ _ (by simpa using hi), List.getElem_map]
    obtain ⟨a, b, c, d, e, f, i, he⟩ := seven hl
    have : j % 7 = 0 ∨ j % 7 = 1 ∨ j % 7 = 2 ∨ j % 7 = 3 ∨ j % 7 = 4 ∨ j % 7 = 5 ∨ j % 7 = 6 := by omega
    rcases this with q | q | q | q | q | q | q <;> simp [q, he, itOf, It.c]
theorem getD_wf {r : List Int} (h : ∀ z ∈ r, (Lit.int .i64 z).wf = true) (i : Nat) : W64 (r.getD i 0) := by
  rcases Nat.lt_or_ge i r.length with hi | hi
  · rw [List.getD_eq_getElem?_getD, List.getElem?_eq_getElem hi]; exact h _ (List.getElem_mem hi)
  · rw [List.getD_eq_getElem?_getD, List.getElem?_eq_none hi]; rfl
theorem its_ok {zs : List (List Int)} (h : ∀ r ∈ zs, ∀ z ∈ r, (Lit.int .i64 z).wf = true) : ∀ x ∈ zs.map itOf, WOk x := fun x hx => by
  obtain ⟨r, hr, rfl⟩ := List.mem_map.1 hx
  exact ⟨getD_wf (h r hr) 1, getD_wf (h r hr) 6⟩
end Go.Proofs.Ytghmldfllieonaa
