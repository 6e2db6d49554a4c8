/- OrderSorts: for every input the law returns true, and what was handed in reads as it did. No condition. -/
import Derived.Test.YtefgpnalahijgaaRows
import Derived.Test.YtefgpnalahijgaaOrdTypes
import Derived.Test.YtefgpnalahijgaaOrdSortWalk
namespace Go.Proofs.Ytefgpnalahijgaa.orderSorts
open Go.ChangeShapes Go.WideShapes Go.ChangeAt Go.RowKit
set_option linter.unusedVariables false
set_option linter.unusedSimpArgs false
theorem own : ownKnob Try.prog.godebug = none := by kernel_rfl
theorem laidOut : laidOutB Try.prog = true := by kernel_rfl
def evOf (r : List Int) : Ev := ⟨⟨r.getD 0 0, r.getD 1 0, r.getD 2 0⟩, r.getD 3 0, r.getD 4 0, r.getD 5 0⟩
theorem rd_of {w : World} {A : Option Addr} {zs : List (List Int)} (h : Rows w A 6 zs) : Rd w A (cs (zs.map evOf)) := by
  rcases h with rfl | ⟨b, o, rfl, h⟩
  · exact .inl rfl
  · refine .inr ⟨b, o, rfl, fun j u hu => ?_⟩
    have hlen : (cs (zs.map evOf)).length = zs.length * 6 := by rw [cs_length, List.length_map]
    have hj : j < zs.length * 6 := by
      rcases Nat.lt_or_ge j (zs.length * 6) with h' | h'
      · exact h'
      · rw [List.getElem?_eq_none (by omega)] at hu; cases hu
    have hi : j / 6 < zs.length := by omega
    have hc : j % 6 < 6 := by omega
    have hr := cs_get (zs.map evOf) (j / 6) (by simpa using hi) (j % 6) hc
    rw [show j / 6 * 6 + j % 6 = j by omega] at hr
    obtain ⟨hl, hcell⟩ := h (j / 6) hi
    have hcj := hcell (j % 6) (by omega)
    rw [Nat.add_assoc, show j / 6 * 6 + j % 6 = j by omega] at hcj
    rw [hcj, ← hu, hr, List.getElem_map]
    obtain ⟨a, b, c, d, e, f, he⟩ := six hl
    have : j % 6 = 0 ∨ j % 6 = 1 ∨ j % 6 = 2 ∨ j % 6 = 3 ∨ j % 6 = 4 ∨ j % 6 = 5 := by omega
    rcases this with q | q | q | q | q | q <;> simp [q, he, evOf, Ev.c]
theorem walk (a : Option Addr) (zs : List (List Int)) (c : Nat) (w : World) (h0 : Rows w a 6 zs) (hl : zs.length ≤ maxLen) (_ : ∀ r ∈ zs, ∀ z ∈ r, (Lit.int .i64 z).wf = true) :
    Calls Try.prog 5 #[.slice a zs.length c] w fun e w' => e = .returned (.bool true) ∧ Below w.heap.size w w' := by
  have := sorts_any a c (zs.map evOf) w (rd_of h0) (by rw [List.length_map]; exact hl)
  rw [List.length_map] at this
  exact this
set_option maxRecDepth 100000 in
theorem lifted (os : Os) (started : os.Started) (H : Type) (enc : TypeId × Value → H) :
    ReturnsInHanded {} Try.checked os 5 .any (Rows.orderSortsSpec.pre6 enc Try.prog Try.f5 Rows.orderSortsRow.domain false) (Rows.orderSortsSpec.post enc Try.prog Try.f5 false true false false) := by
  refine returnsInHanded_of_change (C := Try.checked) own started (by kernel_rfl) Try.func5
    (ChangeSpec.witness6 (enc := enc) (C := Try.checked) false ⟨#[], #[.slice none 0 0], []⟩ 8 (by kernel_rfl) (by kernel_rfl) (by kernel_rfl) (by kernel_rfl)) ?_
  intro W base args ds gs before hval0 hW hcnd _
  have hval : ∀ (j : Nat) t v, Try.f5.params[j]? = some t → args[j]? = some v → Value.okWide Try.prog W .any base t v := hval0
  have hW' := hW
  obtain ⟨p, q, hA0, hV, rfl, hfz, hnd⟩ := hW
  have hA : DataW.TrodAll enc Try.prog W 0 (fun _ => true) true Try.f5.params.toList args.toList ds p := hA0
  rw [Try.params5] at hA hval
  obtain ⟨v0, vs0, d0, ds0, p0, q0, hargs, rfl, rfl, h0, r0x⟩ := trodAll_cons hA
  obtain ⟨rfl, rfl, rfl⟩ := trodAll_nil r0x
  obtain rfl : args = #[v0] := by cases args; simp_all
  obtain ⟨rfl, rfl⟩ := trodVars_none hV
  have k0 := h0
  have lt0 : ∀ x ∈ p0, x.block < W.heap.size := by obtain ⟨m, hm⟩ := k0; exact DataW.trod_lt m _ _ _ hm
  obtain ⟨a0, len0, cap0, rfl⟩ := okWide_slice Try.underlying33 (hval 0 33 v0 rfl rfl)
  obtain ⟨zs0, hzl0, w0, m0, r0⟩ : ∃ zs : List (List Int), zs.length = len0 ∧ Rows W a0 6 zs ∧ len0 ≤ maxLen ∧ ∀ r ∈ zs, ∀ z ∈ r, (Lit.int .i64 z).wf = true := by
    obtain ⟨fuel, hf⟩ := h0
    obtain ⟨A, c, zs, hv, g⟩ := open_rows 6 Try.underlying33 (by kernel_rfl) (by decide) aiEvent (by simpa [Value.cells] using hf)
    injection hv with e1 e2 e3
    subst e1 e2
    exact ⟨zs, rfl, g⟩
  subst hzl0
  clear hA0 hval0
  refine (walk a0 zs0 cap0 W w0 m0 r0).mono fun e W' ⟨he, bel⟩ => ?_
  subst he
  exact ⟨_, rfl, _, _, _, [], _, [], hW', trodAll_mk1 (shut_bool Try.underlying4 _), (trodAll_cons_mk (Below.trod laidOut (by kernel_rfl) (of_decide_eq_true (by kernel_rfl)) k0 bel lt0) trodAll_mk0), rfl, bel.frame _, fun h => by cases h⟩
theorem over : Rows.orderSortsRow.holds Try.pinned (OpenSpec.ofChange Rows.orderSortsSpec) :=
  OpenClaim.holds_of_wide 5 Try.f5 rfl rfl rfl rfl rfl rfl rfl ⟨rfl, rfl, rfl, rfl, rfl⟩ rfl rfl rfl rfl rfl (by kernel_rfl) Try.func5 (by kernel_rfl)
    (of_decide_eq_true (by kernel_rfl)) (by unfold Func.isWrapper; first | (rw [if_pos (by decide +kernel)]; kernel_rfl) | (rw [if_neg (by decide +kernel)]; exact ⟨rfl, rfl⟩))
    (fun os started H enc _ => lifted os started H enc)
/-- ████ THE STATEMENT ████ -/
theorem proved : Rows.OrderSortsSaid := over
#print axioms proved
end Go.Proofs.Ytefgpnalahijgaa.orderSorts
