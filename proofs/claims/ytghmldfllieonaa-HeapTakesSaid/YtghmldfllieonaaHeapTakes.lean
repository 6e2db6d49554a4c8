/- HeapTakes: for every input the law returns true, and what was handed in reads as it did. No condition. -/
import Derived.Test.YtghmldfllieonaaRows
import Derived.Test.YtghmldfllieonaaHeapTypes
import Derived.Test.YtghmldfllieonaaHeapTakesWalk
namespace Go.Proofs.Ytghmldfllieonaa.heapTakes
open Go.ChangeShapes Go.WideShapes Go.ChangeAt Go.RowKit
set_option linter.unusedVariables false
set_option linter.unusedSimpArgs false
theorem own : ownKnob Try.prog.godebug = none := by kernel_rfl
theorem laidOut : laidOutB Try.prog = true := by kernel_rfl
theorem walk (a : Option Addr) (zs : List (List Int)) (c : Nat) (b : Option Addr) (ys : List (List Int)) (d : Nat) (w : World) (h0 : Rows w a 7 zs) (hl : zs.length ≤ maxLen) (hz : ∀ r ∈ zs, ∀ z ∈ r, (Lit.int .i64 z).wf = true) (h1 : Rows w b 7 ys) (hm : ys.length ≤ maxLen) (hy : ∀ r ∈ ys, ∀ z ∈ r, (Lit.int .i64 z).wf = true) :
    Calls Try.prog 3 #[.slice a zs.length c, .slice b ys.length d] w fun e w' => e = .returned (.bool true) ∧ Below w.heap.size w w' := by
  by_cases h : 100 < zs.length ∨ 100 < ys.length
  · exact takes_out w a b zs.length c ys.length d h ⟨hl, hm⟩
  · exact takes_in w a b zs.length c ys.length d (zs.map itOf) (ys.map itOf) (by simp) (by simp) (by omega) (by omega) (rd_of h0) (rd_of h1) (its_ok hz) (its_ok hy)
set_option maxRecDepth 100000 in
theorem lifted (os : Os) (started : os.Started) (H : Type) (enc : TypeId × Value → H) :
    ReturnsInHanded {} Try.checked os 3 .any (Rows.heapTakesSpec.pre6 enc Try.prog Try.f3 Rows.heapTakesRow.domain false) (Rows.heapTakesSpec.post enc Try.prog Try.f3 false true false false) := by
  refine returnsInHanded_of_change (C := Try.checked) own started (by kernel_rfl) Try.func3
    (ChangeSpec.witness6 (enc := enc) (C := Try.checked) false ⟨#[], #[.slice none 0 0, .slice none 0 0], []⟩ 8 (by kernel_rfl) (by kernel_rfl) (by kernel_rfl) (by kernel_rfl)) ?_
  intro W base args ds gs before hval0 hW hcnd _
  have hval : ∀ (j : Nat) t v, Try.f3.params[j]? = some t → args[j]? = some v → Value.okWide Try.prog W .any base t v := hval0
  have hW' := hW
  obtain ⟨p, q, hA0, hV, rfl, hfz, hnd⟩ := hW
  have hA : DataW.TrodAll enc Try.prog W 0 (fun _ => true) true Try.f3.params.toList args.toList ds p := hA0
  rw [Try.params3] at hA hval
  obtain ⟨v0, vs0, d0, ds0, p0, q0, hargs, rfl, rfl, h0, r0x⟩ := trodAll_cons hA
  obtain ⟨v1, vs1, d1, ds1, p1, q1, rfl, rfl, rfl, h1, r1x⟩ := trodAll_cons r0x
  obtain ⟨rfl, rfl, rfl⟩ := trodAll_nil r1x
  obtain rfl : args = #[v0, v1] := by cases args; simp_all
  obtain ⟨rfl, rfl⟩ := trodVars_none hV
  have k0 := h0
  have lt0 : ∀ x ∈ p0, x.block < W.heap.size := by obtain ⟨m, hm⟩ := k0; exact DataW.trod_lt m _ _ _ hm
  have k1 := h1
  have lt1 : ∀ x ∈ p1, x.block < W.heap.size := by obtain ⟨m, hm⟩ := k1; exact DataW.trod_lt m _ _ _ hm
  obtain ⟨a0, len0, cap0, rfl⟩ := okWide_slice Try.underlying22 (hval 0 22 v0 rfl rfl)
  obtain ⟨zs0, hzl0, w0, m0, r0⟩ : ∃ zs : List (List Int), zs.length = len0 ∧ Rows W a0 7 zs ∧ len0 ≤ maxLen ∧ ∀ r ∈ zs, ∀ z ∈ r, (Lit.int .i64 z).wf = true := by
    obtain ⟨fuel, hf⟩ := h0
    obtain ⟨A, c, zs, hv, g⟩ := open_rows 7 Try.underlying22 (by kernel_rfl) (by decide) aiItem (by simpa [Value.cells] using hf)
    injection hv with e1 e2 e3
    subst e1 e2
    exact ⟨zs, rfl, g⟩
  subst hzl0
  obtain ⟨a1, len1, cap1, rfl⟩ := okWide_slice Try.underlying22 (hval 1 22 v1 rfl rfl)
  obtain ⟨zs1, hzl1, w1, m1, r1⟩ : ∃ zs : List (List Int), zs.length = len1 ∧ Rows W a1 7 zs ∧ len1 ≤ maxLen ∧ ∀ r ∈ zs, ∀ z ∈ r, (Lit.int .i64 z).wf = true := by
    obtain ⟨fuel, hf⟩ := h1
    obtain ⟨A, c, zs, hv, g⟩ := open_rows 7 Try.underlying22 (by kernel_rfl) (by decide) aiItem (by simpa [Value.cells] using hf)
    injection hv with e1 e2 e3
    subst e1 e2
    exact ⟨zs, rfl, g⟩
  subst hzl1
  clear hA0 hval0
  refine (walk a0 zs0 cap0 a1 zs1 cap1 W w0 m0 r0 w1 m1 r1).mono fun e W' ⟨he, bel⟩ => ?_
  subst he
  exact ⟨_, rfl, _, _, _, [], _, [], hW', trodAll_mk1 (shut_bool Try.underlying4 _), (trodAll_cons_mk (Below.trod laidOut (by kernel_rfl) (of_decide_eq_true (by kernel_rfl)) k0 bel lt0) (trodAll_cons_mk (Below.trod laidOut (by kernel_rfl) (of_decide_eq_true (by kernel_rfl)) k1 bel lt1) trodAll_mk0)), rfl, bel.frame _, fun h => by cases h⟩
theorem over : Rows.heapTakesRow.holds Try.pinned (OpenSpec.ofChange Rows.heapTakesSpec) :=
  OpenClaim.holds_of_wide 3 Try.f3 rfl rfl rfl rfl rfl rfl rfl ⟨rfl, rfl, rfl, rfl, rfl⟩ rfl rfl rfl rfl rfl (by kernel_rfl) Try.func3 (by kernel_rfl)
    (of_decide_eq_true (by kernel_rfl)) (by unfold Func.isWrapper; first | (rw [if_pos (by decide +kernel)]; kernel_rfl) | (rw [if_neg (by decide +kernel)]; exact ⟨rfl, rfl⟩))
    (fun os started H enc _ => lifted os started H enc)
/-- ████ THE STATEMENT ████ -/
theorem proved : Rows.HeapTakesSaid := over
#print axioms proved
end Go.Proofs.Ytghmldfllieonaa.heapTakes
