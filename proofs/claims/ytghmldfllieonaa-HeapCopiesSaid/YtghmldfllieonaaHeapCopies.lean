/- HeapCopies: for every input the law returns true, and what was handed in reads as it did. No condition. -/
import Derived.Test.YtghmldfllieonaaRows
import Derived.Test.YtghmldfllieonaaHpE
namespace Go.Proofs.Ytghmldfllieonaa.heapCopies
open Go.ChangeShapes Go.WideShapes Go.ChangeAt Go.RowKit
set_option linter.unusedVariables false
set_option linter.unusedSimpArgs false
theorem own : ownKnob Try.prog.godebug = none := by kernel_rfl
theorem laidOut : laidOutB Try.prog = true := by kernel_rfl
theorem walk (a0 : Option Addr) (zs0 : List (List Int)) (c0 : Nat) (a1 : Option Addr) (zs1 : List (List Int)) (c1 : Nat) (a2 : Option Addr) (zs2 : List (List Int)) (c2 : Nat) (w : World) (h0 : Rows w a0 9 zs0) (l0 : zs0.length ≤ maxLen) (z0 : ∀ r ∈ zs0, ∀ z ∈ r, (Lit.int .i64 z).wf = true) (h1 : Rows w a1 9 zs1) (l1 : zs1.length ≤ maxLen) (z1 : ∀ r ∈ zs1, ∀ z ∈ r, (Lit.int .i64 z).wf = true) (h2 : Rows w a2 9 zs2) (l2 : zs2.length ≤ maxLen) (z2 : ∀ r ∈ zs2, ∀ z ∈ r, (Lit.int .i64 z).wf = true) :
    Calls Try.prog 6 #[.slice a0 zs0.length c0, .slice a1 zs1.length c1, .slice a2 zs2.length c2] w fun e w' => e = .returned (.bool true) ∧ Below w.heap.size w w' := by
  by_cases h : 40 < zs0.length
  · exact copies_out0 w a0 zs0.length c0 a1 zs1.length c1 a2 zs2.length c2 (by omega)
  by_cases h' : 20 < zs1.length
  · exact copies_out1 w a0 zs0.length c0 a1 zs1.length c1 a2 zs2.length c2 (by omega) (by omega)
  by_cases h'' : 20 < zs2.length
  · exact copies_out2 w a0 zs0.length c0 a1 zs1.length c1 a2 zs2.length c2 (by omega) (by omega) (by omega)
  · exact copies_in w a0 zs0.length c0 a1 zs1.length c1 a2 zs2.length c2 zs0 zs1 zs2 rfl rfl rfl (by omega) (by omega) (by omega) h0 z0 h1 z1 h2 z2
set_option maxRecDepth 100000 in
theorem lifted (os : Os) (started : os.Started) (H : Type) (enc : TypeId × Value → H) :
    ReturnsInHanded {} Try.checked os 6 .any (Rows.heapCopiesSpec.pre6 enc Try.prog Try.f6 Rows.heapCopiesRow.domain false) (Rows.heapCopiesSpec.post enc Try.prog Try.f6 false true false false) := by
  refine returnsInHanded_of_change (C := Try.checked) own started (by kernel_rfl) Try.func6
    (ChangeSpec.witness6 (enc := enc) (C := Try.checked) false ⟨#[], #[.slice none 0 0, .slice none 0 0, .slice none 0 0], []⟩ 8 (by kernel_rfl) (by kernel_rfl) (by kernel_rfl) (by kernel_rfl)) ?_
  intro W base args ds gs before hval0 hW hcnd _
  have hval : ∀ (j : Nat) t v, Try.f6.params[j]? = some t → args[j]? = some v → Value.okWide Try.prog W .any base t v := hval0
  have hW' := hW
  obtain ⟨p, q, hA0, hV, rfl, hfz, hnd⟩ := hW
  have hA : DataW.TrodAll enc Try.prog W 0 (fun _ => true) true Try.f6.params.toList args.toList ds p := hA0
  rw [Try.params6] at hA hval
  obtain ⟨v0, vs0, d0, ds0, p0, q0, hargs, rfl, rfl, h0, r0x⟩ := trodAll_cons hA
  obtain ⟨v1, vs1, d1, ds1, p1, q1, rfl, rfl, rfl, h1, r1x⟩ := trodAll_cons r0x
  obtain ⟨v2, vs2, d2, ds2, p2, q2, rfl, rfl, rfl, h2, r2x⟩ := trodAll_cons r1x
  obtain ⟨rfl, rfl, rfl⟩ := trodAll_nil r2x
  obtain rfl : args = #[v0, v1, v2] := by cases args; simp_all
  obtain ⟨rfl, rfl⟩ := trodVars_none hV
  have k0 := h0
  have lt0 : ∀ x ∈ p0, x.block < W.heap.size := by obtain ⟨m, hm⟩ := k0; exact DataW.trod_lt m _ _ _ hm
  have k1 := h1
  have lt1 : ∀ x ∈ p1, x.block < W.heap.size := by obtain ⟨m, hm⟩ := k1; exact DataW.trod_lt m _ _ _ hm
  have k2 := h2
  have lt2 : ∀ x ∈ p2, x.block < W.heap.size := by obtain ⟨m, hm⟩ := k2; exact DataW.trod_lt m _ _ _ hm
  obtain ⟨a0, len0, cap0, rfl⟩ := okWide_slice Try.underlying46 (hval 0 46 v0 rfl rfl)
  obtain ⟨zs0, hzl0, w0, m0, r0⟩ : ∃ zs : List (List Int), zs.length = len0 ∧ Rows W a0 9 zs ∧ len0 ≤ maxLen ∧ ∀ r ∈ zs, ∀ z ∈ r, (Lit.int .i64 z).wf = true := by
    obtain ⟨fuel, hf⟩ := h0
    obtain ⟨A, c, zs, hv, g⟩ := open_rows 9 Try.underlying46 (by kernel_rfl) (by decide) aiAct (by simpa [Value.cells] using hf)
    injection hv with e1 e2 e3
    subst e1 e2
    exact ⟨zs, rfl, g⟩
  subst hzl0
  obtain ⟨a1, len1, cap1, rfl⟩ := okWide_slice Try.underlying46 (hval 1 46 v1 rfl rfl)
  obtain ⟨zs1, hzl1, w1, m1, r1⟩ : ∃ zs : List (List Int), zs.length = len1 ∧ Rows W a1 9 zs ∧ len1 ≤ maxLen ∧ ∀ r ∈ zs, ∀ z ∈ r, (Lit.int .i64 z).wf = true := by
    obtain ⟨fuel, hf⟩ := h1
    obtain ⟨A, c, zs, hv, g⟩ := open_rows 9 Try.underlying46 (by kernel_rfl) (by decide) aiAct (by simpa [Value.cells] using hf)
    injection hv with e1 e2 e3
    subst e1 e2
    exact ⟨zs, rfl, g⟩
  subst hzl1
  obtain ⟨a2, len2, cap2, rfl⟩ := okWide_slice Try.underlying46 (hval 2 46 v2 rfl rfl)
  obtain ⟨zs2, hzl2, w2, m2, r2⟩ : ∃ zs : List (List Int), zs.length = len2 ∧ Rows W a2 9 zs ∧ len2 ≤ maxLen ∧ ∀ r ∈ zs, ∀ z ∈ r, (Lit.int .i64 z).wf = true := by
    obtain ⟨fuel, hf⟩ := h2
    obtain ⟨A, c, zs, hv, g⟩ := open_rows 9 Try.underlying46 (by kernel_rfl) (by decide) aiAct (by simpa [Value.cells] using hf)
    injection hv with e1 e2 e3
    subst e1 e2
    exact ⟨zs, rfl, g⟩
  subst hzl2
  clear hA0 hval0
  refine (walk a0 zs0 cap0 a1 zs1 cap1 a2 zs2 cap2 W w0 m0 r0 w1 m1 r1 w2 m2 r2).mono fun e W' ⟨he, bel⟩ => ?_
  subst he
  exact ⟨_, rfl, _, _, _, [], _, [], hW', trodAll_mk1 (shut_bool Try.underlying4 _), (trodAll_cons_mk (Below.trod laidOut (by kernel_rfl) (of_decide_eq_true (by kernel_rfl)) k0 bel lt0) (trodAll_cons_mk (Below.trod laidOut (by kernel_rfl) (of_decide_eq_true (by kernel_rfl)) k1 bel lt1) (trodAll_cons_mk (Below.trod laidOut (by kernel_rfl) (of_decide_eq_true (by kernel_rfl)) k2 bel lt2) trodAll_mk0))), rfl, bel.frame _, fun h => by cases h⟩
theorem over : Rows.heapCopiesRow.holds Try.pinned (OpenSpec.ofChange Rows.heapCopiesSpec) :=
  OpenClaim.holds_of_wide 6 Try.f6 rfl rfl rfl rfl rfl rfl rfl ⟨rfl, rfl, rfl, rfl, rfl⟩ rfl rfl rfl rfl rfl (by kernel_rfl) Try.func6 (by kernel_rfl)
    (of_decide_eq_true (by kernel_rfl)) (by unfold Func.isWrapper; first | (rw [if_pos (by decide +kernel)]; kernel_rfl) | (rw [if_neg (by decide +kernel)]; exact ⟨rfl, rfl⟩))
    (fun os started H enc _ => lifted os started H enc)
/-- ████ THE STATEMENT ████ -/
theorem proved : Rows.HeapCopiesSaid := over
#print axioms proved
end Go.Proofs.Ytghmldfllieonaa.heapCopies
