/- PacePlays: for every input the law returns true, and what was handed in reads as it did. No condition. -/
import Derived.Test.YtpmcabjplnfdgaaRows
import Derived.Test.YtpmcabjplnfdgaaOpen
import Derived.Test.YtpmcabjplnfdgaaPacePlaysWalk
namespace Go.Proofs.Ytpmcabjplnfdgaa.pacePlays
open Go.ChangeShapes Go.WideShapes Go.ChangeAt Go.RowKit
set_option linter.unusedVariables false
set_option linter.unusedSimpArgs false
theorem own : ownKnob Try.prog.godebug = none := by kernel_rfl
theorem laidOut : laidOutB Try.prog = true := by kernel_rfl
theorem ai2 : AllInt 2 := AllInt.int Try.underlying2
theorem ai3 : AllInt 3 := AllInt.int Try.underlying3
theorem aiAct : AllInt 45 := by
  have c2 : Try.prog.cellsOf 2 = 1 := by kernel_rfl
  have c3 : Try.prog.cellsOf 3 = 1 := by kernel_rfl
  have cA : Try.prog.cellsOf 45 = 3 := by kernel_rfl
  refine @AllInt.struct _ _ Try.underlying45 ?_
  intro j hj
  rw [cA] at hj
  have : j = 0 ∨ j = 1 ∨ j = 2 := by omega
  rcases this with rfl | rfl | rfl
  · exact ⟨0, _, rfl, by decide, by show 0 < 0 + Try.prog.cellsOf 3; omega, ai3⟩
  · exact ⟨1, _, rfl, by decide, by show 1 < 1 + Try.prog.cellsOf 2; omega, ai2⟩
  · exact ⟨2, _, rfl, by decide, by show 2 < 2 + Try.prog.cellsOf 2; omega, ai2⟩
theorem walk (a : Option Addr) (zs : List (List Int)) (c : Nat) (w : World) (h0 : Rows w a 3 zs) (hl : zs.length ≤ maxLen) (hz : ∀ r ∈ zs, ∀ z ∈ r, (Lit.int .i64 z).wf = true) :
    Calls Try.prog 5 #[.slice a zs.length c] w fun e w' => e = .returned (.bool true) ∧ Below w.heap.size w w' := by
  unfold maxLen at hl
  by_cases h : 60 < zs.length
  · exact Plays_many a zs.length c w h (by omega)
  · exact Plays_walk a zs c w (by omega) h0 (fun r hr z hzm => wf_i64 (hz r hr z hzm))
set_option maxRecDepth 100000 in
theorem lifted (os : Os) (started : os.Started) (H : Type) (enc : TypeId × Value → H) :
    ReturnsInHanded {} Try.checked os 5 .any (Rows.pacePlaysSpec.pre6 enc Try.prog Try.f5 Rows.pacePlaysRow.domain false) (Rows.pacePlaysSpec.post enc Try.prog Try.f5 false true false false) := by
  refine returnsInHanded_of_change (C := Try.checked) own started (by kernel_rfl) Try.func5
    (ChangeSpec.witness6 (enc := enc) (C := Try.checked) false ⟨#[], #[.slice none 0 0], []⟩ 8 (by kernel_rfl) (by kernel_rfl) (by kernel_rfl) (by kernel_rfl)) ?_
  intro W base args ds gs before hval0 hW hcnd _
  have hval : ∀ (j : Nat) t v, Try.f5.params[j]? = some t → args[j]? = some v → Value.okWide Try.prog W .any base t v := hval0
  have hW' := hW
  obtain ⟨p, q, hA0, hV, rfl, hfz, hnd⟩ := hW
  have hA : DataW.TrodAll enc Try.prog W 0 (fun _ => true) true Try.f5.params.toList args.toList ds p := hA0
  rw [Try.params5] at hA hval
  obtain ⟨v0, vs0, d0, ds0, p0, q0, hargs, rfl, rfl, h0, r0x⟩ := trodAll_cons hA
  obtain ⟨rfl, rfl, rfl⟩ := trodAll_nil r0x
  obtain rfl : args = #[v0] := by cases args; simp_all
  obtain ⟨rfl, rfl⟩ := trodVars_none hV
  have k0 := h0
  have lt0 : ∀ x ∈ p0, x.block < W.heap.size := by obtain ⟨m, hm⟩ := k0; exact DataW.trod_lt m _ _ _ hm
  obtain ⟨a0, len0, cap0, rfl⟩ := okWide_slice Try.underlying43 (hval 0 43 v0 rfl rfl)
  obtain ⟨zs0, hzl0, w0, m0, r0⟩ : ∃ zs : List (List Int), zs.length = len0 ∧ Rows W a0 3 zs ∧ len0 ≤ maxLen ∧ ∀ r ∈ zs, ∀ z ∈ r, (Lit.int .i64 z).wf = true := by
    obtain ⟨fuel, hf⟩ := h0
    obtain ⟨A, c, zs, hv, g⟩ := open_rows 3 Try.underlying43 (by kernel_rfl) (by decide) aiAct (by simpa [Value.cells] using hf)
    injection hv with e1 e2 e3
    subst e1 e2
    exact ⟨zs, rfl, g⟩
  subst hzl0
  clear hA0 hval0
  refine (walk a0 zs0 cap0 W w0 m0 r0).mono fun e W' ⟨he, bel⟩ => ?_
  subst he
  exact ⟨_, rfl, _, _, _, [], _, [], hW', trodAll_mk1 (shut_bool Try.underlying4 _), (trodAll_cons_mk (Below.trod laidOut (by kernel_rfl) (of_decide_eq_true (by kernel_rfl)) k0 bel lt0) trodAll_mk0), rfl, bel.frame _, fun h => by cases h⟩
theorem over : Rows.pacePlaysRow.holds Try.pinned (OpenSpec.ofChange Rows.pacePlaysSpec) :=
  OpenClaim.holds_of_wide 5 Try.f5 rfl rfl rfl rfl rfl rfl rfl ⟨rfl, rfl, rfl, rfl, rfl⟩ rfl rfl rfl rfl rfl (by kernel_rfl) Try.func5 (by kernel_rfl)
    (of_decide_eq_true (by kernel_rfl)) (by unfold Func.isWrapper; first | (rw [if_pos (by decide +kernel)]; kernel_rfl) | (rw [if_neg (by decide +kernel)]; exact ⟨rfl, rfl⟩))
    (fun os started H enc _ => lifted os started H enc)
/-- ████ THE STATEMENT ████ -/
theorem proved : Rows.PacePlaysSaid := over
#print axioms proved
end Go.Proofs.Ytpmcabjplnfdgaa.pacePlays
