/- RoundsBound: for every input the law returns true, and what was handed in reads as it did. No condition. -/
import Derived.Test.YtbgpbbepeemieaaRows
import Derived.Test.YtbgpbbepeemieaaOpen
import Derived.Test.YtbgpbbepeemieaaBndWalk
namespace Go.Proofs.Ytbgpbbepeemieaa.roundsBound
open Go.ChangeShapes Go.WideShapes Go.ChangeAt Go.RowKit
set_option linter.unusedVariables false
set_option linter.unusedSimpArgs false
theorem own : ownKnob Try.prog.godebug = none := by kernel_rfl
theorem laidOut : laidOutB Try.prog = true := by kernel_rfl
theorem ai64 : AllInt 2 := AllInt.int Try.underlying2
theorem aiInt : AllInt 3 := AllInt.int Try.underlying3
theorem aiKey : AllInt 27 := by
  have c2 : Try.prog.cellsOf 2 = 1 := by kernel_rfl
  have c3 : Try.prog.cellsOf 3 = 1 := by kernel_rfl
  have cA : Try.prog.cellsOf 27 = 3 := by kernel_rfl
  refine @AllInt.struct _ _ Try.underlying27 ?_
  intro j hj
  rw [cA] at hj
  have : j = 0 ∨ j = 1 ∨ j = 2 := by omega
  rcases this with rfl | rfl | rfl
  · exact ⟨0, _, rfl, by decide, by show 0 < 0 + Try.prog.cellsOf 2; omega, ai64⟩
  · exact ⟨1, _, rfl, by decide, by show 1 < 1 + Try.prog.cellsOf 3; omega, aiInt⟩
  · exact ⟨2, _, rfl, by decide, by show 2 < 2 + Try.prog.cellsOf 2; omega, ai64⟩
theorem aiAct : AllInt 39 := by
  have c3 : Try.prog.cellsOf 3 = 1 := by kernel_rfl
  have cK : Try.prog.cellsOf 27 = 3 := by kernel_rfl
  have cA : Try.prog.cellsOf 39 = 6 := by kernel_rfl
  refine @AllInt.struct _ _ Try.underlying39 ?_
  intro j hj
  rw [cA] at hj
  have : j = 0 ∨ j = 1 ∨ (2 ≤ j ∧ j < 5) ∨ j = 5 := by omega
  rcases this with rfl | rfl | h | rfl
  · exact ⟨0, _, rfl, by decide, by show 0 < 0 + Try.prog.cellsOf 3; omega, aiInt⟩
  · exact ⟨1, _, rfl, by decide, by show 1 < 1 + Try.prog.cellsOf 3; omega, aiInt⟩
  · exact ⟨2, _, rfl, h.1, by show j < 2 + Try.prog.cellsOf 27; omega, aiKey⟩
  · exact ⟨3, _, rfl, by decide, by show 5 < 5 + Try.prog.cellsOf 3; omega, aiInt⟩
def kyOf (r : List Int) : Ky := ⟨r.getD 0 0, r.getD 1 0, r.getD 2 0⟩
theorem three {zs : List Int} (h : zs.length = 3) : ∃ a b c, zs = [a, b, c] := by
  match zs, h with
  | [a, b, c], _ => exact ⟨a, b, c, rfl⟩
theorem kysAt {w : World} {A : Option Addr} {zs : List (List Int)} (h : Rows w A 3 zs) : KysAt w A zs.length (fun i => kyOf (zs.getD i [])) := by
  rcases h with rfl | ⟨b, o, rfl, h⟩
  · exact .inl rfl
  · refine .inr ⟨b, o, rfl, fun i hi => ?_⟩
    have hg : zs.getD i [] = zs[i] := by simp [List.getD_eq_getElem?_getD, hi]
    dsimp only
    rw [hg]
    obtain ⟨h3, hc⟩ := h i hi
    obtain ⟨x, y, z, e⟩ := three h3
    have g0 := hc 0 (by omega)
    have g1 := hc 1 (by omega)
    have g2 := hc 2 (by omega)
    simp only [e] at g0 g1 g2
    rw [e]
    exact ⟨g0, g1, g2⟩
theorem walk (a0 : Option Addr) (ns : List Int) (c0 : Nat) (a1 : Option Addr) (ys : List (List Int)) (c1 : Nat) (a2 : Option Addr) (zs : List (List Int)) (c2 : Nat) (w : World)
    (h0 : Rd w a0 (ns.map (Value.int .i64))) (m0 : ns.length ≤ maxLen) (r0 : ∀ z ∈ ns, (Lit.int .i64 z).wf = true) (h1 : Rows w a1 3 ys) (m1 : ys.length ≤ maxLen) (r1 : ∀ r ∈ ys, ∀ z ∈ r, (Lit.int .i64 z).wf = true)
    (h2 : Rows w a2 6 zs) (m2 : zs.length ≤ maxLen) (r2 : ∀ r ∈ zs, ∀ z ∈ r, (Lit.int .i64 z).wf = true) :
    Calls Try.prog 3 #[.slice a0 ns.length c0, .slice a1 ys.length c1, .slice a2 zs.length c2] w fun e w' => e = .returned (.bool true) ∧ Below w.heap.size w w' := by
  by_cases h : ys.length < 1 ∨ 16 < ys.length ∨ 40 < ns.length ∨ 20 < zs.length
  · exact bound_out a0 a1 a2 ns.length ys.length zs.length c0 c1 c2 w h m0 m1 m2
  · exact bound_in a0 a1 a2 ns ys.length _ zs c0 c1 c2 w (by omega) (by omega) (by omega) (by omega) h0 (kysAt h1) h2 r0 r2
set_option maxRecDepth 100000 in
theorem lifted (os : Os) (started : os.Started) (H : Type) (enc : TypeId × Value → H) :
    ReturnsInHanded {} Try.checked os 3 .any (Rows.roundsBoundSpec.pre6 enc Try.prog Try.f3 Rows.roundsBoundRow.domain false) (Rows.roundsBoundSpec.post enc Try.prog Try.f3 false true false false) := by
  refine returnsInHanded_of_change (C := Try.checked) own started (by kernel_rfl) Try.func3
    (ChangeSpec.witness6 (enc := enc) (C := Try.checked) false ⟨#[], #[.slice none 0 0, .slice none 0 0, .slice none 0 0], []⟩ 8 (by kernel_rfl) (by kernel_rfl) (by kernel_rfl) (by kernel_rfl)) ?_
  intro W base args ds gs before hval0 hW hcnd _
  have hval : ∀ (j : Nat) t v, Try.f3.params[j]? = some t → args[j]? = some v → Value.okWide Try.prog W .any base t v := hval0
  have hW' := hW
  obtain ⟨p, q, hA0, hV, rfl, hfz, hnd⟩ := hW
  have hA : DataW.TrodAll enc Try.prog W 0 (fun _ => true) true Try.f3.params.toList args.toList ds p := hA0
  rw [Try.params3] at hA hval
  obtain ⟨v0, vs0, d0, ds0, p0, q0, hargs, rfl, rfl, h0, r0x⟩ := trodAll_cons hA
  obtain ⟨v1, vs1, d1, ds1, p1, q1, rfl, rfl, rfl, h1, r1x⟩ := trodAll_cons r0x
  obtain ⟨v2, vs2, d2, ds2, p2, q2, rfl, rfl, rfl, h2, r2x⟩ := trodAll_cons r1x
  obtain ⟨rfl, rfl, rfl⟩ := trodAll_nil r2x
  obtain rfl : args = #[v0, v1, v2] := by cases args; simp_all
  obtain ⟨rfl, rfl⟩ := trodVars_none hV
  have k0 := h0
  have lt0 : ∀ x ∈ p0, x.block < W.heap.size := by obtain ⟨m, hm⟩ := k0; exact DataW.trod_lt m _ _ _ hm
  have k1 := h1
  have lt1 : ∀ x ∈ p1, x.block < W.heap.size := by obtain ⟨m, hm⟩ := k1; exact DataW.trod_lt m _ _ _ hm
  have k2 := h2
  have lt2 : ∀ x ∈ p2, x.block < W.heap.size := by obtain ⟨m, hm⟩ := k2; exact DataW.trod_lt m _ _ _ hm
  obtain ⟨a0, len0, cap0, rfl⟩ := okWide_slice Try.underlying22 (hval 0 22 v0 rfl rfl)
  obtain ⟨ns0, rfl, w0, m0, r0⟩ : ∃ ns : List Int, ns.length = len0 ∧ Rd W a0 (ns.map (Value.int .i64)) ∧ len0 ≤ maxLen ∧ ∀ z ∈ ns, (Lit.int .i64 z).wf = true := by
    obtain ⟨fuel, hf⟩ := h0
    rcases open_ints Try.underlying22 Try.underlying3 (by kernel_rfl) hf with ⟨hcs, _⟩ | ⟨x, l, c, zs, hcs, _, hl, hm, hz, _, hcell, hwz⟩
    · simp [Value.cells] at hcs
      obtain ⟨rfl, rfl, rfl⟩ := hcs
      exact ⟨[], rfl, .inl rfl, Nat.zero_le _, fun z hz => by simp at hz⟩
    · simp [Value.cells] at hcs
      obtain ⟨rfl, rfl, rfl⟩ := hcs
      obtain ⟨ns, g1, g2, g3⟩ := ints_of hl (by simpa using hz) hcell hwz
      exact ⟨ns, g1, g2, by omega, g3⟩
  obtain ⟨a1, len1, cap1, rfl⟩ := okWide_slice Try.underlying23 (hval 1 23 v1 rfl rfl)
  obtain ⟨zs1, hzl1, w1, m1, r1⟩ : ∃ zs : List (List Int), zs.length = len1 ∧ Rows W a1 3 zs ∧ len1 ≤ maxLen ∧ ∀ r ∈ zs, ∀ z ∈ r, (Lit.int .i64 z).wf = true := by
    obtain ⟨fuel, hf⟩ := h1
    obtain ⟨A, c, zs, hv, g⟩ := open_rows 3 Try.underlying23 (by kernel_rfl) (by decide) aiKey (by simpa [Value.cells] using hf)
    injection hv with e1 e2 e3
    subst e1 e2
    exact ⟨zs, rfl, g⟩
  subst hzl1
  obtain ⟨a2, len2, cap2, rfl⟩ := okWide_slice Try.underlying24 (hval 2 24 v2 rfl rfl)
  obtain ⟨zs2, hzl2, w2, m2, r2⟩ : ∃ zs : List (List Int), zs.length = len2 ∧ Rows W a2 6 zs ∧ len2 ≤ maxLen ∧ ∀ r ∈ zs, ∀ z ∈ r, (Lit.int .i64 z).wf = true := by
    obtain ⟨fuel, hf⟩ := h2
    obtain ⟨A, c, zs, hv, g⟩ := open_rows 6 Try.underlying24 (by kernel_rfl) (by decide) aiAct (by simpa [Value.cells] using hf)
    injection hv with e1 e2 e3
    subst e1 e2
    exact ⟨zs, rfl, g⟩
  subst hzl2
  clear hA0 hval0
  refine (walk a0 ns0 cap0 a1 zs1 cap1 a2 zs2 cap2 W w0 m0 r0 w1 m1 r1 w2 m2 r2).mono fun e W' ⟨he, bel⟩ => ?_
  subst he
  exact ⟨_, rfl, _, _, _, [], _, [], hW', trodAll_mk1 (shut_bool Try.underlying4 _), (trodAll_cons_mk (Below.trod laidOut (by kernel_rfl) (of_decide_eq_true (by kernel_rfl)) k0 bel lt0) (trodAll_cons_mk (Below.trod laidOut (by kernel_rfl) (of_decide_eq_true (by kernel_rfl)) k1 bel lt1) (trodAll_cons_mk (Below.trod laidOut (by kernel_rfl) (of_decide_eq_true (by kernel_rfl)) k2 bel lt2) trodAll_mk0))), rfl, bel.frame _, fun h => by cases h⟩
theorem over : Rows.roundsBoundRow.holds Try.pinned (OpenSpec.ofChange Rows.roundsBoundSpec) :=
  OpenClaim.holds_of_wide 3 Try.f3 rfl rfl rfl rfl rfl rfl rfl ⟨rfl, rfl, rfl, rfl, rfl⟩ rfl rfl rfl rfl rfl (by kernel_rfl) Try.func3 (by kernel_rfl)
    (of_decide_eq_true (by kernel_rfl)) (by unfold Func.isWrapper; first | (rw [if_pos (by decide +kernel)]; kernel_rfl) | (rw [if_neg (by decide +kernel)]; exact ⟨rfl, rfl⟩))
    (fun os started H enc _ => lifted os started H enc)
/-- ████ THE STATEMENT ████ -/
theorem proved : Rows.RoundsBoundSaid := over
#print axioms proved
end Go.Proofs.Ytbgpbbepeemieaa.roundsBound
