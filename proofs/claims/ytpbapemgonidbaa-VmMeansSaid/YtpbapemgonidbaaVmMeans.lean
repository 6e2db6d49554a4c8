/- VmMeans: for every input the law returns true, and what was handed in reads as it did. No condition. -/
import Derived.Test.YtpbapemgonidbaaRows
import Derived.Test.YtpbapemgonidbaaOpen
import Derived.Test.YtpbapemgonidbaaVmMeansB
import Derived.Test.YtpbapemgonidbaaVmArgs
namespace Go.Proofs.Ytpbapemgonidbaa.vmMeans
open Go.ChangeShapes Go.WideShapes Go.ChangeAt Go.RowKit
set_option linter.unusedVariables false
set_option linter.unusedSimpArgs false
theorem own : ownKnob Try.prog.godebug = none := by kernel_rfl
theorem laidOut : laidOutB Try.prog = true := by kernel_rfl
theorem walk (vars : Int) (kA : Option Addr) (ks : List (List (Int × Int))) (kc : Nat) (me procs seed : Int) (A : Option Addr) (l : List Int) (c : Nat) (sent drawn : Int) (lA : Option Addr) (zs : List (List Int)) (lc : Nat) (w : World)
    (h0 : (Lit.int .i64 vars).wf = true) (hk : RKinds w kA ks) (hn : ks.length ≤ maxLen) (h1 : (Lit.int .i64 me).wf = true) (h2 : (Lit.int .i64 procs).wf = true) (h3 : (Lit.int .i64 seed).wf = true)
    (hA : Rd w A (ints l)) (hlm : l.length ≤ maxLen) (hlz : ∀ z ∈ l, (Lit.int .i64 z).wf = true) (h4 : (Lit.int .i64 sent).wf = true) (h5 : (Lit.int .i64 drawn).wf = true)
    (hz : Rows w lA 6 zs) (hzm : zs.length ≤ maxLen) (hzz : ∀ r ∈ zs, ∀ z ∈ r, (Lit.int .i64 z).wf = true) :
    Calls Try.prog 3 #[.agg #[.int .i64 vars, .slice kA ks.length kc], .int .i64 me, .int .i64 procs, .int .i64 seed, .agg #[.slice A l.length c, .int .i64 sent, .int .i64 drawn], .slice lA zs.length lc] w fun e w' => e = .returned (.bool true) ∧ Below w.heap.size w w' := by
  cases hin : meansIn vars ks me procs l.length sent drawn zs.length with
  | true => exact means_yes vars kA ks kc me procs seed A l c sent drawn lA zs lc w hk hn hA hz hin
  | false => exact means_no vars kA ks kc me procs seed A l.length c sent drawn lA zs.length lc w hk hn hin
set_option maxRecDepth 100000 in
theorem lifted (os : Os) (started : os.Started) (H : Type) (enc : TypeId × Value → H) :
    ReturnsInHanded {} Try.checked os 3 .any (Rows.vmMeansSpec.pre6 enc Try.prog Try.f3 Rows.vmMeansRow.domain false) (Rows.vmMeansSpec.post enc Try.prog Try.f3 false true false false) := by
  refine returnsInHanded_of_change (C := Try.checked) own started (by kernel_rfl) Try.func3
    (ChangeSpec.witness6 (enc := enc) (C := Try.checked) false ⟨#[], #[.agg #[.int .i64 0, .slice none 0 0], .int .i64 0, .int .i64 0, .int .i64 0, .agg #[.slice none 0 0, .int .i64 0, .int .i64 0], .slice none 0 0], []⟩ 8 (by kernel_rfl) (by kernel_rfl) (by kernel_rfl) (by kernel_rfl)) ?_
  intro W base args ds gs before hval0 hW hcnd _
  have hval : ∀ (j : Nat) t v, Try.f3.params[j]? = some t → args[j]? = some v → Value.okWide Try.prog W .any base t v := hval0
  have hW' := hW
  obtain ⟨p, q, hA0, hV, rfl, hfz, hnd⟩ := hW
  have hA : DataW.TrodAll enc Try.prog W 0 (fun _ => true) true Try.f3.params.toList args.toList ds p := hA0
  rw [Try.params3] at hA hval
  obtain ⟨v0, vs0, d0, ds0, p0, q0, hargs, rfl, rfl, h0, r0x⟩ := trodAll_cons hA
  obtain ⟨v1, vs1, d1, ds1, p1, q1, rfl, rfl, rfl, h1, r1x⟩ := trodAll_cons r0x
  obtain ⟨v2, vs2, d2, ds2, p2, q2, rfl, rfl, rfl, h2, r2x⟩ := trodAll_cons r1x
  obtain ⟨v3, vs3, d3, ds3, p3, q3, rfl, rfl, rfl, h3, r3x⟩ := trodAll_cons r2x
  obtain ⟨v4, vs4, d4, ds4, p4, q4, rfl, rfl, rfl, h4, r4x⟩ := trodAll_cons r3x
  obtain ⟨v5, vs5, d5, ds5, p5, q5, rfl, rfl, rfl, h5, r5x⟩ := trodAll_cons r4x
  obtain ⟨rfl, rfl, rfl⟩ := trodAll_nil r5x
  obtain rfl : args = #[v0, v1, v2, v3, v4, v5] := by cases args; simp_all
  obtain ⟨rfl, rfl⟩ := trodVars_none hV
  have k0 := h0
  have lt0 : ∀ x ∈ p0, x.block < W.heap.size := by obtain ⟨m, hm⟩ := k0; exact DataW.trod_lt m _ _ _ hm
  have k4 := h4
  have lt4 : ∀ x ∈ p4, x.block < W.heap.size := by obtain ⟨m, hm⟩ := k4; exact DataW.trod_lt m _ _ _ hm
  have k5 := h5
  have lt5 : ∀ x ∈ p5, x.block < W.heap.size := by obtain ⟨m, hm⟩ := k5; exact DataW.trod_lt m _ _ _ hm
  obtain ⟨fuel0, hf0⟩ := h0
  obtain ⟨vars0, kA0, ks0, kc0, rfl, wv0, wk0, wn0⟩ := open_prog (hval 0 24 v0 rfl rfl) hf0
  obtain ⟨n1, rfl, rfl, rfl, w1⟩ := open_int Try.underlying3 (hval 1 3 v1 rfl rfl) h1
  obtain ⟨n2, rfl, rfl, rfl, w2⟩ := open_int Try.underlying3 (hval 2 3 v2 rfl rfl) h2
  obtain ⟨n3, rfl, rfl, rfl, w3⟩ := open_int Try.underlying2 (hval 3 2 v3 rfl rfl) h3
  obtain ⟨fuel4, hf4⟩ := h4
  obtain ⟨A4, l4, c4, se4, dr4, rfl, wa4, wl4, wz4, ws4, wd4⟩ := open_state (hval 4 27 v4 rfl rfl) hf4
  obtain ⟨a5, len5, cap5, rfl⟩ := okWide_slice Try.underlying28 (hval 5 28 v5 rfl rfl)
  obtain ⟨zs5, hzl5, w5, m5, r5⟩ : ∃ zs : List (List Int), zs.length = len5 ∧ Rows W a5 6 zs ∧ len5 ≤ maxLen ∧ ∀ r ∈ zs, ∀ z ∈ r, (Lit.int .i64 z).wf = true := by
    obtain ⟨fuel, hf⟩ := h5
    obtain ⟨A, c, zs, hv, g⟩ := open_rows 6 Try.underlying28 (by kernel_rfl) (by decide) aiEvent (by simpa [Value.cells] using hf)
    injection hv with e1 e2 e3
    subst e1 e2
    exact ⟨zs, rfl, g⟩
  subst hzl5
  clear hA0 hval0
  refine (walk vars0 kA0 ks0 kc0 n1 n2 n3 A4 l4 c4 se4 dr4 a5 zs5 cap5 W wv0 wk0 wn0 w1 w2 w3 wa4 wl4 wz4 ws4 wd4 w5 m5 r5).mono fun e W' ⟨he, bel⟩ => ?_
  subst he
  exact ⟨_, rfl, _, _, _, [], _, [], hW', trodAll_mk1 (shut_bool Try.underlying4 _), (trodAll_cons_mk (Below.trod laidOut (by kernel_rfl) (of_decide_eq_true (by kernel_rfl)) k0 bel lt0) (trodAll_cons_mk (shut_int Try.underlying3 w1) (trodAll_cons_mk (shut_int Try.underlying3 w2) (trodAll_cons_mk (shut_int Try.underlying2 w3) (trodAll_cons_mk (Below.trod laidOut (by kernel_rfl) (of_decide_eq_true (by kernel_rfl)) k4 bel lt4) (trodAll_cons_mk (Below.trod laidOut (by kernel_rfl) (of_decide_eq_true (by kernel_rfl)) k5 bel lt5) trodAll_mk0)))))), rfl, bel.frame _, fun h => by cases h⟩
theorem over : Rows.vmMeansRow.holds Try.pinned (OpenSpec.ofChange Rows.vmMeansSpec) :=
  OpenClaim.holds_of_wide 3 Try.f3 rfl rfl rfl rfl rfl rfl rfl ⟨rfl, rfl, rfl, rfl, rfl⟩ rfl rfl rfl rfl rfl (by kernel_rfl) Try.func3 (by kernel_rfl)
    (of_decide_eq_true (by kernel_rfl)) (by unfold Func.isWrapper; first | (rw [if_pos (by decide +kernel)]; kernel_rfl) | (rw [if_neg (by decide +kernel)]; exact ⟨rfl, rfl⟩))
    (fun os started H enc _ => lifted os started H enc)
/-- ████ THE STATEMENT ████ -/
theorem proved : Rows.VmMeansSaid := over
#print axioms proved
end Go.Proofs.Ytpbapemgonidbaa.vmMeans
