/- MessageSame: for every input the law returns true, and what was handed in reads as it did. No condition. -/
import Derived.Test.YtnbcjjgilndlaaaRows
import Derived.Test.YtnbcjjgilndlaaaMsgSameWalk
import Derived.Test.YtnbcjjgilndlaaaMsgArgs
namespace Go.Proofs.Ytnbcjjgilndlaaa.messageSame
open Go.ChangeShapes Go.WideShapes Go.ChangeAt Go.RowKit
set_option linter.unusedVariables false
set_option linter.unusedSimpArgs false
theorem own : ownKnob Try.prog.godebug = none := by kernel_rfl
theorem laidOut : laidOutB Try.prog = true := by kernel_rfl
theorem walk (q0 : Rq) (A0 : Option Addr) (c0 : Nat) (q1 : Rq) (A1 : Option Addr) (c1 : Nat) (q2 : Rs) (A2 : Option Addr) (c2 : Nat) (q3 : Rs) (A3 : Option Addr) (c3 : Nat) (w : World) (w0 : BytesAt w A0 q0.md) (m0 : q0.md.length ≤ maxLen) (w1 : BytesAt w A1 q1.md) (m1 : q1.md.length ≤ maxLen) (w2 : IntsAt w A2 q2.vs) (m2 : q2.vs.length ≤ maxLen) (w3 : IntsAt w A3 q3.vs) (m3 : q3.vs.length ≤ maxLen) :
    Calls Try.prog 4 #[.agg (q0.c A0 c0).toArray, .agg (q1.c A1 c1).toArray, .agg (q2.c A2 c2).toArray, .agg (q3.c A3 c3).toArray] w fun e w' => e = .returned (.bool true) ∧ Below w.heap.size w w' := by
  by_cases h0 : 5000 < q0.md.length
  · exact same_out0 w q0 q1 q2 q3 A0 A1 A2 A3 c0 c1 c2 c3 (by omega)
  by_cases h1 : 5000 < q1.md.length
  · exact same_out1 w q0 q1 q2 q3 A0 A1 A2 A3 c0 c1 c2 c3 (by omega) (by omega)
  by_cases h2 : 100 < q2.vs.length
  · exact same_out2 w q0 q1 q2 q3 A0 A1 A2 A3 c0 c1 c2 c3 (by omega) (by omega) (by omega)
  by_cases h3 : 100 < q3.vs.length
  · exact same_out3 w q0 q1 q2 q3 A0 A1 A2 A3 c0 c1 c2 c3 (by omega) (by omega) (by omega) (by omega)
  · exact same_in w q0 q1 q2 q3 A0 A1 A2 A3 c0 c1 c2 c3 w0 w1 w2 w3 (by omega) (by omega) (by omega) (by omega)
set_option maxRecDepth 100000 in
theorem lifted (os : Os) (started : os.Started) (H : Type) (enc : TypeId × Value → H) :
    ReturnsInHanded {} Try.checked os 4 .any (Rows.messageSameSpec.pre6 enc Try.prog Try.f4 Rows.messageSameRow.domain false) (Rows.messageSameSpec.post enc Try.prog Try.f4 false true false false) := by
  refine returnsInHanded_of_change (C := Try.checked) own started (by kernel_rfl) Try.func4
    (ChangeSpec.witness6 (enc := enc) (C := Try.checked) false ⟨#[], #[.agg #[.int .i64 0, .int .u32 0, .int .i64 0, .slice none 0 0, .int .i64 0, .int .i64 0, .int .i64 0, .int .i64 0, .int .i64 0, .int .i64 0, .int .u32 0, .int .i64 0, .int .i64 0, .int .i64 0, .int .i64 0, .int .i64 0, .int .i64 0], .agg #[.int .i64 0, .int .u32 0, .int .i64 0, .slice none 0 0, .int .i64 0, .int .i64 0, .int .i64 0, .int .i64 0, .int .i64 0, .int .i64 0, .int .u32 0, .int .i64 0, .int .i64 0, .int .i64 0, .int .i64 0, .int .i64 0, .int .i64 0], .agg #[.int .i64 0, .int .u32 0, .int .i64 0, .int .i64 0, .slice none 0 0, .int .i64 0, .int .i64 0, .int .i64 0, .int .i64 0, .int .i64 0, .int .i64 0, .int .u32 0, .int .i64 0, .int .i64 0, .int .i64 0, .int .i64 0, .int .i64 0, .int .i64 0], .agg #[.int .i64 0, .int .u32 0, .int .i64 0, .int .i64 0, .slice none 0 0, .int .i64 0, .int .i64 0, .int .i64 0, .int .i64 0, .int .i64 0, .int .i64 0, .int .u32 0, .int .i64 0, .int .i64 0, .int .i64 0, .int .i64 0, .int .i64 0, .int .i64 0]], []⟩ 8 (by kernel_rfl) (by kernel_rfl) (by kernel_rfl) (by kernel_rfl)) ?_
  intro W base args ds gs before hval0 hW hcnd _
  have hval : ∀ (j : Nat) t v, Try.f4.params[j]? = some t → args[j]? = some v → Value.okWide Try.prog W .any base t v := hval0
  have hW' := hW
  obtain ⟨p, q, hA0, hV, rfl, hfz, hnd⟩ := hW
  have hA : DataW.TrodAll enc Try.prog W 0 (fun _ => true) true Try.f4.params.toList args.toList ds p := hA0
  rw [Try.params4] at hA hval
  obtain ⟨v0, vs0, d0, ds0, p0, q0, hargs, rfl, rfl, h0, r0x⟩ := trodAll_cons hA
  obtain ⟨v1, vs1, d1, ds1, p1, q1, rfl, rfl, rfl, h1, r1x⟩ := trodAll_cons r0x
  obtain ⟨v2, vs2, d2, ds2, p2, q2, rfl, rfl, rfl, h2, r2x⟩ := trodAll_cons r1x
  obtain ⟨v3, vs3, d3, ds3, p3, q3, rfl, rfl, rfl, h3, r3x⟩ := trodAll_cons r2x
  obtain ⟨rfl, rfl, rfl⟩ := trodAll_nil r3x
  obtain rfl : args = #[v0, v1, v2, v3] := by cases args; simp_all
  obtain ⟨rfl, rfl⟩ := trodVars_none hV
  have k0 := h0
  have lt0 : ∀ x ∈ p0, x.block < W.heap.size := by obtain ⟨m, hm⟩ := k0; exact DataW.trod_lt m _ _ _ hm
  have k1 := h1
  have lt1 : ∀ x ∈ p1, x.block < W.heap.size := by obtain ⟨m, hm⟩ := k1; exact DataW.trod_lt m _ _ _ hm
  have k2 := h2
  have lt2 : ∀ x ∈ p2, x.block < W.heap.size := by obtain ⟨m, hm⟩ := k2; exact DataW.trod_lt m _ _ _ hm
  have k3 := h3
  have lt3 : ∀ x ∈ p3, x.block < W.heap.size := by obtain ⟨m, hm⟩ := k3; exact DataW.trod_lt m _ _ _ hm
  obtain ⟨fuel0, hf0⟩ := h0
  obtain ⟨q0, A0, c0, rfl, w0, m0⟩ := open_req (hval 0 33 v0 rfl rfl) hf0
  obtain ⟨fuel1, hf1⟩ := h1
  obtain ⟨q1, A1, c1, rfl, w1, m1⟩ := open_req (hval 1 33 v1 rfl rfl) hf1
  obtain ⟨fuel2, hf2⟩ := h2
  obtain ⟨q2, A2, c2, rfl, w2, m2⟩ := open_res (hval 2 42 v2 rfl rfl) hf2
  obtain ⟨fuel3, hf3⟩ := h3
  obtain ⟨q3, A3, c3, rfl, w3, m3⟩ := open_res (hval 3 42 v3 rfl rfl) hf3
  clear hA0 hval0
  refine (walk q0 A0 c0 q1 A1 c1 q2 A2 c2 q3 A3 c3 W w0 m0 w1 m1 w2 m2 w3 m3).mono fun e W' ⟨he, bel⟩ => ?_
  subst he
  exact ⟨_, rfl, _, _, _, [], _, [], hW', trodAll_mk1 (shut_bool Try.underlying4 _), (trodAll_cons_mk (Below.trod laidOut (by kernel_rfl) (of_decide_eq_true (by kernel_rfl)) k0 bel lt0) (trodAll_cons_mk (Below.trod laidOut (by kernel_rfl) (of_decide_eq_true (by kernel_rfl)) k1 bel lt1) (trodAll_cons_mk (Below.trod laidOut (by kernel_rfl) (of_decide_eq_true (by kernel_rfl)) k2 bel lt2) (trodAll_cons_mk (Below.trod laidOut (by kernel_rfl) (of_decide_eq_true (by kernel_rfl)) k3 bel lt3) trodAll_mk0)))), rfl, bel.frame _, fun h => by cases h⟩
theorem over : Rows.messageSameRow.holds Try.pinned (OpenSpec.ofChange Rows.messageSameSpec) :=
  OpenClaim.holds_of_wide 4 Try.f4 rfl rfl rfl rfl rfl rfl rfl ⟨rfl, rfl, rfl, rfl, rfl⟩ rfl rfl rfl rfl rfl (by kernel_rfl) Try.func4 (by kernel_rfl)
    (of_decide_eq_true (by kernel_rfl)) (by unfold Func.isWrapper; first | (rw [if_pos (by decide +kernel)]; kernel_rfl) | (rw [if_neg (by decide +kernel)]; exact ⟨rfl, rfl⟩))
    (fun os started H enc _ => lifted os started H enc)
/-- ████ THE STATEMENT ████ -/
theorem proved : Rows.MessageSameSaid := over
#print axioms proved
end Go.Proofs.Ytnbcjjgilndlaaa.messageSame
