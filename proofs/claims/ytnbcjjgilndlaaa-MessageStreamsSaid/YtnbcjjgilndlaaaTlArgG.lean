/- Messages that are handed in: openers of responses that tell the ranges, too. Helper. -/
import Derived.Test.YtnbcjjgilndlaaaAkArgF
import Derived.Test.YtnbcjjgilndlaaaTlVrw
namespace Go.Proofs.Ytnbcjjgilndlaaa
open Go.RowKit Go.ChangeShapes Go.WideShapes
set_option linter.unusedVariables false
set_option linter.unusedSimpArgs false
set_option maxRecDepth 100000
theorem open_resF {H : Type} {enc : TypeId × Value → H} {w : World} {r : Reach} {base b0 : Nat} {held : Bool} {fuel : Nat} {v : Value} {x : DataW H × List MemPlace}
    (hv : Value.okWide Try.prog w r b0 42 v) (h : DataW.trod enc Try.prog w base (fun _ => true) held fuel 42 v.cells.toList = some x) :
    ∃ (q : Rs) (A : Option Addr) (c : Nat), v = .agg (q.c A c).toArray ∧ IntsAt w A q.vs ∧ q.vs.length ≤ maxLen ∧ (∀ v ∈ q.vs, (Lit.int .i64 v).wf = true) ∧ (∀ v ∈ [q.k, q.er, q.fl, q.rT, q.rO, q.rS, q.rp, q.rn, q.rv, q.T, q.O, q.S, q.tt, q.kd, q.da], (Lit.int .i64 v).wf = true) ∧ (∀ v ∈ [q.id, q.nu], (Lit.int .u32 v).wf = true) := by
  obtain ⟨cs, rfl, hsz⟩ := okWide_struct Try.underlying42 hv
  have c1 : Try.prog.cellsOf 37 = 1 := by kernel_rfl
  have c2 : Try.prog.cellsOf 25 = 1 := by kernel_rfl
  have c3 : Try.prog.cellsOf 34 = 1 := by kernel_rfl
  have c4 : Try.prog.cellsOf 2 = 1 := by kernel_rfl
  have c5 : Try.prog.cellsOf 38 = 1 := by kernel_rfl
  have c6 : Try.prog.cellsOf 40 = 6 := by kernel_rfl
  have c7 : Try.prog.cellsOf 29 = 6 := by kernel_rfl
  have cA : Try.prog.cellsOf 42 = 18 := by kernel_rfl
  obtain ⟨xs, k, hk, hxy, hlen, hxl, hf⟩ := DataW.trod_struct Try.underlying42 h
  rw [cA] at hsz
  obtain ⟨l⟩ := cs
  match xs, hxl, l, hsz with
  | [y0, y1, y2, y3, y4, y5, y6, y7], _, [v0, v1, v2, v3, v4, v5, v6, v7, v8, v9, v10, v11, v12, v13, v14, v15, v16, v17], _ =>
    have g0 := hf 0 _ rfl
    have g1 := hf 1 _ rfl
    have g2 := hf 2 _ rfl
    have g3 := hf 3 _ rfl
    have g4 := hf 4 _ rfl
    have g5 := hf 5 _ rfl
    have g6 := hf 6 _ rfl
    have g7 := hf 7 _ rfl
    simp [Value.cells, c1, c2, c3, c4, c5, c6, c7] at g0 g1 g2 g3 g4 g5 g6 g7
    obtain ⟨z0, e0, _, w0⟩ := DataW.trod_int Try.underlying37 g0
    injection e0 with e0 _
    subst e0
    obtain ⟨z1, e1, _, w1⟩ := DataW.trod_int Try.underlying25 g1
    injection e1 with e1 _
    subst e1
    obtain ⟨z2, e2, _, w2⟩ := DataW.trod_int Try.underlying34 g2
    injection e2 with e2 _
    subst e2
    obtain ⟨z3, e3, _, w3⟩ := DataW.trod_int Try.underlying2 g3
    injection e3 with e3 _
    subst e3
    have hrow : ∃ (A : Option Addr) (len cap : Nat) (l : List Int), v4 = .slice A len cap ∧ l.length = len ∧ IntsAt w A l ∧ l.length ≤ maxLen ∧ ∀ v ∈ l, (Lit.int .i64 v).wf = true := by
      rcases open_ints Try.underlying38 Try.underlying2 (by kernel_rfl) g4 with ⟨hcs, _⟩ | ⟨a, len, cap, zs, hcs, _, hl, hm, hz, _, hcell, hwz⟩
      · injection hcs with hcs _
        exact ⟨none, 0, 0, [], hcs, rfl, .inl rfl, Nat.zero_le _, fun v hv => by cases hv⟩
      · injection hcs with hcs _
        obtain ⟨ns, g1, g2, g3⟩ := ints_of hl (by simpa using hz) hcell hwz
        exact ⟨some a, len, cap, ns, hcs, g1, g2, by omega, g3⟩
    obtain ⟨A, len, cap, l, rfl, rfl, q2, q3, q4⟩ := hrow
    obtain ⟨z5, e5, w5⟩ := aiRecord g5 0 (by simp)
    simp only [List.getElem_cons_zero, List.getElem_cons_succ] at e5
    obtain ⟨z6, e6, w6⟩ := aiRecord g5 1 (by simp)
    simp only [List.getElem_cons_zero, List.getElem_cons_succ] at e6
    obtain ⟨z7, e7, w7⟩ := aiRecord g5 2 (by simp)
    simp only [List.getElem_cons_zero, List.getElem_cons_succ] at e7
    obtain ⟨z8, e8, w8⟩ := aiRecord g5 3 (by simp)
    simp only [List.getElem_cons_zero, List.getElem_cons_succ] at e8
    obtain ⟨z9, e9, w9⟩ := aiRecord g5 4 (by simp)
    simp only [List.getElem_cons_zero, List.getElem_cons_succ] at e9
    obtain ⟨z10, e10, w10⟩ := aiRecord g5 5 (by simp)
    simp only [List.getElem_cons_zero, List.getElem_cons_succ] at e10
    subst e5
    subst e6
    subst e7
    subst e8
    subst e9
    subst e10
    obtain ⟨z11, e11, _, w11⟩ := DataW.trod_int Try.underlying25 g6
    injection e11 with e11 _
    subst e11
    obtain ⟨z12, e12, w12⟩ := aiEvent g7 0 (by simp)
    simp only [List.getElem_cons_zero, List.getElem_cons_succ] at e12
    obtain ⟨z13, e13, w13⟩ := aiEvent g7 1 (by simp)
    simp only [List.getElem_cons_zero, List.getElem_cons_succ] at e13
    obtain ⟨z14, e14, w14⟩ := aiEvent g7 2 (by simp)
    simp only [List.getElem_cons_zero, List.getElem_cons_succ] at e14
    obtain ⟨z15, e15, w15⟩ := aiEvent g7 3 (by simp)
    simp only [List.getElem_cons_zero, List.getElem_cons_succ] at e15
    obtain ⟨z16, e16, w16⟩ := aiEvent g7 4 (by simp)
    simp only [List.getElem_cons_zero, List.getElem_cons_succ] at e16
    obtain ⟨z17, e17, w17⟩ := aiEvent g7 5 (by simp)
    simp only [List.getElem_cons_zero, List.getElem_cons_succ] at e17
    subst e12
    subst e13
    subst e14
    subst e15
    subst e16
    subst e17
    exact ⟨⟨z0, z1, z2, z3, l, z5, z6, z7, z8, z9, z10, z11, z12, z13, z14, z15, z16, z17⟩, A, cap, rfl, q2, q3, q4, fun v hv => by simp only [List.mem_cons, List.not_mem_nil, or_false] at hv; rcases hv with rfl | rfl | rfl | rfl | rfl | rfl | rfl | rfl | rfl | rfl | rfl | rfl | rfl | rfl | rfl <;> assumption, fun v hv => by simp only [List.mem_cons, List.not_mem_nil, or_false] at hv; rcases hv with rfl | rfl <;> assumption⟩
theorem fitS_of {q : Rs} (h0 : ∀ v ∈ q.vs, (Lit.int .i64 v).wf = true) (h1 : ∀ v ∈ [q.k, q.er, q.fl, q.rT, q.rO, q.rS, q.rp, q.rn, q.rv, q.T, q.O, q.S, q.tt, q.kd, q.da], (Lit.int .i64 v).wf = true) (h2 : ∀ v ∈ [q.id, q.nu], (Lit.int .u32 v).wf = true) (hm : q.vs.length ≤ 1000) : q.Fit := by
  have w64 : ∀ v : Int, (Lit.int .i64 v).wf = true → -9223372036854775808 ≤ v ∧ v ≤ 9223372036854775807 := fun v h => by
    simp only [Lit.wf, Bool.and_eq_true, decide_eq_true_eq] at h
    exact ⟨h.1, h.2⟩
  have w32 : ∀ v : Int, (Lit.int .u32 v).wf = true → 0 ≤ v ∧ v < 4294967296 := fun v h => by
    simp only [Lit.wf, Bool.and_eq_true, decide_eq_true_eq] at h
    exact ⟨h.1, Int.lt_of_le_of_lt h.2 (by decide)⟩
  exact ⟨w32 _ (h2 _ (by simp)), w32 _ (h2 _ (by simp)), hm, fun v hv => w64 v (h0 v hv), fun v hv => w64 v (h1 v hv)⟩
end Go.Proofs.Ytnbcjjgilndlaaa
