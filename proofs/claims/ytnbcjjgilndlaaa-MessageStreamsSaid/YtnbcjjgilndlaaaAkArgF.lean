/- Messages that are handed in: openers that tell the ranges, too. Helper. -/
import Derived.Test.YtnbcjjgilndlaaaRdArg
import Derived.Test.YtnbcjjgilndlaaaAkOvW
namespace Go.Proofs.Ytnbcjjgilndlaaa
open Go.RowKit Go.ChangeShapes Go.WideShapes
set_option linter.unusedVariables false
set_option linter.unusedSimpArgs false
set_option maxRecDepth 100000
theorem open_reqF {H : Type} {enc : TypeId × Value → H} {w : World} {r : Reach} {base b0 : Nat} {held : Bool} {fuel : Nat} {v : Value} {x : DataW H × List MemPlace}
    (hv : Value.okWide Try.prog w r b0 33 v) (h : DataW.trod enc Try.prog w base (fun _ => true) held fuel 33 v.cells.toList = some x) :
    ∃ (q : Rq) (A : Option Addr) (c : Nat), v = .agg (q.c A c).toArray ∧ BytesAt w A q.md ∧ q.md.length ≤ maxLen ∧ (∀ v ∈ [q.k, q.ver, q.T, q.O, q.S, q.tt, q.kd, q.da, q.bp, q.bk, q.bt, q.pr, q.nm, q.dn], (Lit.int .i64 v).wf = true) ∧ (∀ v ∈ [q.id, q.nu], (Lit.int .u32 v).wf = true) := by
  obtain ⟨cs, rfl, hsz⟩ := okWide_struct Try.underlying33 hv
  have c1 : Try.prog.cellsOf 24 = 1 := by kernel_rfl
  have c2 : Try.prog.cellsOf 25 = 1 := by kernel_rfl
  have c3 : Try.prog.cellsOf 3 = 1 := by kernel_rfl
  have c4 : Try.prog.cellsOf 22 = 1 := by kernel_rfl
  have c5 : Try.prog.cellsOf 29 = 6 := by kernel_rfl
  have c6 : Try.prog.cellsOf 31 = 3 := by kernel_rfl
  have c7 : Try.prog.cellsOf 2 = 1 := by kernel_rfl
  have cA : Try.prog.cellsOf 33 = 17 := by kernel_rfl
  obtain ⟨xs, k, hk, hxy, hlen, hxl, hf⟩ := DataW.trod_struct Try.underlying33 h
  rw [cA] at hsz
  obtain ⟨l⟩ := cs
  match xs, hxl, l, hsz with
  | [y0, y1, y2, y3, y4, y5, y6, y7, y8, y9], _, [v0, v1, v2, v3, v4, v5, v6, v7, v8, v9, v10, v11, v12, v13, v14, v15, v16], _ =>
    have g0 := hf 0 _ rfl
    have g1 := hf 1 _ rfl
    have g2 := hf 2 _ rfl
    have g3 := hf 3 _ rfl
    have g4 := hf 4 _ rfl
    have g5 := hf 5 _ rfl
    have g6 := hf 6 _ rfl
    have g7 := hf 7 _ rfl
    have g8 := hf 8 _ rfl
    have g9 := hf 9 _ rfl
    simp [Value.cells, c1, c2, c3, c4, c5, c6, c7] at g0 g1 g2 g3 g4 g5 g6 g7 g8 g9
    obtain ⟨z0, e0, _, w0⟩ := DataW.trod_int Try.underlying24 g0
    injection e0 with e0 _
    subst e0
    obtain ⟨z1, e1, _, w1⟩ := DataW.trod_int Try.underlying25 g1
    injection e1 with e1 _
    subst e1
    obtain ⟨z2, e2, _, w2⟩ := DataW.trod_int Try.underlying3 g2
    injection e2 with e2 _
    subst e2
    have hrow : ∃ (A : Option Addr) (len cap : Nat) (l : List UInt8), v3 = .slice A len cap ∧ l.length = len ∧ BytesAt w A l ∧ l.length ≤ maxLen := by
      rcases open_ints Try.underlying22 Try.underlying5 (by kernel_rfl) g3 with ⟨hcs, _⟩ | ⟨a, len, cap, zs, hcs, _, hl, hm, hz, _, hcell, hwz⟩
      · injection hcs with hcs _
        exact ⟨none, 0, 0, [], hcs, rfl, .inl rfl, Nat.zero_le _⟩
      · injection hcs with hcs _
        obtain ⟨l, g1, g2, g3, g4⟩ := isRow_bytes (w := w) (a := some a) (len := len) (cap := cap) (zs := zs) (.inr ⟨a, rfl, hl, hm, by simpa using hz, hcell, hwz⟩)
        exact ⟨some a, len, cap, l, hcs, g1, g2, by omega⟩
    obtain ⟨A, len, cap, l, rfl, rfl, q2, q3⟩ := hrow
    obtain ⟨z4, e4, w4⟩ := aiEvent g4 0 (by simp)
    simp only [List.getElem_cons_zero, List.getElem_cons_succ] at e4
    obtain ⟨z5, e5, w5⟩ := aiEvent g4 1 (by simp)
    simp only [List.getElem_cons_zero, List.getElem_cons_succ] at e5
    obtain ⟨z6, e6, w6⟩ := aiEvent g4 2 (by simp)
    simp only [List.getElem_cons_zero, List.getElem_cons_succ] at e6
    obtain ⟨z7, e7, w7⟩ := aiEvent g4 3 (by simp)
    simp only [List.getElem_cons_zero, List.getElem_cons_succ] at e7
    obtain ⟨z8, e8, w8⟩ := aiEvent g4 4 (by simp)
    simp only [List.getElem_cons_zero, List.getElem_cons_succ] at e8
    obtain ⟨z9, e9, w9⟩ := aiEvent g4 5 (by simp)
    simp only [List.getElem_cons_zero, List.getElem_cons_succ] at e9
    subst e4
    subst e5
    subst e6
    subst e7
    subst e8
    subst e9
    obtain ⟨z10, e10, _, w10⟩ := DataW.trod_int Try.underlying25 g5
    injection e10 with e10 _
    subst e10
    obtain ⟨z11, e11, w11⟩ := aiBreak g6 0 (by simp)
    simp only [List.getElem_cons_zero, List.getElem_cons_succ] at e11
    obtain ⟨z12, e12, w12⟩ := aiBreak g6 1 (by simp)
    simp only [List.getElem_cons_zero, List.getElem_cons_succ] at e12
    obtain ⟨z13, e13, w13⟩ := aiBreak g6 2 (by simp)
    simp only [List.getElem_cons_zero, List.getElem_cons_succ] at e13
    subst e11
    subst e12
    subst e13
    obtain ⟨z14, e14, _, w14⟩ := DataW.trod_int Try.underlying3 g7
    injection e14 with e14 _
    subst e14
    obtain ⟨z15, e15, _, w15⟩ := DataW.trod_int Try.underlying2 g8
    injection e15 with e15 _
    subst e15
    obtain ⟨z16, e16, _, w16⟩ := DataW.trod_int Try.underlying2 g9
    injection e16 with e16 _
    subst e16
    exact ⟨⟨z0, z1, z2, l, z4, z5, z6, z7, z8, z9, z10, z11, z12, z13, z14, z15, z16⟩, A, cap, rfl, q2, q3, fun v hv => by simp only [List.mem_cons, List.not_mem_nil, or_false] at hv; rcases hv with rfl | rfl | rfl | rfl | rfl | rfl | rfl | rfl | rfl | rfl | rfl | rfl | rfl | rfl <;> assumption, fun v hv => by simp only [List.mem_cons, List.not_mem_nil, or_false] at hv; rcases hv with rfl | rfl <;> assumption⟩
theorem fit_of {q : Rq} (h1 : ∀ v ∈ [q.k, q.ver, q.T, q.O, q.S, q.tt, q.kd, q.da, q.bp, q.bk, q.bt, q.pr, q.nm, q.dn], (Lit.int .i64 v).wf = true) (h2 : ∀ v ∈ [q.id, q.nu], (Lit.int .u32 v).wf = true) (hm : q.md.length ≤ 100000) : q.Fit := by
  have w64 : ∀ v : Int, (Lit.int .i64 v).wf = true → -9223372036854775808 ≤ v ∧ v ≤ 9223372036854775807 := fun v h => by
    simp only [Lit.wf, Bool.and_eq_true, decide_eq_true_eq] at h
    exact ⟨h.1, h.2⟩
  have w32 : ∀ v : Int, (Lit.int .u32 v).wf = true → 0 ≤ v ∧ v < 4294967296 := fun v h => by
    simp only [Lit.wf, Bool.and_eq_true, decide_eq_true_eq] at h
    exact ⟨h.1, Int.lt_of_le_of_lt h.2 (by decide)⟩
  exact ⟨w32 _ (h2 _ (by simp)), w32 _ (h2 _ (by simp)), hm, fun v hv => w64 v (h1 v hv)⟩
theorem bytes_blk {w : World} {A : Option Addr} {md : List UInt8} (h : BytesAt w A md) : md = [] ∨ ∀ a, A = some a → a.block < w.heap.size := by
  rcases h with h | ⟨b, off, rfl, h⟩
  · left; simpa [bcells] using h
  · cases md with
    | nil => exact .inl rfl
    | cons x l =>
      right
      intro a ha
      injection ha with ha
      subst ha
      exact World.block_lt_of_cell? _ _ (h 0 _ rfl)
end Go.Proofs.Ytnbcjjgilndlaaa
