/- Messages that are handed in: openers. Helper. -/
import Derived.Test.YtnbcjjgilndlaaaProg
import Derived.Test.YtnbcjjgilndlaaaRdLib
import Derived.ProofKit
import Derived.OpenShut
import Derived.ShutString
import Derived.ChangeOld
import Derived.Below
import Derived.Deep.Matrix
import Derived.Deep.Strs
import Derived.Test.YtnbcjjgilndlaaaRdSm
namespace Go.Proofs.Ytnbcjjgilndlaaa
open Go.RowKit Go.ChangeShapes Go.WideShapes
set_option maxRecDepth 100000
set_option linter.unusedVariables false
set_option linter.unusedSimpArgs false
theorem ints_of {w : World} {x : Addr} {len cap : Nat} {zs : List Int} (hl : len ≤ cap) (hz : zs.length = cap) (h : ∀ i, i < zs.length → w.cell? (x.add i) = some (.int .i64 (zs.getD i 0))) (hw : ∀ z ∈ zs, (Lit.int .i64 z).wf = true) :
    ∃ ns : List Int, ns.length = len ∧ Rd w (some x) (ns.map (Value.int .i64)) ∧ ∀ z ∈ ns, (Lit.int .i64 z).wf = true := by
  refine ⟨zs.take len, by simp; omega, ?_, fun z hz => hw z (List.mem_of_mem_take hz)⟩
  by_cases h0 : len = 0
  · left; subst h0; rfl
  · obtain ⟨b, off, spot⟩ := x
    have hspot : spot = none := by simpa [Addr.add] using World.cell?_spot (h 0 (by omega))
    subst hspot
    refine .inr ⟨b, off, rfl, fun j u hu => ?_⟩
    have hj : j < len := by
      rcases Nat.lt_or_ge j len with h' | h'
      · exact h'
      · rw [List.getElem?_eq_none (by simp; omega)] at hu; cases hu
    have hc := h j (by omega)
    rw [add_plain] at hc
    rw [hc, ← hu]
    simp [hj, List.getD_eq_getElem?_getD, List.getElem?_eq_getElem (show j < zs.length by omega)]
/-- A type all of whose cells are integers of 64 bits. -/
def AllInt (T : TypeId) : Prop := ∀ {H : Type} {enc : TypeId × Value → H} {w : World} {base : Nat} {held : Bool} {fuel : Nat} {cs : List Value} {x : DataW H × List MemPlace},
  DataW.trod enc Try.prog w base (fun _ => true) held fuel T cs = some x → ∀ (j : Nat) (hj : j < cs.length), ∃ z : Int, cs[j] = .int .i64 z ∧ (Lit.int .i64 z).wf = true
theorem AllInt.int {T : TypeId} (hT : Try.prog.underlying T = some (.int .i64)) : AllInt T := by
  intro H enc w base held fuel cs x h j hj
  obtain ⟨z, rfl, _, hw⟩ := DataW.trod_int hT h
  have : j = 0 := by simpa using hj
  subst this
  exact ⟨z, rfl, hw⟩
theorem AllInt.struct {T : TypeId} {fs : Array Field} (hT : Try.prog.underlying T = some (.struct fs))
    (hc : ∀ j, j < Try.prog.cellsOf T → ∃ (i : Nat) (f : Field), fs[i]? = some f ∧ f.offset ≤ j ∧ j < f.offset + Try.prog.cellsOf f.type ∧ AllInt f.type) : AllInt T := by
  intro H enc w base held fuel cs x h j hj
  obtain ⟨xs, n, _, rfl, hl, hlen, hf⟩ := DataW.trod_struct hT h
  obtain ⟨i, f, hi, h1, h2, ha⟩ := hc j (by omega)
  have hif : i < fs.size := (Array.getElem?_eq_some_iff.1 hi).1
  have g := hf i f hi
  obtain ⟨y, hy⟩ : ∃ y, xs[i]? = some y := ⟨xs[i]'(by omega), List.getElem?_eq_getElem (by omega)⟩
  rw [hy] at g
  have hlt : j - f.offset < ((cs.drop f.offset).take (Try.prog.cellsOf f.type)).length := by
    rw [List.length_take, List.length_drop]; omega
  obtain ⟨z, hz, hw⟩ := ha g (j - f.offset) hlt
  refine ⟨z, ?_, hw⟩
  rw [← hz, List.getElem_take, List.getElem_drop]
  simp only [show f.offset + (j - f.offset) = j by omega]
theorem ints_list {cs : List Value} (h : ∀ (j : Nat) (hj : j < cs.length), ∃ z : Int, cs[j] = .int .i64 z ∧ (Lit.int .i64 z).wf = true) :
    ∃ zs : List Int, cs = zs.map (Value.int .i64) ∧ ∀ z ∈ zs, (Lit.int .i64 z).wf = true := by
  induction cs with
  | nil => exact ⟨[], rfl, by simp⟩
  | cons c cs ih =>
    obtain ⟨z, hz, hw⟩ := h 0 (by simp)
    obtain ⟨zs, hzs, hws⟩ := ih (fun j hj => h (j + 1) (by simpa using hj))
    refine ⟨z :: zs, by simp at hz; simp [hz, hzs], fun y hy => ?_⟩
    rcases List.mem_cons.1 hy with rfl | hy
    · exact hw
    · exact hws y hy
/-- A slice of structs of k integers each. -/
def Rows (w : World) (A : Option Addr) (k : Nat) (zs : List (List Int)) : Prop :=
  zs = [] ∨ ∃ b o, A = some ⟨b, o, none⟩ ∧ ∀ i (h : i < zs.length), zs[i].length = k ∧ ∀ j (hj : j < zs[i].length), w.cell? ⟨b, o + i * k + j, none⟩ = some (.int .i64 zs[i][j])
theorem open_rows (k : Nat) {H : Type} {enc : TypeId × Value → H} {w : World} {base : Nat} {held : Bool} {fuel : Nat} {v : Value} {x : DataW H × List MemPlace} {T E : TypeId} (hT : Try.prog.underlying T = some (.slice E))
    (hk : Try.prog.cellsOf E = k) (hk0 : 0 < k) (ha : AllInt E) (h : DataW.trod enc Try.prog w base (fun _ => true) held fuel T [v] = some x) :
    ∃ A c zs, v = .slice A zs.length c ∧ Rows w A k zs ∧ zs.length ≤ maxLen ∧ ∀ r ∈ zs, ∀ z ∈ r, (Lit.int .i64 z).wf = true := by
  rcases Go.Deep.open_slice hT h with ⟨hcs, _⟩ | ⟨a, len, cap, m, n, D, Pl, hcs, _, hl, hm, hmm, _, hx⟩
  · injection hcs with hcs _
    exact ⟨none, 0, [], hcs, .inl rfl, Nat.zero_le _, fun r hr => by simp at hr⟩
  · injection hcs with hcs _
    subst hcs
    simp only [if_true] at hmm
    subst hmm
    rw [hk] at hx
    have each : ∀ i, i < len → ∃ zs : List Int, zs.length = k ∧ (∀ j (hj : j < zs.length), w.cell? ((a.add (i * k)).add j) = some (.int .i64 zs[j])) ∧ ∀ z ∈ zs, (Lit.int .i64 z).wf = true := by
      intro i hi
      obtain ⟨cs', h1, h2⟩ := hx i (by omega)
      obtain ⟨_, hlen, hcell⟩ := World.cells?_some h1
      obtain ⟨zs, rfl, hw⟩ := ints_list (ha h2)
      rw [List.length_map] at hlen
      refine ⟨zs, hlen, fun j hj => ?_, hw⟩
      have := hcell j (by omega)
      simpa [hj] using this
    obtain ⟨q, hq⟩ := Go.Deep.choose_lt each
    refine ⟨some a, m, (List.range len).map q, by simp, ?_, by simp; omega, fun r hr z hz => ?_⟩
    · by_cases h0 : len = 0
      · left; subst h0; rfl
      · obtain ⟨b, off, spot⟩ := a
        have hspot : spot = none := by
          obtain ⟨g1, g2, _⟩ := hq 0 (by omega)
          have := World.cell?_spot (g2 0 (by omega))
          simpa [Addr.add] using this
        subst hspot
        refine .inr ⟨b, off, rfl, fun i hi => ?_⟩
        have hi' : i < len := by simpa using hi
        obtain ⟨g1, g2, _⟩ := hq i hi'
        refine ⟨by simpa using g1, fun j hj => ?_⟩
        have := g2 j (by simpa using hj)
        rw [add_plain, add_plain] at this
        simpa using this
    · obtain ⟨i, hi, rfl⟩ := List.mem_map.1 hr
      exact (hq i (by simpa using hi)).2.2 z hz
theorem Rows.get {w : World} {A : Option Addr} {k : Nat} {zs : List (List Int)} (h : Rows w A k zs) {i : Nat} (hi : i < zs.length) :
    ∃ b o, A = some ⟨b, o, none⟩ ∧ zs[i].length = k ∧ ∀ j (hj : j < zs[i].length), w.cell? ⟨b, o + i * k + j, none⟩ = some (.int .i64 zs[i][j]) := by
  rcases h with rfl | ⟨b, o, rfl, h⟩
  · simp at hi
  · exact ⟨b, o, rfl, h i hi⟩
theorem Rows.keep {w w' : World} {A : Option Addr} {k : Nat} {zs : List (List Int)} (h : Rows w A k zs) (hB : Below w.heap.size w w') : Rows w' A k zs := by
  rcases h with rfl | ⟨b, o, rfl, h⟩
  · exact .inl rfl
  · refine .inr ⟨b, o, rfl, fun i hi => ⟨(h i hi).1, fun j hj => ?_⟩⟩
    have c := (h i hi).2 j hj
    exact (hB.cell (p := ⟨b, o + i * k + j, none⟩) (World.block_lt_of_cell? w _ c)).trans c
/-- A struct of integers by value. -/
theorem open_agg_ints {H : Type} {enc : TypeId × Value → H} {w : World} {r : Reach} {base b0 : Nat} {held : Bool} {fuel : Nat} {v : Value} {x : DataW H × List MemPlace} {T : TypeId} {fs : Array Field} (hT : Try.prog.underlying T = some (.struct fs))
    (hv : Value.okWide Try.prog w r b0 T v) (ha : AllInt T) (h : DataW.trod enc Try.prog w base (fun _ => true) held fuel T v.cells.toList = some x) :
    ∃ zs : List Int, v = .agg (zs.map (Value.int .i64)).toArray ∧ zs.length = Try.prog.cellsOf T ∧ ∀ z ∈ zs, (Lit.int .i64 z).wf = true := by
  obtain ⟨cs, rfl, hsz⟩ := okWide_struct hT hv
  obtain ⟨zs, hzs, hw⟩ := ints_list (ha h)
  refine ⟨zs, ?_, ?_, hw⟩
  · have : cs = (zs.map (Value.int .i64)).toArray := by
      have e : cs.toList = zs.map (Value.int .i64) := hzs
      rw [← e]
    rw [this]
  · have := congrArg List.length hzs
    simp [Value.cells] at this
    omega
end Go.Proofs.Ytnbcjjgilndlaaa
/- Messages that are handed in: openers. Helper. -/
namespace Go.Proofs.Ytnbcjjgilndlaaa
open Go.RowKit Go.ChangeShapes Go.WideShapes
set_option linter.unusedVariables false
set_option linter.unusedSimpArgs false
set_option maxRecDepth 100000
theorem ai64 : AllInt 2 := AllInt.int Try.underlying2
theorem aiInt : AllInt 3 := AllInt.int Try.underlying3
theorem aiKey : AllInt 27 := by
  have c1 : Try.prog.cellsOf 2 = 1 := by kernel_rfl
  have c2 : Try.prog.cellsOf 3 = 1 := by kernel_rfl
  have cA : Try.prog.cellsOf 27 = 3 := by kernel_rfl
  refine @AllInt.struct _ _ Try.underlying27 ?_
  intro j hj
  rw [cA] at hj
  have : (0 ≤ j ∧ j < 1) ∨ (1 ≤ j ∧ j < 2) ∨ (2 ≤ j ∧ j < 3) := by omega
  rcases this with h | h | h
  · exact ⟨0, _, rfl, h.1, by show j < 0 + Try.prog.cellsOf 2; omega, ai64⟩
  · exact ⟨1, _, rfl, h.1, by show j < 1 + Try.prog.cellsOf 3; omega, aiInt⟩
  · exact ⟨2, _, rfl, h.1, by show j < 2 + Try.prog.cellsOf 2; omega, ai64⟩
theorem aiEvent : AllInt 29 := by
  have c1 : Try.prog.cellsOf 27 = 3 := by kernel_rfl
  have c2 : Try.prog.cellsOf 3 = 1 := by kernel_rfl
  have c3 : Try.prog.cellsOf 2 = 1 := by kernel_rfl
  have cA : Try.prog.cellsOf 29 = 6 := by kernel_rfl
  refine @AllInt.struct _ _ Try.underlying29 ?_
  intro j hj
  rw [cA] at hj
  have : (0 ≤ j ∧ j < 3) ∨ (3 ≤ j ∧ j < 4) ∨ (4 ≤ j ∧ j < 5) ∨ (5 ≤ j ∧ j < 6) := by omega
  rcases this with h | h | h | h
  · exact ⟨0, _, rfl, h.1, by show j < 0 + Try.prog.cellsOf 27; omega, aiKey⟩
  · exact ⟨1, _, rfl, h.1, by show j < 3 + Try.prog.cellsOf 3; omega, aiInt⟩
  · exact ⟨2, _, rfl, h.1, by show j < 4 + Try.prog.cellsOf 3; omega, aiInt⟩
  · exact ⟨3, _, rfl, h.1, by show j < 5 + Try.prog.cellsOf 2; omega, ai64⟩
theorem aiRecord : AllInt 40 := by
  have c1 : Try.prog.cellsOf 27 = 3 := by kernel_rfl
  have c2 : Try.prog.cellsOf 3 = 1 := by kernel_rfl
  have c3 : Try.prog.cellsOf 2 = 1 := by kernel_rfl
  have cA : Try.prog.cellsOf 40 = 6 := by kernel_rfl
  refine @AllInt.struct _ _ Try.underlying40 ?_
  intro j hj
  rw [cA] at hj
  have : (0 ≤ j ∧ j < 3) ∨ (3 ≤ j ∧ j < 4) ∨ (4 ≤ j ∧ j < 5) ∨ (5 ≤ j ∧ j < 6) := by omega
  rcases this with h | h | h | h
  · exact ⟨0, _, rfl, h.1, by show j < 0 + Try.prog.cellsOf 27; omega, aiKey⟩
  · exact ⟨1, _, rfl, h.1, by show j < 3 + Try.prog.cellsOf 3; omega, aiInt⟩
  · exact ⟨2, _, rfl, h.1, by show j < 4 + Try.prog.cellsOf 3; omega, aiInt⟩
  · exact ⟨3, _, rfl, h.1, by show j < 5 + Try.prog.cellsOf 2; omega, ai64⟩
theorem aiBreak : AllInt 31 := by
  have c1 : Try.prog.cellsOf 3 = 1 := by kernel_rfl
  have c2 : Try.prog.cellsOf 2 = 1 := by kernel_rfl
  have cA : Try.prog.cellsOf 31 = 3 := by kernel_rfl
  refine @AllInt.struct _ _ Try.underlying31 ?_
  intro j hj
  rw [cA] at hj
  have : (0 ≤ j ∧ j < 1) ∨ (1 ≤ j ∧ j < 2) ∨ (2 ≤ j ∧ j < 3) := by omega
  rcases this with h | h | h
  · exact ⟨0, _, rfl, h.1, by show j < 0 + Try.prog.cellsOf 3; omega, aiInt⟩
  · exact ⟨1, _, rfl, h.1, by show j < 1 + Try.prog.cellsOf 3; omega, aiInt⟩
  · exact ⟨2, _, rfl, h.1, by show j < 2 + Try.prog.cellsOf 2; omega, ai64⟩
theorem open_req {H : Type} {enc : TypeId × Value → H} {w : World} {r : Reach} {base b0 : Nat} {held : Bool} {fuel : Nat} {v : Value} {x : DataW H × List MemPlace}
    (hv : Value.okWide Try.prog w r b0 33 v) (h : DataW.trod enc Try.prog w base (fun _ => true) held fuel 33 v.cells.toList = some x) :
    ∃ (q : Rq) (A : Option Addr) (c : Nat), v = .agg (q.c A c).toArray ∧ BytesAt w A q.md ∧ q.md.length ≤ maxLen := by
  obtain ⟨cs, rfl, hsz⟩ := okWide_struct Try.underlying33 hv
  have c1 : Try.prog.cellsOf 24 = 1 := by kernel_rfl
  have c2 : Try.prog.cellsOf 25 = 1 := by kernel_rfl
  have c3 : Try.prog.cellsOf 3 = 1 := by kernel_rfl
  have c4 : Try.prog.cellsOf 22 = 1 := by kernel_rfl
  have c5 : Try.prog.cellsOf 29 = 6 := by kernel_rfl
  have c6 : Try.prog.cellsOf 31 = 3 := by kernel_rfl
  have c7 : Try.prog.cellsOf 2 = 1 := by kernel_rfl
  have cA : Try.prog.cellsOf 33 = 17 := by kernel_rfl
  obtain ⟨xs, k, hk, hxy, hlen, hxl, hf⟩ := DataW.trod_struct Try.underlying33 h
  rw [cA] at hsz
  obtain ⟨l⟩ := cs
  match xs, hxl, l, hsz with
  | [y0, y1, y2, y3, y4, y5, y6, y7, y8, y9], _, [v0, v1, v2, v3, v4, v5, v6, v7, v8, v9, v10, v11, v12, v13, v14, v15, v16], _ =>
    have g0 := hf 0 _ rfl
    have g1 := hf 1 _ rfl
    have g2 := hf 2 _ rfl
    have g3 := hf 3 _ rfl
    have g4 := hf 4 _ rfl
    have g5 := hf 5 _ rfl
    have g6 := hf 6 _ rfl
    have g7 := hf 7 _ rfl
    have g8 := hf 8 _ rfl
    have g9 := hf 9 _ rfl
    simp [Value.cells, c1, c2, c3, c4, c5, c6, c7] at g0 g1 g2 g3 g4 g5 g6 g7 g8 g9
    obtain ⟨z0, e0, _, w0⟩ := DataW.trod_int Try.underlying24 g0
    injection e0 with e0 _
    subst e0
    obtain ⟨z1, e1, _, w1⟩ := DataW.trod_int Try.underlying25 g1
    injection e1 with e1 _
    subst e1
    obtain ⟨z2, e2, _, w2⟩ := DataW.trod_int Try.underlying3 g2
    injection e2 with e2 _
    subst e2
    have hrow : ∃ (A : Option Addr) (len cap : Nat) (l : List UInt8), v3 = .slice A len cap ∧ l.length = len ∧ BytesAt w A l ∧ l.length ≤ maxLen := by
      rcases open_ints Try.underlying22 Try.underlying5 (by kernel_rfl) g3 with ⟨hcs, _⟩ | ⟨a, len, cap, zs, hcs, _, hl, hm, hz, _, hcell, hwz⟩
      · injection hcs with hcs _
        exact ⟨none, 0, 0, [], hcs, rfl, .inl rfl, Nat.zero_le _⟩
      · injection hcs with hcs _
        obtain ⟨l, g1, g2, g3, g4⟩ := isRow_bytes (w := w) (a := some a) (len := len) (cap := cap) (zs := zs) (.inr ⟨a, rfl, hl, hm, by simpa using hz, hcell, hwz⟩)
        exact ⟨some a, len, cap, l, hcs, g1, g2, by omega⟩
    obtain ⟨A, len, cap, l, rfl, rfl, q2, q3⟩ := hrow
    obtain ⟨z4, e4, w4⟩ := aiEvent g4 0 (by simp)
    simp only [List.getElem_cons_zero, List.getElem_cons_succ] at e4
    obtain ⟨z5, e5, w5⟩ := aiEvent g4 1 (by simp)
    simp only [List.getElem_cons_zero, List.getElem_cons_succ] at e5
    obtain ⟨z6, e6, w6⟩ := aiEvent g4 2 (by simp)
    simp only [List.getElem_cons_zero, List.getElem_cons_succ] at e6
    obtain ⟨z7, e7, w7⟩ := aiEvent g4 3 (by simp)
    simp only [List.getElem_cons_zero, List.getElem_cons_succ] at e7
    obtain ⟨z8, e8, w8⟩ := aiEvent g4 4 (by simp)
    simp only [List.getElem_cons_zero, List.getElem_cons_succ] at e8
    obtain ⟨z9, e9, w9⟩ := aiEvent g4 5 (by simp)
    simp only [List.getElem_cons_zero, List.getElem_cons_succ] at e9
    subst e4
    subst e5
    subst e6
    subst e7
    subst e8
    subst e9
    obtain ⟨z10, e10, _, w10⟩ := DataW.trod_int Try.underlying25 g5
    injection e10 with e10 _
    subst e10
    obtain ⟨z11, e11, w11⟩ := aiBreak g6 0 (by simp)
    simp only [List.getElem_cons_zero, List.getElem_cons_succ] at e11
    obtain ⟨z12, e12, w12⟩ := aiBreak g6 1 (by simp)
    simp only [List.getElem_cons_zero, List.getElem_cons_succ] at e12
    obtain ⟨z13, e13, w13⟩ := aiBreak g6 2 (by simp)
    simp only [List.getElem_cons_zero, List.getElem_cons_succ] at e13
    subst e11
    subst e12
    subst e13
    obtain ⟨z14, e14, _, w14⟩ := DataW.trod_int Try.underlying3 g7
    injection e14 with e14 _
    subst e14
    obtain ⟨z15, e15, _, w15⟩ := DataW.trod_int Try.underlying2 g8
    injection e15 with e15 _
    subst e15
    obtain ⟨z16, e16, _, w16⟩ := DataW.trod_int Try.underlying2 g9
    injection e16 with e16 _
    subst e16
    exact ⟨⟨z0, z1, z2, l, z4, z5, z6, z7, z8, z9, z10, z11, z12, z13, z14, z15, z16⟩, A, cap, rfl, q2, q3⟩
theorem open_res {H : Type} {enc : TypeId × Value → H} {w : World} {r : Reach} {base b0 : Nat} {held : Bool} {fuel : Nat} {v : Value} {x : DataW H × List MemPlace}
    (hv : Value.okWide Try.prog w r b0 42 v) (h : DataW.trod enc Try.prog w base (fun _ => true) held fuel 42 v.cells.toList = some x) :
    ∃ (q : Rs) (A : Option Addr) (c : Nat), v = .agg (q.c A c).toArray ∧ IntsAt w A q.vs ∧ q.vs.length ≤ maxLen := by
  obtain ⟨cs, rfl, hsz⟩ := okWide_struct Try.underlying42 hv
  have c1 : Try.prog.cellsOf 37 = 1 := by kernel_rfl
  have c2 : Try.prog.cellsOf 25 = 1 := by kernel_rfl
  have c3 : Try.prog.cellsOf 34 = 1 := by kernel_rfl
  have c4 : Try.prog.cellsOf 2 = 1 := by kernel_rfl
  have c5 : Try.prog.cellsOf 38 = 1 := by kernel_rfl
  have c6 : Try.prog.cellsOf 40 = 6 := by kernel_rfl
  have c7 : Try.prog.cellsOf 29 = 6 := by kernel_rfl
  have cA : Try.prog.cellsOf 42 = 18 := by kernel_rfl
  obtain ⟨xs, k, hk, hxy, hlen, hxl, hf⟩ := DataW.trod_struct Try.underlying42 h
  rw [cA] at hsz
  obtain ⟨l⟩ := cs
  match xs, hxl, l, hsz with
  | [y0, y1, y2, y3, y4, y5, y6, y7], _, [v0, v1, v2, v3, v4, v5, v6, v7, v8, v9, v10, v11, v12, v13, v14, v15, v16, v17], _ =>
    have g0 := hf 0 _ rfl
    have g1 := hf 1 _ rfl
    have g2 := hf 2 _ rfl
    have g3 := hf 3 _ rfl
    have g4 := hf 4 _ rfl
    have g5 := hf 5 _ rfl
    have g6 := hf 6 _ rfl
    have g7 := hf 7 _ rfl
    simp [Value.cells, c1, c2, c3, c4, c5, c6, c7] at g0 g1 g2 g3 g4 g5 g6 g7
    obtain ⟨z0, e0, _, w0⟩ := DataW.trod_int Try.underlying37 g0
    injection e0 with e0 _
    subst e0
    obtain ⟨z1, e1, _, w1⟩ := DataW.trod_int Try.underlying25 g1
    injection e1 with e1 _
    subst e1
    obtain ⟨z2, e2, _, w2⟩ := DataW.trod_int Try.underlying34 g2
    injection e2 with e2 _
    subst e2
    obtain ⟨z3, e3, _, w3⟩ := DataW.trod_int Try.underlying2 g3
    injection e3 with e3 _
    subst e3
    have hrow : ∃ (A : Option Addr) (len cap : Nat) (l : List Int), v4 = .slice A len cap ∧ l.length = len ∧ IntsAt w A l ∧ l.length ≤ maxLen := by
      rcases open_ints Try.underlying38 Try.underlying2 (by kernel_rfl) g4 with ⟨hcs, _⟩ | ⟨a, len, cap, zs, hcs, _, hl, hm, hz, _, hcell, hwz⟩
      · injection hcs with hcs _
        exact ⟨none, 0, 0, [], hcs, rfl, .inl rfl, Nat.zero_le _⟩
      · injection hcs with hcs _
        obtain ⟨ns, g1, g2, g3⟩ := ints_of hl (by simpa using hz) hcell hwz
        exact ⟨some a, len, cap, ns, hcs, g1, g2, by omega⟩
    obtain ⟨A, len, cap, l, rfl, rfl, q2, q3⟩ := hrow
    obtain ⟨z5, e5, w5⟩ := aiRecord g5 0 (by simp)
    simp only [List.getElem_cons_zero, List.getElem_cons_succ] at e5
    obtain ⟨z6, e6, w6⟩ := aiRecord g5 1 (by simp)
    simp only [List.getElem_cons_zero, List.getElem_cons_succ] at e6
    obtain ⟨z7, e7, w7⟩ := aiRecord g5 2 (by simp)
    simp only [List.getElem_cons_zero, List.getElem_cons_succ] at e7
    obtain ⟨z8, e8, w8⟩ := aiRecord g5 3 (by simp)
    simp only [List.getElem_cons_zero, List.getElem_cons_succ] at e8
    obtain ⟨z9, e9, w9⟩ := aiRecord g5 4 (by simp)
    simp only [List.getElem_cons_zero, List.getElem_cons_succ] at e9
    obtain ⟨z10, e10, w10⟩ := aiRecord g5 5 (by simp)
    simp only [List.getElem_cons_zero, List.getElem_cons_succ] at e10
    subst e5
    subst e6
    subst e7
    subst e8
    subst e9
    subst e10
    obtain ⟨z11, e11, _, w11⟩ := DataW.trod_int Try.underlying25 g6
    injection e11 with e11 _
    subst e11
    obtain ⟨z12, e12, w12⟩ := aiEvent g7 0 (by simp)
    simp only [List.getElem_cons_zero, List.getElem_cons_succ] at e12
    obtain ⟨z13, e13, w13⟩ := aiEvent g7 1 (by simp)
    simp only [List.getElem_cons_zero, List.getElem_cons_succ] at e13
    obtain ⟨z14, e14, w14⟩ := aiEvent g7 2 (by simp)
    simp only [List.getElem_cons_zero, List.getElem_cons_succ] at e14
    obtain ⟨z15, e15, w15⟩ := aiEvent g7 3 (by simp)
    simp only [List.getElem_cons_zero, List.getElem_cons_succ] at e15
    obtain ⟨z16, e16, w16⟩ := aiEvent g7 4 (by simp)
    simp only [List.getElem_cons_zero, List.getElem_cons_succ] at e16
    obtain ⟨z17, e17, w17⟩ := aiEvent g7 5 (by simp)
    simp only [List.getElem_cons_zero, List.getElem_cons_succ] at e17
    subst e12
    subst e13
    subst e14
    subst e15
    subst e16
    subst e17
    exact ⟨⟨z0, z1, z2, z3, l, z5, z6, z7, z8, z9, z10, z11, z12, z13, z14, z15, z16, z17⟩, A, cap, rfl, q2, q3⟩
end Go.Proofs.Ytnbcjjgilndlaaa
