/- Openers of arguments: slices of integers, slices of structs of integers, structs of integers by value. -/
import Derived.Test.YtalcafaibmbgjaaDoorProg
import Derived.Test.YtalcafaibmbgjaaDoorMore
import Derived.ProofKit
import Derived.OpenShut
import Derived.ShutString
import Derived.ChangeOld
import Derived.Below
import Derived.Deep.Matrix
import Derived.Deep.Strs
namespace Go.Proofs.YtalcafaibmbgjaaDoor
open Go.RowKit Go.ChangeShapes Go.WideShapes
set_option maxRecDepth 100000
set_option linter.unusedVariables false
set_option linter.unusedSimpArgs false
theorem ints_of {w : World} {x : Addr} {len cap : Nat} {zs : List Int} (hl : len ≤ cap) (hz : zs.length = cap) (h : ∀ i, i < zs.length → w.cell? (x.add i) = some (.int .i64 (zs.getD i 0))) (hw : ∀ z ∈ zs, (Lit.int .i64 z).wf = true) :
    ∃ ns : List Int, ns.length = len ∧ Rd w (some x) (ns.map (Value.int .i64)) ∧ ∀ z ∈ ns, (Lit.int .i64 z).wf = true := by
  refine ⟨zs.take len, by simp; omega, ?_, fun z hz => hw z (List.mem_of_mem_take hz)⟩
  by_cases h0 : len = 0
  · left; subst h0; rfl
  · obtain ⟨b, off, spot⟩ := x
    have hspot : spot = none := by simpa [Addr.add] using World.cell?_spot (h 0 (by omega))
    subst hspot
    refine .inr ⟨b, off, rfl, fun j u hu => ?_⟩
    have hj : j < len := by
      rcases Nat.lt_or_ge j len with h' | h'
      · exact h'
      · rw [List.getElem?_eq_none (by simp; omega)] at hu; cases hu
    have hc := h j (by omega)
    rw [add_plain] at hc
    rw [hc, ← hu]
    simp [hj, List.getD_eq_getElem?_getD, List.getElem?_eq_getElem (show j < zs.length by omega)]
/-- A type all of whose cells are integers of 64 bits. -/
def AllInt (T : TypeId) : Prop := ∀ {H : Type} {enc : TypeId × Value → H} {w : World} {base : Nat} {held : Bool} {fuel : Nat} {cs : List Value} {x : DataW H × List MemPlace},
  DataW.trod enc Tryd.prog w base (fun _ => true) held fuel T cs = some x → ∀ (j : Nat) (hj : j < cs.length), ∃ z : Int, cs[j] = .int .i64 z ∧ (Lit.int .i64 z).wf = true
theorem AllInt.int {T : TypeId} (hT : Tryd.prog.underlying T = some (.int .i64)) : AllInt T := by
  intro H enc w base held fuel cs x h j hj
  obtain ⟨z, rfl, _, hw⟩ := DataW.trod_int hT h
  have : j = 0 := by simpa using hj
  subst this
  exact ⟨z, rfl, hw⟩
theorem AllInt.struct {T : TypeId} {fs : Array Field} (hT : Tryd.prog.underlying T = some (.struct fs))
    (hc : ∀ j, j < Tryd.prog.cellsOf T → ∃ (i : Nat) (f : Field), fs[i]? = some f ∧ f.offset ≤ j ∧ j < f.offset + Tryd.prog.cellsOf f.type ∧ AllInt f.type) : AllInt T := by
  intro H enc w base held fuel cs x h j hj
  obtain ⟨xs, n, _, rfl, hl, hlen, hf⟩ := DataW.trod_struct hT h
  obtain ⟨i, f, hi, h1, h2, ha⟩ := hc j (by omega)
  have hif : i < fs.size := (Array.getElem?_eq_some_iff.1 hi).1
  have g := hf i f hi
  obtain ⟨y, hy⟩ : ∃ y, xs[i]? = some y := ⟨xs[i]'(by omega), List.getElem?_eq_getElem (by omega)⟩
  rw [hy] at g
  have hlt : j - f.offset < ((cs.drop f.offset).take (Tryd.prog.cellsOf f.type)).length := by
    rw [List.length_take, List.length_drop]; omega
  obtain ⟨z, hz, hw⟩ := ha g (j - f.offset) hlt
  refine ⟨z, ?_, hw⟩
  rw [← hz, List.getElem_take, List.getElem_drop]
  simp only [show f.offset + (j - f.offset) = j by omega]
theorem ints_list {cs : List Value} (h : ∀ (j : Nat) (hj : j < cs.length), ∃ z : Int, cs[j] = .int .i64 z ∧ (Lit.int .i64 z).wf = true) :
    ∃ zs : List Int, cs = zs.map (Value.int .i64) ∧ ∀ z ∈ zs, (Lit.int .i64 z).wf = true := by
  induction cs with
  | nil => exact ⟨[], rfl, by simp⟩
  | cons c cs ih =>
    obtain ⟨z, hz, hw⟩ := h 0 (by simp)
    obtain ⟨zs, hzs, hws⟩ := ih (fun j hj => h (j + 1) (by simpa using hj))
    refine ⟨z :: zs, by simp at hz; simp [hz, hzs], fun y hy => ?_⟩
    rcases List.mem_cons.1 hy with rfl | hy
    · exact hw
    · exact hws y hy
/-- A slice of structs of k integers each. -/
def Rows (w : World) (A : Option Addr) (k : Nat) (zs : List (List Int)) : Prop :=
  zs = [] ∨ ∃ b o, A = some ⟨b, o, none⟩ ∧ ∀ i (h : i < zs.length), zs[i].length = k ∧ ∀ j (hj : j < zs[i].length), w.cell? ⟨b, o + i * k + j, none⟩ = some (.int .i64 zs[i][j])
theorem open_rows (k : Nat) {H : Type} {enc : TypeId × Value → H} {w : World} {base : Nat} {held : Bool} {fuel : Nat} {v : Value} {x : DataW H × List MemPlace} {T E : TypeId} (hT : Tryd.prog.underlying T = some (.slice E))
    (hk : Tryd.prog.cellsOf E = k) (hk0 : 0 < k) (ha : AllInt E) (h : DataW.trod enc Tryd.prog w base (fun _ => true) held fuel T [v] = some x) :
    ∃ A c zs, v = .slice A zs.length c ∧ Rows w A k zs ∧ zs.length ≤ maxLen ∧ ∀ r ∈ zs, ∀ z ∈ r, (Lit.int .i64 z).wf = true := by
  rcases Go.Deep.open_slice hT h with ⟨hcs, _⟩ | ⟨a, len, cap, m, n, D, Pl, hcs, _, hl, hm, hmm, _, hx⟩
  · injection hcs with hcs _
    exact ⟨none, 0, [], hcs, .inl rfl, Nat.zero_le _, fun r hr => by simp at hr⟩
  · injection hcs with hcs _
    subst hcs
    simp only [if_true] at hmm
    subst hmm
    rw [hk] at hx
    have each : ∀ i, i < len → ∃ zs : List Int, zs.length = k ∧ (∀ j (hj : j < zs.length), w.cell? ((a.add (i * k)).add j) = some (.int .i64 zs[j])) ∧ ∀ z ∈ zs, (Lit.int .i64 z).wf = true := by
      intro i hi
      obtain ⟨cs', h1, h2⟩ := hx i (by omega)
      obtain ⟨_, hlen, hcell⟩ := World.cells?_some h1
      obtain ⟨zs, rfl, hw⟩ := ints_list (ha h2)
      rw [List.length_map] at hlen
      refine ⟨zs, hlen, fun j hj => ?_, hw⟩
      have := hcell j (by omega)
      simpa [hj] using this
    obtain ⟨q, hq⟩ := Go.Deep.choose_lt each
    refine ⟨some a, m, (List.range len).map q, by simp, ?_, by simp; omega, fun r hr z hz => ?_⟩
    · by_cases h0 : len = 0
      · left; subst h0; rfl
      · obtain ⟨b, off, spot⟩ := a
        have hspot : spot = none := by
          obtain ⟨g1, g2, _⟩ := hq 0 (by omega)
          have := World.cell?_spot (g2 0 (by omega))
          simpa [Addr.add] using this
        subst hspot
        refine .inr ⟨b, off, rfl, fun i hi => ?_⟩
        have hi' : i < len := by simpa using hi
        obtain ⟨g1, g2, _⟩ := hq i hi'
        refine ⟨by simpa using g1, fun j hj => ?_⟩
        have := g2 j (by simpa using hj)
        rw [add_plain, add_plain] at this
        simpa using this
    · obtain ⟨i, hi, rfl⟩ := List.mem_map.1 hr
      exact (hq i (by simpa using hi)).2.2 z hz
theorem Rows.get {w : World} {A : Option Addr} {k : Nat} {zs : List (List Int)} (h : Rows w A k zs) {i : Nat} (hi : i < zs.length) :
    ∃ b o, A = some ⟨b, o, none⟩ ∧ zs[i].length = k ∧ ∀ j (hj : j < zs[i].length), w.cell? ⟨b, o + i * k + j, none⟩ = some (.int .i64 zs[i][j]) := by
  rcases h with rfl | ⟨b, o, rfl, h⟩
  · simp at hi
  · exact ⟨b, o, rfl, h i hi⟩
theorem Rows.keep {w w' : World} {A : Option Addr} {k : Nat} {zs : List (List Int)} (h : Rows w A k zs) (hB : Below w.heap.size w w') : Rows w' A k zs := by
  rcases h with rfl | ⟨b, o, rfl, h⟩
  · exact .inl rfl
  · refine .inr ⟨b, o, rfl, fun i hi => ⟨(h i hi).1, fun j hj => ?_⟩⟩
    have c := (h i hi).2 j hj
    exact (hB.cell (p := ⟨b, o + i * k + j, none⟩) (World.block_lt_of_cell? w _ c)).trans c
/-- A struct of integers by value. -/
theorem open_agg_ints {H : Type} {enc : TypeId × Value → H} {w : World} {r : Reach} {base b0 : Nat} {held : Bool} {fuel : Nat} {v : Value} {x : DataW H × List MemPlace} {T : TypeId} {fs : Array Field} (hT : Tryd.prog.underlying T = some (.struct fs))
    (hv : Value.okWide Tryd.prog w r b0 T v) (ha : AllInt T) (h : DataW.trod enc Tryd.prog w base (fun _ => true) held fuel T v.cells.toList = some x) :
    ∃ zs : List Int, v = .agg (zs.map (Value.int .i64)).toArray ∧ zs.length = Tryd.prog.cellsOf T ∧ ∀ z ∈ zs, (Lit.int .i64 z).wf = true := by
  obtain ⟨cs, rfl, hsz⟩ := okWide_struct hT hv
  obtain ⟨zs, hzs, hw⟩ := ints_list (ha h)
  refine ⟨zs, ?_, ?_, hw⟩
  · have : cs = (zs.map (Value.int .i64)).toArray := by
      have e : cs.toList = zs.map (Value.int .i64) := hzs
      rw [← e]
    rw [this]
  · have := congrArg List.length hzs
    simp [Value.cells] at this
    omega
end Go.Proofs.YtalcafaibmbgjaaDoor
