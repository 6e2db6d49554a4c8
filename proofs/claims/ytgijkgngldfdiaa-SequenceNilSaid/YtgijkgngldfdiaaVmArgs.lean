/- Openers of arguments: programs and states by value, events. Helper. -/
import Derived.Test.YtgijkgngldfdiaaVmRunNo
import Derived.Test.YtgijkgngldfdiaaVmKinds
import Derived.Test.YtgijkgngldfdiaaOpen
namespace Go.Proofs.Ytgijkgngldfdiaa
open Go.RowKit Go.ChangeShapes Go.WideShapes
set_option linter.unusedVariables false
set_option linter.unusedSimpArgs false
set_option maxRecDepth 100000
theorem ai64 : AllInt 2 := AllInt.int Try.underlying2
theorem aiInt : AllInt 3 := AllInt.int Try.underlying3
theorem aiOp : AllInt 108 := AllInt.int Try.underlying108
theorem aiKey : AllInt 38 := by
  have c2 : Try.prog.cellsOf 2 = 1 := by kernel_rfl
  have c3 : Try.prog.cellsOf 3 = 1 := by kernel_rfl
  have cA : Try.prog.cellsOf 38 = 3 := by kernel_rfl
  refine @AllInt.struct _ _ Try.underlying38 ?_
  intro j hj
  rw [cA] at hj
  have : j = 0 ∨ j = 1 ∨ j = 2 := by omega
  rcases this with rfl | rfl | rfl
  · exact ⟨0, _, rfl, by decide, by show 0 < 0 + Try.prog.cellsOf 2; omega, ai64⟩
  · exact ⟨1, _, rfl, by decide, by show 1 < 1 + Try.prog.cellsOf 3; omega, aiInt⟩
  · exact ⟨2, _, rfl, by decide, by show 2 < 2 + Try.prog.cellsOf 2; omega, ai64⟩
theorem aiEvent : AllInt 44 := by
  have c2 : Try.prog.cellsOf 2 = 1 := by kernel_rfl
  have c3 : Try.prog.cellsOf 3 = 1 := by kernel_rfl
  have cK : Try.prog.cellsOf 38 = 3 := by kernel_rfl
  have cA : Try.prog.cellsOf 44 = 6 := by kernel_rfl
  refine @AllInt.struct _ _ Try.underlying44 ?_
  intro j hj
  rw [cA] at hj
  have : j < 3 ∨ j = 3 ∨ j = 4 ∨ j = 5 := by omega
  rcases this with h | rfl | rfl | rfl
  · exact ⟨0, _, rfl, by simp, by show j < 0 + Try.prog.cellsOf 38; omega, aiKey⟩
  · exact ⟨1, _, rfl, by decide, by show 3 < 3 + Try.prog.cellsOf 3; omega, aiInt⟩
  · exact ⟨2, _, rfl, by decide, by show 4 < 4 + Try.prog.cellsOf 3; omega, aiInt⟩
  · exact ⟨3, _, rfl, by decide, by show 5 < 5 + Try.prog.cellsOf 2; omega, ai64⟩
theorem aiInstr : AllInt 110 := by
  have c2 : Try.prog.cellsOf 2 = 1 := by kernel_rfl
  have c3 : Try.prog.cellsOf 108 = 1 := by kernel_rfl
  have cA : Try.prog.cellsOf 110 = 2 := by kernel_rfl
  refine @AllInt.struct _ _ Try.underlying110 ?_
  intro j hj
  rw [cA] at hj
  have : j = 0 ∨ j = 1 := by omega
  rcases this with rfl | rfl
  · exact ⟨0, _, rfl, by decide, by show 0 < 0 + Try.prog.cellsOf 108; omega, aiOp⟩
  · exact ⟨1, _, rfl, by decide, by show 1 < 1 + Try.prog.cellsOf 2; omega, ai64⟩
theorem six {zs : List Int} (h : zs.length = 6) : ∃ a b c d e f, zs = [a, b, c, d, e, f] := by
  match zs, h with
  | [a, b, c, d, e, f], _ => exact ⟨a, b, c, d, e, f, rfl⟩
/-- Rows of two as instructions. -/
theorem raw_of_rows {w : World} {A : Option Addr} {zs : List (List Int)} (h : Rows w A 2 zs) : ∃ l : List (Int × Int), l.length = zs.length ∧ RawAt w A l := by
  refine ⟨zs.map fun r => (r.getD 0 0, r.getD 1 0), by simp, ?_⟩
  rcases h with rfl | ⟨b, o, rfl, h⟩
  · exact .inl rfl
  · refine .inr ⟨b, o, rfl, fun j hj => ?_⟩
    have hj' : j < zs.length := by simpa using hj
    obtain ⟨hl, hc⟩ := h j hj'
    have c0 := hc 0 (by omega)
    have c1 := hc 1 (by omega)
    simp only [List.getElem_map, List.getD_eq_getElem?_getD]
    rw [List.getElem?_eq_getElem (show 0 < zs[j].length by omega), List.getElem?_eq_getElem (show 1 < zs[j].length by omega)]
    exact ⟨by simpa using c0, by simpa using c1⟩
theorem open_kinds {H : Type} {enc : TypeId × Value → H} {w : World} {base : Nat} {held : Bool} {fuel : Nat} {v : Value} {x : DataW H × List MemPlace}
    (h : DataW.trod enc Try.prog w base (fun _ => true) held fuel 75 [v] = some x) :
    ∃ A c ks, v = .slice A ks.length c ∧ RKinds w A ks ∧ ks.length ≤ maxLen := by
  rcases Go.Deep.open_slice Try.underlying75 h with ⟨hcs, _⟩ | ⟨a, len, cap, m, n, D, Pl, hcs, _, hl, hm, hmm, _, hx⟩
  · injection hcs with hcs _
    exact ⟨none, 0, [], hcs, .inl rfl, Nat.zero_le _⟩
  · injection hcs with hcs _
    subst hcs
    simp only [if_true] at hmm
    subst hmm
    have z1 : Try.prog.cellsOf 107 = 1 := by kernel_rfl
    have z2 : Try.prog.cellsOf 110 = 2 := by kernel_rfl
    have each : ∀ i, i < len → ∃ q : List (Int × Int) × Option Addr × Nat, w.cell? ((a.add (i * 1)).add 0) = some (.slice q.2.1 q.1.length q.2.2) ∧ RawAt w q.2.1 q.1 ∧ q.1.length ≤ maxLen := by
      intro i hi
      obtain ⟨cs', h1, h2⟩ := hx i (by omega)
      rw [z1] at h1
      obtain ⟨_, hlen, hcell⟩ := World.cells?_some h1
      have e0 := hcell 0 (by omega)
      match cs', hlen with
      | [v'], _ =>
        obtain ⟨A, c, zs, hv, g1, g2, _⟩ := open_rows 2 Try.underlying107 z2 (by decide) aiInstr h2
        obtain ⟨l, hl, hr⟩ := raw_of_rows g1
        refine ⟨(l, A, c), ?_, hr, by show l.length ≤ _; omega⟩
        rw [e0]
        simp [hv, hl]
    obtain ⟨q, hq⟩ := Go.Deep.choose_lt each
    refine ⟨some a, m, (List.range len).map fun i => (q i).1, by simp, ?_, by simp; omega⟩
    by_cases h0 : len = 0
    · left; subst h0; rfl
    · obtain ⟨b, off, spot⟩ := a
      have hspot : spot = none := by
        have := World.cell?_spot (hq 0 (by omega)).1
        simpa [Addr.add] using this
      subst hspot
      refine .inr ⟨b, off, rfl, fun i hi => ?_⟩
      have hi' : i < len := by simpa using hi
      obtain ⟨g0, g1, g2⟩ := hq i hi'
      rw [add_plain, add_plain] at g0
      exact ⟨(q i).2.1, (q i).2.2, by simpa using g0, by simpa using g1, by simpa using g2⟩
/-- A program by value. -/
theorem open_prog {H : Type} {enc : TypeId × Value → H} {w : World} {r : Reach} {base b0 : Nat} {held : Bool} {fuel : Nat} {v : Value} {x : DataW H × List MemPlace}
    (hv : Value.okWide Try.prog w r b0 77 v) (h : DataW.trod enc Try.prog w base (fun _ => true) held fuel 77 v.cells.toList = some x) :
    ∃ vars A ks c, v = .agg #[.int .i64 vars, .slice A ks.length c] ∧ (Lit.int .i64 vars).wf = true ∧ RKinds w A ks ∧ ks.length ≤ maxLen := by
  obtain ⟨cs, rfl, hsz⟩ := okWide_struct Try.underlying77 hv
  have c3 : Try.prog.cellsOf 3 = 1 := by kernel_rfl
  have c4 : Try.prog.cellsOf 75 = 1 := by kernel_rfl
  have cA : Try.prog.cellsOf 77 = 2 := by kernel_rfl
  obtain ⟨y0, y1, n, _, hl, h0, h1⟩ := trod_struct2 Try.underlying77 h
  rw [cA] at hsz
  obtain ⟨l⟩ := cs
  match l, hsz with
  | [v0, v1], _ =>
    simp [Value.cells, c3, c4] at h0 h1
    obtain ⟨z, e0, _, hw⟩ := DataW.trod_int Try.underlying3 h0
    injection e0 with e0 _
    subst e0
    obtain ⟨A, c, ks, rfl, g1, g2⟩ := open_kinds h1
    exact ⟨z, A, ks, c, rfl, hw, g1, g2⟩
/-- A state by value. -/
theorem open_state {H : Type} {enc : TypeId × Value → H} {w : World} {r : Reach} {base b0 : Nat} {held : Bool} {fuel : Nat} {v : Value} {x : DataW H × List MemPlace}
    (hv : Value.okWide Try.prog w r b0 65 v) (h : DataW.trod enc Try.prog w base (fun _ => true) held fuel 65 v.cells.toList = some x) :
    ∃ A l c sent drawn, v = .agg #[.slice A l.length c, .int .i64 sent, .int .i64 drawn] ∧ Rd w A (ints l) ∧ l.length ≤ maxLen ∧ (∀ z ∈ l, (Lit.int .i64 z).wf = true) ∧ (Lit.int .i64 sent).wf = true ∧ (Lit.int .i64 drawn).wf = true := by
  obtain ⟨cs, rfl, hsz⟩ := okWide_struct Try.underlying65 hv
  have c3 : Try.prog.cellsOf 2 = 1 := by kernel_rfl
  have c4 : Try.prog.cellsOf 40 = 1 := by kernel_rfl
  have cA : Try.prog.cellsOf 65 = 3 := by kernel_rfl
  obtain ⟨xs, k, hk, hxy, hlen, hxl, hf⟩ := DataW.trod_struct Try.underlying65 h
  rw [cA] at hsz
  obtain ⟨l⟩ := cs
  match xs, hxl, l, hsz with
  | [y0, y1, y2], _, [v0, v1, v2], _ =>
    have g0 := hf 0 _ rfl
    have g1 := hf 1 _ rfl
    have g2 := hf 2 _ rfl
    simp [Value.cells, c3, c4] at g0 g1 g2
    obtain ⟨z1, e1, _, w1⟩ := DataW.trod_int Try.underlying2 g1
    obtain ⟨z2, e2, _, w2⟩ := DataW.trod_int Try.underlying2 g2
    injection e1 with e1 _
    injection e2 with e2 _
    subst e1 e2
    rcases open_ints Try.underlying40 Try.underlying2 (by kernel_rfl) g0 with ⟨hcs, _⟩ | ⟨a, len, cap, zs, hcs, _, hl, hm, hz, _, hcell, hwz⟩
    · injection hcs with hcs _
      subst hcs
      exact ⟨none, [], 0, z1, z2, rfl, .inl rfl, Nat.zero_le _, fun z hz => by simp at hz, w1, w2⟩
    · injection hcs with hcs _
      subst hcs
      obtain ⟨ns, q1, q2, q3⟩ := ints_of hl (by simpa using hz) hcell hwz
      subst q1
      exact ⟨some a, ns, cap, z1, z2, rfl, q2, by omega, q3, w1, w2⟩
/-- Rows of six as events. -/
theorem open_events {H : Type} {enc : TypeId × Value → H} {w : World} {base : Nat} {held : Bool} {fuel : Nat} {v : Value} {x : DataW H × List MemPlace}
    (h : DataW.trod enc Try.prog w base (fun _ => true) held fuel 23 [v] = some x) :
    ∃ A c zs, v = .slice A zs.length c ∧ Rows w A 6 zs ∧ zs.length ≤ maxLen ∧ ∀ r ∈ zs, ∀ z ∈ r, (Lit.int .i64 z).wf = true :=
  open_rows 6 Try.underlying23 (by kernel_rfl) (by decide) aiEvent h
end Go.Proofs.Ytgijkgngldfdiaa
