/- OutboxCopies: for every input the law returns true, and what was handed in reads as it did. No condition. -/
import Derived.Test.YtmjikfhabfodkaaRows
import Derived.WalkKit
import Derived.ProofKit
import Derived.OpenShut
import Derived.ShutString
import Derived.ChangeOld
import Derived.Below
import Derived.Deep.Matrix
import Derived.Deep.Strs
import Derived.Test.YtmjikfhabfodkaaCopWalk
namespace Go.Proofs.Ytmjikfhabfodkaa
open Go.RowKit Go.ChangeShapes Go.WideShapes
set_option linter.unusedVariables false
set_option linter.unusedSimpArgs false
theorem act_of {H : Type} {enc : TypeId × Value → H} {w : World} {base : Nat} {held : Bool} {fuel : Nat} {cs : List Value} {x : DataW H × List MemPlace} {f0 f1 f2 : Field} (he : Try.prog.underlying 39 = some (.struct #[f0, f1, f2]))
    (o0 : f0.offset = 0 ∧ f0.type = 3) (o1 : f1.offset = 1 ∧ f1.type = 27) (o2 : f2.offset = 2 ∧ f2.type = 3) (h : DataW.trod enc Try.prog w base (fun _ => true) held fuel 39 cs = some x) (hl : cs.length = 3) :
    ∃ (k : Int) (A : Option Addr) (l : List UInt8) (c : Nat) (N : Int), cs = [.int .i64 k, .slice A l.length c, .int .i64 N] ∧ BytesAt w A l ∧ l.length ≤ maxLen := by
  obtain ⟨xs, k, hk, hxy, _, hxl, hf⟩ := DataW.trod_struct he h
  match xs, hxl, cs, hl with
  | [y0, y1, y2], _, [v0, v1, v2], _ =>
    have g0 := hf 0 f0 rfl
    have g1 := hf 1 f1 rfl
    have g2 := hf 2 f2 rfl
    have z3 : Try.prog.cellsOf 3 = 1 := by kernel_rfl
    have z27 : Try.prog.cellsOf 27 = 1 := by kernel_rfl
    simp [o0.1, o0.2, o1.1, o1.2, o2.1, o2.2, z3, z27] at g0 g1 g2
    obtain ⟨k0, e0, _, _⟩ := DataW.trod_int Try.underlying3 g0
    obtain ⟨k2, e2, _, _⟩ := DataW.trod_int Try.underlying3 g2
    injection e0 with e0 _
    injection e2 with e2 _
    subst e0 e2
    have hrow : ∃ (A : Option Addr) (len cap : Nat) (l : List UInt8), v1 = .slice A len cap ∧ l.length = len ∧ BytesAt w A l ∧ len ≤ cap ∧ cap ≤ maxLen := by
      rcases open_ints Try.underlying27 Try.underlying5 (by kernel_rfl) g1 with ⟨hcs, _⟩ | ⟨a, len, cap, zs, hcs, _, hl, hm, hz, _, hcell, hwz⟩
      · injection hcs with hcs _
        exact ⟨none, 0, 0, [], hcs, rfl, .inl rfl, Nat.le_refl _, Nat.zero_le _⟩
      · injection hcs with hcs _
        obtain ⟨l, g1, g2, g3, g4⟩ := isRow_bytes (w := w) (a := some a) (len := len) (cap := cap) (zs := zs) (.inr ⟨a, rfl, hl, hm, by simpa using hz, hcell, hwz⟩)
        exact ⟨some a, len, cap, l, hcs, g1, g2, g3, g4⟩
    obtain ⟨A, len, cap, l, rfl, rfl, q2, q3, q4⟩ := hrow
    exact ⟨k0, A, l, cap, k2, rfl, q2, by omega⟩
theorem und39 : ∃ f0 f1 f2, Try.prog.underlying 39 = some (.struct #[f0, f1, f2]) ∧ (f0.offset = 0 ∧ f0.type = 3) ∧ (f1.offset = 1 ∧ f1.type = 27) ∧ (f2.offset = 2 ∧ f2.type = 3) := ⟨_, _, _, Try.underlying39, ⟨rfl, rfl⟩, ⟨rfl, rfl⟩, ⟨rfl, rfl⟩⟩
theorem acts_of {H : Type} {enc : TypeId × Value → H} {w : World} {base : Nat} {held : Bool} {fuel : Nat} {v : Value} {x : DataW H × List MemPlace} (h : DataW.trod enc Try.prog w base (fun _ => true) held fuel 33 [v] = some x) :
    ∃ A c ts, v = .slice A ts.length c ∧ Acts w A ts ∧ ts.length ≤ maxLen ∧ ∀ i (h : i < ts.length), ts[i].2.1.length ≤ maxLen := by
  obtain ⟨f0, f1, f2, he, o0, o1, o2⟩ := und39
  rcases Go.Deep.open_slice Try.underlying33 h with ⟨hcs, _⟩ | ⟨a, len, cap, m, n, D, Pl, hcs, _, hl, hm, hmm, _, hx⟩
  · injection hcs with hcs _
    exact ⟨none, 0, [], hcs, .inl rfl, Nat.zero_le _, fun i hi => by simp at hi⟩
  · injection hcs with hcs _
    subst hcs
    simp only [if_true] at hmm
    subst hmm
    have z39 : Try.prog.cellsOf 39 = 3 := by kernel_rfl
    have each : ∀ i, i < len → ∃ q : (Int × List UInt8 × Int) × Option Addr × Nat, w.cell? ((a.add (i * 3)).add 0) = some (.int .i64 q.1.1) ∧ w.cell? ((a.add (i * 3)).add 1) = some (.slice q.2.1 q.1.2.1.length q.2.2) ∧ w.cell? ((a.add (i * 3)).add 2) = some (.int .i64 q.1.2.2) ∧ BytesAt w q.2.1 q.1.2.1 ∧ q.1.2.1.length ≤ maxLen := by
      intro i hi
      obtain ⟨cs', h1, h2⟩ := hx i (by omega)
      rw [z39] at h1
      obtain ⟨_, hlen, hcell⟩ := World.cells?_some h1
      obtain ⟨k, A, l, c, N, rfl, hb, hll⟩ := act_of he o0 o1 o2 h2 hlen
      have e0 := hcell 0 (by omega)
      have e1 := hcell 1 (by omega)
      have e2 := hcell 2 (by omega)
      exact ⟨((k, l, N), A, c), by simpa using e0, by simpa using e1, by simpa using e2, hb, hll⟩
    obtain ⟨q, hq⟩ := Go.Deep.choose_lt each
    refine ⟨some a, m, (List.range len).map fun i => (q i).1, by simp, ?_, by simp; omega, fun i hi => by simpa using (hq i (by simpa using hi)).2.2.2.2⟩
    by_cases h0 : len = 0
    · left; subst h0; rfl
    · obtain ⟨b, off, spot⟩ := a
      have hspot : spot = none := by
        have := World.cell?_spot (hq 0 (by omega)).1
        simpa [Addr.add] using this
      subst hspot
      refine .inr ⟨b, off, rfl, fun i hi => ?_⟩
      have hi' : i < len := by simpa using hi
      obtain ⟨g0, g1, g2, g3, _⟩ := hq i hi'
      rw [add_plain, add_plain] at g0 g1 g2
      exact ⟨(q i).2.1, (q i).2.2, by simpa using g0, by simpa using g1, by simpa using g2, by simpa using g3⟩
def ActsOk (w : World) (A : Option Addr) (ts : List (Int × List UInt8 × Int)) : Prop := Acts w A ts ∧ ts.length ≤ maxLen ∧ ∀ i (h : i < ts.length), ts[i].2.1.length ≤ maxLen
end Go.Proofs.Ytmjikfhabfodkaa
namespace Go.Proofs.Ytmjikfhabfodkaa.outboxCopies
open Go.ChangeShapes Go.WideShapes Go.ChangeAt Go.RowKit
set_option linter.unusedVariables false
theorem own : ownKnob Try.prog.godebug = none := by kernel_rfl
theorem laidOut : laidOutB Try.prog = true := by kernel_rfl
theorem walk (n : Int) (A1 : Option Addr) (t1 : List (Int × List UInt8 × Int)) (c1 : Nat) (A2 : Option Addr) (t2 : List (Int × List UInt8 × Int)) (c2 : Nat) (A3 : Option Addr) (t3 : List (Int × List UInt8 × Int)) (c3 : Nat) (w : World) (hn : (Lit.int .i64 n).wf = true) (h1 : ActsOk w A1 t1) (h2 : ActsOk w A2 t2) (h3 : ActsOk w A3 t3) :
    Calls Try.prog 5 #[.int .i64 n, .slice A1 t1.length c1, .slice A2 t2.length c2, .slice A3 t3.length c3] w fun e w' => e = .returned (.bool true) ∧ Below w.heap.size w w' := by
  obtain ⟨a1, b1, d1⟩ := h1
  obtain ⟨a2, b2, d2⟩ := h2
  obtain ⟨a3, b3, d3⟩ := h3
  unfold maxLen at *
  exact Copies_walk n A1 A2 A3 t1 t2 t3 c1 c2 c3 w a1 a2 a3 (by omega) (by omega) (by omega) (fun i h => by have := d1 i h; omega) (fun i h => by have := d2 i h; omega) (fun i h => by have := d3 i h; omega) (wf_i64 hn)
set_option maxRecDepth 100000 in
theorem lifted (os : Os) (started : os.Started) (H : Type) (enc : TypeId × Value → H) :
    ReturnsInHanded {} Try.checked os 5 .any (Rows.outboxCopiesSpec.pre6 enc Try.prog Try.f5 Rows.outboxCopiesRow.domain false) (Rows.outboxCopiesSpec.post enc Try.prog Try.f5 false true false false) := by
  refine returnsInHanded_of_change (C := Try.checked) own started (by kernel_rfl) Try.func5
    (ChangeSpec.witness6 (enc := enc) (C := Try.checked) false ⟨#[], #[.int .i64 0, .slice none 0 0, .slice none 0 0, .slice none 0 0], []⟩ 8 (by kernel_rfl) (by kernel_rfl) (by kernel_rfl) (by kernel_rfl)) ?_
  intro W base args ds gs before hval0 hW hcnd _
  have hval : ∀ (j : Nat) t v, Try.f5.params[j]? = some t → args[j]? = some v → Value.okWide Try.prog W .any base t v := hval0
  have hW' := hW
  obtain ⟨p, q, hA0, hV, rfl, hfz, hnd⟩ := hW
  have hA : DataW.TrodAll enc Try.prog W 0 (fun _ => true) true Try.f5.params.toList args.toList ds p := hA0
  rw [Try.params5] at hA hval
  obtain ⟨v0, vs0, d0, ds0, p0, q0, hargs, rfl, rfl, h0, r0x⟩ := trodAll_cons hA
  obtain ⟨v1, vs1, d1, ds1, p1, q1, rfl, rfl, rfl, h1, r1x⟩ := trodAll_cons r0x
  obtain ⟨v2, vs2, d2, ds2, p2, q2, rfl, rfl, rfl, h2, r2x⟩ := trodAll_cons r1x
  obtain ⟨v3, vs3, d3, ds3, p3, q3, rfl, rfl, rfl, h3, r3x⟩ := trodAll_cons r2x
  obtain ⟨rfl, rfl, rfl⟩ := trodAll_nil r3x
  obtain rfl : args = #[v0, v1, v2, v3] := by cases args; simp_all
  obtain ⟨rfl, rfl⟩ := trodVars_none hV
  have k1 := h1
  have lt1 : ∀ x ∈ p1, x.block < W.heap.size := by obtain ⟨m, hm⟩ := k1; exact DataW.trod_lt m _ _ _ hm
  have k2 := h2
  have lt2 : ∀ x ∈ p2, x.block < W.heap.size := by obtain ⟨m, hm⟩ := k2; exact DataW.trod_lt m _ _ _ hm
  have k3 := h3
  have lt3 : ∀ x ∈ p3, x.block < W.heap.size := by obtain ⟨m, hm⟩ := k3; exact DataW.trod_lt m _ _ _ hm
  obtain ⟨n0, rfl, rfl, rfl, w0⟩ := open_int Try.underlying3 (hval 0 3 v0 rfl rfl) h0
  obtain ⟨a1, len1, cap1, rfl⟩ := okWide_slice Try.underlying33 (hval 1 33 v1 rfl rfl)
  obtain ⟨xs1, hxl1, w1⟩ : ∃ xs, List.length xs = len1 ∧ ActsOk W a1 xs := by
    obtain ⟨fuel, hf⟩ := h1
    obtain ⟨A, c, ts, hv, g⟩ := acts_of (by simpa [Value.cells] using hf)
    injection hv with e1 e2 e3
    subst e1
    exact ⟨ts, e2.symm, g⟩
  subst hxl1
  obtain ⟨a2, len2, cap2, rfl⟩ := okWide_slice Try.underlying33 (hval 2 33 v2 rfl rfl)
  obtain ⟨xs2, hxl2, w2⟩ : ∃ xs, List.length xs = len2 ∧ ActsOk W a2 xs := by
    obtain ⟨fuel, hf⟩ := h2
    obtain ⟨A, c, ts, hv, g⟩ := acts_of (by simpa [Value.cells] using hf)
    injection hv with e1 e2 e3
    subst e1
    exact ⟨ts, e2.symm, g⟩
  subst hxl2
  obtain ⟨a3, len3, cap3, rfl⟩ := okWide_slice Try.underlying33 (hval 3 33 v3 rfl rfl)
  obtain ⟨xs3, hxl3, w3⟩ : ∃ xs, List.length xs = len3 ∧ ActsOk W a3 xs := by
    obtain ⟨fuel, hf⟩ := h3
    obtain ⟨A, c, ts, hv, g⟩ := acts_of (by simpa [Value.cells] using hf)
    injection hv with e1 e2 e3
    subst e1
    exact ⟨ts, e2.symm, g⟩
  subst hxl3
  clear hA0 hval0
  refine (walk n0 a1 xs1 cap1 a2 xs2 cap2 a3 xs3 cap3 W w0 w1 w2 w3).mono fun e W' ⟨he, bel⟩ => ?_
  subst he
  exact ⟨_, rfl, _, _, _, [], _, [], hW', trodAll_mk1 (shut_bool Try.underlying4 _), (trodAll_cons_mk (shut_int Try.underlying3 w0) (trodAll_cons_mk (Below.trod laidOut (by kernel_rfl) (of_decide_eq_true (by kernel_rfl)) k1 bel lt1) (trodAll_cons_mk (Below.trod laidOut (by kernel_rfl) (of_decide_eq_true (by kernel_rfl)) k2 bel lt2) (trodAll_cons_mk (Below.trod laidOut (by kernel_rfl) (of_decide_eq_true (by kernel_rfl)) k3 bel lt3) trodAll_mk0)))), rfl, bel.frame _, fun h => by cases h⟩
theorem over : Rows.outboxCopiesRow.holds Try.pinned (OpenSpec.ofChange Rows.outboxCopiesSpec) :=
  OpenClaim.holds_of_wide 5 Try.f5 rfl rfl rfl rfl rfl rfl rfl ⟨rfl, rfl, rfl, rfl, rfl⟩ rfl rfl rfl rfl rfl (by kernel_rfl) Try.func5 (by kernel_rfl)
    (of_decide_eq_true (by kernel_rfl)) (by unfold Func.isWrapper; first | (rw [if_pos (by decide +kernel)]; kernel_rfl) | (rw [if_neg (by decide +kernel)]; exact ⟨rfl, rfl⟩))
    (fun os started H enc _ => lifted os started H enc)
/-- ████ THE STATEMENT ████ -/
theorem proved : Rows.OutboxCopiesSaid := over
#print axioms proved
end Go.Proofs.Ytmjikfhabfodkaa.outboxCopies
