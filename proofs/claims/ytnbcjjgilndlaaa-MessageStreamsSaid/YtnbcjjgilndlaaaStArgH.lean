/- Messages that are handed in: openers of lists of messages. Helper. -/
import Derived.Test.YtnbcjjgilndlaaaStStr
namespace Go.Proofs.Ytnbcjjgilndlaaa
open Go.RowKit Go.ChangeShapes Go.WideShapes
set_option linter.unusedVariables false
set_option linter.unusedSimpArgs false
set_option maxRecDepth 100000
theorem open_reqL {H : Type} {enc : TypeId × Value → H} {w : World} {base : Nat} {held : Bool} {fuel : Nat} {l : List Value} {x : DataW H × List MemPlace}
    (hsz : l.length = 17) (h : DataW.trod enc Try.prog w base (fun _ => true) held fuel 33 l = some x) :
    ∃ (q : Rq) (A : Option Addr) (c : Nat), l = q.c A c ∧ BytesAt w A q.md ∧ q.md.length ≤ maxLen ∧ (∀ v ∈ [q.k, q.ver, q.T, q.O, q.S, q.tt, q.kd, q.da, q.bp, q.bk, q.bt, q.pr, q.nm, q.dn], (Lit.int .i64 v).wf = true) ∧ (∀ v ∈ [q.id, q.nu], (Lit.int .u32 v).wf = true) := by
  have c1 : Try.prog.cellsOf 24 = 1 := by kernel_rfl
  have c2 : Try.prog.cellsOf 25 = 1 := by kernel_rfl
  have c3 : Try.prog.cellsOf 3 = 1 := by kernel_rfl
  have c4 : Try.prog.cellsOf 22 = 1 := by kernel_rfl
  have c5 : Try.prog.cellsOf 29 = 6 := by kernel_rfl
  have c6 : Try.prog.cellsOf 31 = 3 := by kernel_rfl
  have c7 : Try.prog.cellsOf 2 = 1 := by kernel_rfl
  have cA : Try.prog.cellsOf 33 = 17 := by kernel_rfl
  obtain ⟨xs, k, hk, hxy, hlen, hxl, hf⟩ := DataW.trod_struct Try.underlying33 h
  match xs, hxl, l, hsz with
  | [y0, y1, y2, y3, y4, y5, y6, y7, y8, y9], _, [v0, v1, v2, v3, v4, v5, v6, v7, v8, v9, v10, v11, v12, v13, v14, v15, v16], _ =>
    have g0 := hf 0 _ rfl
    have g1 := hf 1 _ rfl
    have g2 := hf 2 _ rfl
    have g3 := hf 3 _ rfl
    have g4 := hf 4 _ rfl
    have g5 := hf 5 _ rfl
    have g6 := hf 6 _ rfl
    have g7 := hf 7 _ rfl
    have g8 := hf 8 _ rfl
    have g9 := hf 9 _ rfl
    simp [c1, c2, c3, c4, c5, c6, c7] at g0 g1 g2 g3 g4 g5 g6 g7 g8 g9
    obtain ⟨z0, e0, _, w0⟩ := DataW.trod_int Try.underlying24 g0
    injection e0 with e0 _
    subst e0
    obtain ⟨z1, e1, _, w1⟩ := DataW.trod_int Try.underlying25 g1
    injection e1 with e1 _
    subst e1
    obtain ⟨z2, e2, _, w2⟩ := DataW.trod_int Try.underlying3 g2
    injection e2 with e2 _
    subst e2
    have hrow : ∃ (A : Option Addr) (len cap : Nat) (l : List UInt8), v3 = .slice A len cap ∧ l.length = len ∧ BytesAt w A l ∧ l.length ≤ maxLen := by
      rcases open_ints Try.underlying22 Try.underlying5 (by kernel_rfl) g3 with ⟨hcs, _⟩ | ⟨a, len, cap, zs, hcs, _, hl, hm, hz, _, hcell, hwz⟩
      · injection hcs with hcs _
        exact ⟨none, 0, 0, [], hcs, rfl, .inl rfl, Nat.zero_le _⟩
      · injection hcs with hcs _
        obtain ⟨l, g1, g2, g3, g4⟩ := isRow_bytes (w := w) (a := some a) (len := len) (cap := cap) (zs := zs) (.inr ⟨a, rfl, hl, hm, by simpa using hz, hcell, hwz⟩)
        exact ⟨some a, len, cap, l, hcs, g1, g2, by omega⟩
    obtain ⟨A, len, cap, l, rfl, rfl, q2, q3⟩ := hrow
    obtain ⟨z4, e4, w4⟩ := aiEvent g4 0 (by simp)
    simp only [List.getElem_cons_zero, List.getElem_cons_succ] at e4
    obtain ⟨z5, e5, w5⟩ := aiEvent g4 1 (by simp)
    simp only [List.getElem_cons_zero, List.getElem_cons_succ] at e5
    obtain ⟨z6, e6, w6⟩ := aiEvent g4 2 (by simp)
    simp only [List.getElem_cons_zero, List.getElem_cons_succ] at e6
    obtain ⟨z7, e7, w7⟩ := aiEvent g4 3 (by simp)
    simp only [List.getElem_cons_zero, List.getElem_cons_succ] at e7
    obtain ⟨z8, e8, w8⟩ := aiEvent g4 4 (by simp)
    simp only [List.getElem_cons_zero, List.getElem_cons_succ] at e8
    obtain ⟨z9, e9, w9⟩ := aiEvent g4 5 (by simp)
    simp only [List.getElem_cons_zero, List.getElem_cons_succ] at e9
    subst e4
    subst e5
    subst e6
    subst e7
    subst e8
    subst e9
    obtain ⟨z10, e10, _, w10⟩ := DataW.trod_int Try.underlying25 g5
    injection e10 with e10 _
    subst e10
    obtain ⟨z11, e11, w11⟩ := aiBreak g6 0 (by simp)
    simp only [List.getElem_cons_zero, List.getElem_cons_succ] at e11
    obtain ⟨z12, e12, w12⟩ := aiBreak g6 1 (by simp)
    simp only [List.getElem_cons_zero, List.getElem_cons_succ] at e12
    obtain ⟨z13, e13, w13⟩ := aiBreak g6 2 (by simp)
    simp only [List.getElem_cons_zero, List.getElem_cons_succ] at e13
    subst e11
    subst e12
    subst e13
    obtain ⟨z14, e14, _, w14⟩ := DataW.trod_int Try.underlying3 g7
    injection e14 with e14 _
    subst e14
    obtain ⟨z15, e15, _, w15⟩ := DataW.trod_int Try.underlying2 g8
    injection e15 with e15 _
    subst e15
    obtain ⟨z16, e16, _, w16⟩ := DataW.trod_int Try.underlying2 g9
    injection e16 with e16 _
    subst e16
    exact ⟨⟨z0, z1, z2, l, z4, z5, z6, z7, z8, z9, z10, z11, z12, z13, z14, z15, z16⟩, A, cap, rfl, q2, q3, fun v hv => by simp only [List.mem_cons, List.not_mem_nil, or_false] at hv; rcases hv with rfl | rfl | rfl | rfl | rfl | rfl | rfl | rfl | rfl | rfl | rfl | rfl | rfl | rfl <;> assumption, fun v hv => by simp only [List.mem_cons, List.not_mem_nil, or_false] at hv; rcases hv with rfl | rfl <;> assumption⟩
theorem open_resL {H : Type} {enc : TypeId × Value → H} {w : World} {base : Nat} {held : Bool} {fuel : Nat} {l : List Value} {x : DataW H × List MemPlace}
    (hsz : l.length = 18) (h : DataW.trod enc Try.prog w base (fun _ => true) held fuel 42 l = some x) :
    ∃ (q : Rs) (A : Option Addr) (c : Nat), l = q.c A c ∧ IntsAt w A q.vs ∧ q.vs.length ≤ maxLen ∧ (∀ v ∈ q.vs, (Lit.int .i64 v).wf = true) ∧ (∀ v ∈ [q.k, q.er, q.fl, q.rT, q.rO, q.rS, q.rp, q.rn, q.rv, q.T, q.O, q.S, q.tt, q.kd, q.da], (Lit.int .i64 v).wf = true) ∧ (∀ v ∈ [q.id, q.nu], (Lit.int .u32 v).wf = true) := by
  have c1 : Try.prog.cellsOf 37 = 1 := by kernel_rfl
  have c2 : Try.prog.cellsOf 25 = 1 := by kernel_rfl
  have c3 : Try.prog.cellsOf 34 = 1 := by kernel_rfl
  have c4 : Try.prog.cellsOf 2 = 1 := by kernel_rfl
  have c5 : Try.prog.cellsOf 38 = 1 := by kernel_rfl
  have c6 : Try.prog.cellsOf 40 = 6 := by kernel_rfl
  have c7 : Try.prog.cellsOf 29 = 6 := by kernel_rfl
  have cA : Try.prog.cellsOf 42 = 18 := by kernel_rfl
  obtain ⟨xs, k, hk, hxy, hlen, hxl, hf⟩ := DataW.trod_struct Try.underlying42 h
  match xs, hxl, l, hsz with
  | [y0, y1, y2, y3, y4, y5, y6, y7], _, [v0, v1, v2, v3, v4, v5, v6, v7, v8, v9, v10, v11, v12, v13, v14, v15, v16, v17], _ =>
    have g0 := hf 0 _ rfl
    have g1 := hf 1 _ rfl
    have g2 := hf 2 _ rfl
    have g3 := hf 3 _ rfl
    have g4 := hf 4 _ rfl
    have g5 := hf 5 _ rfl
    have g6 := hf 6 _ rfl
    have g7 := hf 7 _ rfl
    simp [c1, c2, c3, c4, c5, c6, c7] at g0 g1 g2 g3 g4 g5 g6 g7
    obtain ⟨z0, e0, _, w0⟩ := DataW.trod_int Try.underlying37 g0
    injection e0 with e0 _
    subst e0
    obtain ⟨z1, e1, _, w1⟩ := DataW.trod_int Try.underlying25 g1
    injection e1 with e1 _
    subst e1
    obtain ⟨z2, e2, _, w2⟩ := DataW.trod_int Try.underlying34 g2
    injection e2 with e2 _
    subst e2
    obtain ⟨z3, e3, _, w3⟩ := DataW.trod_int Try.underlying2 g3
    injection e3 with e3 _
    subst e3
    have hrow : ∃ (A : Option Addr) (len cap : Nat) (l : List Int), v4 = .slice A len cap ∧ l.length = len ∧ IntsAt w A l ∧ l.length ≤ maxLen ∧ ∀ v ∈ l, (Lit.int .i64 v).wf = true := by
      rcases open_ints Try.underlying38 Try.underlying2 (by kernel_rfl) g4 with ⟨hcs, _⟩ | ⟨a, len, cap, zs, hcs, _, hl, hm, hz, _, hcell, hwz⟩
      · injection hcs with hcs _
        exact ⟨none, 0, 0, [], hcs, rfl, .inl rfl, Nat.zero_le _, fun v hv => by cases hv⟩
      · injection hcs with hcs _
        obtain ⟨ns, g1, g2, g3⟩ := ints_of hl (by simpa using hz) hcell hwz
        exact ⟨some a, len, cap, ns, hcs, g1, g2, by omega, g3⟩
    obtain ⟨A, len, cap, l, rfl, rfl, q2, q3, q4⟩ := hrow
    obtain ⟨z5, e5, w5⟩ := aiRecord g5 0 (by simp)
    simp only [List.getElem_cons_zero, List.getElem_cons_succ] at e5
    obtain ⟨z6, e6, w6⟩ := aiRecord g5 1 (by simp)
    simp only [List.getElem_cons_zero, List.getElem_cons_succ] at e6
    obtain ⟨z7, e7, w7⟩ := aiRecord g5 2 (by simp)
    simp only [List.getElem_cons_zero, List.getElem_cons_succ] at e7
    obtain ⟨z8, e8, w8⟩ := aiRecord g5 3 (by simp)
    simp only [List.getElem_cons_zero, List.getElem_cons_succ] at e8
    obtain ⟨z9, e9, w9⟩ := aiRecord g5 4 (by simp)
    simp only [List.getElem_cons_zero, List.getElem_cons_succ] at e9
    obtain ⟨z10, e10, w10⟩ := aiRecord g5 5 (by simp)
    simp only [List.getElem_cons_zero, List.getElem_cons_succ] at e10
    subst e5
    subst e6
    subst e7
    subst e8
    subst e9
    subst e10
    obtain ⟨z11, e11, _, w11⟩ := DataW.trod_int Try.underlying25 g6
    injection e11 with e11 _
    subst e11
    obtain ⟨z12, e12, w12⟩ := aiEvent g7 0 (by simp)
    simp only [List.getElem_cons_zero, List.getElem_cons_succ] at e12
    obtain ⟨z13, e13, w13⟩ := aiEvent g7 1 (by simp)
    simp only [List.getElem_cons_zero, List.getElem_cons_succ] at e13
    obtain ⟨z14, e14, w14⟩ := aiEvent g7 2 (by simp)
    simp only [List.getElem_cons_zero, List.getElem_cons_succ] at e14
    obtain ⟨z15, e15, w15⟩ := aiEvent g7 3 (by simp)
    simp only [List.getElem_cons_zero, List.getElem_cons_succ] at e15
    obtain ⟨z16, e16, w16⟩ := aiEvent g7 4 (by simp)
    simp only [List.getElem_cons_zero, List.getElem_cons_succ] at e16
    obtain ⟨z17, e17, w17⟩ := aiEvent g7 5 (by simp)
    simp only [List.getElem_cons_zero, List.getElem_cons_succ] at e17
    subst e12
    subst e13
    subst e14
    subst e15
    subst e16
    subst e17
    exact ⟨⟨z0, z1, z2, z3, l, z5, z6, z7, z8, z9, z10, z11, z12, z13, z14, z15, z16, z17⟩, A, cap, rfl, q2, q3, q4, fun v hv => by simp only [List.mem_cons, List.not_mem_nil, or_false] at hv; rcases hv with rfl | rfl | rfl | rfl | rfl | rfl | rfl | rfl | rfl | rfl | rfl | rfl | rfl | rfl | rfl <;> assumption, fun v hv => by simp only [List.mem_cons, List.not_mem_nil, or_false] at hv; rcases hv with rfl | rfl <;> assumption⟩
structure ReqsW (w : World) (A : Option Addr) (es : List (Rq × Option Addr × Nat)) : Prop where
  at_ : es = [] ∨ ∃ g off, A = some ⟨g, off, none⟩ ∧ ∀ i (h : i < es.length), w.rangeAt g (off + i * 17) ((es[i]'h).1.c (es[i]'h).2.1 (es[i]'h).2.2)
  md : ∀ e ∈ es, BytesAt w e.2.1 e.1.md
  rg : ∀ e ∈ es, (∀ v ∈ [e.1.k, e.1.ver, e.1.T, e.1.O, e.1.S, e.1.tt, e.1.kd, e.1.da, e.1.bp, e.1.bk, e.1.bt, e.1.pr, e.1.nm, e.1.dn], (Lit.int .i64 v).wf = true) ∧ (∀ v ∈ [e.1.id, e.1.nu], (Lit.int .u32 v).wf = true)
  len : ∀ e ∈ es, e.1.md.length ≤ maxLen
theorem ReqsW.at {w : World} {A : Option Addr} {es : List (Rq × Option Addr × Nat)} (h : ReqsW w A es) (m : ∀ e ∈ es, e.1.md.length ≤ 5000) : ReqsAt w A es :=
  ⟨h.at_, h.md, fun e he => ⟨fit_of (h.rg e he).1 (h.rg e he).2 (by have := m e he; omega), by have := m e he; omega⟩⟩
theorem open_reqs {H : Type} {enc : TypeId × Value → H} {w : World} {base : Nat} {held : Bool} {fuel : Nat} {v : Value} {x : DataW H × List MemPlace}
    (h : DataW.trod enc Try.prog w base (fun _ => true) held fuel 60 [v] = some x) :
    ∃ A es c, v = .slice A es.length c ∧ ReqsW w A es ∧ es.length ≤ maxLen := by
  have hk : Try.prog.cellsOf 33 = 17 := by kernel_rfl
  rcases Go.Deep.open_slice Try.underlying60 h with ⟨hcs, _⟩ | ⟨a, len, cap, m, n, D, Pl, hcs, _, hl, hm, hmm, _, hx⟩
  · injection hcs with hcs _
    exact ⟨none, [], 0, hcs, ⟨.inl rfl, by simp, by simp, by simp⟩, Nat.zero_le _⟩
  · injection hcs with hcs _
    subst hcs
    simp only [if_true] at hmm
    subst hmm
    rw [hk] at hx
    haveI : Inhabited (Rq × Option Addr × Nat) := ⟨(⟨0, 0, 0, [], 0, 0, 0, 0, 0, 0, 0, 0, 0, 0, 0, 0, 0⟩, none, 0)⟩
    have each : ∀ i, i < len → ∃ e : Rq × Option Addr × Nat, (∀ j (hj : j < (e.1.c e.2.1 e.2.2).length), w.cell? ((a.add (i * 17)).add j) = some ((e.1.c e.2.1 e.2.2)[j]'hj)) ∧ BytesAt w e.2.1 e.1.md ∧ ((∀ v ∈ [e.1.k, e.1.ver, e.1.T, e.1.O, e.1.S, e.1.tt, e.1.kd, e.1.da, e.1.bp, e.1.bk, e.1.bt, e.1.pr, e.1.nm, e.1.dn], (Lit.int .i64 v).wf = true) ∧ (∀ v ∈ [e.1.id, e.1.nu], (Lit.int .u32 v).wf = true)) ∧ e.1.md.length ≤ maxLen := by
      intro i hi
      obtain ⟨cs', h1, h2⟩ := hx i (by omega)
      obtain ⟨_, hlen, hcell⟩ := World.cells?_some h1
      obtain ⟨q, A, c, rfl, g1, g2, g3⟩ := open_reqL hlen h2
      refine ⟨(q, A, c), fun j hj => ?_, g1, g3, g2⟩
      have := hcell j (by rw [← hlen]; exact hj)
      rw [List.getElem?_eq_getElem hj] at this
      exact this
    obtain ⟨q, hq⟩ := Go.Deep.choose_lt each
    have hmem : ∀ e ∈ (List.range len).map q, ∃ i, i < len ∧ q i = e := fun e he => by
      obtain ⟨i, hi, rfl⟩ := List.mem_map.1 he
      exact ⟨i, by simpa using hi, rfl⟩
    refine ⟨some a, (List.range len).map q, m, by simp, ⟨?_, fun e he => ?_, fun e he => ?_, fun e he => ?_⟩, by simp; omega⟩
    · by_cases h0 : len = 0
      · left; subst h0; rfl
      · obtain ⟨b, off, spot⟩ := a
        have hspot : spot = none := by
          obtain ⟨g1, _⟩ := hq 0 (by omega)
          have := World.cell?_spot (g1 0 (by show 0 < 17; omega))
          simpa [Addr.add] using this
        subst hspot
        refine .inr ⟨b, off, rfl, fun i hi => ?_⟩
        have hi' : i < len := by simpa using hi
        obtain ⟨g1, _⟩ := hq i hi'
        intro j v hv
        have hj : j < ((q i).1.c (q i).2.1 (q i).2.2).length := by
          simp only [List.getElem_map, List.getElem_range] at hv
          exact (List.getElem?_eq_some_iff.1 hv).1
        have := g1 j hj
        rw [add_plain, add_plain] at this
        simp only [List.getElem_map, List.getElem_range, List.getElem?_eq_getElem hj, Option.some.injEq] at hv
        rw [hv] at this
        exact this
    · obtain ⟨i, hi, rfl⟩ := hmem e he; exact (hq i hi).2.1
    · obtain ⟨i, hi, rfl⟩ := hmem e he; exact (hq i hi).2.2.1
    · obtain ⟨i, hi, rfl⟩ := hmem e he; exact (hq i hi).2.2.2
structure RessW (w : World) (A : Option Addr) (es : List (Rs × Option Addr × Nat)) : Prop where
  at_ : es = [] ∨ ∃ g off, A = some ⟨g, off, none⟩ ∧ ∀ i (h : i < es.length), w.rangeAt g (off + i * 18) ((es[i]'h).1.c (es[i]'h).2.1 (es[i]'h).2.2)
  vs : ∀ e ∈ es, IntsAt w e.2.1 e.1.vs
  rg : ∀ e ∈ es, (∀ v ∈ e.1.vs, (Lit.int .i64 v).wf = true) ∧ (∀ v ∈ [e.1.k, e.1.er, e.1.fl, e.1.rT, e.1.rO, e.1.rS, e.1.rp, e.1.rn, e.1.rv, e.1.T, e.1.O, e.1.S, e.1.tt, e.1.kd, e.1.da], (Lit.int .i64 v).wf = true) ∧ (∀ v ∈ [e.1.id, e.1.nu], (Lit.int .u32 v).wf = true)
  len : ∀ e ∈ es, e.1.vs.length ≤ maxLen
theorem RessW.at {w : World} {A : Option Addr} {es : List (Rs × Option Addr × Nat)} (h : RessW w A es) (m : ∀ e ∈ es, e.1.vs.length ≤ 100) : RessAt w A es :=
  ⟨h.at_, h.vs, fun e he => ⟨fitS_of (h.rg e he).1 (h.rg e he).2.1 (h.rg e he).2.2 (by have := m e he; omega), by have := m e he; omega⟩⟩
theorem open_ress {H : Type} {enc : TypeId × Value → H} {w : World} {base : Nat} {held : Bool} {fuel : Nat} {v : Value} {x : DataW H × List MemPlace}
    (h : DataW.trod enc Try.prog w base (fun _ => true) held fuel 61 [v] = some x) :
    ∃ A es c, v = .slice A es.length c ∧ RessW w A es ∧ es.length ≤ maxLen := by
  have hk : Try.prog.cellsOf 42 = 18 := by kernel_rfl
  rcases Go.Deep.open_slice Try.underlying61 h with ⟨hcs, _⟩ | ⟨a, len, cap, m, n, D, Pl, hcs, _, hl, hm, hmm, _, hx⟩
  · injection hcs with hcs _
    exact ⟨none, [], 0, hcs, ⟨.inl rfl, by simp, by simp, by simp⟩, Nat.zero_le _⟩
  · injection hcs with hcs _
    subst hcs
    simp only [if_true] at hmm
    subst hmm
    rw [hk] at hx
    haveI : Inhabited (Rs × Option Addr × Nat) := ⟨(⟨0, 0, 0, 0, [], 0, 0, 0, 0, 0, 0, 0, 0, 0, 0, 0, 0, 0⟩, none, 0)⟩
    have each : ∀ i, i < len → ∃ e : Rs × Option Addr × Nat, (∀ j (hj : j < (e.1.c e.2.1 e.2.2).length), w.cell? ((a.add (i * 18)).add j) = some ((e.1.c e.2.1 e.2.2)[j]'hj)) ∧ IntsAt w e.2.1 e.1.vs ∧ ((∀ v ∈ e.1.vs, (Lit.int .i64 v).wf = true) ∧ (∀ v ∈ [e.1.k, e.1.er, e.1.fl, e.1.rT, e.1.rO, e.1.rS, e.1.rp, e.1.rn, e.1.rv, e.1.T, e.1.O, e.1.S, e.1.tt, e.1.kd, e.1.da], (Lit.int .i64 v).wf = true) ∧ (∀ v ∈ [e.1.id, e.1.nu], (Lit.int .u32 v).wf = true)) ∧ e.1.vs.length ≤ maxLen := by
      intro i hi
      obtain ⟨cs', h1, h2⟩ := hx i (by omega)
      obtain ⟨_, hlen, hcell⟩ := World.cells?_some h1
      obtain ⟨q, A, c, rfl, g1, g2, g3⟩ := open_resL hlen h2
      refine ⟨(q, A, c), fun j hj => ?_, g1, g3, g2⟩
      have := hcell j (by rw [← hlen]; exact hj)
      rw [List.getElem?_eq_getElem hj] at this
      exact this
    obtain ⟨q, hq⟩ := Go.Deep.choose_lt each
    have hmem : ∀ e ∈ (List.range len).map q, ∃ i, i < len ∧ q i = e := fun e he => by
      obtain ⟨i, hi, rfl⟩ := List.mem_map.1 he
      exact ⟨i, by simpa using hi, rfl⟩
    refine ⟨some a, (List.range len).map q, m, by simp, ⟨?_, fun e he => ?_, fun e he => ?_, fun e he => ?_⟩, by simp; omega⟩
    · by_cases h0 : len = 0
      · left; subst h0; rfl
      · obtain ⟨b, off, spot⟩ := a
        have hspot : spot = none := by
          obtain ⟨g1, _⟩ := hq 0 (by omega)
          have := World.cell?_spot (g1 0 (by show 0 < 18; omega))
          simpa [Addr.add] using this
        subst hspot
        refine .inr ⟨b, off, rfl, fun i hi => ?_⟩
        have hi' : i < len := by simpa using hi
        obtain ⟨g1, _⟩ := hq i hi'
        intro j v hv
        have hj : j < ((q i).1.c (q i).2.1 (q i).2.2).length := by
          simp only [List.getElem_map, List.getElem_range] at hv
          exact (List.getElem?_eq_some_iff.1 hv).1
        have := g1 j hj
        rw [add_plain, add_plain] at this
        simp only [List.getElem_map, List.getElem_range, List.getElem?_eq_getElem hj, Option.some.injEq] at hv
        rw [hv] at this
        exact this
    · obtain ⟨i, hi, rfl⟩ := hmem e he; exact (hq i hi).2.1
    · obtain ⟨i, hi, rfl⟩ := hmem e he; exact (hq i hi).2.2.1
    · obtain ⟨i, hi, rfl⟩ := hmem e he; exact (hq i hi).2.2.2
end Go.Proofs.Ytnbcjjgilndlaaa
