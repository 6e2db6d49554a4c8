/- SequenceTurns: for every input the law returns true, and what was handed in reads as it did. No condition. -/
import Derived.Test.YtgijkgngldfdiaaSqA
import Derived.Test.YtgijkgngldfdiaaSqB
import Derived.Test.YtgijkgngldfdiaaVmArgs
import Derived.Test.YtgijkgngldfdiaaSqK
import Derived.Test.YtgijkgngldfdiaaSqE
import Derived.Test.YtgijkgngldfdiaaOpen
import Derived.Test.YtgijkgngldfdiaaSqL
import Derived.Test.YtgijkgngldfdiaaRows
namespace Go.Proofs.Ytgijkgngldfdiaa
open Go.RowKit Go.ChangeShapes Go.WideShapes
set_option linter.unusedVariables false
set_option linter.unusedSimpArgs false
set_option maxRecDepth 100000
theorem aiAct : AllInt 49 := by
  have c3 : Try.prog.cellsOf 3 = 1 := by kernel_rfl
  have cE : Try.prog.cellsOf 44 = 6 := by kernel_rfl
  have cA : Try.prog.cellsOf 49 = 7 := by kernel_rfl
  refine @AllInt.struct _ _ Try.underlying49 ?_
  intro j hj
  rw [cA] at hj
  have : j = 0 ∨ 1 ≤ j := by omega
  rcases this with rfl | h
  · exact ⟨0, _, rfl, by decide, by show 0 < 0 + Try.prog.cellsOf 3; omega, aiInt⟩
  · exact ⟨1, _, rfl, by show 1 ≤ j; omega, by show j < 1 + Try.prog.cellsOf 44; omega, aiEvent⟩
theorem rd_of_rows {w : World} {A : Option Addr} {zs : List (List Int)} (h : Rows w A 6 zs) (h6 : ∀ r ∈ zs, r.length = 6) : Rd w A (ints (rows (zs.map evOf))) := by
  rcases h with rfl | ⟨b, o, rfl, h⟩
  · exact .inl rfl
  · refine .inr ⟨b, o, rfl, fun j u hu => ?_⟩
    have hlen : (ints (rows (zs.map evOf))).length = zs.length * 6 := by rw [ints_length, rows_length, List.length_map]
    have hj : j < zs.length * 6 := by
      rcases Nat.lt_or_ge j (zs.length * 6) with h' | h'
      · exact h'
      · rw [List.getElem?_eq_none (by omega)] at hu; cases hu
    have hi : j / 6 < zs.length := by omega
    have hc : j % 6 < 6 := by omega
    have hr := rows_get (zs.map evOf) (j / 6) (by simpa using hi) (j % 6) hc
    rw [show j / 6 * 6 + j % 6 = j by omega] at hr
    obtain ⟨hl, hcell⟩ := h (j / 6) hi
    have he : ((zs.map evOf)[j / 6]'(by simpa using hi)).row = zs[j / 6] := by
      rw [List.getElem_map]; exact row_evOf hl
    rw [he] at hr
    have hcj := hcell (j % 6) (by omega)
    rw [Nat.add_assoc, show j / 6 * 6 + j % 6 = j by omega] at hcj
    rw [hcj, ← hu, ints_get, hr, List.getElem?_eq_getElem (by omega)]
    rfl
theorem proc_of {H : Type} {enc : TypeId × Value → H} {w : World} {base : Nat} {held : Bool} {fuel : Nat} {cs : List Value} {x : DataW H × List MemPlace} (h : DataW.trod enc Try.prog w base (fun _ => true) held fuel 79 cs = some x) (hl : cs.length = 4) :
    ∃ (p : Pr) (kA : Option Addr) (kc : Nat) (vA : Option Addr) (vc : Nat), cs = [.int .i64 p.vars, .slice kA p.ks.length kc, .slice vA p.vals.length vc, .int .i64 p.seed] ∧ RKinds w kA p.ks ∧ p.ks.length ≤ maxLen ∧ Rd w vA (ints p.vals) ∧ p.vals.length ≤ maxLen := by
  have cP : Try.prog.cellsOf 77 = 2 := by kernel_rfl
  have c2 : Try.prog.cellsOf 40 = 1 := by kernel_rfl
  have c3 : Try.prog.cellsOf 2 = 1 := by kernel_rfl
  have c4 : Try.prog.cellsOf 3 = 1 := by kernel_rfl
  have c5 : Try.prog.cellsOf 75 = 1 := by kernel_rfl
  obtain ⟨xs, k, hk, hxy, hlen, hxl, hf⟩ := DataW.trod_struct Try.underlying79 h
  match xs, hxl, cs, hl with
  | [y0, y1, y2], _, [v0, v1, v2, v3], _ =>
    have g0 := hf 0 _ rfl
    have g1 := hf 1 _ rfl
    have g2 := hf 2 _ rfl
    simp [cP, c2, c3] at g0 g1 g2
    obtain ⟨y3, y4, n, _, hl2, h0, h1⟩ := trod_struct2 Try.underlying77 g0
    simp [c4, c5] at h0 h1
    obtain ⟨z, e0, _, hw⟩ := DataW.trod_int Try.underlying3 h0
    injection e0 with e0 _
    subst e0
    obtain ⟨A, c, ks, rfl, q1, q2⟩ := open_kinds h1
    obtain ⟨z3, e3, _, w3⟩ := DataW.trod_int Try.underlying2 g2
    injection e3 with e3 _
    subst e3
    rcases open_ints Try.underlying40 Try.underlying2 (by kernel_rfl) g1 with ⟨hcs, _⟩ | ⟨a, len, cap, zs, hcs, _, hl, hm, hz, _, hcell, hwz⟩
    · injection hcs with hcs _
      subst hcs
      exact ⟨⟨z, ks, [], z3⟩, A, c, none, 0, rfl, q1, q2, .inl rfl, Nat.zero_le _⟩
    · injection hcs with hcs _
      subst hcs
      obtain ⟨ns, r1, r2, r3⟩ := ints_of hl (by simpa using hz) hcell hwz
      subst r1
      exact ⟨⟨z, ks, ns, z3⟩, A, c, some a, cap, rfl, q1, q2, r2, by show ns.length ≤ _; omega⟩
theorem open_procs {H : Type} {enc : TypeId × Value → H} {w : World} {base : Nat} {held : Bool} {fuel : Nat} {v : Value} {x : DataW H × List MemPlace}
    (h : DataW.trod enc Try.prog w base (fun _ => true) held fuel 22 [v] = some x) :
    ∃ A c ps, v = .slice A (List.length ps) c ∧ (ps = [] ∨ ∃ b o, A = some ⟨b, o, none⟩ ∧ ∀ i (h : i < ps.length), ProcIn w b (o + i * 4) ps[i]) ∧ ps.length ≤ maxLen := by
  rcases Go.Deep.open_slice Try.underlying22 h with ⟨hcs, _⟩ | ⟨a, len, cap, m, n, D, Pl, hcs, _, hl, hm, hmm, _, hx⟩
  · injection hcs with hcs _
    exact ⟨none, 0, [], hcs, .inl rfl, Nat.zero_le _⟩
  · injection hcs with hcs _
    subst hcs
    simp only [if_true] at hmm
    subst hmm
    have z4 : Try.prog.cellsOf 79 = 4 := by kernel_rfl
    have each : ∀ i, i < len → ∃ q : Pr × (Option Addr × Nat) × (Option Addr × Nat), (w.cell? ((a.add (i * 4)).add 0) = some (.int .i64 q.1.vars) ∧ w.cell? ((a.add (i * 4)).add 1) = some (.slice q.2.1.1 q.1.ks.length q.2.1.2) ∧ w.cell? ((a.add (i * 4)).add 2) = some (.slice q.2.2.1 q.1.vals.length q.2.2.2) ∧ w.cell? ((a.add (i * 4)).add 3) = some (.int .i64 q.1.seed)) ∧ RKinds w q.2.1.1 q.1.ks ∧ q.1.ks.length ≤ maxLen ∧ Rd w q.2.2.1 (ints q.1.vals) ∧ q.1.vals.length ≤ maxLen := by
      intro i hi
      obtain ⟨cs', h1, h2⟩ := hx i (by omega)
      rw [z4] at h1
      obtain ⟨_, hlen, hcell⟩ := World.cells?_some h1
      obtain ⟨p, kA, kc, vA, vc, rfl, r1, r2, r3, r4⟩ := proc_of h2 hlen
      exact ⟨(p, (kA, kc), (vA, vc)), ⟨hcell 0 (by simp), hcell 1 (by simp), hcell 2 (by simp), hcell 3 (by simp)⟩, r1, r2, r3, r4⟩
    haveI : Inhabited Pr := ⟨Pr.z⟩
    obtain ⟨q, hq⟩ := Go.Deep.choose_lt each
    refine ⟨some a, m, (List.range len).map fun i => (q i).1, by simp, ?_, by simp; omega⟩
    by_cases h0 : len = 0
    · left; subst h0; rfl
    · obtain ⟨b, off, spot⟩ := a
      have hspot : spot = none := by
        have := World.cell?_spot (hq 0 (by omega)).1.1
        simpa [Addr.add] using this
      subst hspot
      refine .inr ⟨b, off, rfl, fun i hi => ?_⟩
      have hi' : i < len := by simpa using hi
      obtain ⟨⟨e0, e1, e2, e3⟩, r1, r2, r3, r4⟩ := hq i hi'
      simp only [add_plain, Nat.add_zero] at e0 e1 e2 e3
      have hg : ((List.range len).map fun i => (q i).1)[i] = (q i).1 := by simp
      rw [hg]
      exact ⟨e0, ⟨_, _, e1, r1⟩, ⟨_, _, e2, r3⟩, e3, r2, r4⟩
/-- A model by value. -/
theorem open_model {H : Type} {enc : TypeId × Value → H} {w : World} {r : Reach} {base b0 : Nat} {held : Bool} {fuel : Nat} {v : Value} {x : DataW H × List MemPlace}
    (hv : Value.okWide Try.prog w r b0 25 v) (h : DataW.trod enc Try.prog w base (fun _ => true) held fuel 25 v.cells.toList = some x) :
    ∃ (m : Mdl) (pA : Option Addr) (pc : Nat) (fA : Option Addr) (fc : Nat), v = .agg #[.slice pA m.procs.length pc, .slice fA m.first.length fc] ∧ MAt w m pA fA := by
  obtain ⟨cs, rfl, hsz⟩ := okWide_struct Try.underlying25 hv
  have c3 : Try.prog.cellsOf 22 = 1 := by kernel_rfl
  have c4 : Try.prog.cellsOf 23 = 1 := by kernel_rfl
  have cA : Try.prog.cellsOf 25 = 2 := by kernel_rfl
  obtain ⟨y0, y1, n, _, hl, h0, h1⟩ := trod_struct2 Try.underlying25 h
  rw [cA] at hsz
  obtain ⟨l⟩ := cs
  match l, hsz with
  | [v0, v1], _ =>
    simp [Value.cells, c3, c4] at h0 h1
    obtain ⟨pA, pc, ps, rfl, q1, q2⟩ := open_procs h0
    obtain ⟨fA, fc, zs, rfl, r1, r2, r3⟩ := open_events h1
    have h6 : ∀ r ∈ zs, r.length = 6 := fun r hr => by
      obtain ⟨i, hi, rfl⟩ := List.getElem_of_mem hr
      rcases r1 with h | ⟨b, o, _, h⟩
      · subst h; simp at hi
      · exact (h i hi).1
    refine ⟨⟨ps, zs.map evOf⟩, pA, pc, fA, fc, by simp, ⟨q1, rd_of_rows r1 h6, q2, by simpa using r2⟩⟩
end Go.Proofs.Ytgijkgngldfdiaa
/- What the law begins with. Helper. -/
namespace Go.Proofs.Ytgijkgngldfdiaa
open Go.RowKit
set_option linter.unusedVariables false
set_option linter.unusedSimpArgs false
theorem few_vals {m : Mdl} (hm : m.May) : ∀ i, i < m.procs.length → (m.procs.getD i Pr.z).vals.length ≤ 100000 := fun i hi => by
  have h2 := hm.proc hi
  have h3 := may_vars h2.1
  omega
def BeginOut (w : World) (m : Mdl) (pA : Option Addr) (pc : Nat) (x : Ending) (w' : World) : Prop :=
  ∃ p r ws, x = .returned (.tuple #[.pointer (some ⟨p.SB, 0, none⟩), .pointer (some ⟨r.RB, 0, none⟩), .bool true]) ∧ Both (fun _ => False) w w' p r m m.start ws m.start ∧ r.pA = pA ∧ r.pc = pc
section
variable (m : Mdl) (pA fA : Option Addr) (pc fc : Nat) (w : World)
set_option maxRecDepth 100000
set_option maxHeartbeats 6400000
theorem begin_any (h : MAt w m pA fA) (hm : m.May) :
    Calls Try.prog 10 #[.agg #[.slice pA m.procs.length pc, .slice fA m.first.length fc]] w (BeginOut w m pA pc) := by
  obtain ⟨w1, hw1⟩ : ∃ w1, w.alloc (.cells #[.slice pA m.procs.length pc, .slice fA m.first.length fc] 25) = w1 := ⟨_, rfl⟩
  have n1 : Nw w w1 := by rw [← hw1]; exact (Nw.refl w).alloc _
  obtain ⟨XB, hXB⟩ : ∃ XB, w.heap.size = XB := ⟨_, rfl⟩
  have hb : Blk w1 XB 25 #[.slice pA m.procs.length pc, .slice fA m.first.length fc] := by rw [← hw1]; exact Blk.last w _ _ hXB
  have K1 := Lib.hid (seqNew_any m pA fA pc fc w1 (h.keep n1) hm (few_vals hm))
  have K2 := Lib.hid (fun W U hU (hW : Nw w W) => refNew_any m pA fA pc fc W U hU (h.keep hW) hm (few_vals hm))
  obtain ⟨n, hn⟩ : ∃ n, m.procs.length = n := ⟨_, rfl⟩
  obtain ⟨f, hf⟩ : ∃ f, m.first.length = f := ⟨_, rfl⟩
  rw [hn, hf] at K1 K2 hw1 hb ⊢
  have x0 : w1.cell? ⟨XB, 0, none⟩ = some (.slice pA n pc) := hb.cell 0
  have x1 : w1.cell? ⟨XB, 1, none⟩ = some (.slice fA f fc) := hb.cell 1
  have X0 := Lib.hid x0
  have X1 := Lib.hid x1
  have HW1 := Lib.hid hw1
  have HXB := Lib.hid hXB
  have N1 := Lib.hid n1
  clear h hm hw1 hXB n1 hb hn hf
  go_enter Try.func10, Try.ntmps10
  go_upto_region 1 with (fail)
  rw [HW1.out, HXB.out]
  go_wp2_with fail
  refine K1.out.mono ?_
  rintro x w2 ⟨p, ws, rfl, hp, n12, hlow, hU⟩
  have n02 := N1.out.step n12
  have K3 := Lib.hid (K2.out w2 p.T hp.lt n02)
  have x0 := n12.cell X0.out
  have x1 := n12.cell X1.out
  have HP := Lib.hid hp
  have N02 := Lib.hid n02
  have HLO := Lib.hid (fun g q => Nat.le_trans N1.out.size (hlow g q))
  clear hp n12 hlow hU n02
  go_wp2_with fail
  refine K3.out.mono ?_
  rintro x w3 ⟨r, rfl, ⟨r1, r2⟩, hr, n23, hlr, hrU⟩
  have hB := Lib.hid (Both.begin HP.out N02.out HLO.out hr n23 hlr hrU)
  have R1 := Lib.hid r1
  have R2 := Lib.hid r2
  clear hr n23 hlr hrU r1 r2
  go_wp2_with fail
  refine bodyPost_ret (v := .tuple #[.pointer (some ⟨p.SB, 0, none⟩), .pointer (some ⟨r.RB, 0, none⟩), .bool true]) (by simp [results, Try.results10, go_sem]) rfl ?_
  exact ⟨{ p with U := fun g => r.T g ∨ False }, r, ws, rfl, hB.out, R1.out, R2.out⟩
end
end Go.Proofs.Ytgijkgngldfdiaa
/- Two sequences of the program, one of the document, a list beside them. Helper. -/
namespace Go.Proofs.Ytgijkgngldfdiaa
open Go.RowKit
set_option linter.unusedVariables false
set_option linter.unusedSimpArgs false
section
variable {X : Nat → Prop} {w0 w w' : World} {p q : PMem} {r : RMem} {m : Mdl} {s s' t : Sq} {ws wt : List Ev}
/-- What others turn is named anew. -/
theorem Both.name (h : Both X w0 w p r m s ws s') (X' : Nat → Prop) (hc : Chg X w w') (hX : ∀ g, X' g → X g ∨ w.heap.size ≤ g) (hl : ∀ g, X' g → g < w'.heap.size) :
    Both X' w0 w' { p with U := fun g => r.T g ∨ X' g } { r with U := fun g => p.T g ∨ X' g } m s ws s' := by
  refine ⟨h.P.frame hc (fun g q => by rw [h.pU]; exact .inr q) _ (fun g q => ?_) (fun g q => q.elim (fun q => Nat.lt_of_lt_of_le (h.R.lt g q) hc.size) (hl g)),
    h.R.frame hc (fun g q => by rw [h.rU]; exact .inr q) _ (fun g q => ?_) (fun g q => q.elim (fun q => Nat.lt_of_lt_of_le (h.P.lt g q) hc.size) (hl g)), rfl, rfl, Below.trans h.nw (hc.below (fun i _ q => h.lowX i q) h.nw.size), h.lowP, h.lowR, fun g q => (hX g q).elim (h.lowX g) fun q => Nat.le_trans h.nw.size q⟩
  · rw [h.pU]
    exact q.elim (fun q => .inl (.inl q)) fun q => (hX g q).imp .inr id
  · rw [h.rU]
    exact q.elim (fun q => .inl (.inl q)) fun q => (hX g q).imp .inr id
/-- The two, the document's, and those that were taken in. -/
structure Trio (w0 w : World) (p : PMem) (r : RMem) (q : PMem) (m : Mdl) (s : Sq) (ws : List Ev) (s' : Sq) (wt : List Ev) (A : Option Addr) (c : Nat) (blk : Option Nat) (l : List Ev) : Prop where
  B : Both (fun g => q.T g ∨ some g = blk) w0 w p r m s ws s'
  Q : PSeq w q m m.start wt
  qU : q.U = fun g => p.T g ∨ r.T g ∨ some g = blk
  own : Own w 44 6 (.slice A l.length c) l.length (ints (rows l)) blk
variable {A A' : Option Addr} {c c' : Nat} {blk blk' : Option Nat} {l l' : List Ev}
theorem Trio.new (h : Trio w0 w p r q m s ws s' wt A c blk l) (hN : Nw w w') : Trio w0 w' p r q m s ws s' wt A c blk l :=
  ⟨h.B.new hN, h.Q.new hN, h.qU, h.own.kept fun g e => hN.block g (h.own.lt g e)⟩
theorem Trio.offP (h : Trio w0 w p r q m s ws s' wt A c blk l) {g : Nat} (e : blk = some g) : ¬ p.T g ∧ ¬ r.T g ∧ ¬ q.T g :=
  ⟨(h.B.offX g (.inr e.symm)).1, (h.B.offX g (.inr e.symm)).2, fun k => h.Q.dis g k (by rw [h.qU]; exact .inr (.inr e.symm))⟩
theorem Trio.ours (h : Trio w0 w p r q m s ws s' wt A c blk l) {p' : PMem} {s1 : Sq} {ws1 : List Ev} (hP : PSeq w' p' m s1 ws1) (hU : p'.U = p.U) (hc : Chg p.T w w') (hT : ∀ g, p'.T g → p.T g ∨ w.heap.size ≤ g) :
    Trio w0 w' p' { r with U := fun g => p'.T g ∨ q.T g ∨ some g = blk } { q with U := fun g => p'.T g ∨ r.T g ∨ some g = blk } m s1 ws1 s' wt A c blk l := by
  refine ⟨h.B.ours hP hU hc hT, h.Q.frame hc (fun g k => by rw [h.qU]; exact .inl k) _ (fun g k => ?_) (fun g k => ?_), rfl, h.own.chg hc fun g e => (h.offP e).1⟩
  · rw [h.qU]
    rcases k with k | k
    · exact (hT g k).imp .inl id
    · exact .inl (.inr k)
  · rcases k with k | k | k
    · exact hP.lt g k
    · exact Nat.lt_of_lt_of_le (h.B.R.lt g k) hc.size
    · exact Nat.lt_of_lt_of_le (h.own.lt g k.symm) hc.size
theorem Trio.refs (h : Trio w0 w p r q m s ws s' wt A c blk l) {r' : RMem} {s1 : Sq} (hR : RSeq w' r' m s1) (hU : r'.U = r.U) (hc : Chg r.T w w') (hT : ∀ g, r'.T g → r.T g ∨ w.heap.size ≤ g) :
    Trio w0 w' { p with U := fun g => r'.T g ∨ q.T g ∨ some g = blk } r' { q with U := fun g => p.T g ∨ r'.T g ∨ some g = blk } m s ws s1 wt A c blk l := by
  refine ⟨h.B.refs hR hU hc hT, h.Q.frame hc (fun g k => by rw [h.qU]; exact .inr (.inl k)) _ (fun g k => ?_) (fun g k => ?_), rfl, h.own.chg hc fun g e => (h.offP e).2.1⟩
  · rw [h.qU]
    rcases k with k | k | k
    · exact .inl (.inl k)
    · exact (hT g k).imp (fun k => .inr (.inl k)) id
    · exact .inl (.inr (.inr k))
  · rcases k with k | k | k
    · exact Nat.lt_of_lt_of_le (h.B.P.lt g k) hc.size
    · exact hR.lt g k
    · exact Nat.lt_of_lt_of_le (h.own.lt g k.symm) hc.size
theorem Trio.app (h : Trio w0 w p r q m s ws s' wt A c blk l) (ho : Own w' 44 6 (.slice A' l'.length c') l'.length (ints (rows l')) blk') (hc : Chg (fun g => some g = blk) w w') (hb : ∀ g, blk' = some g → blk = some g ∨ w.heap.size ≤ g) :
    Trio w0 w' { p with U := fun g => r.T g ∨ q.T g ∨ some g = blk' } { r with U := fun g => p.T g ∨ q.T g ∨ some g = blk' } { q with U := fun g => p.T g ∨ r.T g ∨ some g = blk' } m s ws s' wt A' c' blk' l' := by
  refine ⟨h.B.name (fun g => q.T g ∨ some g = blk') (hc.mono fun g _ k => .inr k) (fun g k => ?_) (fun g k => ?_), h.Q.frame hc (fun g k => by rw [h.qU]; exact .inr (.inr k)) _ (fun g k => ?_) (fun g k => ?_), rfl, ho⟩
  · rcases k with k | k
    · exact .inl (.inl k)
    · exact (hb g k.symm).imp (fun e => .inr e.symm) id
  · rcases k with k | k
    · exact Nat.lt_of_lt_of_le (h.Q.lt g k) hc.size
    · exact ho.lt g k.symm
  · rw [h.qU]
    rcases k with k | k | k
    · exact .inl (.inl k)
    · exact .inl (.inr (.inl k))
    · exact (hb g k.symm).imp (fun e => .inr (.inr e.symm)) id
  · rcases k with k | k | k
    · exact Nat.lt_of_lt_of_le (h.B.P.lt g k) hc.size
    · exact Nat.lt_of_lt_of_le (h.B.R.lt g k) hc.size
    · exact ho.lt g k.symm
/-- The second sequence has begun. -/
theorem Trio.begin {wt : List Ev} {w1 : World} (h : Both (fun _ => False) w0 w p r m s ws s') (hQ : PSeq w1 q m m.start wt) (hN : Nw w w1) (hl : ∀ g, q.T g → w.heap.size ≤ g) (hU : q.U = fun g => p.T g ∨ r.T g) :
    Trio w0 w1 { p with U := fun g => r.T g ∨ q.T g ∨ some g = none } { r with U := fun g => p.T g ∨ q.T g ∨ some g = none } q m s ws s' wt none 0 none [] := by
  refine ⟨h.join hN (fun g => q.T g ∨ some g = none) (fun g e => ?_) (fun g e => ?_), hQ, ?_, Own.nil _ _ _⟩
  · exact e.elim (hl g) fun e => by cases e
  · exact e.elim (hQ.lt g) fun e => by cases e
  · rw [hU]
    funext g
    exact propext ⟨fun e => e.elim .inl fun e => .inr (.inl e), fun e => e.elim .inl fun e => e.elim .inr fun e => by cases e⟩
/-- Two sequences side by side, and what others turn. -/
structure Pair (X : Nat → Prop) (w0 w : World) (p q : PMem) (m : Mdl) (s : Sq) (ws : List Ev) (t : Sq) (wt : List Ev) : Prop where
  P : PSeq w p m s ws
  Q : PSeq w q m t wt
  pU : p.U = fun g => q.T g ∨ X g
  qU : q.U = fun g => p.T g ∨ X g
  nw : Nw w0 w
  lowP : ∀ g, p.T g → w0.heap.size ≤ g
  lowQ : ∀ g, q.T g → w0.heap.size ≤ g
theorem Pair.swap (h : Pair X w0 w p q m s ws t wt) : Pair X w0 w q p m t wt s ws := ⟨h.Q, h.P, h.qU, h.pU, h.nw, h.lowQ, h.lowP⟩
theorem Pair.new (h : Pair X w0 w p q m s ws t wt) (hN : Nw w w') : Pair X w0 w' p q m s ws t wt := ⟨h.P.new hN, h.Q.new hN, h.pU, h.qU, h.nw.step hN, h.lowP, h.lowQ⟩
theorem Pair.acts (h : Pair X w0 w p q m s ws t wt) {p' : PMem} {s1 : Sq} {ws1 : List Ev} (hP : PSeq w' p' m s1 ws1) (hU : p'.U = p.U) (hc : Chg p.T w w') (hT : ∀ g, p'.T g → p.T g ∨ w.heap.size ≤ g) :
    Pair X w0 w' p' { q with U := fun g => p'.T g ∨ X g } m s1 ws1 t wt := by
  refine ⟨hP, h.Q.frame hc (fun g k => by rw [h.qU]; exact .inl k) _ (fun g k => ?_) (fun g k => k.elim (hP.lt g) fun k => Nat.lt_of_lt_of_le (h.P.low g (by rw [h.pU]; exact .inr k)) hc.size), ?_, rfl, Below.trans h.nw (hc.below (fun i _ k => h.lowP i k) h.nw.size), fun g k => (hT g k).elim (h.lowP g) fun k => Nat.le_trans h.nw.size k, h.lowQ⟩
  · rw [h.qU]
    rcases k with k | k
    · exact (hT g k).imp .inl id
    · exact .inl (.inr k)
  · rw [hU, h.pU]; rfl
theorem Trio.pair (h : Trio w0 w p r q m s ws s' wt A c blk l) : Pair (fun g => some g = blk) w0 w { p with U := fun g => q.T g ∨ some g = blk } { q with U := fun g => p.T g ∨ some g = blk } m s ws m.start wt := by
  refine ⟨h.B.P.frame (M := fun _ => False) (Chg.refl _ _) (fun g k => k.elim) _ (fun g k => ?_) (fun g k => ?_), h.Q.frame (M := fun _ => False) (Chg.refl _ _) (fun g k => k.elim) _ (fun g k => ?_) (fun g k => ?_), rfl, rfl, h.B.nw, h.B.lowP, fun g k => h.B.lowX g (.inl k)⟩
  · rw [h.B.pU]; exact .inl (.inr k)
  · exact h.B.ltX g k
  · rw [h.qU]
    rcases k with k | k
    · exact .inl (.inl k)
    · exact .inl (.inr (.inr k))
  · rcases k with k | k
    · exact h.B.P.lt g k
    · exact h.own.lt g k.symm
end
end Go.Proofs.Ytgijkgngldfdiaa
/- In whichever order events are put in: the law's walk. Helper. -/
namespace Go.Proofs.Ytgijkgngldfdiaa
open Go.RowKit
set_option linter.unusedVariables false
set_option linter.unusedSimpArgs false
def Begin2Out (U : Nat → Prop) (w : World) (m : Mdl) (x : Ending) (w' : World) : Prop :=
  ∃ q RB ws, x = .returned (.tuple #[.pointer (some ⟨q.SB, 0, none⟩), .pointer (some ⟨RB, 0, none⟩), .bool true]) ∧ PSeq w' q m m.start ws ∧ Nw w w' ∧ (∀ g, q.T g → w.heap.size ≤ g) ∧ q.U = U
section
variable (m : Mdl) (pA fA : Option Addr) (pc fc : Nat) (w : World)
set_option maxRecDepth 100000
set_option maxHeartbeats 6400000
theorem begin2_any (U : Nat → Prop) (hU : ∀ g, U g → g < w.heap.size) (h : MAt w m pA fA) (hm : m.May) :
    Calls Try.prog 10 #[.agg #[.slice pA m.procs.length pc, .slice fA m.first.length fc]] w (Begin2Out U w m) := by
  obtain ⟨w1, hw1⟩ : ∃ w1, w.alloc (.cells #[.slice pA m.procs.length pc, .slice fA m.first.length fc] 25) = w1 := ⟨_, rfl⟩
  have n1 : Nw w w1 := by rw [← hw1]; exact (Nw.refl w).alloc _
  obtain ⟨XB, hXB⟩ : ∃ XB, w.heap.size = XB := ⟨_, rfl⟩
  have hb : Blk w1 XB 25 #[.slice pA m.procs.length pc, .slice fA m.first.length fc] := by rw [← hw1]; exact Blk.last w _ _ hXB
  have K1 := Lib.hid (seqNewU_any m pA fA pc fc w1 U (fun g q => Nat.lt_of_lt_of_le (hU g q) n1.size) (h.keep n1) hm (few_vals hm))
  have K2 := Lib.hid (fun W U hU (hW : Nw w W) => refNew_any m pA fA pc fc W U hU (h.keep hW) hm (few_vals hm))
  obtain ⟨n, hn⟩ : ∃ n, m.procs.length = n := ⟨_, rfl⟩
  obtain ⟨f, hf⟩ : ∃ f, m.first.length = f := ⟨_, rfl⟩
  rw [hn, hf] at K1 K2 hw1 hb ⊢
  have x0 : w1.cell? ⟨XB, 0, none⟩ = some (.slice pA n pc) := hb.cell 0
  have x1 : w1.cell? ⟨XB, 1, none⟩ = some (.slice fA f fc) := hb.cell 1
  have X0 := Lib.hid x0
  have X1 := Lib.hid x1
  have HW1 := Lib.hid hw1
  have HXB := Lib.hid hXB
  have N1 := Lib.hid n1
  clear h hm hw1 hXB n1 hb hn hf hU
  go_enter Try.func10, Try.ntmps10
  go_upto_region 1 with (fail)
  rw [HW1.out, HXB.out]
  go_wp2_with fail
  refine K1.out.mono ?_
  rintro x w2 ⟨p, ws, rfl, hp, n12, hlow, hU⟩
  have n02 := N1.out.step n12
  have K3 := Lib.hid (K2.out w2 p.T hp.lt n02)
  have x0 := n12.cell X0.out
  have x1 := n12.cell X1.out
  have HP := Lib.hid hp
  have N02 := Lib.hid n02
  have HLO := Lib.hid (fun g q => Nat.le_trans N1.out.size (hlow g q))
  have HPU := Lib.hid hU
  clear hp n12 hlow hU n02
  go_wp2_with fail
  refine K3.out.mono ?_
  rintro x w3 ⟨r, rfl, ⟨r1, r2⟩, hr, n23, hlr, hrU⟩
  have HP3 := Lib.hid (HP.out.new n23)
  have N03 := Lib.hid (N02.out.step n23)
  clear hr n23 hlr hrU r1 r2
  go_wp2_with fail
  refine bodyPost_ret (v := .tuple #[.pointer (some ⟨p.SB, 0, none⟩), .pointer (some ⟨r.RB, 0, none⟩), .bool true]) (by simp [results, Try.results10, go_sem]) rfl ?_
  exact ⟨p, r.RB, ws, rfl, HP3.out, N03.out, HLO.out, HPU.out⟩
end
end Go.Proofs.Ytgijkgngldfdiaa
/- Two sequences side by side: a step of one. Helper. -/
namespace Go.Proofs.Ytgijkgngldfdiaa
open Go.RowKit
set_option linter.unusedVariables false
set_option linter.unusedSimpArgs false
theorem Ok.few {m : Mdl} {s : Sq} (h : Ok m s) (i : Nat) : (s.sts.getD i St.z).vars.length ≤ 100000 := by
  by_cases hi : i < m.procs.length
  · have h1 := (h.st i hi).1
    have h2 := h.may.proc hi
    have h3 := may_vars h2.1
    unfold stOk at h1
    simp only [Bool.and_eq_true, decide_eq_true_eq] at h1
    omega
  · have := h.len
    rw [List.getD_eq_getElem?_getD, List.getElem?_eq_none (by omega)]
    simp [St.z]
/-- Nothing waits, or the first is done. -/
def StepCase (w w2 : World) (m : Mdl) (s : Sq) (ws : List Ev) (s1 : Sq) (nt : Nat) (tA : Option Addr) (tc : Nat) (er : Int) : Prop :=
  (ws = [] ∧ s1 = s ∧ nt = 0 ∧ tA = none ∧ tc = 0 ∧ er = 6) ∨ ∃ y tl rest, ws = y :: tl ∧ s.w.Perm (y :: rest) ∧ s1 = m.after s y rest ∧ nt = (m.run s y).1.tells.length ∧ er = 0 ∧
      Rd w2 tA (ints (m.run s y).1.tells.flatten) ∧ (m.run s y).1.tells.flatten.length = (m.run s y).1.tells.length * 6 ∧ nt ≤ 4 ∧ (∀ b o, tA = some ⟨b, o, none⟩ → w.heap.size ≤ b ∨ (m.run s y).1.tells = []) ∧ s1.w.length ≤ s.w.length + 4
/-- What a step of the one does. -/
def PairOut (X : Nat → Prop) (w0 w : World) (p q : PMem) (m : Mdl) (s : Sq) (ws : List Ev) (t : Sq) (wt : List Ev) (x : Ending) (w2 : World) : Prop :=
  ∃ p' s1 ws1 nt tA tc er, x = .returned (.tuple #[ev6 (ws.headD evZ), .slice tA nt tc, .int .i64 er]) ∧ Pair X w0 w2 p' { q with U := fun g => p'.T g ∨ X g } m s1 ws1 t wt ∧ p'.SB = p.SB ∧ Chg p.T w w2 ∧ StepCase w w2 m s ws s1 nt tA tc er
theorem pairStep_any {X : Nat → Prop} {w0 w : World} {p q : PMem} {m : Mdl} {s t : Sq} {ws wt : List Ev} (h : Pair X w0 w p q m s ws t wt) (hd : s.done ≤ 900) (hw9 : s.w.length ≤ 9000) :
    Calls Try.prog 17 #[.pointer (some ⟨p.SB, 0, none⟩)] w (PairOut X w0 w p q m s ws t wt) := by
  have hP := h.P
  cases ws with
  | nil =>
    refine (seqStepNo_any p m s w hP).mono ?_
    rintro x w2 ⟨rfl, n12⟩
    have hb := h.new n12
    exact ⟨p, s, [], 0, none, 0, 6, rfl, hb.acts hb.P rfl (Chg.refl _ _) (fun g k => .inl k), rfl, Chg.of_below n12 (Nat.le_refl _) _, .inl ⟨rfl, rfl, rfl, rfl, rfl, rfl⟩⟩
  | cons y tl =>
    have hy : y ∈ s.w := hP.twin.perm.subset List.mem_cons_self
    obtain ⟨j0, hj0, hjy⟩ := List.getElem_of_mem hy
    have hpr : s.w.Perm (y :: s.w.eraseIdx j0) := by have := perm_erase s.w j0 hj0; rw [hjy] at this; exact this
    have hmn := run_means hP.ok hy (by omega)
    refine (seqStep_any p m s y tl (s.w.eraseIdx j0) w hP hpr hd hw9).mono ?_
    rintro x w2 ⟨p', tA, tc, rfl, hps, e1, e2, hch, hT, hrd, hlen, hat⟩
    refine ⟨p', _, _, _, tA, tc, 0, rfl, h.acts hps e2 hch hT, e1, hch, .inr ⟨y, tl, s.w.eraseIdx j0, rfl, hpr, rfl, rfl, rfl, hrd, hlen, hmn.2.2.2.1, hat, ?_⟩⟩
    show (s.w.eraseIdx j0 ++ (m.run s y).1.sends.map evOf).length ≤ _
    rw [List.length_append, List.length_map, List.length_eraseIdx_of_lt hj0]
    have := hmn.2.2.1
    omega
/-- Two that are one but for the order: what waits is in one order. -/
theorem Pair.same {X : Nat → Prop} {w0 w : World} {p q : PMem} {m : Mdl} {s t : Sq} {ws wt : List Ev} (h : Pair X w0 w p q m s ws t wt) (he : Eqv s t) : ws = wt :=
  srt_eq h.P.twin.srt h.Q.twin.srt (h.P.twin.perm.trans (he.w.trans h.Q.twin.perm.symm))
/-- The other steps behind it. -/
theorem pairSecond_any {X : Nat → Prop} {w0 w w2 w3 : World} {p q p' : PMem} {m : Mdl} {s t s1 : Sq} {ws ws1 : List Ev} {nt tc : Nat} {tA : Option Addr} {er : Int} {EB : Nat} {ty : TypeId} {cs : Array Value} (hP : Pair X w0 w p q m s ws t ws) (hE : Eqv s t) (hd : s.done ≤ 900) (hw9 : s.w.length ≤ 9000)
    (hP3 : Pair X w0 w3 p' { q with U := fun g => p'.T g ∨ X g } m s1 ws1 t ws) (hch : Chg p.T w w2) (n23 : Nw w2 w3) (hcase : StepCase w w2 m s ws s1 nt tA tc er) (hbE : Blk w3 EB ty cs) (hEB : w2.heap.size = EB) :
    Calls Try.prog 17 #[.pointer (some ⟨q.SB, 0, none⟩)] w3 fun x w4 => ∃ p'' q' uA uc ws2 t1, x = .returned (.tuple #[ev6 (ws.headD evZ), .slice uA nt uc, .int .i64 er]) ∧ Pair X w0 w4 p'' q' m s1 ws2 t1 ws2 ∧ Eqv s1 t1 ∧ p''.SB = p'.SB ∧ q'.SB = q.SB ∧ Blk w4 EB ty cs ∧
      (∃ L : List Int, L.length = nt * 6 ∧ nt ≤ 4 ∧ Rd w4 tA (ints L) ∧ Rd w4 uA (ints L)) ∧ s1.done ≤ s.done + 1 ∧ s1.w.length ≤ s.w.length + 4 := by
  have s2 := hch.size
  have s3 := n23.size
  refine (pairStep_any hP3.swap (by rw [← hE.done]; exact hd) (by rw [← hE.w.length_eq]; exact hw9)).mono ?_
  rintro x w4 ⟨q', t1, wt1, nt2, uA, uc, er2, rfl, hQ4, e2, hch4, hcase2⟩
  have hch4' : Chg q.T w3 w4 := hch4
  have hnE : ¬ q.T EB := fun k => by have := hP.Q.lt EB k; omega
  have key : Eqv s1 t1 ∧ nt2 = nt ∧ er2 = er ∧ (∃ L : List Int, L.length = nt * 6 ∧ nt ≤ 4 ∧ Rd w4 tA (ints L) ∧ Rd w4 uA (ints L)) ∧ s1.done ≤ s.done + 1 ∧ s1.w.length ≤ s.w.length + 4 := by
    rcases hcase with ⟨h1, rfl, rfl, rfl, rfl, rfl⟩ | ⟨y, tl, rest, h1, h2, rfl, rfl, rfl, h3, h4, h5, h6, h7⟩
    · rcases hcase2 with ⟨_, rfl, rfl, rfl, rfl, rfl⟩ | ⟨y, tl, rest, k1, _⟩
      · exact ⟨hE, rfl, rfl, ⟨[], rfl, by omega, .inl rfl, .inl rfl⟩, by omega, by omega⟩
      · rw [h1] at k1; cases k1
    · rcases hcase2 with ⟨k1, _⟩ | ⟨y', tl', rest', k1, k2, rfl, rfl, rfl, k3, k4, k5, k6, k7⟩
      · rw [h1] at k1; cases k1
      · rw [h1] at k1
        injection k1 with k1 _
        subst k1
        rw [← hE.run y] at k3 k4 k5 k6
        refine ⟨hE.after h2 k2, by rw [hE.run y], rfl, ⟨(m.run s y).1.tells.flatten, h4, h5, ?_, k3⟩, ?_, h7⟩
        · refine (h3.keep fun p hp => Below.cell n23 hp).far (base := w.heap.size) (fun b o e => (h6 b o e).imp id fun h => by rw [h]; rfl) fun g hg hl => hch4'.block g hl fun k => ?_
          have := hP.Q.lt g k; omega
        · show s.done + 1 ≤ _; omega
  obtain ⟨k1, rfl, rfl, k4, k5, k6⟩ := key
  have hws := hQ4.swap.same k1
  subst hws
  exact ⟨_, q', uA, uc, _, t1, rfl, hQ4.swap, k1, rfl, e2, hbE.chg hch4' hnE, k4, k5, k6⟩
end Go.Proofs.Ytgijkgngldfdiaa
/- In whichever order events are put in: the law's walk. Helper. -/
namespace Go.Proofs.Ytgijkgngldfdiaa
open Go.RowKit
set_option linter.unusedVariables false
set_option linter.unusedSimpArgs false
/-- The first loop, so many on. -/
def PutAt (w0 wr : World) (m : Mdl) (es : List Ev) (SB RB QB i : Nat) (A : Option Addr) (c : Nat) : Prop :=
  ∃ p r q ws wt blk, Trio w0 wr p r q m (putAll m m.start (es.take i)) ws (putAll m m.start (es.take i)) wt A c blk (taken m m.start (es.take i)) ∧ p.SB = SB ∧ r.RB = RB ∧ q.SB = QB
/-- The second, so many on. -/
def BackAt (w0 wr : World) (m : Mdl) (s : Sq) (tk : List Ev) (SB QB j : Nat) (A : Option Addr) (c : Nat) : Prop :=
  ∃ p q ws wt blk, Pair (fun g => some g = blk) w0 wr p q m s ws (addAll m.start (tk.reverse.take j)) wt ∧ p.SB = SB ∧ q.SB = QB ∧ Own wr 44 6 (.slice A tk.length c) tk.length (ints (rows tk)) blk
/-- The third, so many on. -/
def TurnAt (w0 wr : World) (m : Mdl) (SB QB k : Nat) : Prop :=
  ∃ X p q s ws t, Pair X w0 wr p q m s ws t ws ∧ Eqv s t ∧ p.SB = SB ∧ q.SB = QB ∧ s.done ≤ k ∧ s.w.length ≤ 84 + 4 * k
/-- One more was taken in. -/
theorem Trio.more {w0 w9 w10 : World} {p : PMem} {r : RMem} {q : PMem} {m : Mdl} {s s' : Sq} {ws wt : List Ev} {A A' : Option Addr} {c c' nt : Nat} {blk blk' : Option Nat} {tk : List Ev} {e : Ev} (h : Trio w0 w9 p r q m s ws s' wt A c blk tk) (hn : tk.length = nt)
    (hown : Own w10 44 6 (.slice A' (nt + 1) c') (nt + 1) (ints (rows tk) ++ ints [e.k.T, e.k.O, e.k.S, e.p, e.q, e.d]) blk') (hc : Chg (fun k => some k = blk) w9 w10) (hat : ∀ g, blk' = some g → blk = some g ∨ w9.heap.size ≤ g) :
    Trio w0 w10 { p with U := fun g => r.T g ∨ q.T g ∨ some g = blk' } { r with U := fun g => p.T g ∨ q.T g ∨ some g = blk' } { q with U := fun g => p.T g ∨ r.T g ∨ some g = blk' } m s ws s' wt A' c' blk' (tk ++ [e]) := by
  refine h.app ?_ hc hat
  rw [List.length_append, List.length_singleton, hn, rows_append, ints_append]
  have : rows [e] = [e.k.T, e.k.O, e.k.S, e.p, e.q, e.d] := by simp [rows, Ev.row]
  rw [this]
  exact hown
theorem PutAt.next {w0 wr : World} {m : Mdl} {es : List Ev} {SB RB QB k : Nat} {A : Option Addr} {c : Nat} (hk : k < es.length) {e : Ev} (he : es[k] = e) {s : Sq} (hs : putAll m m.start (es.take k) = s) {tk : List Ev} (htk : taken m m.start (es.take k) = tk)
    {p : PMem} {r : RMem} {q : PMem} {ws wt : List Ev} {blk : Option Nat} (hT : Trio w0 wr p r q m (if m.putErr s e = 0 then s.add e else s) ws (if m.putErr s e = 0 then s.add e else s) wt A c blk (tk ++ if m.putErr s e = 0 then [e] else [])) (h1 : p.SB = SB) (h2 : r.RB = RB) (h3 : q.SB = QB) :
    (tk ++ if m.putErr s e = 0 then [e] else []) = taken m m.start (es.take (k + 1)) ∧ PutAt w0 wr m es SB RB QB (k + 1) A c := by
  have e1 : putAll m m.start (es.take (k + 1)) = if m.putErr s e = 0 then s.add e else s := by rw [take_snoc es hk, putAll_snoc, hs, he]; rfl
  have e2 : taken m m.start (es.take (k + 1)) = tk ++ if m.putErr s e = 0 then [e] else [] := by rw [take_snoc es hk, taken_snoc, hs, htk, he]
  refine ⟨e2.symm, p, r, q, ws, wt, blk, ?_, h1, h2, h3⟩
  rw [e1, e2]
  exact hT
theorem Own.rdAt {w : World} {e : TypeId} {size : Nat} {A : Option Addr} {n c : Nat} {xs : List Value} {blk : Option Nat} (h : Own w e size (.slice A n c) n xs blk) : Rd w A xs := by
  obtain ⟨A', c', hv, hrd, _, _⟩ := h.rd
  injection hv with e1
  rw [e1]; exact hrd
theorem addAll_nil (s : Sq) : addAll s [] = s := by simp [addAll]
section
variable (m : Mdl) (pA fA : Option Addr) (pc fc : Nat) (w : World)
set_option maxRecDepth 100000
set_option maxHeartbeats 12800000
theorem turns_any (lA : Option Addr) (es : List Ev) (lc : Nat) (steps : Int) (h : MAt w m pA fA) (hz : Rd w lA (ints (rows es))) (hzm : es.length ≤ maxLen) (hzz : ∀ e ∈ es, (Lit.int .i64 e.k.S).wf = true) :
    Calls Try.prog 4 #[.agg #[.slice pA m.procs.length pc, .slice fA m.first.length fc], .slice lA es.length lc, .int .i64 steps] w (fun e w' => e = .returned (.bool true) ∧ Nw w w') := by
  obtain ⟨iE, he0, he1, he2, he3⟩ := info_parts infoEve
  have HV1 := Lib.hid he0
  have HV2 := Lib.hid he1
  have HV3 := Lib.hid he2
  have HV4 := Lib.hid he3
  clear he0 he1 he2 he3
  obtain ⟨w1, hw1⟩ : ∃ w1, w.alloc (.cells #[.slice pA m.procs.length pc, .slice fA m.first.length fc] 25) = w1 := ⟨_, rfl⟩
  have n1 : Nw w w1 := by rw [← hw1]; exact (Nw.refl w).alloc _
  obtain ⟨XB, hXB⟩ : ∃ XB, w.heap.size = XB := ⟨_, rfl⟩
  have hb : Blk w1 XB 25 #[.slice pA m.procs.length pc, .slice fA m.first.length fc] := by rw [← hw1]; exact Blk.last w _ _ hXB
  have k1 := refMuch_any m pA fA pc fc w1 (h.keep n1)
  have k2 := fun W (hW : Nw w W) => refModelMay_any m pA fA pc fc W (h.keep hW)
  have k4 := fun W (hW : Nw w W) hm => begin_any m pA fA pc fc W (h.keep hW) hm
  have k5 := fun W U hU (hW : Nw w W) hm => begin2_any m pA fA pc fc W U hU (h.keep hW) hm
  obtain ⟨n, hn⟩ : ∃ n, m.procs.length = n := ⟨_, rfl⟩
  obtain ⟨f, hf⟩ : ∃ f, m.first.length = f := ⟨_, rfl⟩
  obtain ⟨L, hL⟩ : ∃ L, es.length = L := ⟨_, rfl⟩
  rw [hn, hf] at k1 k2 k4 k5 hw1 hb ⊢
  rw [hL] at hzm ⊢
  simp only [maxLen] at hzm
  have x0 : w1.cell? ⟨XB, 0, none⟩ = some (.slice pA n pc) := hb.cell 0
  have x1 : w1.cell? ⟨XB, 1, none⟩ = some (.slice fA f fc) := hb.cell 1
  have K1 := Lib.hid k1
  have K2 := Lib.hid k2
  have K4 := Lib.hid k4
  have K5 := Lib.hid k5
  have HK := Lib.hid (fun W => known_any W)
  have X0 := Lib.hid x0
  have X1 := Lib.hid x1
  have HW1 := Lib.hid hw1
  have HXB := Lib.hid hXB
  have N1 := Lib.hid n1
  have HZ := Lib.hid hz
  have HZZ := Lib.hid hzz
  have HL := Lib.hid hL
  clear h hw1 hXB n1 hb hn hf hL k1 k2 k4 k5 hz hzz
  go_enter Try.func4, Try.ntmps4
  go_upto_region 1 with (fail)
  rw [HW1.out, HXB.out]
  go_wp2_with fail
  refine K1.out.mono ?_
  rintro x w2 ⟨b, rfl, n12⟩
  have N2 := Lib.hid (N1.out.step n12)
  have x0 := n12.cell X0.out
  have x1 := n12.cell X1.out
  have X0 := Lib.hid x0
  have X1 := Lib.hid x1
  clear n12 K1
  cases b with
  | true =>
    go_wp2_with fail
    refine (HK.out _).mono ?_
    rintro x w3 ⟨rfl, n23⟩
    go_wp2_with fail
    go_ret
    exact ⟨rfl, N2.out.step n23⟩
  | false =>
    have K2' := Lib.hid (K2.out w2 N2.out)
    go_wp2_with fail
    refine K2'.out.mono ?_
    rintro x w3 ⟨b, rfl, hbm, n23⟩
    have N3 := Lib.hid (N2.out.step n23)
    have x0 := n23.cell X0.out
    have x1 := n23.cell X1.out
    have X0 := Lib.hid x0
    have X1 := Lib.hid x1
    clear n23 K2 K2'
    by_cases hc : b = true ∧ ¬ (20 : Int) < (L : Int) ∧ ¬ steps < 0 ∧ ¬ (30 : Int) < steps
    · obtain ⟨rfl, h20, s0, s30⟩ := hc
      have hm : m.May := hbm.1 rfl
      obtain ⟨K, rfl⟩ : ∃ K : Nat, steps = (K : Int) := ⟨steps.toNat, by omega⟩
      have hK30 : K ≤ 30 := by omega
      have hL20 : L ≤ 20 := by omega
      have g20 : ((20 : Int) < (L : Int)) = False := by simpa using h20
      have g0 : ((K : Int) < 0) = False := by simp
      have g30 : ((30 : Int) < (K : Int)) = False := by simpa using s30
      have K4' := Lib.hid (K4.out w3 N3.out hm)
      have HMAY := Lib.hid hm
      have HZ3 := Lib.hid (HZ.out.keep fun p hp => Below.cell N3.out hp)
      clear hbm hm h20 s0 s30 K4
      go_wp2_with fail
      refine K4'.out.mono ?_
      rintro x w4 ⟨p, r, ws, rfl, hB, hrA, hrc⟩
      have K5' := Lib.hid (K5.out w4 (fun g => p.T g ∨ r.T g) (fun g q => q.elim (hB.P.lt g) (hB.R.lt g)) (N3.out.step hB.nw) HMAY.out)
      obtain ⟨SB, hSB⟩ : ∃ SB, p.SB = SB := ⟨_, rfl⟩
      obtain ⟨RB, hRB⟩ : ∃ RB, r.RB = RB := ⟨_, rfl⟩
      have x0 := hB.nw.cell X0.out
      have x1 := hB.nw.cell X1.out
      have HB4 := Lib.hid hB
      have HQ := Lib.hid (⟨hSB, hRB⟩ : _ ∧ _)
      rw [hSB, hRB]
      clear hB hrA hrc hSB hRB K4' K5
      go_wp2_with fail
      refine K5'.out.mono ?_
      rintro x w5 ⟨q, RB2, wt, rfl, hqs, n45, hlo, hqU⟩
      obtain ⟨QB, hQB⟩ : ∃ QB, q.SB = QB := ⟨_, rfl⟩
      have hT := Trio.begin HB4.out hqs n45 hlo hqU
      have HI0 : Hid (PutAt w3 w5 m es SB RB QB 0 none 0) := Lib.hid ⟨_, _, q, ws, wt, none, hT, HQ.out.1, HQ.out.2, hQB⟩
      rw [hQB]
      clear hqs n45 hlo hqU hT hQB K5' x0 x1 X0 X1
      go_wp2_with fail
      go_loopw [13, 14] (fun a i wr => ∃ k : Nat, k ≤ L ∧ i = .int .i64 k ∧ ∃ A c nt, a = .slice A nt c ∧ nt ≤ k ∧ Hid ((taken m m.start (es.take k)).length = nt ∧ PutAt w3 wr m es SB RB QB k A c)) (fun _ i _ => L - (intOf i).toNat)
      case atStart => exact ⟨0, Nat.zero_le _, rfl, none, 0, 0, rfl, Nat.le_refl _, Lib.hid ⟨rfl, HI0.out⟩⟩
      case round =>
        obtain ⟨k, hk, rfl, A, c, nt, rfl, hnk, HI⟩ := hrel
        by_cases hlt : k < L
        · have g1 : (k : Int) < (L : Int) := by omega
          have hkz : k < es.length := by rw [HL.out]; exact hlt
          obtain ⟨lb, lo, el, c0, c1, c2, c3, c4, c5⟩ := ev_at HZ3.out hkz
          obtain ⟨hnt, p, r, q, ws, wt, blk, hT, hSB, hRB, hQB⟩ := HI.out
          have hsz := putAll_size m (es.take k) m.start
          have hf64 := HMAY.out.f64
          have hlen : (es.take k).length ≤ 20 := by rw [List.length_take]; omega
          have hst : m.start.w.length ≤ 64 ∧ m.start.put.length = 0 := ⟨hf64, rfl⟩
          have hwf := HZZ.out es[k] (List.getElem_mem hkz)
          obtain ⟨e, he⟩ : ∃ e, es[k] = e := ⟨_, rfl⟩
          obtain ⟨s, hs⟩ : ∃ s, putAll m m.start (es.take k) = s := ⟨_, rfl⟩
          obtain ⟨tk, htk⟩ : ∃ tk, taken m m.start (es.take k) = tk := ⟨_, rfl⟩
          rw [he] at c0 c1 c2 c3 c4 c5 hwf
          rw [hs] at hsz hT
          rw [htk] at hnt hT
          have hw9 : s.w.length ≤ 9000 := by omega
          have hp9 : s.put.length ≤ 9000 := by omega
          obtain ⟨pe, hpe⟩ : ∃ pe, m.putErr s e = pe := ⟨_, rfl⟩
          have k6 := put_any p m s ws e wr hT.B.P hwf hw9 hp9
          unfold PutOut at k6
          rw [hpe, hSB] at k6
          have K6 := Lib.hid k6
          have HT := Lib.hid hT
          have HN := Lib.hid (⟨hSB, hRB, hQB⟩ : _ ∧ _ ∧ _)
          have HS := Lib.hid (⟨he, hs, htk, hpe⟩ : _ ∧ _ ∧ _ ∧ _)
          have HNT := Lib.hid hnt
          have HSZ := Lib.hid (⟨hw9, hp9⟩ : _ ∧ _)
          have HC := Lib.hid (⟨c0, c1, c2, c3, c4, c5⟩ : _ ∧ _ ∧ _ ∧ _ ∧ _ ∧ _)
          have d0 := hT.B.nw.cell c0
          have d1 := hT.B.nw.cell c1
          have d2 := hT.B.nw.cell c2
          have d3 := hT.B.nw.cell c3
          have d4 := hT.B.nw.cell c4
          have d5 := hT.B.nw.cell c5
          have HEL := Lib.hid el
          clear hT hSB hRB hQB he hs htk hpe hnt hw9 hp9 hwf hsz hf64 hlen hst k6 HI c0 c1 c2 c3 c4 c5
          subst el
          go_wp2_with fail
          refine K6.out.mono ?_
          rintro x w8 ⟨rfl, p', ws', hps, e1, e2, hch, hTT⟩
          have hT8 := HT.out.ours hps e2 hch hTT
          obtain ⟨s1, hs1⟩ : ∃ s1, (if pe = 0 then s.add e else s) = s1 := ⟨_, rfl⟩
          rw [hs1] at hT8
          generalize hr8 : ({ r with U := fun g => p'.T g ∨ q.T g ∨ some g = blk } : RMem) = r8 at hT8
          have hrb : r8.RB = RB := by rw [← hr8]; exact HN.out.2.1
          have k7 := refIn_any r8 m s e w8 hT8.B.R HSZ.out.1 HSZ.out.2
          unfold InOut at k7
          rw [HS.out.2.2.2, hs1, hrb] at k7
          have K7 := Lib.hid k7
          have HT8 := Lib.hid hT8
          have HE1 := Lib.hid e1
          have HS1 := Lib.hid hs1
          obtain ⟨c0, c1, c2, c3, c4, c5⟩ := HC.out
          have d0 := hT8.B.nw.cell c0
          have d1 := hT8.B.nw.cell c1
          have d2 := hT8.B.nw.cell c2
          have d3 := hT8.B.nw.cell c3
          have d4 := hT8.B.nw.cell c4
          have d5 := hT8.B.nw.cell c5
          clear hps e1 e2 hch hTT hT8 hs1 hr8 hrb k7 c0 c1 c2 c3 c4 c5 K6
          go_wp2_with fail
          refine K7.out.mono ?_
          rintro x w9 ⟨rfl, r', hrs, e3, e4, e5, hch, hTT⟩
          have hT9 := HT8.out.refs hrs e5 hch hTT
          have HE3 := Lib.hid e3
          obtain ⟨c0, c1, c2, c3, c4, c5⟩ := HC.out
          have d0 := hT9.B.nw.cell c0
          have d1 := hT9.B.nw.cell c1
          have d2 := hT9.B.nw.cell c2
          have d3 := hT9.B.nw.cell c3
          have d4 := hT9.B.nw.cell c4
          have d5 := hT9.B.nw.cell c5
          have ho := hT9.own
          rw [HNT.out] at ho
          have HO := Lib.hid ho
          have HT9 := Lib.hid hT9
          clear hrs e3 e4 e5 hch hTT hT9 ho K7 c0 c1 c2 c3 c4 c5
          by_cases hpe0 : pe = 0
          · subst hpe0
            have hnt20 : nt ≤ 20 := by omega
            go_wp2_with (at_builtin; refine wpList_append_at _ rfl _ _ _ rfl 44 iE _ 6 48 Try.underlying23 HV1.out HV2.out HV3.out HV4.out rfl (by omega) _ nt (ints (rows tk)) blk rfl (HO.out.kept (fun g hg => Below.heap_alloc _ _ _ (HO.out.lt g hg))) _ 1 1 (ints [e.k.T, e.k.O, e.k.S, e.p, e.q, e.d]) rfl rfl (rd_last w9 _ (ints [e.k.T, e.k.O, e.k.S, e.p, e.q, e.d])) (ints_one _) (by simp only [maxLen]; omega) (by omega) ?_; intro A' c' w10 blk' hown hchg hat)
            have hat' : ∀ g, blk' = some g → blk = some g ∨ w9.heap.size ≤ g := fun g hg => by
              rcases hat with e | e
              · exact .inl (by rw [← e]; exact hg)
              · rw [e] at hg; injection hg with hg; simp at hg; exact .inr (by omega)
            have hc10 : Chg (fun k => some k = blk) w9 w10 := ((Chg.refl (fun k => some k = blk) w9).alloc _).trans hchg (fun i hi e => e)
            have hT10 := HT9.out.more HNT.out hown hc10 hat'
            obtain ⟨he, hs, htk, hpe⟩ := HS.out
            have e1 : s1 = if m.putErr s e = 0 then s.add e else s := by rw [hpe]; exact HS1.out.symm
            have e2 : tk ++ [e] = tk ++ if m.putErr s e = 0 then [e] else [] := by rw [if_pos hpe]
            rw [e1, e2] at hT10
            have hn' := HNT.out
            obtain ⟨q1, q2⟩ := PutAt.next (RB := RB) (by rw [HL.out]; exact hlt) he hs htk hT10 HE1.out HE3.out HN.out.2.2
            have HN' : Hid ((taken m m.start (es.take (k + 1))).length = nt + 1 ∧ PutAt w3 w10 m es SB RB QB (k + 1) A' c') := Lib.hid ⟨by rw [← q1, if_pos hpe, List.length_append, hn']; rfl, q2⟩
            clear hat' hc10 hT10 he hs htk hpe e1 e2 hn' q1 q2 hown hchg hat
            go_roundw
            case rel => exact ⟨k + 1, by omega, by go_num, A', c', nt + 1, rfl, by omega, HN'⟩
            case measure => simp [intOf]; omega
          · have g0' : (pe == 0) = false := beq_eq_false_iff_ne.2 hpe0
            go_wp2_with fail
            obtain ⟨he, hs, htk, hpe⟩ := HS.out
            have hT9 := HT9.out
            have e1 : s1 = if m.putErr s e = 0 then s.add e else s := by rw [hpe]; exact HS1.out.symm
            have e2 : tk = tk ++ if m.putErr s e = 0 then [e] else [] := by rw [hpe, if_neg hpe0, List.append_nil]
            rw [e1] at hT9
            rw [e2] at hT9
            have hn' := HNT.out
            obtain ⟨q1, q2⟩ := PutAt.next (RB := RB) (by rw [HL.out]; exact hlt) he hs htk hT9 HE1.out HE3.out HN.out.2.2
            have HN' : Hid ((taken m m.start (es.take (k + 1))).length = nt ∧ PutAt w3 w9 m es SB RB QB (k + 1) A c) := Lib.hid ⟨by rw [← q1, ← e2, hn'], q2⟩
            clear hT9 he hs htk hpe e1 e2 hn' q1 q2
            go_roundw
            case rel => exact ⟨k + 1, by omega, by go_num, A, c, nt, rfl, by omega, HN'⟩
            case measure => simp [intOf]; omega
        · have g1 : ¬ (k : Int) < (L : Int) := by omega
          have hkL : k = L := by omega
          subst hkL
          obtain ⟨hnt, p, r, q, ws, wt, blk, hT, hSB, hRB, hQB⟩ := HI.out
          have htake : es.take k = es := List.take_of_length_le (by rw [HL.out]; exact Nat.le_refl _)
          rw [htake] at hT hnt
          obtain ⟨tk, htk⟩ : ∃ tk, taken m m.start es = tk := ⟨_, rfl⟩
          rw [htk] at hT hnt
          have hB0 : BackAt w3 wr m (putAll m m.start es) tk SB QB 0 A c := ⟨{ p with U := fun g => q.T g ∨ some g = blk }, { q with U := fun g => p.T g ∨ some g = blk }, ws, wt, blk, by rw [List.take_zero, addAll_nil]; exact hT.pair, hSB, hQB, hT.own⟩
          have HB0 := Lib.hid hB0
          have HNT := Lib.hid hnt
          have HTK := Lib.hid htk
          have hnt20 : nt ≤ 20 := by omega
          have wn : IntKind.i64.wrap ((nt : Int) - 1) = (nt : Int) - 1 := by simp [IntKind.wrap, IntKind.bits, IntKind.signed]; omega
          clear hT hSB hRB hQB htake htk hnt HI hB0
          go_wp2_with fail
          go_loopw [16] (fun i wr => ∃ j : Nat, j ≤ nt ∧ i = .int .i64 ((nt : Int) - 1 - (j : Int)) ∧ Hid (BackAt w3 wr m (putAll m m.start es) tk SB QB j A c)) (fun i _ => (intOf i + 1).toNat)
          case atStart => exact ⟨0, Nat.zero_le _, by simp, HB0⟩
          case round =>
            obtain ⟨j, hj, rfl, HI2⟩ := hrel
            by_cases hlt2 : j < nt
            · obtain ⟨i, hi⟩ : ∃ i : Nat, (nt : Int) - 1 - (j : Int) = (i : Int) := ⟨nt - 1 - j, by omega⟩
              have hin : (i : Int) < (nt : Int) := by omega
              have hie : i = nt - 1 - j := by omega
              have hitk : i < tk.length := by rw [HNT.out]; omega
              have g0i : (0 : Int) ≤ (i : Int) := by omega
              rw [hi]
              obtain ⟨p, q, ws, wt, blk, hP, hSB, hQB, ho⟩ := HI2.out
              have hrd := ho.rdAt
              obtain ⟨b, o, el, c0, c1, c2, c3, c4, c5⟩ := ev_at hrd hitk
              have hmem : tk[i] ∈ es := taken_sub m es m.start tk[i] (by rw [HTK.out]; exact List.getElem_mem hitk)
              have hwf := HZZ.out tk[i] hmem
              obtain ⟨e, he⟩ : ∃ e, tk[i] = e := ⟨_, rfl⟩
              have hpe := turned_put m es m.start HTK.out (j := j) (by rw [HNT.out]; exact hlt2) (by rw [HNT.out]; exact hie) hitk he
              have hsn := turned_snoc tk m.start (j := j) (by rw [HNT.out]; exact hlt2) (by rw [HNT.out]; exact hie) hitk he
              have hsz := addAll_size m.start (tk.reverse.take j)
              have hlen : (tk.reverse.take j).length ≤ 20 := by rw [List.length_take]; omega
              have hf64 := HMAY.out.f64
              have hst : m.start.w.length ≤ 64 ∧ m.start.put.length = 0 := ⟨hf64, rfl⟩
              rw [he] at c0 c1 c2 c3 c4 c5 hwf
              obtain ⟨t, ht⟩ : ∃ t, addAll m.start (tk.reverse.take j) = t := ⟨_, rfl⟩
              rw [ht] at hP hpe hsn hsz
              have k6 := put_any q m t wt e wr hP.Q hwf (by omega) (by omega)
              unfold PutOut at k6
              rw [hpe, if_pos rfl, hQB] at k6
              have K6 := Lib.hid k6
              have HP := Lib.hid hP
              have HO := Lib.hid ho
              have HN := Lib.hid (⟨hSB, hQB⟩ : _ ∧ _)
              have HSN := Lib.hid hsn
              have HIE := Lib.hid hie
              have wi : IntKind.i64.wrap ((i : Int) - 1) = (i : Int) - 1 := by simp [IntKind.wrap, IntKind.bits, IntKind.signed]; omega
              clear hP ho hSB hQB hsn hpe hsz hlen hf64 hst hwf hmem he ht k6 HI2 hrd hi hie
              subst el
              go_wp2_with fail
              refine K6.out.mono ?_
              rintro x w8 ⟨rfl, q', wt', hps, e1, e2, hch, hTT⟩
              have hP8 := (HP.out.swap.acts hps e2 hch hTT).swap
              have ho8 := HO.out.chg hch (fun g eg k => HP.out.Q.dis g k (by rw [HP.out.qU]; exact .inr eg.symm))
              rw [← HSN.out] at hP8
              have HB8 : Hid (BackAt w3 w8 m (putAll m m.start es) tk SB QB (j + 1) (some ⟨b, o, none⟩) c) := Lib.hid ⟨_, q', ws, wt', blk, hP8, HN.out.1, e1, ho8⟩
              clear hps e1 e2 hch hTT hP8 ho8 K6
              go_wp2_with fail
              go_roundw
              case rel => exact ⟨j + 1, by omega, by rw [HIE.out]; congr 1; omega, HB8⟩
              case measure => simp [intOf]
            · have hjn : j = nt := by omega
              subst hjn
              obtain ⟨p, q, ws, wt, blk, hP, hSB, hQB, ho⟩ := HI2.out
              have hE : Eqv (putAll m m.start es) (addAll m.start (tk.reverse.take j)) := by have := turned_eqv m es m.start; rw [HTK.out, HNT.out] at this; exact this
              have hww := hP.same hE
              subst hww
              have hsz := putAll_size m es m.start
              have hf64 := HMAY.out.f64
              have hst : m.start.w.length ≤ 64 ∧ m.start.done = 0 := ⟨hf64, rfl⟩
              have hLe := HL.out
              have hT0 : TurnAt w3 wr m SB QB 0 := ⟨_, p, q, _, ws, _, hP, hE, hSB, hQB, by omega, by omega⟩
              have HT0 := Lib.hid hT0
              have gend : ((0 : Int) ≤ (j : Int) - 1 - (j : Int)) = False := by simp; omega
              clear hP hSB hQB ho hE hsz hf64 hst hLe hT0 HI2
              go_wp2_with fail
              go_loopw [17] (fun i wr => ∃ k : Nat, k ≤ K ∧ i = .int .i64 k ∧ Hid (TurnAt w3 wr m SB QB k)) (fun i _ => K - (intOf i).toNat)
              case atStart => exact ⟨0, Nat.zero_le _, rfl, HT0⟩
              case round =>
                obtain ⟨a, ha, rfl, HI3⟩ := hrel
                by_cases hlt3 : a < K
                · have g3 : (a : Int) < (K : Int) := by omega
                  obtain ⟨X, p, q, s, ws, t, hP, hE, hSB, hQB, hd, hwl⟩ := HI3.out
                  have hd9 : s.done ≤ 900 := by omega
                  have hw9 : s.w.length ≤ 9000 := by omega
                  have k6 := pairStep_any hP hd9 hw9
                  obtain ⟨ey, hey⟩ : ∃ ey, ws.headD evZ = ey := ⟨_, rfl⟩
                  unfold PairOut ev6 at k6
                  rw [hSB, hey] at k6
                  have K6 := Lib.hid k6
                  have HP := Lib.hid hP
                  have HE := Lib.hid hE
                  have HN := Lib.hid (⟨hSB, hQB, hd, hwl, hd9, hw9, hey⟩ : _ ∧ _ ∧ _ ∧ _ ∧ _ ∧ _ ∧ _)
                  clear hP hE hSB hQB hd hwl hd9 hw9 hey k6 HI3
                  go_wp2_with fail
                  refine K6.out.mono ?_
                  rintro x w12 ⟨p', s1, ws1, nu, tA, tc, er, rfl, hP2, e1, hch, hcase⟩
                  obtain ⟨EB, hEB⟩ : ∃ EB, w12.heap.size = EB := ⟨_, rfl⟩
                  obtain ⟨w13, hw13⟩ : ∃ w13, w12.alloc (.cells #[.int .i64 ey.k.T, .int .i64 ey.k.O, .int .i64 ey.k.S, .int .i64 ey.p, .int .i64 ey.q, .int .i64 ey.d] 44) = w13 := ⟨_, rfl⟩
                  have hbE : Blk w13 EB 44 #[.int .i64 ey.k.T, .int .i64 ey.k.O, .int .i64 ey.k.S, .int .i64 ey.p, .int .i64 ey.q, .int .i64 ey.d] := by rw [← hw13]; exact Blk.last w12 _ _ hEB
                  have n23 : Nw w12 w13 := by rw [← hw13]; exact (Nw.refl w12).alloc _
                  have k7 := pairSecond_any HP.out HE.out HN.out.2.2.2.2.1 HN.out.2.2.2.2.2.1 (hP2.new n23) hch n23 hcase hbE hEB
                  unfold ev6 at k7
                  rw [HN.out.2.1, HN.out.2.2.2.2.2.2] at k7
                  have K7 := Lib.hid k7
                  have HW13 := Lib.hid hw13
                  have HEB := Lib.hid hEB
                  have HE1 := Lib.hid e1
                  clear k7 hw13 hEB hbE n23 hP2 e1 hch hcase K6
                  go_upto_region 25 with (fail)
                  rw [HW13.out, HEB.out]
                  go_wp2_with fail
                  refine K7.out.mono ?_
                  rintro x w14 ⟨p'', q', uA, uc, ws2, t1, rfl, hP4, hE4, f1, f2, hbE4, ⟨L2, hL2, hn4, hra, hrb⟩, q1, q2⟩
                  obtain ⟨FB, hFB⟩ : ∃ FB, w14.heap.size = FB := ⟨_, rfl⟩
                  obtain ⟨w15, hw15⟩ : ∃ w15, w14.alloc (.cells #[.int .i64 ey.k.T, .int .i64 ey.k.O, .int .i64 ey.k.S, .int .i64 ey.p, .int .i64 ey.q, .int .i64 ey.d] 44) = w15 := ⟨_, rfl⟩
                  have hbF : Blk w15 FB 44 #[.int .i64 ey.k.T, .int .i64 ey.k.O, .int .i64 ey.k.S, .int .i64 ey.p, .int .i64 ey.q, .int .i64 ey.d] := by rw [← hw15]; exact Blk.last w14 _ _ hFB
                  have n45 : Nw w14 w15 := by rw [← hw15]; exact (Nw.refl w14).alloc _
                  have hbE5 := hbE4.below n45 hbE4.lt
                  have KR := Lib.hid (sameRecords_yes w15 tA uA nu tc uc L2 (hra.keep fun p hp => Below.cell n45 hp) (hrb.keep fun p hp => Below.cell n45 hp) hL2 (by omega))
                  have HP5 := Lib.hid (hP4.new n45)
                  have HE5 := Lib.hid hE4
                  have hd1 : s1.done ≤ a + 1 := by have := HN.out.2.2.1; omega
                  have hw1 : s1.w.length ≤ 84 + 4 * (a + 1) := by have := HN.out.2.2.2.1; omega
                  have HQ5 := Lib.hid (⟨f1.trans HE1.out, f2, hd1, hw1⟩ : p''.SB = SB ∧ q'.SB = QB ∧ s1.done ≤ a + 1 ∧ s1.w.length ≤ 84 + 4 * (a + 1))
                  have HW15 := Lib.hid hw15
                  have HFB := Lib.hid hFB
                  have eb0 : w15.cell? ⟨EB, 0, none⟩ = some (.int .i64 ey.k.T) := hbE5.cell 0
                  have eb1 : w15.cell? ⟨EB, 1, none⟩ = some (.int .i64 ey.k.O) := hbE5.cell 1
                  have eb2 : w15.cell? ⟨EB, 2, none⟩ = some (.int .i64 ey.k.S) := hbE5.cell 2
                  have eb3 : w15.cell? ⟨EB, 3, none⟩ = some (.int .i64 ey.p) := hbE5.cell 3
                  have eb4 : w15.cell? ⟨EB, 4, none⟩ = some (.int .i64 ey.q) := hbE5.cell 4
                  have eb5 : w15.cell? ⟨EB, 5, none⟩ = some (.int .i64 ey.d) := hbE5.cell 5
                  have fb0 : w15.cell? ⟨FB, 0, none⟩ = some (.int .i64 ey.k.T) := hbF.cell 0
                  have fb1 : w15.cell? ⟨FB, 1, none⟩ = some (.int .i64 ey.k.O) := hbF.cell 1
                  have fb2 : w15.cell? ⟨FB, 2, none⟩ = some (.int .i64 ey.k.S) := hbF.cell 2
                  have fb3 : w15.cell? ⟨FB, 3, none⟩ = some (.int .i64 ey.p) := hbF.cell 3
                  have fb4 : w15.cell? ⟨FB, 4, none⟩ = some (.int .i64 ey.q) := hbF.cell 4
                  have fb5 : w15.cell? ⟨FB, 5, none⟩ = some (.int .i64 ey.d) := hbF.cell 5
                  clear hP4 hE4 f1 f2 hbE4 hL2 hn4 hra hrb q1 q2 hw15 hbF n45 hbE5 hFB K7 hd1 hw1
                  go_upto_region 26 with (fail)
                  rw [HW15.out, HFB.out]
                  go_wp2_with fail
                  refine KR.out.mono ?_
                  rintro x w16 ⟨rfl, nq, rfl⟩
                  have HT16 : Hid (TurnAt w3 (w15.drewN nq) m SB QB (a + 1)) := Lib.hid ⟨X, p'', q', s1, ws2, t1, HP5.out.new (Below.many (Nw.refl w15) nq), HE5.out, HQ5.out.1, HQ5.out.2.1, HQ5.out.2.2.1, HQ5.out.2.2.2⟩
                  go_wp2_with fail
                  go_roundw
                  case rel => exact ⟨a + 1, by omega, by go_num, HT16⟩
                  case measure => simp [intOf]; omega
                · have g3 : ¬ (a : Int) < (K : Int) := by omega
                  obtain ⟨X, p, q, s, ws, t, hP, hE, hSB, hQB, hd, hwl⟩ := HI3.out
                  have k6 := sameY_any wr p q m s t ws hP.P hP.Q hE hP.P.ok.few
                  rw [hSB, hQB] at k6
                  have K6 := Lib.hid k6
                  have HNW := Lib.hid (N3.out.step hP.nw)
                  clear hP hE hSB hQB hd hwl k6 HI3
                  go_wp2_with fail
                  refine K6.out.mono ?_
                  rintro x w8 ⟨rfl, n8⟩
                  go_wp2_with fail
                  refine (HK.out _).mono ?_
                  rintro x w9 ⟨rfl, n9⟩
                  go_wp2_with fail
                  go_ret
                  exact ⟨rfl, (HNW.out.step n8).step n9⟩
    · cases b with
      | false =>
        clear hc hbm
        go_wp2_with fail
        refine (HK.out _).mono ?_
        rintro x w4 ⟨rfl, n34⟩
        go_wp2_with fail
        go_ret
        exact ⟨rfl, N3.out.step n34⟩
      | true =>
        clear hbm
        by_cases h20 : (20 : Int) < (L : Int)
        · clear hc
          go_wp2_with fail
          refine (HK.out _).mono ?_
          rintro x w4 ⟨rfl, n34⟩
          go_wp2_with fail
          go_ret
          exact ⟨rfl, N3.out.step n34⟩
        · have g20 : ((20 : Int) < (L : Int)) = False := by simpa using h20
          clear h20
          by_cases h0 : steps < 0
          · clear hc
            go_wp2_with fail
            refine (HK.out _).mono ?_
            rintro x w4 ⟨rfl, n34⟩
            go_wp2_with fail
            go_ret
            exact ⟨rfl, N3.out.step n34⟩
          · have g0 : (steps < 0) = False := by simpa using h0
            have h30 : (30 : Int) < steps := by
              by_cases h30 : (30 : Int) < steps
              · exact h30
              · exact absurd ⟨rfl, by simpa using g20, h0, h30⟩ hc
            clear h0 hc
            go_wp2_with fail
            refine (HK.out _).mono ?_
            rintro x w4 ⟨rfl, n34⟩
            go_wp2_with fail
            go_ret
            exact ⟨rfl, N3.out.step n34⟩
end
end Go.Proofs.Ytgijkgngldfdiaa
/- SequenceTurns: for every input the law returns true, and what was handed in reads as it did. No condition. -/
namespace Go.Proofs.Ytgijkgngldfdiaa
open Go.RowKit
theorem Rows.six {w : World} {A : Option Addr} {k : Nat} {zs : List (List Int)} (h : Rows w A k zs) : ∀ r ∈ zs, r.length = k := fun r hr => by
  obtain ⟨i, hi, rfl⟩ := List.getElem_of_mem hr
  rcases h with rfl | ⟨b, o, _, h⟩
  · simp at hi
  · exact (h i hi).1
theorem evs_wf {zs : List (List Int)} (h6 : ∀ r ∈ zs, r.length = 6) (h : ∀ r ∈ zs, ∀ z ∈ r, (Lit.int .i64 z).wf = true) : ∀ e ∈ zs.map evOf, (Lit.int .i64 e.k.S).wf = true := fun e he => by
  obtain ⟨r, hr, rfl⟩ := List.mem_map.1 he
  refine h r hr _ ?_
  show r.getD 2 0 ∈ r
  have := h6 r hr
  rw [List.getD_eq_getElem?_getD, List.getElem?_eq_getElem (by omega)]
  exact List.getElem_mem _
end Go.Proofs.Ytgijkgngldfdiaa
namespace Go.Proofs.Ytgijkgngldfdiaa.sequenceTurns
open Go.ChangeShapes Go.WideShapes Go.ChangeAt Go.RowKit
set_option linter.unusedVariables false
set_option linter.unusedSimpArgs false
theorem own : ownKnob Try.prog.godebug = none := by kernel_rfl
theorem laidOut : laidOutB Try.prog = true := by kernel_rfl
theorem walk (m : Mdl) (pA : Option Addr) (pc : Nat) (fA : Option Addr) (fc : Nat) (lA : Option Addr) (zs : List (List Int)) (lc : Nat) (n : Int) (w : World) (h : MAt w m pA fA) (hz : Rows w lA 6 zs) (hm : zs.length ≤ maxLen) (hr : ∀ r ∈ zs, ∀ z ∈ r, (Lit.int .i64 z).wf = true) (_ : (Lit.int .i64 n).wf = true) :
    Calls Try.prog 4 #[.agg #[.slice pA m.procs.length pc, .slice fA m.first.length fc], .slice lA zs.length lc, .int .i64 n] w fun e w' => e = .returned (.bool true) ∧ Below w.heap.size w w' := by
  have := turns_any m pA fA pc fc w lA (zs.map evOf) lc n h (rd_of_rows hz hz.six) (by rw [List.length_map]; exact hm) (evs_wf hz.six hr)
  rw [List.length_map] at this
  exact this
set_option maxRecDepth 100000 in
theorem lifted (os : Os) (started : os.Started) (H : Type) (enc : TypeId × Value → H) :
    ReturnsInHanded {} Try.checked os 4 .any (Rows.sequenceTurnsSpec.pre6 enc Try.prog Try.f4 Rows.sequenceTurnsRow.domain false) (Rows.sequenceTurnsSpec.post enc Try.prog Try.f4 false true false false) := by
  refine returnsInHanded_of_change (C := Try.checked) own started (by kernel_rfl) Try.func4
    (ChangeSpec.witness6 (enc := enc) (C := Try.checked) false ⟨#[], #[.agg #[.slice none 0 0, .slice none 0 0], .slice none 0 0, .int .i64 0], []⟩ 8 (by kernel_rfl) (by kernel_rfl) (by kernel_rfl) (by kernel_rfl)) ?_
  intro W base args ds gs before hval0 hW hcnd _
  have hval : ∀ (j : Nat) t v, Try.f4.params[j]? = some t → args[j]? = some v → Value.okWide Try.prog W .any base t v := hval0
  have hW' := hW
  obtain ⟨p, q, hA0, hV, rfl, hfz, hnd⟩ := hW
  have hA : DataW.TrodAll enc Try.prog W 0 (fun _ => true) true Try.f4.params.toList args.toList ds p := hA0
  rw [Try.params4] at hA hval
  obtain ⟨v0, vs0, d0, ds0, p0, q0, hargs, rfl, rfl, h0, r0x⟩ := trodAll_cons hA
  obtain ⟨v1, vs1, d1, ds1, p1, q1, rfl, rfl, rfl, h1, r1x⟩ := trodAll_cons r0x
  obtain ⟨v2, vs2, d2, ds2, p2, q2, rfl, rfl, rfl, h2, r2x⟩ := trodAll_cons r1x
  obtain ⟨rfl, rfl, rfl⟩ := trodAll_nil r2x
  obtain rfl : args = #[v0, v1, v2] := by cases args; simp_all
  obtain ⟨rfl, rfl⟩ := trodVars_none hV
  have k0 := h0
  have lt0 : ∀ x ∈ p0, x.block < W.heap.size := by obtain ⟨m, hm⟩ := k0; exact DataW.trod_lt m _ _ _ hm
  have k1 := h1
  have lt1 : ∀ x ∈ p1, x.block < W.heap.size := by obtain ⟨m, hm⟩ := k1; exact DataW.trod_lt m _ _ _ hm
  obtain ⟨fuel0, hf0⟩ := h0
  obtain ⟨m0, pA0, pc0, fA0, fc0, rfl, hM0⟩ := open_model (hval 0 25 v0 rfl rfl) hf0
  obtain ⟨a1, len1, cap1, rfl⟩ := okWide_slice Try.underlying23 (hval 1 23 v1 rfl rfl)
  obtain ⟨zs1, hzl1, w1, m1, r1⟩ : ∃ zs : List (List Int), zs.length = len1 ∧ Rows W a1 6 zs ∧ len1 ≤ maxLen ∧ ∀ r ∈ zs, ∀ z ∈ r, (Lit.int .i64 z).wf = true := by
    obtain ⟨fuel, hf⟩ := h1
    obtain ⟨A, c, zs, hv, g⟩ := open_rows 6 Try.underlying23 (by kernel_rfl) (by decide) aiEvent (by simpa [Value.cells] using hf)
    injection hv with e1 e2 e3
    subst e1 e2
    exact ⟨zs, rfl, g⟩
  subst hzl1
  obtain ⟨n2, rfl, rfl, rfl, w2⟩ := open_int Try.underlying3 (hval 2 3 v2 rfl rfl) h2
  clear hA0 hval0
  refine (walk m0 pA0 pc0 fA0 fc0 a1 zs1 cap1 n2 W hM0 w1 m1 r1 w2).mono fun e W' ⟨he, bel⟩ => ?_
  subst he
  exact ⟨_, rfl, _, _, _, [], _, [], hW', trodAll_mk1 (shut_bool Try.underlying4 _), (trodAll_cons_mk (Below.trod laidOut (by kernel_rfl) (of_decide_eq_true (by kernel_rfl)) k0 bel lt0) (trodAll_cons_mk (Below.trod laidOut (by kernel_rfl) (of_decide_eq_true (by kernel_rfl)) k1 bel lt1) (trodAll_cons_mk (shut_int Try.underlying3 w2) trodAll_mk0))), rfl, bel.frame _, fun h => by cases h⟩
theorem over : Rows.sequenceTurnsRow.holds Try.pinned (OpenSpec.ofChange Rows.sequenceTurnsSpec) :=
  OpenClaim.holds_of_wide 4 Try.f4 rfl rfl rfl rfl rfl rfl rfl ⟨rfl, rfl, rfl, rfl, rfl⟩ rfl rfl rfl rfl rfl (by kernel_rfl) Try.func4 (by kernel_rfl)
    (of_decide_eq_true (by kernel_rfl)) (by unfold Func.isWrapper; first | (rw [if_pos (by decide +kernel)]; kernel_rfl) | (rw [if_neg (by decide +kernel)]; exact ⟨rfl, rfl⟩))
    (fun os started H enc _ => lifted os started H enc)
/-- ████ THE STATEMENT ████ -/
theorem proved : Rows.SequenceTurnsSaid := over
#print axioms proved
end Go.Proofs.Ytgijkgngldfdiaa.sequenceTurns
