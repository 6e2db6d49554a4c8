/- SequencePlays: for every input the law returns true, and what was handed in reads as it did. No condition. -/
import Derived.Test.YtgijkgngldfdiaaSqA
import Derived.Test.YtgijkgngldfdiaaSqB
import Derived.Test.YtgijkgngldfdiaaVmArgs
import Derived.Test.YtgijkgngldfdiaaSqK
import Derived.Test.YtgijkgngldfdiaaSqL
import Derived.Test.YtgijkgngldfdiaaSqE
import Derived.Test.YtgijkgngldfdiaaOpen
import Derived.Test.YtgijkgngldfdiaaRows
namespace Go.Proofs.Ytgijkgngldfdiaa
open Go.RowKit Go.ChangeShapes Go.WideShapes
set_option linter.unusedVariables false
set_option linter.unusedSimpArgs false
set_option maxRecDepth 100000
theorem aiAct : AllInt 49 := by
  have c3 : Try.prog.cellsOf 3 = 1 := by kernel_rfl
  have cE : Try.prog.cellsOf 44 = 6 := by kernel_rfl
  have cA : Try.prog.cellsOf 49 = 7 := by kernel_rfl
  refine @AllInt.struct _ _ Try.underlying49 ?_
  intro j hj
  rw [cA] at hj
  have : j = 0 ∨ 1 ≤ j := by omega
  rcases this with rfl | h
  · exact ⟨0, _, rfl, by decide, by show 0 < 0 + Try.prog.cellsOf 3; omega, aiInt⟩
  · exact ⟨1, _, rfl, by show 1 ≤ j; omega, by show j < 1 + Try.prog.cellsOf 44; omega, aiEvent⟩
theorem rd_of_rows {w : World} {A : Option Addr} {zs : List (List Int)} (h : Rows w A 6 zs) (h6 : ∀ r ∈ zs, r.length = 6) : Rd w A (ints (rows (zs.map evOf))) := by
  rcases h with rfl | ⟨b, o, rfl, h⟩
  · exact .inl rfl
  · refine .inr ⟨b, o, rfl, fun j u hu => ?_⟩
    have hlen : (ints (rows (zs.map evOf))).length = zs.length * 6 := by rw [ints_length, rows_length, List.length_map]
    have hj : j < zs.length * 6 := by
      rcases Nat.lt_or_ge j (zs.length * 6) with h' | h'
      · exact h'
      · rw [List.getElem?_eq_none (by omega)] at hu; cases hu
    have hi : j / 6 < zs.length := by omega
    have hc : j % 6 < 6 := by omega
    have hr := rows_get (zs.map evOf) (j / 6) (by simpa using hi) (j % 6) hc
    rw [show j / 6 * 6 + j % 6 = j by omega] at hr
    obtain ⟨hl, hcell⟩ := h (j / 6) hi
    have he : ((zs.map evOf)[j / 6]'(by simpa using hi)).row = zs[j / 6] := by
      rw [List.getElem_map]; exact row_evOf hl
    rw [he] at hr
    have hcj := hcell (j % 6) (by omega)
    rw [Nat.add_assoc, show j / 6 * 6 + j % 6 = j by omega] at hcj
    rw [hcj, ← hu, ints_get, hr, List.getElem?_eq_getElem (by omega)]
    rfl
theorem proc_of {H : Type} {enc : TypeId × Value → H} {w : World} {base : Nat} {held : Bool} {fuel : Nat} {cs : List Value} {x : DataW H × List MemPlace} (h : DataW.trod enc Try.prog w base (fun _ => true) held fuel 79 cs = some x) (hl : cs.length = 4) :
    ∃ (p : Pr) (kA : Option Addr) (kc : Nat) (vA : Option Addr) (vc : Nat), cs = [.int .i64 p.vars, .slice kA p.ks.length kc, .slice vA p.vals.length vc, .int .i64 p.seed] ∧ RKinds w kA p.ks ∧ p.ks.length ≤ maxLen ∧ Rd w vA (ints p.vals) ∧ p.vals.length ≤ maxLen := by
  have cP : Try.prog.cellsOf 77 = 2 := by kernel_rfl
  have c2 : Try.prog.cellsOf 40 = 1 := by kernel_rfl
  have c3 : Try.prog.cellsOf 2 = 1 := by kernel_rfl
  have c4 : Try.prog.cellsOf 3 = 1 := by kernel_rfl
  have c5 : Try.prog.cellsOf 75 = 1 := by kernel_rfl
  obtain ⟨xs, k, hk, hxy, hlen, hxl, hf⟩ := DataW.trod_struct Try.underlying79 h
  match xs, hxl, cs, hl with
  | [y0, y1, y2], _, [v0, v1, v2, v3], _ =>
    have g0 := hf 0 _ rfl
    have g1 := hf 1 _ rfl
    have g2 := hf 2 _ rfl
    simp [cP, c2, c3] at g0 g1 g2
    obtain ⟨y3, y4, n, _, hl2, h0, h1⟩ := trod_struct2 Try.underlying77 g0
    simp [c4, c5] at h0 h1
    obtain ⟨z, e0, _, hw⟩ := DataW.trod_int Try.underlying3 h0
    injection e0 with e0 _
    subst e0
    obtain ⟨A, c, ks, rfl, q1, q2⟩ := open_kinds h1
    obtain ⟨z3, e3, _, w3⟩ := DataW.trod_int Try.underlying2 g2
    injection e3 with e3 _
    subst e3
    rcases open_ints Try.underlying40 Try.underlying2 (by kernel_rfl) g1 with ⟨hcs, _⟩ | ⟨a, len, cap, zs, hcs, _, hl, hm, hz, _, hcell, hwz⟩
    · injection hcs with hcs _
      subst hcs
      exact ⟨⟨z, ks, [], z3⟩, A, c, none, 0, rfl, q1, q2, .inl rfl, Nat.zero_le _⟩
    · injection hcs with hcs _
      subst hcs
      obtain ⟨ns, r1, r2, r3⟩ := ints_of hl (by simpa using hz) hcell hwz
      subst r1
      exact ⟨⟨z, ks, ns, z3⟩, A, c, some a, cap, rfl, q1, q2, r2, by show ns.length ≤ _; omega⟩
theorem open_procs {H : Type} {enc : TypeId × Value → H} {w : World} {base : Nat} {held : Bool} {fuel : Nat} {v : Value} {x : DataW H × List MemPlace}
    (h : DataW.trod enc Try.prog w base (fun _ => true) held fuel 22 [v] = some x) :
    ∃ A c ps, v = .slice A (List.length ps) c ∧ (ps = [] ∨ ∃ b o, A = some ⟨b, o, none⟩ ∧ ∀ i (h : i < ps.length), ProcIn w b (o + i * 4) ps[i]) ∧ ps.length ≤ maxLen := by
  rcases Go.Deep.open_slice Try.underlying22 h with ⟨hcs, _⟩ | ⟨a, len, cap, m, n, D, Pl, hcs, _, hl, hm, hmm, _, hx⟩
  · injection hcs with hcs _
    exact ⟨none, 0, [], hcs, .inl rfl, Nat.zero_le _⟩
  · injection hcs with hcs _
    subst hcs
    simp only [if_true] at hmm
    subst hmm
    have z4 : Try.prog.cellsOf 79 = 4 := by kernel_rfl
    have each : ∀ i, i < len → ∃ q : Pr × (Option Addr × Nat) × (Option Addr × Nat), (w.cell? ((a.add (i * 4)).add 0) = some (.int .i64 q.1.vars) ∧ w.cell? ((a.add (i * 4)).add 1) = some (.slice q.2.1.1 q.1.ks.length q.2.1.2) ∧ w.cell? ((a.add (i * 4)).add 2) = some (.slice q.2.2.1 q.1.vals.length q.2.2.2) ∧ w.cell? ((a.add (i * 4)).add 3) = some (.int .i64 q.1.seed)) ∧ RKinds w q.2.1.1 q.1.ks ∧ q.1.ks.length ≤ maxLen ∧ Rd w q.2.2.1 (ints q.1.vals) ∧ q.1.vals.length ≤ maxLen := by
      intro i hi
      obtain ⟨cs', h1, h2⟩ := hx i (by omega)
      rw [z4] at h1
      obtain ⟨_, hlen, hcell⟩ := World.cells?_some h1
      obtain ⟨p, kA, kc, vA, vc, rfl, r1, r2, r3, r4⟩ := proc_of h2 hlen
      exact ⟨(p, (kA, kc), (vA, vc)), ⟨hcell 0 (by simp), hcell 1 (by simp), hcell 2 (by simp), hcell 3 (by simp)⟩, r1, r2, r3, r4⟩
    haveI : Inhabited Pr := ⟨Pr.z⟩
    obtain ⟨q, hq⟩ := Go.Deep.choose_lt each
    refine ⟨some a, m, (List.range len).map fun i => (q i).1, by simp, ?_, by simp; omega⟩
    by_cases h0 : len = 0
    · left; subst h0; rfl
    · obtain ⟨b, off, spot⟩ := a
      have hspot : spot = none := by
        have := World.cell?_spot (hq 0 (by omega)).1.1
        simpa [Addr.add] using this
      subst hspot
      refine .inr ⟨b, off, rfl, fun i hi => ?_⟩
      have hi' : i < len := by simpa using hi
      obtain ⟨⟨e0, e1, e2, e3⟩, r1, r2, r3, r4⟩ := hq i hi'
      simp only [add_plain, Nat.add_zero] at e0 e1 e2 e3
      have hg : ((List.range len).map fun i => (q i).1)[i] = (q i).1 := by simp
      rw [hg]
      exact ⟨e0, ⟨_, _, e1, r1⟩, ⟨_, _, e2, r3⟩, e3, r2, r4⟩
/-- A model by value. -/
theorem open_model {H : Type} {enc : TypeId × Value → H} {w : World} {r : Reach} {base b0 : Nat} {held : Bool} {fuel : Nat} {v : Value} {x : DataW H × List MemPlace}
    (hv : Value.okWide Try.prog w r b0 25 v) (h : DataW.trod enc Try.prog w base (fun _ => true) held fuel 25 v.cells.toList = some x) :
    ∃ (m : Mdl) (pA : Option Addr) (pc : Nat) (fA : Option Addr) (fc : Nat), v = .agg #[.slice pA m.procs.length pc, .slice fA m.first.length fc] ∧ MAt w m pA fA := by
  obtain ⟨cs, rfl, hsz⟩ := okWide_struct Try.underlying25 hv
  have c3 : Try.prog.cellsOf 22 = 1 := by kernel_rfl
  have c4 : Try.prog.cellsOf 23 = 1 := by kernel_rfl
  have cA : Try.prog.cellsOf 25 = 2 := by kernel_rfl
  obtain ⟨y0, y1, n, _, hl, h0, h1⟩ := trod_struct2 Try.underlying25 h
  rw [cA] at hsz
  obtain ⟨l⟩ := cs
  match l, hsz with
  | [v0, v1], _ =>
    simp [Value.cells, c3, c4] at h0 h1
    obtain ⟨pA, pc, ps, rfl, q1, q2⟩ := open_procs h0
    obtain ⟨fA, fc, zs, rfl, r1, r2, r3⟩ := open_events h1
    have h6 : ∀ r ∈ zs, r.length = 6 := fun r hr => by
      obtain ⟨i, hi, rfl⟩ := List.getElem_of_mem hr
      rcases r1 with h | ⟨b, o, _, h⟩
      · subst h; simp at hi
      · exact (h i hi).1
    refine ⟨⟨ps, zs.map evOf⟩, pA, pc, fA, fc, by simp, ⟨q1, rd_of_rows r1 h6, q2, by simpa using r2⟩⟩
end Go.Proofs.Ytgijkgngldfdiaa
/- The law of a sequence, act by act: its walk. Helper. -/
namespace Go.Proofs.Ytgijkgngldfdiaa
open Go.RowKit
set_option linter.unusedVariables false
set_option linter.unusedSimpArgs false
theorem few_vals {m : Mdl} (hm : m.May) : ∀ i, i < m.procs.length → (m.procs.getD i Pr.z).vals.length ≤ 100000 := fun i hi => by
  have h2 := hm.proc hi
  have h3 := may_vars h2.1
  omega
def BeginOut (w : World) (m : Mdl) (pA : Option Addr) (pc : Nat) (x : Ending) (w' : World) : Prop :=
  ∃ p r ws, x = .returned (.tuple #[.pointer (some ⟨p.SB, 0, none⟩), .pointer (some ⟨r.RB, 0, none⟩), .bool true]) ∧ Both (fun _ => False) w w' p r m m.start ws m.start ∧ r.pA = pA ∧ r.pc = pc
section
variable (m : Mdl) (pA fA : Option Addr) (pc fc : Nat) (w : World)
set_option maxRecDepth 100000
set_option maxHeartbeats 6400000
theorem begin_any (h : MAt w m pA fA) (hm : m.May) :
    Calls Try.prog 10 #[.agg #[.slice pA m.procs.length pc, .slice fA m.first.length fc]] w (BeginOut w m pA pc) := by
  obtain ⟨w1, hw1⟩ : ∃ w1, w.alloc (.cells #[.slice pA m.procs.length pc, .slice fA m.first.length fc] 25) = w1 := ⟨_, rfl⟩
  have n1 : Nw w w1 := by rw [← hw1]; exact (Nw.refl w).alloc _
  obtain ⟨XB, hXB⟩ : ∃ XB, w.heap.size = XB := ⟨_, rfl⟩
  have hb : Blk w1 XB 25 #[.slice pA m.procs.length pc, .slice fA m.first.length fc] := by rw [← hw1]; exact Blk.last w _ _ hXB
  have K1 := Lib.hid (seqNew_any m pA fA pc fc w1 (h.keep n1) hm (few_vals hm))
  have K2 := Lib.hid (fun W U hU (hW : Nw w W) => refNew_any m pA fA pc fc W U hU (h.keep hW) hm (few_vals hm))
  obtain ⟨n, hn⟩ : ∃ n, m.procs.length = n := ⟨_, rfl⟩
  obtain ⟨f, hf⟩ : ∃ f, m.first.length = f := ⟨_, rfl⟩
  rw [hn, hf] at K1 K2 hw1 hb ⊢
  have x0 : w1.cell? ⟨XB, 0, none⟩ = some (.slice pA n pc) := hb.cell 0
  have x1 : w1.cell? ⟨XB, 1, none⟩ = some (.slice fA f fc) := hb.cell 1
  have X0 := Lib.hid x0
  have X1 := Lib.hid x1
  have HW1 := Lib.hid hw1
  have HXB := Lib.hid hXB
  have N1 := Lib.hid n1
  clear h hm hw1 hXB n1 hb hn hf
  go_enter Try.func10, Try.ntmps10
  go_upto_region 1 with (fail)
  rw [HW1.out, HXB.out]
  go_wp2_with fail
  refine K1.out.mono ?_
  rintro x w2 ⟨p, ws, rfl, hp, n12, hlow, hU⟩
  have n02 := N1.out.step n12
  have K3 := Lib.hid (K2.out w2 p.T hp.lt n02)
  have x0 := n12.cell X0.out
  have x1 := n12.cell X1.out
  have HP := Lib.hid hp
  have N02 := Lib.hid n02
  have HLO := Lib.hid (fun g q => Nat.le_trans N1.out.size (hlow g q))
  clear hp n12 hlow hU n02
  go_wp2_with fail
  refine K3.out.mono ?_
  rintro x w3 ⟨r, rfl, ⟨r1, r2⟩, hr, n23, hlr, hrU⟩
  have hB := Lib.hid (Both.begin HP.out N02.out HLO.out hr n23 hlr hrU)
  have R1 := Lib.hid r1
  have R2 := Lib.hid r2
  clear hr n23 hlr hrU r1 r2
  go_wp2_with fail
  refine bodyPost_ret (v := .tuple #[.pointer (some ⟨p.SB, 0, none⟩), .pointer (some ⟨r.RB, 0, none⟩), .bool true]) (by simp [results, Try.results10, go_sem]) rfl ?_
  exact ⟨{ p with U := fun g => r.T g ∨ False }, r, ws, rfl, hB.out, R1.out, R2.out⟩
/-- The loop, so many acts on. -/
def LoopAt (w0 wr : World) (m : Mdl) (pA : Option Addr) (SB RB KB k : Nat) : Prop :=
  ∃ p r s ws, Both (fun g => g = KB) w0 wr p r m s ws s ∧ p.SB = SB ∧ r.RB = RB ∧ r.pA = pA ∧ s.done ≤ k ∧ s.w.length ≤ 64 + 4 * k ∧ s.put.length ≤ k ∧ Blk wr KB 38 #[.int .i64 s.last.T, .int .i64 s.last.O, .int .i64 s.last.S]
theorem seven {zs : List Int} (h : zs.length = 7) : ∃ (kd : Int) (e : Ev), zs = [kd, e.k.T, e.k.O, e.k.S, e.p, e.q, e.d] := by
  match zs, h with
  | [a, b, c, d, e, f, g], _ => exact ⟨a, ⟨⟨b, c, d⟩, e, f, g⟩, rfl⟩
set_option maxHeartbeats 12800000
theorem plays_any (lA : Option Addr) (zs : List (List Int)) (lc : Nat) (h : MAt w m pA fA) (hz : Rows w lA 7 zs) (hzm : zs.length ≤ maxLen) (hzz : ∀ r ∈ zs, ∀ z ∈ r, (Lit.int .i64 z).wf = true) :
    Calls Try.prog 3 #[.agg #[.slice pA m.procs.length pc, .slice fA m.first.length fc], .slice lA zs.length lc] w (fun e w' => e = .returned (.bool true) ∧ Nw w w') := by
  obtain ⟨w1, hw1⟩ : ∃ w1, w.alloc (.cells #[.slice pA m.procs.length pc, .slice fA m.first.length fc] 25) = w1 := ⟨_, rfl⟩
  have n1 : Nw w w1 := by rw [← hw1]; exact (Nw.refl w).alloc _
  obtain ⟨XB, hXB⟩ : ∃ XB, w.heap.size = XB := ⟨_, rfl⟩
  have hb : Blk w1 XB 25 #[.slice pA m.procs.length pc, .slice fA m.first.length fc] := by rw [← hw1]; exact Blk.last w _ _ hXB
  have k1 := refMuch_any m pA fA pc fc w1 (h.keep n1)
  have k2 := fun W (hW : Nw w W) => refModelMay_any m pA fA pc fc W (h.keep hW)
  have k3 := fun W (hW : Nw w W) hm => seqNew_no m pA fA pc fc W (h.keep hW) hm
  have k4 := fun W (hW : Nw w W) hm => begin_any m pA fA pc fc W (h.keep hW) hm
  obtain ⟨n, hn⟩ : ∃ n, m.procs.length = n := ⟨_, rfl⟩
  obtain ⟨f, hf⟩ : ∃ f, m.first.length = f := ⟨_, rfl⟩
  obtain ⟨L, hL⟩ : ∃ L, zs.length = L := ⟨_, rfl⟩
  rw [hn, hf] at k1 k2 k3 k4 hw1 hb ⊢
  rw [hL] at hzm ⊢
  simp only [maxLen] at hzm
  have x0 : w1.cell? ⟨XB, 0, none⟩ = some (.slice pA n pc) := hb.cell 0
  have x1 : w1.cell? ⟨XB, 1, none⟩ = some (.slice fA f fc) := hb.cell 1
  have K1 := Lib.hid k1
  have K2 := Lib.hid k2
  have K3 := Lib.hid k3
  have K4 := Lib.hid k4
  have HK := Lib.hid (fun W => known_any W)
  have X0 := Lib.hid x0
  have X1 := Lib.hid x1
  have HW1 := Lib.hid hw1
  have HXB := Lib.hid hXB
  have N1 := Lib.hid n1
  have HM := Lib.hid h
  have HZ := Lib.hid hz
  have HZZ := Lib.hid hzz
  have HL := Lib.hid hL
  clear h hw1 hXB n1 hb hn hf hL k1 k2 k3 k4 hz hzz
  go_enter Try.func3, Try.ntmps3
  go_upto_region 1 with (fail)
  rw [HW1.out, HXB.out]
  go_wp2_with fail
  refine K1.out.mono ?_
  rintro x w2 ⟨b, rfl, n12⟩
  have N2 := Lib.hid (N1.out.step n12)
  have x0 := n12.cell X0.out
  have x1 := n12.cell X1.out
  have X0 := Lib.hid x0
  have X1 := Lib.hid x1
  clear n12 K1
  cases b with
  | true =>
    go_wp2_with fail
    refine (HK.out _).mono ?_
    rintro x w3 ⟨rfl, n23⟩
    go_wp2_with fail
    go_ret
    exact ⟨rfl, N2.out.step n23⟩
  | false =>
    by_cases h60 : (60 : Int) < (L : Int)
    · go_wp2_with fail
      refine (HK.out _).mono ?_
      rintro x w3 ⟨rfl, n23⟩
      go_wp2_with fail
      go_ret
      exact ⟨rfl, N2.out.step n23⟩
    · have hL60 : L ≤ 60 := by omega
      have g60 : ((60 : Int) < (L : Int)) = False := by simpa using h60
      clear h60
      have K2' := Lib.hid (K2.out w2 N2.out)
      go_wp2_with fail
      refine K2'.out.mono ?_
      rintro x w3 ⟨b, rfl, hbm, n23⟩
      have N3 := Lib.hid (N2.out.step n23)
      have x0 := n23.cell X0.out
      have x1 := n23.cell X1.out
      clear n23 K2 K2'
      cases b with
      | false =>
        have hnm : ¬ m.May := fun hm => by have := hbm.2 hm; cases this
        have K3' := Lib.hid (K3.out w3 N3.out hnm)
        go_wp2_with fail
        refine K3'.out.mono ?_
        rintro x w4 ⟨rfl, n34⟩
        have N4 := Lib.hid (N3.out.step n34)
        clear n34 K3'
        go_wp2_with fail
        refine (HK.out _).mono ?_
        rintro x w5 ⟨rfl, n45⟩
        go_wp2_with fail
        go_ret
        exact ⟨rfl, N4.out.step n45⟩
      | true =>
        have hm : m.May := hbm.1 rfl
        have K4' := Lib.hid (K4.out w3 N3.out hm)
        have HMAY := Lib.hid hm
        have HM3 := Lib.hid (HM.out.keep N3.out)
        have HZ3 := Lib.hid (HZ.out.keep N3.out)
        clear hbm hm K3 K4
        go_wp2_with fail
        refine K4'.out.mono ?_
        rintro x w5 ⟨p, r, ws, rfl, hB, hrA, hrc⟩
        obtain ⟨SB, hSB⟩ : ∃ SB, p.SB = SB := ⟨_, rfl⟩
        obtain ⟨RB, hRB⟩ : ∃ RB, r.RB = RB := ⟨_, rfl⟩
        have k5 := lawSame_any p r m m.start ws w5 hB.P hB.R
        rw [hSB, hRB] at k5 ⊢
        have K5 := Lib.hid k5
        have HB5 := Lib.hid hB
        have HQ := Lib.hid (⟨hSB, hRB, hrA⟩ : _ ∧ _ ∧ _)
        clear hB hrA hrc hSB hRB k5 K4' x0 x1
        go_wp2_with fail
        refine K5.out.mono ?_
        rintro x w6 ⟨rfl, n56⟩
        obtain ⟨KB, hKB⟩ : ∃ KB, w6.heap.size = KB := ⟨_, rfl⟩
        obtain ⟨w7, hw7⟩ : ∃ w7, w6.alloc (.cells #[.int .i64 (-1), .int .i64 0, .int .i64 0] 38) = w7 := ⟨_, rfl⟩
        have hbK : Blk w7 KB 38 #[.int .i64 (-1), .int .i64 0, .int .i64 0] := by rw [← hw7]; exact Blk.last w6 _ _ hKB
        have n67 : Nw w6 w7 := by rw [← hw7]; exact (Nw.refl w6).alloc _
        have hB6 := HB5.out.new n56
        have hLP : LoopAt w3 w7 m pA SB RB KB 0 := ⟨_, _, m.start, ws, hB6.join n67 (fun g => g = KB) (fun g q => by rw [q, hKB]; exact Nat.le_refl _) (fun g q => by rw [q]; exact hbK.lt), HQ.out.1, HQ.out.2.1, HQ.out.2.2, Nat.le_refl _, HMAY.out.f64, Nat.le_refl _, hbK⟩
        have HLP := Lib.hid hLP
        have HW7 := Lib.hid hw7
        have HKB := Lib.hid hKB
        clear n56 hKB hw7 hbK n67 hB6 hLP K5
        go_upto_region 10 with (fail)
        rw [HW7.out, HKB.out]
        go_wp2_with fail
        go_loopw [11] (fun i wr => ∃ k : Nat, k ≤ L ∧ i = .int .i64 k ∧ Hid (LoopAt w3 wr m pA SB RB KB k)) (fun i _ => L - (intOf i).toNat)
        case atStart => exact ⟨0, Nat.zero_le _, rfl, HLP⟩
        case round =>
          obtain ⟨k, hk, rfl, HI⟩ := hrel
          by_cases hlt : k < L
          · have g1 : (k : Int) < (L : Int) := by omega
            obtain ⟨p, r, s, ws, hB, hSB, hRB, hrA, hd, hwl, hpl, hbK⟩ := HI.out
            have hkz : k < zs.length := by rw [HL.out]; exact hlt
            have hkp : ¬ p.T KB := (hB.offX KB rfl).1
            have hkr : ¬ r.T KB := (hB.offX KB rfl).2
            obtain ⟨lb, lo, el, hl7, hcl⟩ := (HZ3.out.keep hB.nw).get (i := k) hkz
            obtain ⟨kd, e, hze⟩ := seven hl7
            simp only [hze] at hcl
            have c0 := hcl 0 (by simp)
            have c1 := hcl 1 (by simp)
            have c2 := hcl 2 (by simp)
            have c3 := hcl 3 (by simp)
            have c4 := hcl 4 (by simp)
            have c5 := hcl 5 (by simp)
            have c6 := hcl 6 (by simp)
            simp at c0 c1 c2 c3 c4 c5 c6
            have hwf : (Lit.int .i64 e.k.S).wf = true := HZZ.out (zs[k]'hkz) (List.getElem_mem hkz) e.k.S (by rw [hze]; simp)
            obtain ⟨nx, hhd⟩ : ∃ nx, ws.headD evZ = nx := ⟨_, rfl⟩
            obtain ⟨nb, hnb⟩ : ∃ nb, (!ws.isEmpty) = nb := ⟨_, rfl⟩
            obtain ⟨dn, hdn⟩ : ∃ dn, s.done = dn := ⟨_, rfl⟩
            have b5 : wr.cell? ⟨RB, 5, none⟩ = some (.int .i64 (dn : Int)) := by rw [← hRB, ← hdn]; exact hB.R.box.cell 5
            have k6 := next_any p m s ws wr hB.P
            unfold NextOut ev6 at k6
            rw [hSB, hhd, hnb] at k6
            have K6 := Lib.hid k6
            have HBB := Lib.hid hB
            have HS := Lib.hid (⟨hSB, hRB, hrA, hd, hwl, hpl, hkp, hkr⟩ : p.SB = SB ∧ r.RB = RB ∧ r.pA = pA ∧ s.done ≤ k ∧ s.w.length ≤ 64 + 4 * k ∧ s.put.length ≤ k ∧ ¬ p.T KB ∧ ¬ r.T KB)
            have HBK := Lib.hid hbK
            have HWF := Lib.hid hwf
            have HHD := Lib.hid hhd
            have HDN := Lib.hid hdn
            have HACT := Lib.hid (⟨c0, c1, c2, c3, c4, c5, c6⟩ : _ ∧ _ ∧ _ ∧ _ ∧ _ ∧ _ ∧ _)
            have HEL := Lib.hid el
            clear hB hSB hRB hrA hd hwl hpl hkp hkr hbK hwf hhd hnb hdn hl7 hcl hze k6 HI c0 c1 c2 c3 c4 c5 c6
            subst el
            go_wp2_with fail
            refine K6.out.mono ?_
            rintro x w8 ⟨rfl, b8⟩
            have n8 : Nw wr w8 := b8
            obtain ⟨NB, hNB⟩ : ∃ NB, w8.heap.size = NB := ⟨_, rfl⟩
            obtain ⟨w9, hw9⟩ : ∃ w9, w8.alloc (.cells #[.int .i64 nx.k.T, .int .i64 nx.k.O, .int .i64 nx.k.S, .int .i64 nx.p, .int .i64 nx.q, .int .i64 nx.d] 44) = w9 := ⟨_, rfl⟩
            have hbN : Blk w9 NB 44 #[.int .i64 nx.k.T, .int .i64 nx.k.O, .int .i64 nx.k.S, .int .i64 nx.p, .int .i64 nx.q, .int .i64 nx.d] := by rw [← hw9]; exact Blk.last w8 _ _ hNB
            have n89 : Nw w8 w9 := by rw [← hw9]; exact (Nw.refl w8).alloc _
            have n9 : Nw wr w9 := n8.step n89
            have hB8 := HBB.out.new n8
            have hB9 := hB8.new n89
            have hnp : ¬ p.T NB := fun q => by have := hB8.P.lt NB q; omega
            have hnr : ¬ r.T NB := fun q => by have := hB8.R.lt NB q; omega
            have k7 := do_any (fun g => g = KB) p r m s ws fA w3 w9 hB9 (by rw [HS.out.2.2.1]; exact HM3.out) kd e HWF.out (by have := HS.out.2.2.2.1; omega) (by have := HS.out.2.2.2.2.1; omega) (by have := HS.out.2.2.2.2.2.1; omega)
            rw [HS.out.1, HS.out.2.1] at k7
            have K7 := Lib.hid k7
            have hbK9 := HBK.out.below n9 HBK.out.lt
            have HBN := Lib.hid hbN
            have HBK9 := Lib.hid hbK9
            have HNP := Lib.hid (⟨hnp, hnr⟩ : _ ∧ _)
            have HW9 := Lib.hid hw9
            have HNB := Lib.hid hNB
            obtain ⟨d0, d1, d2, d3, d4, d5, d6⟩ := HACT.out
            have d0 := n9.cell d0
            have d1 := n9.cell d1
            have d2 := n9.cell d2
            have d3 := n9.cell d3
            have d4 := n9.cell d4
            have d5 := n9.cell d5
            have d6 := n9.cell d6
            clear b8 n8 hNB hw9 hbN n89 n9 hB8 hB9 hnp hnr k7 hbK9 b5 K6
            go_upto_region 15 with (fail)
            rw [HW9.out, HNB.out]
            go_wp2_with fail
            refine K7.out.mono ?_
            rintro x w10 ⟨rfl, p', r', s1, ws1, hB1, f1, f2, f3, hk, q1, q2, q3⟩
            have hN := hk.2 NB HBN.out.lt HNP.out.1 HNP.out.2
            have hK := hk.2 KB HBK9.out.lt HS.out.2.2.2.2.2.2.1 HS.out.2.2.2.2.2.2.2
            have k8 := lawSame_any p' r' m s1 ws1 w10 hB1.P hB1.R
            rw [f1, f2, HS.out.1, HS.out.2.1] at k8
            have K8 := Lib.hid k8
            have HB1 := Lib.hid hB1
            have HN10 := Lib.hid (show Blk w10 NB 44 #[.int .i64 nx.k.T, .int .i64 nx.k.O, .int .i64 nx.k.S, .int .i64 nx.p, .int .i64 nx.q, .int .i64 nx.d] from hN.1.trans HBN.out)
            have HK10 := Lib.hid (show Blk w10 KB 38 #[.int .i64 s.last.T, .int .i64 s.last.O, .int .i64 s.last.S] from hK.1.trans HBK9.out)
            have HQ1 := Lib.hid (⟨f1.trans HS.out.1, f2.trans HS.out.2.1, f3.1.trans HS.out.2.2.1, q1, q2, hK.2⟩ : p'.SB = SB ∧ r'.RB = RB ∧ r'.pA = pA ∧ s1.w.length ≤ s.w.length + 4 ∧ s1.put.length ≤ s.put.length + 1 ∧ (¬ p'.T KB ∧ ¬ r'.T KB))
            have HQ3 := Lib.hid q3
            clear hB1 f1 f2 f3 hk q1 q2 q3 hN hK k8 d0 d1 d2 d3 d4 d5 d6 K7
            go_wp2_with fail
            refine K8.out.mono ?_
            rintro x w11 ⟨rfl, n11⟩
            have hB11 := HB1.out.new n11
            have b5 : w11.cell? ⟨RB, 5, none⟩ = some (.int .i64 (s1.done : Int)) := by rw [← HQ1.out.2.1]; exact hB11.R.box.cell 5
            have hN11 := HN10.out.below n11 HN10.out.lt
            have hK11 := HK10.out.below n11 HK10.out.lt
            have HB11 := Lib.hid hB11
            have HN11 := Lib.hid hN11
            have HK11 := Lib.hid hK11
            clear n11 hB11 K8
            have hres : ∀ W, Nw w11 W → s1.done ≤ k + 1 → Blk W KB 38 #[.int .i64 s1.last.T, .int .i64 s1.last.O, .int .i64 s1.last.S] → LoopAt w3 W m pA SB RB KB (k + 1) := fun W hW hd hb =>
              ⟨p', r', s1, ws1, HB11.out.new hW, HQ1.out.1, HQ1.out.2.1, HQ1.out.2.2.1, hd, by have := HQ1.out.2.2.2.1; have := HS.out.2.2.2.2.1; omega, by have := HQ1.out.2.2.2.2.1; have := HS.out.2.2.2.2.2.1; omega, hb⟩
            have HRES := Lib.hid hres
            clear hres
            rcases HQ3.out with ⟨e1, e2⟩ | ⟨e1, y, t, hws, e2, e3⟩
            · have g2 : ((dn : Int) < (s1.done : Int)) = False := by rw [e1, HDN.out]; simp
              have HE := Lib.hid (⟨e1, e2⟩ : _ ∧ _)
              clear e1 e2
              go_wp2_with fail
              go_roundw
              case rel => exact ⟨k + 1, by omega, by go_num, Lib.hid (HRES.out w11 (Nw.refl w11) (by rw [HE.out.1]; have := HS.out.2.2.2.1; omega) (by rw [HE.out.2]; exact HK11.out))⟩
              case measure => simp [intOf]; omega
            · have hdy : nx = y := by rw [← HHD.out, hws]; rfl
              subst hdy
              have g2 : ((dn : Int) < (s1.done : Int)) = True := by rw [e1, HDN.out]; simp; omega
              have hcmp : nx.k.cmp s.last = 1 := by unfold Ky.cmp; rw [Ky.less_asymm e3, e3]; rfl
              have KCM := Lib.hid (fun W => refCompare_any nx.k s.last W)
              rw [hcmp] at KCM
              have n0 : w11.cell? ⟨NB, 0, none⟩ = some (.int .i64 nx.k.T) := hN11.cell 0
              have n1' : w11.cell? ⟨NB, 1, none⟩ = some (.int .i64 nx.k.O) := hN11.cell 1
              have n2' : w11.cell? ⟨NB, 2, none⟩ = some (.int .i64 nx.k.S) := hN11.cell 2
              have l0 : w11.cell? ⟨KB, 0, none⟩ = some (.int .i64 s.last.T) := hK11.cell 0
              have l1 : w11.cell? ⟨KB, 1, none⟩ = some (.int .i64 s.last.O) := hK11.cell 1
              have l2 : w11.cell? ⟨KB, 2, none⟩ = some (.int .i64 s.last.S) := hK11.cell 2
              have HE := Lib.hid (⟨e1, e2⟩ : _ ∧ _)
              clear e1 e2 e3 hws hcmp
              go_wp2_with fail
              refine (KCM.out _).mono ?_
              rintro x w12 ⟨rfl, b12⟩
              have n12' : Nw w11 w12 := b12
              have hN12 := HN11.out.below n12' HN11.out.lt
              have hK12 := HK11.out.below n12' HK11.out.lt
              have n0 : w12.cell? ⟨NB, 0, none⟩ = some (.int .i64 nx.k.T) := hN12.cell 0
              have n1' : w12.cell? ⟨NB, 1, none⟩ = some (.int .i64 nx.k.O) := hN12.cell 1
              have n2' : w12.cell? ⟨NB, 2, none⟩ = some (.int .i64 nx.k.S) := hN12.cell 2
              have l0 : w12.cell? ⟨KB, 0, none⟩ = some (.int .i64 s.last.T) := hK12.cell 0
              have l1 : w12.cell? ⟨KB, 1, none⟩ = some (.int .i64 s.last.O) := hK12.cell 1
              have l2 : w12.cell? ⟨KB, 2, none⟩ = some (.int .i64 s.last.S) := hK12.cell 2
              have z0 := hK12.frozen 0
              have z1 := hK12.frozen 1
              have z2 := hK12.frozen 2
              have HK12 := Lib.hid hK12
              have N12 := Lib.hid n12'
              clear b12 n12' hN12 hK12
              go_wp2_with fail
              go_roundw
              case rel =>
                have hB12 := HB11.out.new N12.out
                have hcw : ∀ a0 a1 a2, Chg (fun g => g = KB) w12 (((w12.setCell ⟨KB, 0, none⟩ a0).setCell ⟨KB, 1, none⟩ a1).setCell ⟨KB, 2, none⟩ a2) := fun a0 a1 a2 =>
                  (((Chg.refl (fun g => g = KB) w12).setCell (p := ⟨KB, 0, none⟩) (.inl rfl) _).setCell (p := ⟨KB, 1, none⟩) (.inl rfl) _).setCell (p := ⟨KB, 2, none⟩) (.inl rfl) _
                refine ⟨k + 1, by omega, by go_num, Lib.hid ⟨p', r', s1, ws1, hB12.others (hcw _ _ _), HQ1.out.1, HQ1.out.2.1, HQ1.out.2.2.1, by rw [HE.out.1]; have := HS.out.2.2.2.1; omega, by have := HQ1.out.2.2.2.1; have := HS.out.2.2.2.2.1; omega, by have := HQ1.out.2.2.2.2.1; have := HS.out.2.2.2.2.2.1; omega, ?_⟩⟩
                rw [HE.out.2]
                exact ((HK12.out.set_ 0 _).set_ 1 _).set_ 2 _
              case measure => simp [intOf]; omega
          · have g1 : ¬ (k : Int) < (L : Int) := by omega
            obtain ⟨p, r, s, ws, hB, _⟩ := HI.out
            have HNW := Lib.hid (N3.out.step hB.nw)
            clear hB HI
            go_wp2_with fail
            refine (HK.out _).mono ?_
            rintro x w8 ⟨rfl, n⟩
            go_wp2_with fail
            go_ret
            exact ⟨rfl, HNW.out.step n⟩
end
end Go.Proofs.Ytgijkgngldfdiaa
/- SequencePlays: for every input the law returns true, and what was handed in reads as it did. No condition. -/
namespace Go.Proofs.Ytgijkgngldfdiaa.sequencePlays
open Go.ChangeShapes Go.WideShapes Go.ChangeAt Go.RowKit
set_option linter.unusedVariables false
set_option linter.unusedSimpArgs false
theorem own : ownKnob Try.prog.godebug = none := by kernel_rfl
theorem laidOut : laidOutB Try.prog = true := by kernel_rfl
set_option maxRecDepth 100000 in
theorem lifted (os : Os) (started : os.Started) (H : Type) (enc : TypeId × Value → H) :
    ReturnsInHanded {} Try.checked os 3 .any (Rows.sequencePlaysSpec.pre6 enc Try.prog Try.f3 Rows.sequencePlaysRow.domain false) (Rows.sequencePlaysSpec.post enc Try.prog Try.f3 false true false false) := by
  refine returnsInHanded_of_change (C := Try.checked) own started (by kernel_rfl) Try.func3
    (ChangeSpec.witness6 (enc := enc) (C := Try.checked) false ⟨#[], #[.agg #[.slice none 0 0, .slice none 0 0], .slice none 0 0], []⟩ 8 (by kernel_rfl) (by kernel_rfl) (by kernel_rfl) (by kernel_rfl)) ?_
  intro W base args ds gs before hval0 hW hcnd _
  have hval : ∀ (j : Nat) t v, Try.f3.params[j]? = some t → args[j]? = some v → Value.okWide Try.prog W .any base t v := hval0
  have hW' := hW
  obtain ⟨p, q, hA0, hV, rfl, hfz, hnd⟩ := hW
  have hA : DataW.TrodAll enc Try.prog W 0 (fun _ => true) true Try.f3.params.toList args.toList ds p := hA0
  rw [Try.params3] at hA hval
  obtain ⟨v0, vs0, d0, ds0, p0, q0, hargs, rfl, rfl, h0, r0x⟩ := trodAll_cons hA
  obtain ⟨v1, vs1, d1, ds1, p1, q1, rfl, rfl, rfl, h1, r1x⟩ := trodAll_cons r0x
  obtain ⟨rfl, rfl, rfl⟩ := trodAll_nil r1x
  obtain rfl : args = #[v0, v1] := by cases args; simp_all
  obtain ⟨rfl, rfl⟩ := trodVars_none hV
  have k0 := h0
  have lt0 : ∀ x ∈ p0, x.block < W.heap.size := by obtain ⟨m, hm⟩ := k0; exact DataW.trod_lt m _ _ _ hm
  have k1 := h1
  have lt1 : ∀ x ∈ p1, x.block < W.heap.size := by obtain ⟨m, hm⟩ := k1; exact DataW.trod_lt m _ _ _ hm
  obtain ⟨fuel0, hf0⟩ := h0
  obtain ⟨m, pA, pc, fA, fc, rfl, hM⟩ := open_model (hval 0 25 v0 rfl rfl) hf0
  obtain ⟨a5, len5, cap5, rfl⟩ := okWide_slice Try.underlying26 (hval 1 26 v1 rfl rfl)
  obtain ⟨zs5, hzl5, w5, m5, r5⟩ : ∃ zs : List (List Int), zs.length = len5 ∧ Rows W a5 7 zs ∧ len5 ≤ maxLen ∧ ∀ r ∈ zs, ∀ z ∈ r, (Lit.int .i64 z).wf = true := by
    obtain ⟨fuel, hf⟩ := h1
    obtain ⟨A, c, zs, hv, g⟩ := open_rows 7 Try.underlying26 (by kernel_rfl) (by decide) aiAct (by simpa [Value.cells] using hf)
    injection hv with e1 e2 e3
    subst e1 e2
    exact ⟨zs, rfl, g⟩
  subst hzl5
  clear hA0 hval0
  refine (plays_any m pA fA pc fc W a5 zs5 cap5 hM w5 m5 r5).mono fun e W' ⟨he, bel⟩ => ?_
  have bel : Below W.heap.size W W' := bel
  subst he
  exact ⟨_, rfl, _, _, _, [], _, [], hW', trodAll_mk1 (shut_bool Try.underlying4 _), (trodAll_cons_mk (Below.trod laidOut (by kernel_rfl) (of_decide_eq_true (by kernel_rfl)) k0 bel lt0) (trodAll_cons_mk (Below.trod laidOut (by kernel_rfl) (of_decide_eq_true (by kernel_rfl)) k1 bel lt1) trodAll_mk0)), rfl, bel.frame _, fun h => by cases h⟩
theorem over : Rows.sequencePlaysRow.holds Try.pinned (OpenSpec.ofChange Rows.sequencePlaysSpec) :=
  OpenClaim.holds_of_wide 3 Try.f3 rfl rfl rfl rfl rfl rfl rfl ⟨rfl, rfl, rfl, rfl, rfl⟩ rfl rfl rfl rfl rfl (by kernel_rfl) Try.func3 (by kernel_rfl)
    (of_decide_eq_true (by kernel_rfl)) (by unfold Func.isWrapper; first | (rw [if_pos (by decide +kernel)]; kernel_rfl) | (rw [if_neg (by decide +kernel)]; exact ⟨rfl, rfl⟩))
    (fun os started H enc _ => lifted os started H enc)
/-- ████ THE STATEMENT ████ -/
theorem proved : Rows.SequencePlaysSaid := over
#print axioms proved
end Go.Proofs.Ytgijkgngldfdiaa.sequencePlays
