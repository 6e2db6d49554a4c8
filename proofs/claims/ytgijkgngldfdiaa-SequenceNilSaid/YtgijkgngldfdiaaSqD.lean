/- A region that draws its order, whose loads are taken first by a condition on the world that some last operations need not keep. -/
import Derived.Test.YtgijkgngldfdiaaSqA
import Derived.Test.YtgijkgngldfdiaaRegE
namespace Go.Proofs.Ytgijkgngldfdiaa
open Go.RowKit
set_option linter.unusedVariables false
set_option linter.unusedSimpArgs false
/-- Whether a model may be. -/
def MayOut (w : World) (m : Mdl) (e : Ending) (w' : World) : Prop := ∃ b, e = .returned (.bool b) ∧ (b = true ↔ m.May) ∧ Nw w w'
theorem mayOut_no {w w' : World} {m : Mdl} (h : ¬ m.May) (hN : Nw w w') : MayOut w m (.returned (.bool false)) w' := ⟨false, rfl, by simp [h], hN⟩
theorem may_proc {m : Mdl} (h : m.May) {i : Nat} (hi : i < m.procs.length) : (codeMay m.procs[i].vars m.procs[i].ks && decide ((m.procs[i].vals.length : Int) = m.procs[i].vars)) = true := h.pr _ (List.getElem_mem hi)
section
variable (m : Mdl) (pA fA : Option Addr) (pc fc : Nat) (w : World)
set_option maxRecDepth 100000
set_option maxHeartbeats 1600000
theorem modelMay_any (h : MAt w m pA fA) :
    Calls Try.prog 30 #[.agg #[.slice pA m.procs.length pc, .slice fA m.first.length fc]] w (MayOut w m) := by
  obtain ⟨n, hn⟩ : ∃ n, m.procs.length = n := ⟨_, rfl⟩
  obtain ⟨f, hf⟩ : ∃ f, m.first.length = f := ⟨_, rfl⟩
  have hpn : n ≤ 9223372036854775807 := by have := h.pn; rw [hn] at this; simpa [maxLen] using this
  have hfn : f ≤ 9223372036854775807 := by have := h.fn; rw [hf] at this; simpa [maxLen] using this
  obtain ⟨w1, hw1⟩ : ∃ w1, w.alloc (.cells #[.slice pA n pc, .slice fA f fc] 25) = w1 := ⟨_, rfl⟩
  have n1 : Nw w w1 := by rw [← hw1]; exact (Nw.refl w).alloc _
  obtain ⟨XB, hXB⟩ : ∃ XB, w.heap.size = XB := ⟨_, rfl⟩
  have hb : Blk w1 XB 25 #[.slice pA n pc, .slice fA f fc] := by rw [← hw1]; exact Blk.last w _ _ hXB
  have x0 : w1.cell? ⟨XB, 0, none⟩ = some (.slice pA n pc) := hb.cell 0
  have x1 : w1.cell? ⟨XB, 1, none⟩ = some (.slice fA f fc) := hb.cell 1
  have HN := Lib.hid hn
  have HF := Lib.hid hf
  have HM := Lib.hid (h.keep n1)
  have HW1 := Lib.hid hw1
  have HXB := Lib.hid hXB
  have N1 := Lib.hid n1
  have X0 := Lib.hid x0
  have X1 := Lib.hid x1
  rw [hn, hf]
  clear h hn hf hw1 hXB n1 hb
  by_cases h1 : (n : Int) < 1
  · go_enter Try.func30, Try.ntmps30
    go_upto_region 1 with (fail)
    rw [HW1.out, HXB.out]
    go_wp2_with fail
    go_ret
    exact mayOut_no (fun hm => by have := hm.n1; rw [HN.out] at this; omega) N1.out
  have g1 : ((n : Int) < 1) = False := by simpa using h1
  by_cases h2 : (16 : Int) < (n : Int)
  · clear h1
    go_enter Try.func30, Try.ntmps30
    go_upto_region 1 with (fail)
    rw [HW1.out, HXB.out]
    go_wp2_with fail
    go_ret
    exact mayOut_no (fun hm => by have := hm.n16; rw [HN.out] at this; omega) N1.out
  have g2 : ((16 : Int) < (n : Int)) = False := by simpa using h2
  by_cases h3 : (64 : Int) < (f : Int)
  · clear h1 h2
    go_enter Try.func30, Try.ntmps30
    go_upto_region 1 with (fail)
    rw [HW1.out, HXB.out]
    go_wp2_with fail
    go_ret
    exact mayOut_no (fun hm => by have := hm.f64; rw [HF.out] at this; omega) N1.out
  have g3 : ((64 : Int) < (f : Int)) = False := by simpa using h3
  have n1 : 1 ≤ n := by omega
  have n16 : n ≤ 16 := by omega
  have f64 : f ≤ 64 := by omega
  clear h1 h2 h3
  go_enter Try.func30, Try.ntmps30
  go_upto_region 1 with (fail)
  rw [HW1.out, HXB.out]
  go_wp2_with fail
  go_loopw [26] (fun i wr => ∃ k : Nat, k ≤ n ∧ i = .int .i64 k ∧ Hid (Nw w1 wr ∧ ∀ j (hj : j < m.procs.length), j < k → m.procs[j].may = true)) (fun i _ => n - (intOf i).toNat)
  case atStart => exact ⟨0, Nat.zero_le _, rfl, Lib.hid ⟨Nw.refl w1, fun j hj h => by omega⟩⟩
  case round =>
    obtain ⟨k, hk, rfl, HI⟩ := hrel
    by_cases hlt : k < n
    · have hlt' : k < m.procs.length := by rw [HN.out]; exact hlt
      obtain ⟨b, o, ep, hp⟩ := (HM.out.keep HI.out.1).proc hlt'
      obtain ⟨P, hP⟩ : ∃ P, m.procs[k] = P := ⟨_, rfl⟩
      rw [hP] at hp
      have HP := Lib.hid hP
      obtain ⟨c0, ⟨kA, kc, c1, r1⟩, ⟨vA, vc, c2, r2⟩, c3, q1, q2⟩ := hp
      have g4 : (k : Int) < (n : Int) := by omega
      obtain ⟨w2, hw2⟩ : ∃ w2, wr.alloc (.cells #[.int .i64 P.vars, .slice kA P.ks.length kc, .slice vA P.vals.length vc, .int .i64 P.seed] 79) = w2 := ⟨_, rfl⟩
      have n2 : Nw wr w2 := by rw [← hw2]; exact (Nw.refl wr).alloc _
      obtain ⟨YB, hYB⟩ : ∃ YB, wr.heap.size = YB := ⟨_, rfl⟩
      have hb2 : Blk w2 YB 79 #[.int .i64 P.vars, .slice kA P.ks.length kc, .slice vA P.vals.length vc, .int .i64 P.seed] := by rw [← hw2]; exact Blk.last wr _ _ hYB
      have y0 : w2.cell? ⟨YB, 0, none⟩ = some (.int .i64 P.vars) := hb2.cell 0
      have y1 : w2.cell? ⟨YB, 1, none⟩ = some (.slice kA P.ks.length kc) := hb2.cell 1
      have y2 : w2.cell? ⟨YB, 2, none⟩ = some (.slice vA P.vals.length vc) := hb2.cell 2
      have KC := Lib.hid (codeMay_any P.vars kA P.ks kc w2 (r1.keep n2) q1)
      have N12 := Lib.hid (HI.out.1.step n2)
      have HW2 := Lib.hid hw2
      have HYB := Lib.hid hYB
      have hqv : (P.vals.length : Int) ≤ 9223372036854775807 := by simp only [maxLen] at q2; omega
      obtain ⟨bd, hbd⟩ : ∃ bd, codeMay P.vars P.ks = bd := ⟨_, rfl⟩
      rw [hbd] at KC
      have HBD := Lib.hid hbd
      obtain ⟨vn, hvn⟩ : ∃ vn, P.vals.length = vn := ⟨_, rfl⟩
      have HVN := Lib.hid hvn
      obtain ⟨pv, hpv⟩ : ∃ pv, P.vars = pv := ⟨_, rfl⟩
      have HPV := Lib.hid hpv
      rw [hvn, hpv] at HW2
      rw [hvn] at y2 c2 hqv
      rw [hpv] at y0 c0 KC
      have Y0 := Lib.hid y0
      have Y2 := Lib.hid y2
      subst ep
      clear hP r1 r2 n2 hb2 hw2 hYB hbd hvn hpv q1 q2
      have hmk : m.May → bd = true ∧ (vn : Int) = pv := fun hm => by
        have := may_proc hm hlt'
        rw [HP.out, HBD.out, HVN.out, HPV.out] at this
        simpa using this
      have HMK := Lib.hid hmk
      clear hmk
      cases bd with
      | false =>
        go_upto_region 6 with (fail)
        rw [HW2.out, HYB.out]
        go_wp2_with fail
        refine KC.out.mono ?_
        rintro e w3 ⟨rfl, b3⟩
        have B3 := Lib.hid b3
        clear b3 y0 y1 y2 c0 c1 c2 c3
        go_wp2_with fail
        go_ret
        exact mayOut_no (fun hm => by have := (HMK.out hm).1; cases this) ((N1.out.step N12.out).step B3.out)
      | true =>
        by_cases hv : (vn : Int) = pv
        · have g5 : ((vn : Int) == pv) = true := beq_iff_eq.2 hv
          go_upto_region 6 with (fail)
          rw [HW2.out, HYB.out]
          go_wp2_with fail
          refine KC.out.mono ?_
          rintro e w3 ⟨rfl, b3⟩
          have z0 := (show Nw w2 w3 from b3).cell Y0.out
          have z2 := (show Nw w2 w3 from b3).cell Y2.out
          have B3 := Lib.hid b3
          clear b3 y0 y1 y2 c0 c1 c2 c3
          go_wp2_with fail
          go_roundw
          case rel => exact ⟨k + 1, by omega, by go_num, Lib.hid ⟨N12.out.step B3.out, fun j hj h => by
            by_cases e : j = k
            · subst e; show (codeMay _ _ && _) = true; rw [HP.out, HBD.out, HVN.out, HPV.out]; simp [hv]
            · exact HI.out.2 j hj (by omega)⟩⟩
          case measure => simp [intOf]; omega
        · have g5 : ((vn : Int) == pv) = false := beq_eq_false_iff_ne.2 hv
          go_upto_region 6 with (fail)
          rw [HW2.out, HYB.out]
          go_wp2_with fail
          refine KC.out.mono ?_
          rintro e w3 ⟨rfl, b3⟩
          have z0 := (show Nw w2 w3 from b3).cell Y0.out
          have z2 := (show Nw w2 w3 from b3).cell Y2.out
          have B3 := Lib.hid b3
          clear b3 y0 y1 y2 c0 c1 c2 c3
          go_wp2_with fail
          go_ret
          exact mayOut_no (fun hm => hv (HMK.out hm).2) ((N1.out.step N12.out).step B3.out)
    · have g4 : ¬ (k : Int) < (n : Int) := by omega
      have hpm : ∀ j (hj : j < m.procs.length), m.procs[j].may = true := fun j hj => HI.out.2 j hj (by have := HN.out; omega)
      have HPM := Lib.hid hpm
      have NR := Lib.hid HI.out.1
      have x0 := NR.out.cell X0.out
      have x1 := NR.out.cell X1.out
      clear hpm HI
      obtain ⟨w2, hw2⟩ : ∃ w2, w2 = wr := ⟨_, rfl⟩
      go_wp2_with fail
      go_loopw [47] (fun i wr => ∃ k : Nat, k ≤ f ∧ i = .int .i64 k ∧ Hid (Nw w1 wr ∧ ∀ j (hj : j < m.first.length), j < k → firstB m.procs.length m.first[j] j = true)) (fun i _ => f - (intOf i).toNat)
      case atStart => exact ⟨0, Nat.zero_le _, rfl, Lib.hid ⟨NR.out, fun j hj h => by omega⟩⟩
      case round =>
        obtain ⟨k, hk, rfl, HI⟩ := hrel
        by_cases hlt : k < f
        · have hlt' : k < m.first.length := by rw [HF.out]; exact hlt
          obtain ⟨b, o, ep, c0, c1, c2, c3, c4, c5⟩ := (HM.out.keep HI.out.1).ev hlt'
          obtain ⟨E, hE⟩ : ∃ E, m.first[k] = E := ⟨_, rfl⟩
          rw [hE] at c0 c1 c2 c3 c4 c5
          have HE := Lib.hid hE
          have g4 : (k : Int) < (f : Int) := by omega
          obtain ⟨w2, hw2⟩ : ∃ w2, wr.alloc (.cells #[.int .i64 E.k.T, .int .i64 E.k.O, .int .i64 E.k.S, .int .i64 E.p, .int .i64 E.q, .int .i64 E.d] 44) = w2 := ⟨_, rfl⟩
          have n2 : Nw wr w2 := by rw [← hw2]; exact (Nw.refl wr).alloc _
          obtain ⟨YB, hYB⟩ : ∃ YB, wr.heap.size = YB := ⟨_, rfl⟩
          have hb2 : Blk w2 YB 44 #[.int .i64 E.k.T, .int .i64 E.k.O, .int .i64 E.k.S, .int .i64 E.p, .int .i64 E.q, .int .i64 E.d] := by rw [← hw2]; exact Blk.last wr _ _ hYB
          have y0 : w2.cell? ⟨YB, 0, none⟩ = some (.int .i64 E.k.T) := hb2.cell 0
          have y1 : w2.cell? ⟨YB, 1, none⟩ = some (.int .i64 E.k.O) := hb2.cell 1
          have y2 : w2.cell? ⟨YB, 2, none⟩ = some (.int .i64 E.k.S) := hb2.cell 2
          have y3 : w2.cell? ⟨YB, 3, none⟩ = some (.int .i64 E.p) := hb2.cell 3
          have y4 : w2.cell? ⟨YB, 4, none⟩ = some (.int .i64 E.q) := hb2.cell 4
          have y5 : w2.cell? ⟨YB, 5, none⟩ = some (.int .i64 E.d) := hb2.cell 5
          have x0 := (HI.out.1.step n2).cell X0.out
          have x1 := HI.out.1.cell X1.out
          have KC := Lib.hid (may_any E.k.T E.k.O E.k.S E.p E.q E.d n w2)
          have N12 := Lib.hid (HI.out.1.step n2)
          have HW2 := Lib.hid hw2
          have HYB := Lib.hid hYB
          obtain ⟨bd, hbd⟩ : ∃ bd, MayB E.k.T E.k.O E.k.S E.p E.q E.d n = bd := ⟨_, rfl⟩
          rw [hbd] at KC
          have hfb : firstB m.procs.length m.first[k] k = (bd && decide (E.k.O = 0) && decide (E.k.S = (k : Int))) := by
            rw [HE.out, HN.out, ← hbd]; rfl
          have HFB := Lib.hid hfb
          have Y1 := Lib.hid y1
          have Y2 := Lib.hid y2
          subst ep
          clear hE n2 hb2 hw2 hYB hbd hfb
          have hno : (bd && decide (E.k.O = 0) && decide (E.k.S = (k : Int))) = false → ¬ m.May := fun h hm => by
            have := hm.ev k hlt'
            rw [HFB.out, h] at this
            cases this
          have HNO := Lib.hid hno
          clear hno
          cases bd with
          | false =>
            go_upto_region 12 with (fail)
            rw [HW2.out, HYB.out]
            go_wp2_with fail
            refine KC.out.mono ?_
            rintro e w3 ⟨rfl, b3⟩
            have B3 := Lib.hid b3
            clear b3 y0 y1 y2 y3 y4 y5 c0 c1 c2 c3 c4 c5 x0 x1
            go_wp2_with fail
            go_ret
            exact mayOut_no (HNO.out rfl) ((N1.out.step N12.out).step B3.out)
          | true =>
            by_cases ho : E.k.O = 0
            · have g5 : (E.k.O == 0) = true := beq_iff_eq.2 ho
              have HO := Lib.hid ho
              clear ho
              by_cases hs : E.k.S = (k : Int)
              · have g6 : (E.k.S == (k : Int)) = true := beq_iff_eq.2 hs
                have HS := Lib.hid hs
                clear hs
                go_upto_region 12 with (fail)
                rw [HW2.out, HYB.out]
                go_wp2_with fail
                refine KC.out.mono ?_
                rintro e w3 ⟨rfl, b3⟩
                have z1 := (show Nw w2 w3 from b3).cell Y1.out
                have z2 := (show Nw w2 w3 from b3).cell Y2.out
                have B3 := Lib.hid b3
                clear b3 y0 y1 y2 y3 y4 y5 c0 c1 c2 c3 c4 c5 x0 x1
                go_wp2_with fail
                go_roundw
                case rel => exact ⟨k + 1, by omega, by go_num, Lib.hid ⟨N12.out.step B3.out, fun j hj h => by
                  by_cases e : j = k
                  · subst e; rw [HFB.out]; simp [HO.out, HS.out]
                  · exact HI.out.2 j hj (by omega)⟩⟩
                case measure => simp [intOf]; omega
              · have g6 : (E.k.S == (k : Int)) = false := beq_eq_false_iff_ne.2 hs
                go_upto_region 12 with (fail)
                rw [HW2.out, HYB.out]
                go_wp2_with fail
                refine KC.out.mono ?_
                rintro e w3 ⟨rfl, b3⟩
                have z1 := (show Nw w2 w3 from b3).cell Y1.out
                have z2 := (show Nw w2 w3 from b3).cell Y2.out
                have B3 := Lib.hid b3
                clear b3 y0 y1 y2 y3 y4 y5 c0 c1 c2 c3 c4 c5 x0 x1
                go_wp2_with fail
                go_ret
                exact mayOut_no (HNO.out (by simp [hs])) ((N1.out.step N12.out).step B3.out)
            · have g5 : (E.k.O == 0) = false := beq_eq_false_iff_ne.2 ho
              go_upto_region 12 with (fail)
              rw [HW2.out, HYB.out]
              go_wp2_with fail
              refine KC.out.mono ?_
              rintro e w3 ⟨rfl, b3⟩
              have z1 := (show Nw w2 w3 from b3).cell Y1.out
              have z2 := (show Nw w2 w3 from b3).cell Y2.out
              have B3 := Lib.hid b3
              clear b3 y0 y1 y2 y3 y4 y5 c0 c1 c2 c3 c4 c5 x0 x1
              go_wp2_with fail
              go_ret
              exact mayOut_no (HNO.out (by simp [ho])) ((N1.out.step N12.out).step B3.out)
        · have g4 : ¬ (k : Int) < (f : Int) := by omega
          have hfm : ∀ j (hj : j < m.first.length), firstB m.procs.length m.first[j] j = true := fun j hj => HI.out.2 j hj (by have := HF.out; omega)
          go_wp2_with fail
          go_ret
          refine ⟨true, rfl, ?_, N1.out.step HI.out.1⟩
          refine ⟨fun _ => ⟨by rw [HN.out]; exact n1, by rw [HN.out]; exact n16, by rw [HF.out]; exact f64, fun p hp => ?_, fun i hi => hfm i hi⟩, fun _ => rfl⟩
          obtain ⟨j, hj, rfl⟩ := List.getElem_of_mem hp
          exact HPM.out j hj
end
end Go.Proofs.Ytgijkgngldfdiaa
/- A region that draws its order, whose loads are taken first by a condition on the world that some last operations need not keep. -/
namespace Go.Proofs.Ytgijkgngldfdiaa
open Go.RowKit
section
variable {P : Program} {ops : Array Oper} {Q : Exit → Act → World → Prop} {md : Region.Mode} {S : World → Prop} {z : List Nat}
/-- Is one of z listed? -/
def zl (z : List Nat) (l : Array Bool) : Bool := z.any fun y => l.getD y false
theorem zl_next {z : List Nat} {l : Array Bool} {j : Nat} (h : zl z l = true) : zl z (l.setIfInBounds j true) = true := by
  unfold zl at *
  obtain ⟨y, hy, h⟩ := List.any_eq_true.1 h
  refine List.any_eq_true.2 ⟨y, hy, ?_⟩
  rcases Nat.lt_or_ge y l.size with h' | h'
  · simp [h'] at h
    simp [h', Array.getElem_setIfInBounds, h]
  · simp [Array.getElem?_eq_none h'] at h
/-- Whatever order is picked from here on; S holds until one of z is done. -/
def wpAnyF (P : Program) (md : Region.Mode) (ops : Array Oper) (Q : Exit → Act → World → Prop) (S : World → Prop) (z : List Nat) : Nat → Array Bool → Act → World → Prop
  | 0, l, a, w => Region.ready md ops l = [] ∧ Q .normal a w
  | n + 1, l, a, w => (Region.ready md ops l = [] → Q .normal a w) ∧
    ∀ i ∈ Region.ready md ops l, wpOp P ops Q i (fun b u => (zl z (l.setIfInBounds i true) = true ∨ S u) ∧ wpAnyF P md ops Q S z n (l.setIfInBounds i true) b u) a w
theorem wpAny_of_F : ∀ (n : Nat) (l : Array Bool) (a : Act) (w : World), wpAnyF P md ops Q S z n l a w → wpAny P md ops Q n l a w
  | 0, _, _, _, h => h
  | n + 1, _, _, _, h => ⟨h.1, fun i hi => wpOp_mono (fun b u g => wpAny_of_F n _ b u g.2) (h.2 i hi)⟩
/-- What waits for operation i, straight or by others (in one sweep). -/
def reachStep (md : Region.Mode) (ops : Array Oper) (s : List Nat) (j : Nat) : List Nat := match ops[j]? with
  | some o => bif o.after.any fun e => Region.binds md e && s.contains e.on then j :: s else s
  | none => s
def reach (md : Region.Mode) (ops : Array Oper) (i : Nat) : List Nat := (List.range ops.size).foldl (reachStep md ops) [i]
def Stuck (md : Region.Mode) (ops : Array Oper) (l : Array Bool) (i : Nat) (s : List Nat) : Prop :=
  ∀ j ∈ s, ¬ l.getD j false = true ∧ (j = i ∨ ∃ o e, ops[j]? = some o ∧ e ∈ o.after ∧ Region.binds md e = true ∧ ¬ l.getD e.on false = true)
theorem Stuck.step {l : Array Bool} {i : Nat} {s : List Nat} (hc : Closed md ops l) (h : Stuck md ops l i s) (j : Nat) : Stuck md ops l i (reachStep md ops s j) := by
  unfold reachStep
  cases ho : ops[j]? with
  | none => exact h
  | some o =>
    dsimp only
    cases hb : o.after.any fun e => Region.binds md e && s.contains e.on with
    | false => exact h
    | true =>
      obtain ⟨e, he, hb⟩ := Array.any_eq_true'.1 hb
      simp only [Bool.and_eq_true, List.contains_iff_mem] at hb
      have hn := (h e.on hb.2).1
      intro k hk
      rcases List.mem_cons.1 hk with rfl | hk
      · exact ⟨fun hl => hn (hc k o ho hl e he hb.1), .inr ⟨o, e, ho, he, hb.1, hn⟩⟩
      · exact h k hk
theorem Stuck.all {l : Array Bool} {i : Nat} (hc : Closed md ops l) : ∀ (js s : List Nat), Stuck md ops l i s → Stuck md ops l i (js.foldl (reachStep md ops) s)
  | [], _, h => h
  | j :: js, _, h => Stuck.all hc js _ (h.step hc j)
def reachAll (md : Region.Mode) (ops : Array Oper) (z : List Nat) (i : Nat) : Bool := (fun s : List Nat => z.all fun y => s.contains y) (reach md ops i)
theorem reachAll_not {z : List Nat} {i : Nat} (h : reachAll md ops z i = true) : ∀ l : Array Bool, Closed md ops l → l.getD i true = false → ¬ zl z l = true := by
  intro l hc h0 hz
  obtain ⟨y, hy, hl⟩ := List.any_eq_true.1 hz
  have h1 := List.all_eq_true.1 h y hy
  have hs : Stuck md ops l i (reach md ops i) := Stuck.all hc _ _ fun j hj => by
    rw [List.mem_singleton] at hj
    subst hj
    exact ⟨fun h1 => not_both h0 h1, .inl rfl⟩
  exact (hs y (by simpa using h1)).1 hl
/-- An operation is taken first: under S, where z waits for it; or wherever. -/
theorem wpAnyF_firstT {S' : World → Prop} {i : Nat} {oi : Oper} {v : Value} (hzi : i ∉ z) (hi : ops[i]? = some oi) (hsel : ∀ (j : Nat) (o : Oper) cs b, ops[j]? = some o → o.op ≠ .select cs b)
    (hQ : ∀ c a w, Q (.panic c) (a.put oi.dst v) w → Q (.panic c) a w) (hwt : (∀ l : Array Bool, Closed md ops l → l.getD i true = false → ∀ u, (zl z l = true ∨ S u) → S' u)) :
    ∀ (n : Nat) (l : Array Bool) (a : Act) (w : World),
      (∀ j oj, ops[j]? = some oj → j ≠ i → l.getD j true = false → (∀ e ∈ oj.after, Region.binds md e = true → e.on ≠ i) → oi.apart ops oj = true) →
      Closed md ops l → i ∈ Region.ready md ops l → YieldsIf P ops S' oi v a → (zl z l = true ∨ S w) →
      wpAnyF P md ops Q S z n (l.setIfInBounds i true) (a.put oi.dst v) w → wpAnyF P md ops Q S z (n + 1) l a w := by
  intro n
  induction n with
  | zero =>
    intro l a w _ hcl hr hy hS H
    refine ⟨fun h => (by rw [h] at hr; cases hr), fun j hj => ?_⟩
    by_cases e : j = i
    · subst e; exact hy.wpOp hi (hwt l hcl (mem_ready.1 hr).1 w hS) ⟨hS.imp zl_next id, H⟩
    · have := ready_mono hj e
      rw [H.1] at this
      cases this
  | succ n ih =>
    intro l a w hfree hcl hr hy hS H
    refine ⟨fun h => (by rw [h] at hr; cases hr), fun j hj => ?_⟩
    by_cases e : j = i
    · subst e; exact hy.wpOp hi (hwt l hcl (mem_ready.1 hr).1 w hS) ⟨hS.imp zl_next id, H⟩
    · have h1 := H.2 j (ready_mono hj e)
      obtain ⟨hjun, oj, hoj, hall⟩ := mem_ready.1 hj
      have hnot : ∀ e ∈ oj.after, Region.binds md e = true → e.on ≠ i := fun e he hb heq => by
        have h1 := hall e he hb
        have h0 := (mem_ready.1 hr).1
        rw [heq] at h1
        rcases Nat.lt_or_ge i l.size with h' | h'
        · simp [h'] at h0 h1; rw [h0] at h1; cases h1
        · simp [Array.getElem?_eq_none h'] at h1
      have h2 := wpOp_putIf hoj (hfree j oj hoj e hjun hnot) (fun cs b => hsel i oi cs b hi) (fun cs b => hsel j oj cs b hoj) hQ hy h1
      have hfree' : ∀ k ok, ops[k]? = some ok → k ≠ i → (l.setIfInBounds j true).getD k true = false →
          (∀ e ∈ ok.after, Region.binds md e = true → e.on ≠ i) → oi.apart ops ok = true := fun k ok hk hki hun hno => by
        refine hfree k ok hk hki ?_ hno
        by_cases hjk : j = k
        · subst hjk; exact hjun
        · rw [getD_set_ne true hjk] at hun; exact hun
      have hri := ready_mono hr (Ne.symm e)
      refine wpOp_mono (fun b u g => ?_) h2
      have hu : zl z (l.setIfInBounds j true) = true ∨ S u := by
        rcases g.2.1 with g0 | g0
        · refine .inl ?_
          obtain ⟨y, hy, h⟩ := List.any_eq_true.1 g0
          have hyi : i ≠ y := fun q => hzi (q ▸ hy)
          exact List.any_eq_true.2 ⟨y, hy, by rw [Array.setIfInBounds_comm _ _ (Ne.symm e)] at h; rwa [getD_set_ne false hyi] at h⟩
        · exact .inr g0
      exact ⟨hu, ih (l.setIfInBounds j true) b u hfree' (hcl.next hj) hri g.1 hu (by rw [Array.setIfInBounds_comm _ _ e]; exact g.2.2)⟩
theorem not_in {z : List Nat} {i : Nat} (h : z.contains i = false) : i ∉ z := fun q => by
  rw [List.contains_iff_mem.2 q] at h; cases h
theorem wpAnyF_takeT {i : Nat} {oi : Oper} {v : Value} {n : Nat} {l : Array Bool} {a : Act} {w : World} (hi : ops[i]? = some oi) (hzi : z.contains i = false)
    (hs : Region.noSelect ops = true) (hf : Region.free md ops l i = true) (hr : (Region.ready md ops l).contains i = true) (hwt : reachAll md ops z i = true) (hcl : closedB md ops l = true)
    (hQ : ∀ c a w, Q (.panic c) (a.put oi.dst v) w → Q (.panic c) a w) (hw : Region.wanted oi (yielded ops a.tmps) = true) (hy : ∀ u, S u → (execOp a.eval oi).run P u = .ok (.value v) u) (hS : S w)
    (h : wpAnyF P md ops Q S z n (l.setIfInBounds i true) (a.put oi.dst v) w) : wpAnyF P md ops Q S z (n + 1) l a w :=
  wpAnyF_firstT (S' := S) (not_in hzi) hi (Region.noSelect_spec hs) hQ (fun l hc h0 u h => h.resolve_left (reachAll_not hwt l hc h0)) n l a w (Region.free_spec hi hf) (closed_of hcl) (by simpa using hr) (.inl ⟨hw, hy⟩) (.inr hS) h
/-- An operation that reads no memory. -/
theorem wpAnyF_freeT {i : Nat} {oi : Oper} {v : Value} {n : Nat} {l : Array Bool} {a : Act} {w : World} (hi : ops[i]? = some oi) (hzi : z.contains i = false)
    (hs : Region.noSelect ops = true) (hf : Region.free md ops l i = true) (hr : (Region.ready md ops l).contains i = true) (hcl : closedB md ops l = true)
    (hQ : ∀ c a w, Q (.panic c) (a.put oi.dst v) w → Q (.panic c) a w) (hw : Region.wanted oi (yielded ops a.tmps) = true) (hy : ∀ u, (execOp a.eval oi).run P u = .ok (.value v) u) (hS : S w)
    (h : wpAnyF P md ops Q S z n (l.setIfInBounds i true) (a.put oi.dst v) w) : wpAnyF P md ops Q S z (n + 1) l a w :=
  wpAnyF_firstT (S' := fun _ => True) (not_in hzi) hi (Region.noSelect_spec hs) hQ (fun _ _ _ _ _ => trivial) n l a w (Region.free_spec hi hf) (closed_of hcl) (by simpa using hr) (.inl ⟨hw, fun u _ => hy u⟩) (.inr hS) h
/-- An operation that its guard leaves out, whenever it comes. -/
theorem wpAnyF_leaveT {i : Nat} {oi : Oper} {n : Nat} {l : Array Bool} {a : Act} {w : World} (hi : ops[i]? = some oi) (hzi : z.contains i = false)
    (hs : Region.noSelect ops = true) (hf : Region.free md ops l i = true) (hr : (Region.ready md ops l).contains i = true) (hcl : closedB md ops l = true)
    (hQ : ∀ c a w, Q (.panic c) (a.put oi.dst undef) w → Q (.panic c) a w) (hw : Region.wanted oi (yielded ops a.tmps) = false) (hS : S w)
    (h : wpAnyF P md ops Q S z n (l.setIfInBounds i true) (a.put oi.dst undef) w) : wpAnyF P md ops Q S z (n + 1) l a w :=
  wpAnyF_firstT (S' := fun _ => True) (not_in hzi) hi (Region.noSelect_spec hs) hQ (fun _ _ _ _ _ => trivial) n l a w (Region.free_spec hi hf) (closed_of hcl) (by simpa using hr) (.inr ⟨hw, rfl⟩) (.inr hS) h
theorem wpAnyF_one {i : Nat} {n : Nat} {l : Array Bool} {a : Act} {w : World} (hr : Region.ready md ops l = [i])
    (h : wpOp P ops Q i (fun b u => (zl z (l.setIfInBounds i true) = true ∨ S u) ∧ wpAnyF P md ops Q S z n (l.setIfInBounds i true) b u) a w) : wpAnyF P md ops Q S z (n + 1) l a w :=
  ⟨fun h0 => (by rw [hr] at h0; cases h0), fun j hj => by
    rw [hr] at hj
    have e : j = i := (by simpa using hj)
    subst e
    exact h⟩
theorem wpAnyF_step {i : Nat} {o : Oper} {n : Nat} {l : Array Bool} {a : Act} {w : World} (hr : Region.ready md ops l = [i]) (hi : ops[i]? = some o) (hw : Region.wanted o (yielded ops a.tmps) = true)
    (h : ∀ K : Act → World → Prop, (∀ b u, (zl z (l.setIfInBounds i true) = true ∨ S u) → wpAnyF P md ops Q S z n (l.setIfInBounds i true) b u → K b u) → Oper.wp P o a w K Q) : wpAnyF P md ops Q S z (n + 1) l a w :=
  wpAnyF_one hr (by
    unfold wpOp
    rw [hi]
    simp only [hw, if_true]
    exact .inl (h _ fun b u h1 h2 => ⟨h1, h2⟩))
/-- Two may come up. -/
theorem wpAnyF_two {i j : Nat} {oi oj : Oper} {n : Nat} {l : Array Bool} {a : Act} {w : World} (hr : Region.ready md ops l = [i, j]) (hi : ops[i]? = some oi) (hwi : Region.wanted oi (yielded ops a.tmps) = true) (hj : ops[j]? = some oj) (hwj : Region.wanted oj (yielded ops a.tmps) = true)
    (h1 : ∀ K : Act → World → Prop, (∀ b u, (zl z (l.setIfInBounds i true) = true ∨ S u) → wpAnyF P md ops Q S z n (l.setIfInBounds i true) b u → K b u) → Oper.wp P oi a w K Q)
    (h2 : ∀ K : Act → World → Prop, (∀ b u, (zl z (l.setIfInBounds j true) = true ∨ S u) → wpAnyF P md ops Q S z n (l.setIfInBounds j true) b u → K b u) → Oper.wp P oj a w K Q) : wpAnyF P md ops Q S z (n + 1) l a w :=
  ⟨fun h0 => (by rw [hr] at h0; cases h0), fun k hk => by
    rw [hr] at hk
    rcases List.mem_cons.1 hk with e | hk
    · subst e
      unfold wpOp
      rw [hi]
      simp only [hwi, if_true]
      exact .inl (h1 _ fun b u h1 h2 => ⟨h1, h2⟩)
    · have e : k = j := (by simpa using hk)
      subst e
      unfold wpOp
      rw [hj]
      simp only [hwj, if_true]
      exact .inl (h2 _ fun b u h1 h2 => ⟨h1, h2⟩)⟩
theorem wpAnyF_skip {i : Nat} {o : Oper} {n : Nat} {l : Array Bool} {a : Act} {w : World} (hr : Region.ready md ops l = [i]) (hi : ops[i]? = some o) (hw : Region.wanted o (yielded ops a.tmps) = false) (hS : S w)
    (h : wpAnyF P md ops Q S z n (l.setIfInBounds i true) (a.put o.dst undef) w) : wpAnyF P md ops Q S z (n + 1) l a w :=
  wpAnyF_one hr (by
    unfold wpOp
    rw [hi]
    simp only [hw]
    exact ⟨.inr hS, h⟩)
theorem wpAnyF_done {l : Array Bool} {a : Act} {w : World} (hr : Region.ready md ops l = []) (h : Q .normal a w) : ∀ n, wpAnyF P md ops Q S z n l a w
  | 0 => ⟨hr, h⟩
  | _ + 1 => ⟨fun _ => h, by rw [hr]; simp⟩
theorem wp_region_F (S : World → Prop) (z : List Nat) {id : Nat} {a : Act} {w : World} (hm : P.follows .mixedOrders = true)
    (h : wpAnyF P .any ops Q S z ops.size (Array.replicate ops.size false) a w.drew) : (Code.region id ops true).wp P Q a w :=
  wp_region_any hm (wpAny_of_F _ _ _ _ h)
end
end Go.Proofs.Ytgijkgngldfdiaa
