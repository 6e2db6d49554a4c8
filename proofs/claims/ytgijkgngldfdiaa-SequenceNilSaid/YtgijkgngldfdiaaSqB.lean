/- A sequence's step. Helper. -/
import Derived.Test.YtgijkgngldfdiaaSqA
namespace Go.Proofs.Ytgijkgngldfdiaa
open Go.RowKit
set_option linter.unusedVariables false
set_option linter.unusedSimpArgs false
theorem StepBox.turn {base : Nat} {w w' : World} {B : Nat} {s : Vm} {xA yA tA : Option Addr} {xc yc tc : Nat} {M : Nat → Prop} (h : StepBox base w B s xA yA tA xc yc tc) (hc : Chg M w w') (hM : ∀ g, base ≤ g → ¬ M g) : StepBox base w' B s xA yA tA xc yc tc :=
  ⟨h.1.chg hc (hM B h.2.2), h.2.1.far fun g hg hl => hc.block g hl (hM g hg), h.2.2⟩
def StepOut (w : World) (p : PMem) (m : Mdl) (s : Sq) (e : Ev) (t rest : List Ev) (r : Ending) (w' : World) : Prop :=
  ∃ p' tA tc, r = .returned (.tuple #[ev6 e, .slice tA (m.run s e).1.tells.length tc, .int .i64 0]) ∧ PSeq w' p' m (m.after s e rest) (insAll t ((m.run s e).1.sends.map evOf)) ∧ p'.SB = p.SB ∧ p'.U = p.U ∧ Chg p.T w w' ∧ (∀ g, p'.T g → p.T g ∨ w.heap.size ≤ g) ∧
    Rd w' tA (ints (m.run s e).1.tells.flatten) ∧ (m.run s e).1.tells.flatten.length = (m.run s e).1.tells.length * 6 ∧ ∀ b o, tA = some ⟨b, o, none⟩ → w.heap.size ≤ b ∨ (m.run s e).1.tells = []
section
variable (p : PMem) (m : Mdl) (s : Sq) (e : Ev) (t rest : List Ev) (w : World)
set_option maxRecDepth 100000
set_option maxHeartbeats 8000000
theorem seqStep_any (h : PSeq w p m s (e :: t)) (hp : s.w.Perm (e :: rest)) (hd : s.done ≤ 900) (hw9 : s.w.length ≤ 9000) :
    Calls Try.prog 17 #[.pointer (some ⟨p.SB, 0, none⟩)] w (StepOut w p m s e t rest) := by
  have he : e ∈ s.w := hp.symm.subset List.mem_cons_self
  have ho := Ev.may_out (h.ok.ev e he)
  obtain ⟨i, hi⟩ : ∃ i, (e.p - 1).toNat = i := ⟨_, rfl⟩
  have hip : e.p = (i : Int) + 1 := by omega
  have hin : i < m.procs.length := by omega
  have hln : t.length + 1 ≤ 9000 := by have := h.twin.perm.length_eq; simp at this; omega
  have n16 := h.ok.may.n16
  have HPS := Lib.hid h
  have HI := Lib.hid (⟨hi, hip⟩ : (e.p - 1).toNat = i ∧ e.p = (i : Int) + 1)
  have HNE := Lib.hid h.ne
  obtain ⟨w1, hw1⟩ : ∃ w1, w.alloc (.cells #[.int .i64 0, .int .i64 0, .int .i64 0, .int .i64 0, .int .i64 0, .int .i64 0] 44) = w1 := ⟨_, rfl⟩
  have n1 : Nw w w1 := by rw [← hw1]; exact (Nw.refl w).alloc _
  obtain ⟨OB, hOB⟩ : ∃ OB, w.heap.size = OB := ⟨_, rfl⟩
  have hbO : Blk w1 OB 44 #[.int .i64 0, .int .i64 0, .int .i64 0, .int .i64 0, .int .i64 0, .int .i64 0] := by rw [← hw1]; exact Blk.last w _ _ hOB
  have HW1 := Lib.hid hw1
  have HOB := Lib.hid hOB
  have HBO := Lib.hid hbO
  have N1 := Lib.hid n1
  have HK1 := Lib.hid (next_any p m s (e :: t) w1 (h.new n1))
  obtain ⟨N, hN⟩ : ∃ N, m.procs.length = N := ⟨_, rfl⟩
  have HN := Lib.hid hN
  rw [hN] at hin n16
  have HEM := Lib.hid he
  clear h he ho hi hip hw1 n1 hOB hbO hN
  go_enter Try.func17, Try.ntmps17
  go_upto_region 1 with (fail)
  rw [HW1.out, HOB.out]
  go_wp2_with fail
  refine HK1.out.mono ?_
  rintro r w2 ⟨rfl, b2⟩
  obtain ⟨EB, hEB⟩ : ∃ EB, w2.heap.size = EB := ⟨_, rfl⟩
  obtain ⟨w3, hw3⟩ : ∃ w3, w2.alloc (.cells #[.int .i64 e.k.T, .int .i64 e.k.O, .int .i64 e.k.S, .int .i64 e.p, .int .i64 e.q, .int .i64 e.d] 44) = w3 := ⟨_, rfl⟩
  have hbE : Blk w3 EB 44 #[.int .i64 e.k.T, .int .i64 e.k.O, .int .i64 e.k.S, .int .i64 e.p, .int .i64 e.q, .int .i64 e.d] := by rw [← hw3]; exact Blk.last w2 _ _ hEB
  have HSZ12 := Lib.hid (Below.size (show Below w1.heap.size w1 w2 from b2))
  have n13 : Nw w1 w3 := by rw [← hw3]; exact (show Nw w1 w2 from b2).alloc _
  have HW3 := Lib.hid hw3
  have HEB := Lib.hid hEB
  have HBE := Lib.hid hbE
  have N13 := Lib.hid n13
  have hem : (!(e :: t).isEmpty) = true := rfl
  have hhd : (e :: t).headD evZ = e := rfl
  rw [hem, hhd]
  unfold ev6
  clear b2 hw3 hEB hbE n13 HK1 hem hhd
  go_upto_region 2 with (fail)
  rw [HW3.out, HEB.out]
  have n03 : Nw w w3 := N1.out.step N13.out
  have HP3 := Lib.hid (HPS.out.new n03)
  have N03 := Lib.hid n03
  clear n03
  have HK2 := Lib.hid (seqNone_any p m s (e :: t) w3 HP3.out)
  go_wp2_with fail
  refine HK2.out.mono ?_
  rintro r wq ⟨rfl, hq⟩
  rw [hq]
  clear hq wq HK2
  have c2 : w3.cell? ⟨p.SB, 2, none⟩ = some (.slice p.A (t.length + 1) p.c) := HP3.out.waits.box.cell 2
  have f2 := HP3.out.waits.box.frozen 2
  have HK3 := Lib.hid (delete_first p.A (t.length + 1) p.c (ints (rows (e :: t))) p.blk w3 HP3.out.waits.own (by omega) (by omega) (ints_one _))
  obtain ⟨nt, hnt⟩ : ∃ nt, t.length = nt := ⟨_, rfl⟩
  have HNT := Lib.hid hnt
  rw [hnt] at c2 HK3
  clear hnt
  go_wp2_with fail
  refine HK3.out.mono ?_
  rintro r w4 ⟨c', rfl, hown4, hch4⟩
  rw [show nt + 1 - 1 = nt by omega, tail_rows] at hown4
  have hbS4 := HP3.out.waits.box.chg hch4 HNE.out.2.1
  have f2 := hbS4.frozen 2
  have c2 : w4.cell? ⟨p.SB, 2, none⟩ = some (.slice p.A (t.length + 1) p.c) := hbS4.cell 2
  rw [HNT.out] at c2
  have HO4 := Lib.hid hown4
  have HC4 := Lib.hid hch4
  have HB4 := Lib.hid hbS4
  clear hown4 hch4 hbS4 HK3
  rw [show nt + 1 - 1 = nt by omega]
  go_upto_region 7 with (fail)
  obtain ⟨w5, hw5⟩ : ∃ w5, w4.setCell ⟨p.SB, 2, none⟩ (.slice p.A nt c') = w5 := ⟨_, rfl⟩
  rw [hw5]
  have hbS5 : Blk w5 p.SB 63 #[.slice p.pA m.procs.length p.pc, .slice (some ⟨p.stB, p.so, none⟩) m.procs.length p.sc, .slice p.A nt c', .map (some p.PB), .int .i64 (s.done : Int), .int .i64 s.last.T] := by rw [← hw5]; exact HB4.out.set_ 2 _
  have hO5 : Own w5 44 6 (.slice p.A nt c') nt (ints (rows t)) p.blk := by rw [← hw5]; exact HO4.out.kept fun g hg => Below.heap_setCell _ _ _ _ (fun q => HNE.out.2.1 (hg.trans (congrArg some q)).symm)
  have hC5 : Chg (fun k => k = p.SB ∨ some k = p.blk) w3 w5 := by rw [← hw5]; exact (HC4.out.mono (fun i hi e => .inr e)).setCell (p := ⟨p.SB, 2, none⟩) (.inl (.inl rfl)) _
  have hszB : p.SB < w.heap.size ∧ p.stB < w.heap.size ∧ (∀ g, p.blk = some g → g < w.heap.size) ∧ w.heap.size ≤ OB ∧ w.heap.size ≤ EB ∧ OB < EB := by
    obtain ⟨cur, hst, _⟩ := HPS.out.sts
    have h1 := Below.size N1.out
    have h2 : w.heap.size + 1 = w1.heap.size := by rw [← HW1.out]; simp
    have h3 : w1.heap.size ≤ EB := by rw [← HEB.out]; exact HSZ12.out
    exact ⟨HPS.out.waits.box.lt, hst.lt, HPS.out.waits.own.lt, by rw [HOB.out]; exact Nat.le_refl _, by omega, by rw [← HOB.out]; omega⟩
  have hFE : ∀ g, w.heap.size ≤ g → ¬ (g = p.SB ∨ some g = p.blk) := fun g hg h => by
    rcases h with h | h
    · have := hszB.1; omega
    · have := hszB.2.2.1 g h.symm; omega
  have hbE5 := HBE.out.chg hC5 (hFE EB hszB.2.2.2.2.1)
  have hbO5 : Blk w5 OB 44 #[.int .i64 0, .int .i64 0, .int .i64 0, .int .i64 0, .int .i64 0, .int .i64 0] := (HBO.out.below N13.out HBO.out.lt).chg hC5 (hFE OB hszB.2.2.2.1)
  obtain ⟨cur, hst3, hsts3⟩ := HP3.out.sts
  have hst5 := hst3.chg hC5 (fun h => by rcases h with h | h; exact HNE.out.1 h.symm; exact HNE.out.2.2.1 h)
  have hCT : Chg p.T w3 w5 := hC5.mono fun k _ h => by rcases h with h | h; exact .inl h; exact .inr (.inr (.inl h))
  obtain ⟨pb, po, MB, kB, kd, hpA, hpc, hM, hK⟩ := ((HP3.out.procs i (by rw [HN.out]; exact hin)).keep hCT.own (fun g e => .inl e)).here
  obtain ⟨a, va, ⟨q0, q1, q2⟩, hrs⟩ := hsts3 i (by rw [HN.out]; exact hin)
  have hrd := (hrs.keep hCT.own (fun g e => .inl e)).here
  rw [← hst5.cell] at q0 q1 q2
  obtain ⟨hcm, _⟩ := HPS.out.ok.may.proc (i := i) (by rw [HN.out]; exact hin)
  obtain ⟨v, hv⟩ : ∃ v, (m.run s e).1 = v := ⟨_, rfl⟩
  have hmn := run_means HPS.out.ok HEM.out (by omega)
  have hfin : runB (m.procs.getD i Pr.z).vars ((i : Int) + 1) N (m.procs.getD i Pr.z).seed (nk (m.procs.getD i Pr.z).ks) e.k.T e.k.O e.k.S ((i : Int) + 1) e.q e.d (s.sts.getD i St.z).vars (s.sts.getD i St.z).sent (s.sts.getD i St.z).drawn = (v, 0) := by
    have h1 : m.run s e = (v, 0) := Prod.ext hv hmn.1
    unfold Mdl.run at h1
    rw [HI.out.1, HI.out.2, HN.out] at h1
    exact h1
  rw [HN.out] at hM
  have KR := Lib.hid (fun W (g : Nw w5 W) => by
    have k := run_any MB (m.procs.getD i Pr.z).vars kB (m.procs.getD i Pr.z).ks kd ((i : Int) + 1) N (m.procs.getD i Pr.z).seed a (s.sts.getD i St.z).vars va (s.sts.getD i St.z).sent (s.sts.getD i St.z).drawn e.k.T e.k.O e.k.S ((i : Int) + 1) e.q e.d W (hM.keep g) (hK.keep g) hcm
      (by unfold argsOk; simp only [Bool.and_eq_true, decide_eq_true_eq]; omega) (hrd.keep fun p hp => Below.cell g hp)
    rw [hfin] at k
    exact k : ∀ W, Nw w5 W → Calls Try.prog 42 #[.pointer (some ⟨MB, 0, none⟩), .agg #[.slice a (s.sts.getD i St.z).vars.length va, .int .i64 (s.sts.getD i St.z).sent, .int .i64 (s.sts.getD i St.z).drawn], .agg #[.int .i64 e.k.T, .int .i64 e.k.O, .int .i64 e.k.S, .int .i64 ((i : Int) + 1), .int .i64 e.q, .int .i64 e.d]] W (RunAll W (v, 0)))
  obtain ⟨st, hstt⟩ : ∃ st, s.sts.getD i St.z = st := ⟨_, rfl⟩
  rw [hstt] at q0 q1 q2 KR
  rw [HI.out.2] at hbE5
  have b0 : w5.cell? ⟨p.SB, 0, none⟩ = some (.slice (some ⟨pb, po, none⟩) N p.pc) := (hbS5.cell 0).trans (by rw [hpA, HN.out]; rfl)
  have b1 : w5.cell? ⟨p.SB, 1, none⟩ = some (.slice (some ⟨p.stB, p.so, none⟩) N p.sc) := (hbS5.cell 1).trans (by rw [HN.out]; rfl)
  have HSS := Lib.hid (fun W (g : Nw w5 W) => (⟨g, g.cell b0, g.cell b1, g.cell (hbE5.cell 0), g.cell (hbE5.cell 1), g.cell (hbE5.cell 2), g.cell (hbE5.cell 3), g.cell (hbE5.cell 4), g.cell (hbE5.cell 5), g.cell hpc, g.cell q0, g.cell q1, g.cell q2⟩ : Nw w5 W ∧ W.cell? ⟨p.SB, 0, none⟩ = some (.slice (some ⟨pb, po, none⟩) N p.pc) ∧ W.cell? ⟨p.SB, 1, none⟩ = some (.slice (some ⟨p.stB, p.so, none⟩) N p.sc) ∧ W.cell? ⟨EB, 0, none⟩ = some (.int .i64 e.k.T) ∧ W.cell? ⟨EB, 1, none⟩ = some (.int .i64 e.k.O) ∧ W.cell? ⟨EB, 2, none⟩ = some (.int .i64 e.k.S) ∧ W.cell? ⟨EB, 3, none⟩ = some (.int .i64 ((i : Int) + 1)) ∧ W.cell? ⟨EB, 4, none⟩ = some (.int .i64 e.q) ∧ W.cell? ⟨EB, 5, none⟩ = some (.int .i64 e.d) ∧ W.cell? ⟨pb, po + i, none⟩ = some (.pointer (some ⟨MB, 0, none⟩)) ∧ W.cell? ⟨p.stB, p.so + i * 3, none⟩ = some (.slice a st.vars.length va) ∧ W.cell? ⟨p.stB, p.so + i * 3 + 1, none⟩ = some (.int .i64 st.sent) ∧ W.cell? ⟨p.stB, p.so + i * 3 + 2, none⟩ = some (.int .i64 st.drawn)))
  have HSTT := Lib.hid hstt
  have HBS5 := Lib.hid hbS5
  have HO5 := Lib.hid hO5
  have HC5 := Lib.hid hC5
  have HSZB := Lib.hid hszB
  have HFE := Lib.hid hFE
  have HBE5 := Lib.hid hbE5
  have HBO5 := Lib.hid hbO5
  have HST5 := Lib.hid hst5
  have HSTS := Lib.hid hsts3
  have HCT := Lib.hid hCT
  have HV := Lib.hid hv
  have HMN := Lib.hid hmn
  have HPA := Lib.hid hpA
  have HCU := Lib.hid (⟨q0, q1, q2⟩ : _ ∧ _ ∧ _)
  have k1 : IntKind.i64.wrap ((i : Int) + 1 - 1) = (i : Int) := by rw [Int.add_sub_cancel]; exact IntWalk.i64_in _ (by constructor <;> omega)
  have k4 : IntKind.i64.wrap (i : Int) = (i : Int) := IntWalk.i64_in _ (by constructor <;> omega)
  have k2 : (0 : Int) ≤ (i : Int) := by omega
  have k3 : (i : Int) < (N : Int) := by omega
  clear hw5 hbS5 hO5 hC5 hszB hFE hbE5 hbO5 hst5 hst3 hsts3 hCT hpA hpc hM hK hrd hrs q0 q1 q2 hcm hv hmn hfin hstt b0 b1 c2 f2
  go_cut [7, 8] (fun v7 v8 wx => ∃ XB xA xc yA yc tA tc, v7 = .pointer (some ⟨XB, 0, none⟩) ∧ v8 = .int .i64 0 ∧ Hid (StepBox w5.heap.size wx XB v xA yA tA xc yc tc ∧ Nw w5 wx))
  case first =>
    go_region_held3 (fun W => Nw w5 W ∧ W.cell? ⟨p.SB, 0, none⟩ = some (.slice (some ⟨pb, po, none⟩) N p.pc) ∧ W.cell? ⟨p.SB, 1, none⟩ = some (.slice (some ⟨p.stB, p.so, none⟩) N p.sc) ∧ W.cell? ⟨EB, 0, none⟩ = some (.int .i64 e.k.T) ∧ W.cell? ⟨EB, 1, none⟩ = some (.int .i64 e.k.O) ∧ W.cell? ⟨EB, 2, none⟩ = some (.int .i64 e.k.S) ∧ W.cell? ⟨EB, 3, none⟩ = some (.int .i64 ((i : Int) + 1)) ∧ W.cell? ⟨EB, 4, none⟩ = some (.int .i64 e.q) ∧ W.cell? ⟨EB, 5, none⟩ = some (.int .i64 e.d) ∧ W.cell? ⟨pb, po + i, none⟩ = some (.pointer (some ⟨MB, 0, none⟩)) ∧ W.cell? ⟨p.stB, p.so + i * 3, none⟩ = some (.slice a st.vars.length va) ∧ W.cell? ⟨p.stB, p.so + i * 3 + 1, none⟩ = some (.int .i64 st.sent) ∧ W.cell? ⟨p.stB, p.so + i * 3 + 2, none⟩ = some (.int .i64 st.drawn)) ((refine HSS.out _ ?_; repeat (first | assumption | exact Nw.refl w5 | refine Nw.drew ?_ | refine Nw.alloc ?_ _ | refine Nw.set ?_ (by first | exact Nat.le_refl _ | omega) _))) (first
      | (go_at_call 42; refine (KR.out _ (by first | assumption | exact Nw.refl w5 | exact (Nw.refl w5).drew | exact ((Nw.refl w5).alloc _).drew | exact ((Nw.refl w5).drew).alloc _)).mono ?_; rintro r wz ⟨xA, xc, yA, yc, tA, tc, rfl, hstp, bz⟩; have iz := Nw.step (by first | assumption | exact Nw.refl w5 | exact (Nw.refl w5).drew | exact ((Nw.refl w5).alloc _).drew | exact ((Nw.refl w5).drew).alloc _) bz; try have hbox : Blk wz w5.heap.size 94 stepZ := Blk.below (by first | exact Blk.last _ _ _ rfl | exact (Blk.last w5 _ _ rfl).drew) bz (by simp); try obtain ⟨⟨y0, y1, y2, y3, y4⟩, v0, v1, v2, v3, v4⟩ := stepZ_cells hbox))
    · go_wp2_with fail
      go_meet
      exact ⟨_, xA, xc, yA, yc, tA, tc, rfl, rfl, Lib.hid ⟨StepBox.late (hstp.mono (Nat.le_refl _)) (Below.size (show Below w5.heap.size w5 wz from iz)), iz.alloc _⟩⟩
    · go_wp2_with fail
      go_meet
      exact ⟨_, xA, xc, yA, yc, tA, tc, rfl, rfl, Lib.hid ⟨StepBox.early hstp hbox (Nat.le_refl _) (by simp), ((((iz.set (Nat.le_refl _) _).set (Nat.le_refl _) _).set (Nat.le_refl _) _).set (Nat.le_refl _) _).set (Nat.le_refl _) _⟩⟩
  case rest =>
    obtain ⟨XB, xA, xc, yA, yc, tA, tc, rfl, rfl, HX⟩ := hcut
    obtain ⟨w6, hw6⟩ : ∃ w6, w6 = wc := ⟨_, rfl⟩
    subst hw6
    have n6 := HX.out.2
    have hbx := HX.out.1.1
    have x0 : w6.cell? ⟨XB, 0, none⟩ = some (.slice xA v.vars.length xc) := hbx.cell 0
    have x1 : w6.cell? ⟨XB, 1, none⟩ = some (.int .i64 v.sent) := hbx.cell 1
    have x2 : w6.cell? ⟨XB, 2, none⟩ = some (.int .i64 v.drawn) := hbx.cell 2
    have b1 : w6.cell? ⟨p.SB, 1, none⟩ = some (.slice (some ⟨p.stB, p.so, none⟩) N p.sc) := n6.cell ((HBS5.out.cell 1).trans (by rw [HN.out]; rfl))
    have e3 : w6.cell? ⟨EB, 3, none⟩ = some (.int .i64 ((i : Int) + 1)) := n6.cell (HBE5.out.cell 3)
    have hst6 := HST5.out.below n6 HST5.out.lt
    have q0 := n6.cell HCU.out.1
    have q1 := n6.cell HCU.out.2.1
    have q2 := n6.cell HCU.out.2.2
    have z0 := hst6.frozen (p.so + i * 3)
    have z1 := hst6.frozen (p.so + i * 3 + 1)
    have z2 := hst6.frozen (p.so + i * 3 + 2)
    have N6 := Lib.hid n6
    have HST6 := Lib.hid hst6
    have HXB := Lib.hid hbx
    clear n6 hbx hst6 HSS KR
    go_upto_region 8 with (fail)
    go_cut [] (fun wx => Hid (Blk wx p.stB 65 (((cur.setIfInBounds (p.so + i * 3) (.slice xA v.vars.length xc)).setIfInBounds (p.so + i * 3 + 1) (.int .i64 v.sent)).setIfInBounds (p.so + i * 3 + 2) (.int .i64 v.drawn)) ∧ Chg (fun k => k = p.stB) w6 wx))
    case first =>
      go_region
      all_goals
        go_wp2_with fail
        go_meet
        exact Lib.hid ⟨((HST6.out.drew.set_ _ _).set_ _ _).set_ _ _, (((Chg.refl (fun k => k = p.stB) w6).drew.setCell (p := ⟨p.stB, _, none⟩) (.inl rfl) _).setCell (p := ⟨p.stB, _, none⟩) (.inl rfl) _).setCell (p := ⟨p.stB, _, none⟩) (.inl rfl) _⟩
    case rest =>
      have H7 := hcut
      obtain ⟨w7, hw7⟩ : ∃ w7, w7 = wc := ⟨_, rfl⟩
      subst hw7
      clear x0 x1 x2 b1 e3 q0 q1 q2 z0 z1 z2 k1 k2 k3 k4
      have hq7 : ∀ g, w5.heap.size ≤ g → ¬ (g = p.stB) := fun g hg q => by
        have h1 := HST5.out.lt
        omega
      have hx7 := HX.out.1.turn H7.out.2 hq7
      have hbS7 := (HBS5.out.below N6.out HBS5.out.lt).chg H7.out.2 HNE.out.1
      have hO7 := (HO5.out.kept fun g hg => N6.out.block g (HO5.out.lt g hg)).kept fun g hg => H7.out.2.block g (by have h1 := HO5.out.lt g hg; have h2 := Below.size N6.out; omega) (fun q => HNE.out.2.2.1 (by rw [← q]; exact hg.symm))
      have hW7 : Waits w7 p.SB (.slice p.pA m.procs.length p.pc) (.slice (some ⟨p.stB, p.so, none⟩) m.procs.length p.sc) t (.map (some p.PB)) (.int .i64 (s.done : Int)) (.int .i64 s.last.T) p.A c' p.blk := ⟨by rw [HNT.out]; exact hbS7, by rw [HNT.out]; exact hO7⟩
      have hsl : v.sends.length ≤ 4 := by have h1 := HMN.out.2.2.1; rw [HV.out] at h1; exact h1
      have hr6 : ∀ r ∈ v.sends, r.length = 6 := fun r hr => by
        obtain ⟨j, hj, rfl⟩ := List.getElem_of_mem hr
        have h1 := HMN.out.2.2.2.2.2.2.1
        rw [HV.out] at h1
        obtain ⟨x, ex, _⟩ := h1 j hj
        rw [ex]; rfl
      obtain ⟨evs, hevs⟩ : ∃ evs, v.sends.map evOf = evs := ⟨_, rfl⟩
      have hel : evs.length = v.sends.length := by rw [← hevs, List.length_map]
      have hrdS : Rd w7 yA (ints (rows evs)) := by rw [← hevs, ← rows_flat v.sends hr6]; exact hx7.2.1.2.1
      have hyb : ∀ b o, yA = some ⟨b, o, none⟩ → w5.heap.size ≤ b ∨ v.sends = [] := hx7.2.1.2.2.2.2.2.2.1
      have hw05 : w.heap.size ≤ w5.heap.size := Nat.le_trans (Below.size N03.out) HC5.out.size
      have hF5 : ∀ g, w5.heap.size ≤ g → ¬ (g = p.SB ∨ some g = p.blk) := fun g hg => HFE.out g (by omega)
      have hokA := step_ok HPS.out.ok hp (fun x hx => srt_min HPS.out.twin.srt x ((HPS.out.twin.perm.trans hp).cons_inv.symm.subset hx)) (by omega)
      have hsrt : ∀ j, Srt (insAll t (evs.take j)) := fun j => by
        have hu := hokA.uniq
        have hu2 : (rest ++ (m.run s e).1.sends.map evOf).Pairwise fun a b => a.k ≠ b.k := hu
        rw [HV.out, hevs] at hu2
        exact insAll_srt (List.pairwise_cons.1 HPS.out.twin.srt).2 (HPS.out.twin.perm.trans hp).cons_inv hu2 j
      have hbE7 := (HBE5.out.below N6.out HBE5.out.lt).chg H7.out.2 (show ¬ EB = p.stB from fun q => by have := HSZB.out.2.1; have := HSZB.out.2.2.2.2.1; omega)
      have hbO7 := (HBO5.out.below N6.out HBO5.out.lt).chg H7.out.2 (show ¬ OB = p.stB from fun q => by have := HSZB.out.2.1; have := HSZB.out.2.2.2.1; omega)
      have x3 : w7.cell? ⟨XB, 3, none⟩ = some (.slice yA v.sends.length yc) := hx7.1.cell 3
      have HX7 := Lib.hid hx7
      have HW7 := Lib.hid hW7
      have HEL := Lib.hid hel
      have HRS := Lib.hid hrdS
      have HYB := Lib.hid hyb
      have HF5 := Lib.hid hF5
      have HOKA := Lib.hid hokA
      have HSRT := Lib.hid hsrt
      have HBE7 := Lib.hid hbE7
      have HBO7 := Lib.hid hbO7
      have HEVS := Lib.hid hevs
      have HW05 := Lib.hid hw05
      have HTL := Lib.hid hln
      obtain ⟨ns, hns⟩ : ∃ ns, v.sends.length = ns := ⟨_, rfl⟩
      have HNS := Lib.hid hns
      rw [hns] at x3 hsl HEL
      clear hx7 hW7 hbS7 hO7 hq7 hr6 hel hrdS hyb hF5 hokA hsrt hbE7 hbO7 hevs hw05 hln hns
      go_wp2_with fail
      go_loopw [68] (fun k wr => ∃ j : Nat, j ≤ ns ∧ k = .int .i64 j ∧ Hid (∃ A_ c_ blk_, Waits wr p.SB (.slice p.pA m.procs.length p.pc) (.slice (some ⟨p.stB, p.so, none⟩) m.procs.length p.sc) (insAll t (evs.take j)) (.map (some p.PB)) (.int .i64 (s.done : Int)) (.int .i64 s.last.T) A_ c_ blk_ ∧ Chg (fun k => k = p.SB ∨ some k = p.blk) w7 wr ∧ ∀ g, blk_ = some g → p.blk = some g ∨ w7.heap.size ≤ g)) (fun k _ => ns - (intOf k).toNat)
      case atStart => exact ⟨0, Nat.zero_le _, rfl, Lib.hid ⟨p.A, c', p.blk, HW7.out, Chg.refl _ _, fun g e => .inl e⟩⟩
      case round =>
        obtain ⟨j, hj, rfl, HR⟩ := hrel
        by_cases hlt : j < ns
        · have g1 : (j : Int) < (ns : Int) := by omega
          have g2 : (0 : Int) ≤ (j : Int) := by omega
          obtain ⟨A_, c_, blk_, hWr, hCr, hbr⟩ := HR.out
          have hje : j < evs.length := by rw [HEL.out]; exact hlt
          obtain ⟨yb, yo, rfl, ey0, ey1, ey2, ey3, ey4, ey5⟩ := ev_at HRS.out (h := j) hje
          have hyF : ¬ (yb = p.SB ∨ some yb = p.blk) := by
            rcases HYB.out yb yo rfl with h1 | h1
            · exact HF5.out yb h1
            · have h2 := HNS.out; rw [h1] at h2; simp at h2; omega
          have ex0 := hCr.cellOf ey0 hyF
          have ex1 := hCr.cellOf ey1 hyF
          have ex2 := hCr.cellOf ey2 hyF
          have ex3 := hCr.cellOf ey3 hyF
          have ex4 := hCr.cellOf ey4 hyF
          have ex5 := hCr.cellOf ey5 hyF
          obtain ⟨x, hx⟩ : ∃ x, evs[j] = x := ⟨_, rfl⟩
          rw [hx] at ex0 ex1 ex2 ex3 ex4 ex5
          clear ey0 ey1 ey2 ey3 ey4 ey5
          obtain ⟨w8, hw8⟩ : ∃ w8, wr.alloc (.cells #[.int .i64 x.k.T, .int .i64 x.k.O, .int .i64 x.k.S, .int .i64 x.p, .int .i64 x.q, .int .i64 x.d] 44) = w8 := ⟨_, rfl⟩
          have n8 : Nw wr w8 := by rw [← hw8]; exact (Nw.refl wr).alloc _
          obtain ⟨GB, hGB⟩ : ∃ GB, wr.heap.size = GB := ⟨_, rfl⟩
          have hb8 : Blk w8 GB 44 #[.int .i64 x.k.T, .int .i64 x.k.O, .int .i64 x.k.S, .int .i64 x.p, .int .i64 x.q, .int .i64 x.d] := by rw [← hw8]; exact Blk.last wr _ _ hGB
          have hW8 : Waits w8 p.SB (.slice p.pA m.procs.length p.pc) (.slice (some ⟨p.stB, p.so, none⟩) m.procs.length p.sc) (insAll t (evs.take j)) (.map (some p.PB)) (.int .i64 (s.done : Int)) (.int .i64 s.last.T) A_ c_ blk_ := ⟨hWr.box.below n8 hWr.box.lt, hWr.own.kept fun g hg => n8.block g (hWr.own.lt g hg)⟩
          have hK := wait_any p.SB (.slice p.pA m.procs.length p.pc) (.slice (some ⟨p.stB, p.so, none⟩) m.procs.length p.sc) (insAll t (evs.take j)) (.map (some p.PB)) (.int .i64 (s.done : Int)) (.int .i64 s.last.T) A_ c_ blk_ x w8 hW8 (HSRT.out j) (by rw [insAll_length, List.length_take]; have := HTL.out; omega)
          have HK := Lib.hid hK
          have HW8 := Lib.hid hw8
          have HGB := Lib.hid hGB
          have N8 := Lib.hid n8
          have HCR := Lib.hid hCr
          have HBR := Lib.hid hbr
          have HXJ := Lib.hid (show insAll t (evs.take (j + 1)) = insE (insAll t (evs.take j)) x from by rw [insAll_snoc t evs j hje, hx])
          have g80 := hb8.cell 0
          have g81 := hb8.cell 1
          have g82 := hb8.cell 2
          have g83 := hb8.cell 3
          have g84 := hb8.cell 4
          have g85 := hb8.cell 5
          clear hWr hCr hbr hje hyF hx hw8 n8 hGB hb8 hW8 hK x3 HR
          go_upto_region 12 with (fail)
          rw [HW8.out, HGB.out]
          clear ex0 ex1 ex2 ex3 ex4 ex5
          go_wp2_with fail
          refine HK.out.mono ?_
          rintro r w9 ⟨rfl, A2, c2, blk2, hW9, hC9, hb9⟩
          have HW9 := Lib.hid hW9
          have HC9 := Lib.hid hC9
          have HB9 := Lib.hid hb9
          clear hW9 hC9 hb9 g80 g81 g82 g83 g84 g85
          go_wp2_with fail
          go_roundw
          case rel =>
            refine ⟨j + 1, by omega, by go_num, Lib.hid ⟨A2, c2, blk2, by rw [HXJ.out]; exact HW9.out, (HCR.out.trans (Chg.of_below N8.out (Nat.le_refl _) (fun k => k = p.SB ∨ some k = p.blk)) (fun i _ q => q)).trans HC9.out (fun g hg q => ?_), fun g q => ?_⟩⟩
            · rcases q with q | q
              · exact .inl q
              · rcases HBR.out g q.symm with q2 | q2
                · exact .inr q2.symm
                · omega
            · rcases HB9.out g q with q2 | q2
              · exact HBR.out g q2
              · exact .inr (by have h1 := HCR.out.size; have h2 := Below.size N8.out; omega)
          case measure => simp [intOf]; omega
        · have g1 : ¬ (j : Int) < (ns : Int) := by omega
          obtain rfl : j = ns := by omega
          obtain ⟨A_, c_, blk_, hWr, hCr, hbr⟩ := HR.out
          rw [show evs.take j = evs from List.take_of_length_le (by rw [HEL.out]; exact Nat.le_refl _)] at hWr
          have s4 : wr.cell? ⟨p.SB, 4, none⟩ = some (.int .i64 (s.done : Int)) := hWr.box.cell 4
          have s5 : wr.cell? ⟨p.SB, 5, none⟩ = some (.int .i64 s.last.T) := hWr.box.cell 5
          have f4 := hWr.box.frozen 4
          have f5 := hWr.box.frozen 5
          have hEF : ¬ (EB = p.SB ∨ some EB = p.blk) := HFE.out EB HSZB.out.2.2.2.2.1
          have hOF : ¬ (OB = p.SB ∨ some OB = p.blk) := HFE.out OB HSZB.out.2.2.2.1
          have hbE9 := HBE7.out.chg hCr hEF
          have hbO9 := HBO7.out.chg hCr hOF
          have hbX9 := HX7.out.1.chg hCr (HF5.out XB HX7.out.2.2)
          have e0 : wr.cell? ⟨EB, 0, none⟩ = some (.int .i64 e.k.T) := hbE9.cell 0
          have k0 : (0 : Int) ≤ (s.done : Int) := by omega
          have k1 : (s.done : Int) ≤ 900 := by omega
          have HWR := Lib.hid hWr
          have HCR := Lib.hid hCr
          have HBR := Lib.hid hbr
          have HBE9 := Lib.hid hbE9
          have HBO9 := Lib.hid hbO9
          have HBX9 := Lib.hid hbX9
          obtain ⟨w10, hw10⟩ : ∃ w10, (wr.setCell ⟨p.SB, 4, none⟩ (.int .i64 ((s.done : Int) + 1))).setCell ⟨p.SB, 5, none⟩ (.int .i64 e.k.T) = w10 := ⟨_, rfl⟩
          have HW10 := Lib.hid hw10
          clear hWr hCr hbr hEF hOF hbE9 hbO9 hbX9 hw10 HR x3 g1
          go_upto_region 16 with (fail)
          rw [HW10.out]
          have hb10 : Blk w10 p.SB 63 #[.slice p.pA m.procs.length p.pc, .slice (some ⟨p.stB, p.so, none⟩) m.procs.length p.sc, .slice A_ (insAll t evs).length c_, .map (some p.PB), .int .i64 ((s.done : Int) + 1), .int .i64 e.k.T] := by rw [← HW10.out]; exact (HWR.out.box.set_ 4 _).set_ 5 _
          have hne1 : EB ≠ p.SB := fun q => by have := HSZB.out.1; have := HSZB.out.2.2.2.2.1; omega
          have hne2 : OB ≠ p.SB := fun q => by have := HSZB.out.1; have := HSZB.out.2.2.2.1; omega
          have hne3 : XB ≠ p.SB := fun q => by have := HSZB.out.1; have := HX7.out.2.2; have := HW05.out; omega
          have hbE10 : Blk w10 EB 44 #[.int .i64 e.k.T, .int .i64 e.k.O, .int .i64 e.k.S, .int .i64 ((i : Int) + 1), .int .i64 e.q, .int .i64 e.d] := by rw [← HW10.out]; exact (HBE9.out.far (p := ⟨p.SB, 4, none⟩) hne1 _).far (p := ⟨p.SB, 5, none⟩) hne1 _
          have hbO10 : Blk w10 OB 44 #[.int .i64 0, .int .i64 0, .int .i64 0, .int .i64 0, .int .i64 0, .int .i64 0] := by rw [← HW10.out]; exact (HBO9.out.far (p := ⟨p.SB, 4, none⟩) hne2 _).far (p := ⟨p.SB, 5, none⟩) hne2 _
          have hbX10 : Blk w10 XB 94 #[.slice xA v.vars.length xc, .int .i64 v.sent, .int .i64 v.drawn, .slice yA v.sends.length yc, .slice tA v.tells.length tc] := by rw [← HW10.out]; exact (HBX9.out.far (p := ⟨p.SB, 4, none⟩) hne3 _).far (p := ⟨p.SB, 5, none⟩) hne3 _
          have x4 : w10.cell? ⟨XB, 4, none⟩ = some (.slice tA v.tells.length tc) := hbX10.cell 4
          have e0 : w10.cell? ⟨EB, 0, none⟩ = some (.int .i64 e.k.T) := hbE10.cell 0
          have e1 : w10.cell? ⟨EB, 1, none⟩ = some (.int .i64 e.k.O) := hbE10.cell 1
          have e2 : w10.cell? ⟨EB, 2, none⟩ = some (.int .i64 e.k.S) := hbE10.cell 2
          have e3 : w10.cell? ⟨EB, 3, none⟩ = some (.int .i64 ((i : Int) + 1)) := hbE10.cell 3
          have e4 : w10.cell? ⟨EB, 4, none⟩ = some (.int .i64 e.q) := hbE10.cell 4
          have e5 : w10.cell? ⟨EB, 5, none⟩ = some (.int .i64 e.d) := hbE10.cell 5
          have o0 : w10.cell? ⟨OB, 0, none⟩ = some (.int .i64 0) := hbO10.cell 0
          have o1 : w10.cell? ⟨OB, 1, none⟩ = some (.int .i64 0) := hbO10.cell 1
          have o2 : w10.cell? ⟨OB, 2, none⟩ = some (.int .i64 0) := hbO10.cell 2
          have o3 : w10.cell? ⟨OB, 3, none⟩ = some (.int .i64 0) := hbO10.cell 3
          have o4 : w10.cell? ⟨OB, 4, none⟩ = some (.int .i64 0) := hbO10.cell 4
          have o5 : w10.cell? ⟨OB, 5, none⟩ = some (.int .i64 0) := hbO10.cell 5
          obtain ⟨z0, z1, z2, z3, z4, z5⟩ := frz6 hbO10
          have hsets : ∀ a0 a1 a2 a3 a4 a5, Chg (fun k => k = OB) w10 ((((((w10.setCell ⟨OB, 0, none⟩ a0).setCell ⟨OB, 1, none⟩ a1).setCell ⟨OB, 2, none⟩ a2).setCell ⟨OB, 3, none⟩ a3).setCell ⟨OB, 4, none⟩ a4).setCell ⟨OB, 5, none⟩ a5).drew := fun a0 a1 a2 a3 a4 a5 =>
            (((((((Chg.refl (fun k => k = OB) w10).setCell (p := ⟨OB, 0, none⟩) (.inl rfl) _).setCell (p := ⟨OB, 1, none⟩) (.inl rfl) _).setCell (p := ⟨OB, 2, none⟩) (.inl rfl) _).setCell (p := ⟨OB, 3, none⟩) (.inl rfl) _).setCell (p := ⟨OB, 4, none⟩) (.inl rfl) _).setCell (p := ⟨OB, 5, none⟩) (.inl rfl) _).drew
          have HSETS := Lib.hid hsets
          have HB10 := Lib.hid hb10
          have hXO : ¬ XB = OB := hbX10.ne_ hbO10 (by decide)
          have hOX : ¬ OB = XB := fun q => hXO q.symm
          clear hsets hb10 hbE10 hbO10 hbX10 s4 s5 f4 f5 hne1 hne2 hne3
          go_region
          all_goals
            go_wp2_with fail
            refine bodyPost_ret (v := .tuple #[.agg #[.int .i64 e.k.T, .int .i64 e.k.O, .int .i64 e.k.S, .int .i64 ((i : Int) + 1), .int .i64 e.q, .int .i64 e.d], .slice tA v.tells.length tc, .int .i64 0]) (by simp [results, Try.results17, go_sem, o0, o1, o2, o3, o4, o5]) rfl ?_
            have hfc := HSETS.out (.int .i64 e.k.T) (.int .i64 e.k.O) (.int .i64 e.k.S) (.int .i64 ((i : Int) + 1)) (.int .i64 e.q) (.int .i64 e.d)
            have hsw : w.heap.size ≤ w7.heap.size := Nat.le_trans HW05.out (Nat.le_trans (Below.size N6.out) H7.out.2.size)
            have hG7 : Chg (fun k => k = p.SB ∨ k = p.stB ∨ some k = p.blk) w w7 := (((Chg.of_below N03.out (Nat.le_refl _) (fun k => k = p.SB ∨ k = p.stB ∨ some k = p.blk)).trans HC5.out (fun g hg q => q.imp id (fun h => .inr h))).trans (Chg.of_below N6.out (Nat.le_refl _) (fun k => k = p.SB ∨ k = p.stB ∨ some k = p.blk)) (fun g hg q => q)).trans H7.out.2 (fun g hg q => .inr (.inl q))
            obtain ⟨wf, hwf⟩ : ∃ wf, ((((((w10.setCell ⟨OB, 0, none⟩ (.int .i64 e.k.T)).setCell ⟨OB, 1, none⟩ (.int .i64 e.k.O)).setCell ⟨OB, 2, none⟩ (.int .i64 e.k.S)).setCell ⟨OB, 3, none⟩ (.int .i64 ((i : Int) + 1))).setCell ⟨OB, 4, none⟩ (.int .i64 e.q)).setCell ⟨OB, 5, none⟩ (.int .i64 e.d)).drew = wf := ⟨_, rfl⟩
            rw [hwf] at hfc ⊢
            have hRf : Chg (fun k => k = p.SB ∨ k = OB) wr wf := by
              have h1 : Chg (fun k => k = p.SB ∨ k = OB) wr w10 := by rw [← HW10.out]; exact ((Chg.refl (fun k => k = p.SB ∨ k = OB) wr).setCell (p := ⟨p.SB, 4, none⟩) (.inl (.inl rfl)) _).setCell (p := ⟨p.SB, 5, none⟩) (.inl (.inl rfl)) _
              exact h1.trans hfc (fun g hg q => .inr q)
            have h7f : Chg (fun k => k = p.SB ∨ some k = p.blk ∨ k = OB) w7 wf := (HCR.out.mono (fun g hg q => q.imp id (fun h => .inl h))).trans hRf (fun g hg q => q.imp id (fun h => .inr h))
            have hGf : Chg (fun k => k = p.SB ∨ k = p.stB ∨ some k = p.blk) w wf := hG7.trans h7f (fun g hg q => by
              rcases q with q | q | q
              · exact .inl q
              · exact .inr (.inr q)
              · have := HSZB.out.2.2.2.1; omega)
            have hTf : Chg p.T w wf := hGf.mono fun g _ q => by
              rcases q with q | q | q
              · exact .inl q
              · exact .inr (.inl q)
              · exact .inr (.inr (.inl q))
            have hT' : ∀ g, ({ p with blk := blk_, A := A_, c := c_ } : PMem).T g → p.T g ∨ w.heap.size ≤ g := fun g q => by
              rcases q with q | q | q | q
              · exact .inl (.inl q)
              · exact .inl (.inr (.inl q))
              · rcases HBR.out g q.symm with q2 | q2
                · exact .inl (.inr (.inr (.inl q2.symm)))
                · exact .inr (Nat.le_trans hsw q2)
              · exact .inl (.inr (.inr (.inr q)))
            have hPB : p.PB < w.heap.size := HPS.out.put.1.lt
            have hbw7 : w5.heap.size ≤ w7.heap.size := Nat.le_trans (Below.size N6.out) H7.out.2.size
            have hOB7 : OB < w7.heap.size := HBO7.out.lt
            refine ⟨{ p with blk := blk_, A := A_, c := c_ }, tA, tc, by unfold ev6; rw [HV.out, HI.out.2], ?_, rfl, rfl, ?_, ?_, ?_, ?_, ?_⟩
            · rw [HV.out, HEVS.out]
              refine ⟨⟨?_, ?_⟩, fun i' hi' => (HPS.out.procs i' hi').keep hTf.own (PMem.keepV rfl hT'), ⟨_, H7.out.1.chg h7f ?_, fun i' hi' => ?_⟩, ?_, HOKA.out, ⟨?_, ?_⟩, ?_, fun g q => Nat.lt_of_lt_of_le (HPS.out.low g q) hTf.size, fun g q u => (hT' g q).elim (fun q => HPS.out.dis g q u) fun q => absurd (HPS.out.low g u) (by omega)⟩
              · have h1 := HB10.out.chg hfc (fun q => by have := HSZB.out.1; have := HSZB.out.2.2.2.1; omega)
                show Blk wf p.SB _ #[_, _, _, _, .int .i64 ((s.done + 1 : Nat) : Int), .int .i64 e.k.T]
                rw [show ((s.done + 1 : Nat) : Int) = (s.done : Int) + 1 by omega]
                exact h1
              · refine HWR.out.own.chg hRf fun g hg q => ?_
                rcases q with q | q
                · obtain ⟨cur', hc'⟩ := HWR.out.own.tyB g hg
                  exact absurd q (hc'.ne_ HWR.out.box (by decide))
                · rcases HBR.out g hg with q2 | q2
                  · have := HSZB.out.2.2.1 g q2; have := HSZB.out.2.2.2.1; omega
                  · omega
              · intro q
                rcases q with q | q | q
                · exact HNE.out.1 q.symm
                · exact HNE.out.2.2.1 q
                · have := HSZB.out.2.1; have := HSZB.out.2.2.2.1; omega
              · have hlen : (e.p - 1).toNat < s.sts.length := by rw [HI.out.1, HPS.out.ok.len, HN.out]; exact hin
                have hg : (m.after s e rest).sts.getD i' St.z = if i = i' then ⟨v.vars, v.sent, v.drawn⟩ else s.sts.getD i' St.z := by
                  have h1 := getD_set s.sts (e.p - 1).toNat i' ⟨(m.run s e).1.vars, (m.run s e).1.sent, (m.run s e).1.drawn⟩ St.z hlen
                  rw [HI.out.1, HV.out] at h1
                  unfold Mdl.after
                  rw [HI.out.1, HV.out]
                  exact h1
                rw [hg]
                obtain ⟨cur0, hst0, hsts0⟩ := HPS.out.sts
                have hcc : cur0 = cur := by
                  have h1 := (hst0.below N03.out hst0.lt).chg HC5.out (fun h => by rcases h with h | h; exact HNE.out.1 h.symm; exact HNE.out.2.2.1 h)
                  have h2 := HST5.out
                  unfold Blk at h1 h2
                  rw [h1] at h2
                  injection h2 with h2
                  injection h2
                subst hcc
                dsimp only
                by_cases q : i = i'
                · subst q
                  rw [if_pos rfl]
                  have hsz : p.so + i * 3 + 2 < cur0.size := by
                    have h1 := HCU.out.2.2
                    rw [HST5.out.cell] at h1
                    rcases Nat.lt_or_ge (p.so + i * 3 + 2) cur0.size with h2 | h2
                    · exact h2
                    · rw [Array.getElem?_eq_none h2] at h1; cases h1
                  refine ⟨xA, xc, ⟨(set_other _ (by omega)).trans ((set_other _ (by omega)).trans (set_same _ (by omega))), (set_other _ (by omega)).trans (set_same _ (by rw [Array.size_setIfInBounds]; omega)), set_same _ (by rw [Array.size_setIfInBounds, Array.size_setIfInBounds]; omega)⟩, ?_⟩
                  have hsafe : Safe w7 w5.heap.size w7.heap.size (fun W => Rd W xA (ints v.vars)) := Safe.rd HX7.out.2.1.1 (fun b o e => (HX7.out.2.1.2.2.2.2.2.1 b o e).imp id (fun h => by rw [h]; rfl))
                  have hoff : Off (fun k => (k = p.SB ∨ some k = p.blk ∨ k = OB) ∨ ({ p with blk := blk_, A := A_, c := c_ } : PMem).V k) w5.heap.size w7.heap.size := fun g h1 h2 q => by
                    have hw := HW05.out
                    have ho : OB < w5.heap.size := Nat.lt_of_lt_of_le HBO.out.lt (Nat.le_trans (Below.size N13.out) HC5.out.size)
                    rcases q with (q | q | q) | (q | q | q | q) | q
                    · have := HSZB.out.1; omega
                    · have := HSZB.out.2.2.1 g q.symm; omega
                    · omega
                    · have q : g = p.SB := q
                      have := HSZB.out.1; omega
                    · have q : g = p.stB := q
                      have := HSZB.out.2.1; omega
                    · rcases HBR.out g q.symm with q2 | q2
                      · have := HSZB.out.2.2.1 g q2; omega
                      · omega
                    · have q : g = p.PB := q
                      omega
                    · have := HPS.out.low g q; omega
                  exact (Stays.of_safe hsafe hoff).keep (h7f.mono fun g _ q => .inl q) (fun g q => .inl (.inr q))
                · rw [if_neg q]
                  obtain ⟨a', c'', ⟨g0, g1, g2⟩, hs⟩ := hsts0 i' hi'
                  refine ⟨a', c'', ⟨(set_other _ (by omega)).trans ((set_other _ (by omega)).trans ((set_other _ (by omega)).trans g0)), (set_other _ (by omega)).trans ((set_other _ (by omega)).trans ((set_other _ (by omega)).trans g1)), (set_other _ (by omega)).trans ((set_other _ (by omega)).trans ((set_other _ (by omega)).trans g2))⟩, hs.keep hTf.own (PMem.keepV rfl hT')⟩
              · refine HPS.out.put.same (hGf.block p.PB hPB fun q => ?_)
                rcases q with q | q | q
                · exact HNE.out.2.2.2.1 q.symm
                · exact HNE.out.2.2.2.2.1 q.symm
                · exact HNE.out.2.2.2.2.2 q
              · have h1 := HSRT.out evs.length
                rw [List.take_length] at h1
                exact h1
              · have hu := HOKA.out.uniq
                have hu2 : (rest ++ (m.run s e).1.sends.map evOf).Pairwise fun a b => a.k ≠ b.k := hu
                rw [HV.out, HEVS.out] at hu2
                have h1 := (insAll_twin evs t rest (List.pairwise_cons.1 HPS.out.twin.srt).2 (HPS.out.twin.perm.trans hp).cons_inv hu2).2
                show (insAll t evs).Perm (rest ++ (m.run s e).1.sends.map evOf)
                rw [HV.out, HEVS.out]
                exact h1
              · have h1 := hp.length_eq
                rw [List.length_cons] at h1
                refine ⟨by show s.done + 1 ≤ 1000; omega, ?_, HPS.out.few.2.2⟩
                show (rest ++ (m.run s e).1.sends.map evOf).length ≤ 10000
                rw [HV.out, HEVS.out, List.length_append, HEL.out]
                omega
            · exact hTf
            · exact hT'
            · rw [HV.out]
              exact (HX7.out.turn h7f (fun g hg q => by
                have hw := HW05.out
                have ho : OB < w5.heap.size := Nat.lt_of_lt_of_le HBO.out.lt (Nat.le_trans (Below.size N13.out) HC5.out.size)
                rcases q with q | q | q
                · have := HSZB.out.1; omega
                · have := HSZB.out.2.2.1 g q.symm; omega
                · omega)).2.1.2.2.1
            · rw [HV.out]
              exact HX7.out.2.1.2.2.2.2.1
            · rw [HV.out]
              exact fun b o e => (HX7.out.2.1.2.2.2.2.2.2.2 b o e).imp (fun h => by have := HW05.out; omega) id
end
end Go.Proofs.Ytgijkgngldfdiaa
