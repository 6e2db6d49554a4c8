/- The reference's run, where it may be. Helper. -/
import Derived.Test.YtgijkgngldfdiaaVmRefPoke
import Derived.Test.YtgijkgngldfdiaaVmRefIs
import Derived.Test.YtgijkgngldfdiaaVmRun
import Derived.Test.YtgijkgngldfdiaaVmRunAll
namespace Go.Proofs.Ytgijkgngldfdiaa
open Go.RowKit
set_option linter.unusedVariables false
set_option linter.unusedSimpArgs false
theorem step_pc (c : Cfg) (op : Nat) (n : Int) (s : Vm) (h1 : 1 ≤ op) (h2 : op ≤ 16) (h3 : op ≠ 13) (h4 : op ≠ 14) : (s.step c op n).pc = s.pc := by
  have hp : ∀ (s : Vm) x, (s.push x).pc = s.pc := fun s x => by unfold Vm.push; split <;> rfl
  have hc : op = 1 ∨ op = 2 ∨ op = 3 ∨ op = 4 ∨ op = 5 ∨ op = 6 ∨ op = 7 ∨ op = 8 ∨ op = 9 ∨ op = 10 ∨ op = 11 ∨ op = 12 ∨ op = 15 ∨ op = 16 := by omega
  rcases hc with rfl | rfl | rfl | rfl | rfl | rfl | rfl | rfl | rfl | rfl | rfl | rfl | rfl | rfl
  · exact hp _ _
  · exact hp _ _
  · rfl
  · exact hp _ _
  · exact hp _ _
  · exact hp _ _
  · exact hp s _
  · exact hp _ _
  · exact hp _ _
  · exact hp _ _
  · exact hp _ _
  · exact hp _ _
  · show (Vm.sendV c s n).pc = _
    unfold Vm.sendV Vm.sendTo; split <;> rfl
  · show (Vm.tellV c s).pc = _
    unfold Vm.tellV; split <;> rfl
/-- What holds at a round's head. -/
structure RLoop (wL wr : World) (B0 XB KB : Nat) (C : Cfg) (n : Nat) (l : List (Nat × Int)) (fin : Vm) (f p : Nat) (s : Vm) : Prop where
  pc : s.pc = p
  run : RefH wr (fun k => B0 ≤ k) XB KB C s
  chg : Chg (fun k => B0 ≤ k) wL wr
  vars : s.vars.length = n
  tells : s.tells.length ≤ 4
  sends : s.sends.length ≤ 4
  go : Vm.go C l (256 - f) s = fin
theorem RLoop.next {wL wr wi w7 : World} {B0 XB KB : Nat} {C : Cfg} {n : Nat} {l : List (Nat × Int)} {fin : Vm} {f p : Nat} {s : Vm} (h : RLoop wL wr B0 XB KB C n l fin f p s) (hf : f < 256) (hp : p < l.length) (hi : Nw wr wi) (hB : B0 ≤ wL.heap.size)
    {op : Nat} {x : Int} (e1 : (l[p]).1 = op) (e2 : (l[p]).2 = x) {s' : Vm} (hs : ({ s with pc := p + 1 } : Vm).step C op x = s') (hd0 : RDone wi w7 (fun k => B0 ≤ k ∧ k < wr.heap.size) XB KB C s') : RLoop wL w7 B0 XB KB C n l fin (f + 1) s'.pc s' := by
  have hd : RDone wr w7 (fun k => B0 ≤ k) XB KB C s' := RDone.wide hi hd0
  have hk := keeps_step C op x { s with pc := p + 1 }
  rw [hs] at hk
  have hz := h.chg.size
  have hz2 := Below.size hi
  refine ⟨rfl, hd.run.mono fun k _ g => by rcases g with g | g; exact g; omega, h.chg.trans hd.chg (fun i _ g => g), hk.1.trans h.vars, hk.2.1 h.tells, hk.2.2 h.sends, ?_⟩
  have hg := h.go
  rw [show 256 - f = (256 - (f + 1)) + 1 by omega, go_next _ _ _ _ (by rw [h.pc]; exact hp)] at hg
  simp only [h.pc] at hg
  rw [e1, e2, hs] at hg
  exact hg
theorem RLoop.stop {wL wr : World} {B0 XB KB : Nat} {C : Cfg} {n : Nat} {l : List (Nat × Int)} {fin : Vm} {f p : Nat} {s : Vm} (h : RLoop wL wr B0 XB KB C n l fin f p s) (hf : ¬ (f < 256 ∧ p < l.length)) : s = fin := by
  have hg := h.go
  by_cases h1 : f < 256
  · rwa [go_stop _ _ _ _ (by rw [h.pc]; exact fun g => hf ⟨h1, g⟩)] at hg
  · rwa [show 256 - f = 0 by omega] at hg
/-- The cells of a step. -/
theorem RefH.stepCells {w : World} {Hm : Nat → Prop} {XB KB : Nat} {c : Cfg} {s : Vm} (h : RefH w Hm XB KB c s) : ∃ sA sc tA tc SB TB, Held w Hm c (.slice sA s.sends.length sc) (.slice tA s.tells.length tc) s.vars s.sends s.tells SB TB ∧ Blk w XB 94 #[.slice c.vA s.vars.length c.vc, .int .i64 s.sent, .int .i64 s.drawn, .slice sA s.sends.length sc, .slice tA s.tells.length tc] := by
  obtain ⟨sv, tv, SB, TB, A, cap, GB, hx, hk, hh, ho, hg⟩ := h.ex
  obtain ⟨sA, sc, rfl, _⟩ := hh.s.rd
  obtain ⟨tA, tc, rfl, _⟩ := hh.t.rd
  exact ⟨sA, sc, tA, tc, SB, TB, hh, hx⟩
theorem Chg.cellOf {M : Nat → Prop} {w w' : World} (h : Chg M w w') {p : Addr} {v : Value} (c : w.cell? p = some v) (hM : ¬ M p.block) : w'.cell? p = some v := by
  have e := h.block p.block (World.block_lt_of_cell? w p c) hM
  rw [← c]; simp only [World.cell?, e]
theorem blk5 {w : World} {B : Nat} {t : TypeId} {a b c d e : Value} (h : Blk w B t #[a, b, c, d, e]) : w.cell? ⟨B, 0, none⟩ = some a ∧ w.cell? ⟨B, 1, none⟩ = some b ∧ w.cell? ⟨B, 2, none⟩ = some c ∧ w.cell? ⟨B, 3, none⟩ = some d ∧ w.cell? ⟨B, 4, none⟩ = some e :=
  ⟨h.cell 0, h.cell 1, h.cell 2, h.cell 3, h.cell 4⟩
theorem frz5 {w : World} {B : Nat} {t : TypeId} {cs : Array Value} (h : Blk w B t cs) : w.frozen? ⟨B, 0, none⟩ = false ∧ w.frozen? ⟨B, 1, none⟩ = false ∧ w.frozen? ⟨B, 2, none⟩ = false ∧ w.frozen? ⟨B, 3, none⟩ = false ∧ w.frozen? ⟨B, 4, none⟩ = false :=
  ⟨h.frozen 0, h.frozen 1, h.frozen 2, h.frozen 3, h.frozen 4⟩
section
variable (vars : Int) (kA : Option Addr) (ks : List (List (Nat × Int))) (kc : Nat) (me procs seed : Int) (A : Option Addr) (l : List Int) (c : Nat) (sent drawn T O S d : Int) (kq : Nat) (fin : Vm) (w : World)
set_option maxRecDepth 100000
set_option maxHeartbeats 6000000
theorem refRun_ok (hK : KindsAt w kA ks) (hks : ∀ i (h : i < ks.length), ks[i].length ≤ 128 ∧ ∀ x ∈ ks[i], InsOk l.length ks.length ks[i].length x.1 x.2)
    (hkl : ks.length ≤ 8) (hme : 1 ≤ me) (hp : 1 ≤ procs ∧ procs ≤ 16) (hA : Rd w A (ints l)) (hll : l.length ≤ 8) (hst : stOk vars l.length sent drawn = true) (hmay : MayB T O S me (kq : Int) d procs = true)
    (hfin : fin = if h : kq < ks.length then Vm.go ⟨T, O, S, me, kq, d, me, procs, seed, none, 0, none⟩ ks[kq] 256 (vm0 l sent drawn) else vm0 l sent drawn) :
    Calls Try.prog 62 #[.agg #[.int .i64 vars, .slice kA ks.length kc, .int .i64 me, .int .i64 procs, .int .i64 seed], .agg #[.slice A l.length c, .int .i64 sent, .int .i64 drawn], .agg #[.int .i64 T, .int .i64 O, .int .i64 S, .int .i64 me, .int .i64 (kq : Int), .int .i64 d]] w
      (RunOut w fin) := by
  have htime : 0 ≤ T ∧ T ≤ 1099511627776 := by unfold MayB at hmay; simp only [Bool.and_eq_true, decide_eq_true_eq] at hmay; exact hmay.1.1.1.1
  have HFIN := Lib.hid hfin
  clear hfin
  obtain ⟨w1, hw1⟩ : ∃ w1, (((w.alloc (.cells #[.int .i64 vars, .slice kA ks.length kc, .int .i64 me, .int .i64 procs, .int .i64 seed] 123)).alloc (.cells #[.slice A l.length c, .int .i64 sent, .int .i64 drawn] 65)).alloc (.cells #[.int .i64 T, .int .i64 O, .int .i64 S, .int .i64 me, .int .i64 (kq : Int), .int .i64 d] 44)).alloc (.cells #[.slice none 0 0, .int .i64 0, .int .i64 0, .slice none 0 0, .slice none 0 0] 94) = w1 := ⟨_, rfl⟩
  have n1 : Nw w w1 := by rw [← hw1]; exact ((((Nw.refl w).alloc _).alloc _).alloc _).alloc _
  have hsz1 : w1.heap.size = w.heap.size + 1 + 1 + 1 + 1 := by rw [← hw1]; simp
  obtain ⟨MB, hMB⟩ : ∃ MB, w.heap.size = MB := ⟨_, rfl⟩
  obtain ⟨SB, hSB⟩ : ∃ SB, w.heap.size + 1 = SB := ⟨_, rfl⟩
  obtain ⟨EB, hEB⟩ : ∃ EB, w.heap.size + 1 + 1 = EB := ⟨_, rfl⟩
  obtain ⟨OB, hOB⟩ : ∃ OB, w.heap.size + 1 + 1 + 1 = OB := ⟨_, rfl⟩
  obtain ⟨B0, hB0⟩ : ∃ B0, w1.heap.size = B0 := ⟨_, rfl⟩
  have hbM : Blk w1 MB 123 #[.int .i64 vars, .slice kA ks.length kc, .int .i64 me, .int .i64 procs, .int .i64 seed] := by rw [← hw1]; exact ((((Blk.last w _ _ hMB).alloc _).alloc _).alloc _)
  have hbS : Blk w1 SB 65 #[.slice A l.length c, .int .i64 sent, .int .i64 drawn] := by rw [← hw1]; exact (((Blk.last _ _ _ (by simpa using hSB)).alloc _).alloc _)
  have hbE : Blk w1 EB 44 #[.int .i64 T, .int .i64 O, .int .i64 S, .int .i64 me, .int .i64 (kq : Int), .int .i64 d] := by rw [← hw1]; exact ((Blk.last _ _ _ (by simpa using hEB)).alloc _)
  have hbO : Blk w1 OB 94 #[.slice none 0 0, .int .i64 0, .int .i64 0, .slice none 0 0, .slice none 0 0] := by rw [← hw1]; exact Blk.last _ _ _ (by simpa using hOB)
  have HZ := Lib.hid (⟨by omega, by omega, by omega, by omega, by omega, hB0, by omega⟩ : MB < B0 ∧ SB < B0 ∧ EB < B0 ∧ OB < B0 ∧ w.heap.size ≤ OB ∧ w1.heap.size = B0 ∧ w.heap.size ≤ B0)
  have HHS := Lib.hid (⟨hMB, hSB, hEB, hOB⟩ : w.heap.size = MB ∧ w.heap.size + 1 = SB ∧ w.heap.size + 1 + 1 = EB ∧ w.heap.size + 1 + 1 + 1 = OB)
  have HW := Lib.hid hw1
  have N1 := Lib.hid n1
  have HK := Lib.hid hK
  have HKS := Lib.hid hks
  have HA := Lib.hid hA
  have HP := Lib.hid hp
  have HTI := Lib.hid htime
  have HBM := Lib.hid hbM
  have HBS := Lib.hid hbS
  have HBE := Lib.hid hbE
  have HBO := Lib.hid hbO
  have k1 := fun W => refIs_any vars kA kc me procs seed W ks.length A l.length c sent drawn
  rw [hst] at k1
  have K1 := Lib.hid k1
  have k2 := fun W => refMay_any T O S me (kq : Int) d procs W
  rw [hmay] at k2
  have K2 := Lib.hid k2
  obtain ⟨m0, m1, m2, m3, m4⟩ := blk5 hbM
  have s0 : w1.cell? ⟨SB, 0, none⟩ = some (.slice A l.length c) := hbS.cell 0
  have s1 : w1.cell? ⟨SB, 1, none⟩ = some (.int .i64 sent) := hbS.cell 1
  have s2 : w1.cell? ⟨SB, 2, none⟩ = some (.int .i64 drawn) := hbS.cell 2
  clear k1 k2 hMB hSB hEB hOB hB0 hK hks hA hst hmay hw1 n1 hbM hbS hbE hbO hsz1 hp htime
  go_enter Try.func62, Try.ntmps62
  go_upto_region 1 with (fail)
  rw [HW.out, HHS.out.2.2.2, HHS.out.2.2.1, HHS.out.2.1, HHS.out.1]
  go_wp2_with fail
  refine (K1.out _).mono ?_
  rintro e w2 ⟨rfl, b2⟩
  have N2 := Lib.hid (show Nw w1 w2 from b2)
  have hbE := HBE.out.below b2 HBE.out.lt
  have e0 : w2.cell? ⟨EB, 0, none⟩ = some (.int .i64 T) := hbE.cell 0
  have e1 : w2.cell? ⟨EB, 1, none⟩ = some (.int .i64 O) := hbE.cell 1
  have e2 : w2.cell? ⟨EB, 2, none⟩ = some (.int .i64 S) := hbE.cell 2
  have e3 : w2.cell? ⟨EB, 3, none⟩ = some (.int .i64 me) := hbE.cell 3
  have e4 : w2.cell? ⟨EB, 4, none⟩ = some (.int .i64 (kq : Int)) := hbE.cell 4
  have e5 : w2.cell? ⟨EB, 5, none⟩ = some (.int .i64 d) := hbE.cell 5
  have m2 := Nw.cell b2 m2
  have m3 := Nw.cell b2 m3
  clear b2 hbE m0 m1 m4 s0 s1 s2
  go_wp2_with fail
  refine (K2.out _).mono ?_
  rintro e w3 ⟨rfl, b3⟩
  have N3 := Lib.hid (N2.out.step b3)
  have e3 := Nw.cell b3 e3
  have m2 := Nw.cell b3 m2
  have gme : (me != me) = false := by simp
  clear b3 e0 e1 e2 e4 e5 m3 K1 K2
  go_upto_region 3 with (fail)
  have s0 : w3.cell? ⟨SB, 0, none⟩ = some (.slice A l.length c) := N3.out.cell (HBS.out.cell 0)
  have s1 : w3.cell? ⟨SB, 1, none⟩ = some (.int .i64 sent) := N3.out.cell (HBS.out.cell 1)
  have s2 : w3.cell? ⟨SB, 2, none⟩ = some (.int .i64 drawn) := N3.out.cell (HBS.out.cell 2)
  clear gme e3 m2
  go_cut [8] (fun v wx => ∃ XB, v = .pointer (some ⟨XB, 0, none⟩) ∧ Hid (∃ vA vc VB, Nw w3 wx ∧ w3.heap.size ≤ XB ∧ (∀ g, VB = some g → w3.heap.size ≤ g) ∧ Blk wx XB 94 #[.slice vA l.length vc, .int .i64 sent, .int .i64 drawn, .slice none 0 0, .slice none 0 0] ∧ Own wx 2 1 (.slice vA l.length vc) l.length (ints l) VB))
  case first =>
    obtain ⟨i0, hi0, hz0, hz1, hz2⟩ := info_parts infoI
    have HL1 := Lib.hid hi0
    have HL2 := Lib.hid hz0
    have HL3 := Lib.hid hz1
    have HL4 := Lib.hid hz2
    have HSS := Lib.hid (fun W (h : Nw w3 W) => (⟨h, h.cell s0, h.cell s1, h.cell s2⟩ : Nw w3 W ∧ W.cell? ⟨SB, 0, none⟩ = some (.slice A l.length c) ∧ W.cell? ⟨SB, 1, none⟩ = some (.int .i64 sent) ∧ W.cell? ⟨SB, 2, none⟩ = some (.int .i64 drawn)))
    have HRD := Lib.hid (fun W (h : Nw w3 W) => (HA.out.keep fun p hp => Below.cell (N1.out.step (N3.out.step h)) hp : Rd W A (ints l)))
    clear hi0 hz0 hz1 hz2

    go_region_held3 (fun W => Nw w3 W ∧ W.cell? ⟨SB, 0, none⟩ = some (.slice A l.length c) ∧ W.cell? ⟨SB, 1, none⟩ = some (.int .i64 sent) ∧ W.cell? ⟨SB, 2, none⟩ = some (.int .i64 drawn)) ((refine HSS.out _ ?_; repeat (first | assumption | exact Nw.refl w3 | refine Nw.drew ?_ | refine Nw.alloc ?_ _ | refine Nw.set ?_ (by first | exact Nat.le_refl _ | omega) _)))
      ((refine step_append_at _ (by rfl) _ _ _ (by rfl) 2 i0 _ 1 8 Try.underlying40 HL1.out HL2.out HL3.out HL4.out rfl (by omega) _ 0 [] none (by rfl) (Own.nil _ _ _) A l.length c (ints l) (by rfl) (by simp [ints]) (HRD.out _ (by first | assumption | exact (Nw.refl w3).drew | exact ((Nw.refl w3).alloc _).drew)) (ints_one _) (by simp only [maxLen]; omega) (by omega) ?_; intro A2 c2 w6 VB2 hown2 hchg hat2; have i6 : Nw w3 w6 := Nw.step (by first | assumption | exact (Nw.refl w3).drew | exact ((Nw.refl w3).alloc _).drew) (hchg.below (fun i hi e => (by cases e)) (Nat.le_refl _)); simp only [Nat.zero_add, List.nil_append] at hown2; try (have hbx : Blk w6 w3.heap.size 94 #[.slice none 0 0, .int .i64 0, .int .i64 0, .slice none 0 0, .slice none 0 0] := Blk.chg (by first | exact (Blk.last w3 _ _ rfl).drew | exact Blk.last w3 _ _ rfl) hchg (fun e => (by cases e))); try (obtain ⟨x0, x1, x2, x3, x4⟩ := blk5 hbx); try (obtain ⟨z0, z1, z2, z3, z4⟩ := frz5 hbx)))
    all_goals
      go_wp2_with fail
      go_meet
      have fresh : ∀ g, VB2 = some g → w3.heap.size ≤ g := fun g e => by
        rcases hat2 with h | h
        · rw [h] at e; cases e
        · rw [h] at e; injection e with e; simp at e; omega
      first
        | exact ⟨_, rfl, Lib.hid ⟨A2, c2, VB2, i6.alloc _, Below.size i6, fresh, Blk.last w6 _ _ rfl, hown2.kept (fun g e => Below.heap_alloc _ _ _ (hown2.lt g e))⟩⟩
        | exact ⟨_, rfl, Lib.hid ⟨A2, c2, VB2, ((((i6.set (Nat.le_refl _) _).set (Nat.le_refl _) _).set (Nat.le_refl _) _).set (Nat.le_refl _) _).set (Nat.le_refl _) _, Nat.le_refl _, fresh, ((((hbx.set_ 0 _).set_ 1 _).set_ 2 _).set_ 3 _).set_ 4 _, hown2.kept (fun g e => by
            have hne : g ≠ w3.heap.size := by
              rcases hat2 with h | h
              · rw [h] at e; cases e
              · rw [h] at e; injection e with e; simp at e; omega
            rw [Below.heap_setCell _ _ _ _ hne, Below.heap_setCell _ _ _ _ hne, Below.heap_setCell _ _ _ _ hne, Below.heap_setCell _ _ _ _ hne, Below.heap_setCell _ _ _ _ hne])⟩⟩
  case rest =>
    obtain ⟨XB, rfl, HX⟩ := hcut
    obtain ⟨vA, vc, VB, nx, hXB, hVB, hbX, hov⟩ := HX.out
    obtain ⟨w4, hw4⟩ : ∃ w4, w4 = wc := ⟨_, rfl⟩
    subst hw4
    have N4 := Lib.hid (N3.out.step nx)
    have hge : B0 ≤ w3.heap.size := by have := Below.size N3.out; have := HZ.out.2.2.2.2.2.1; omega
    have HX4 := Lib.hid (⟨by omega, fun g e => by have := hVB g e; omega, hbX, hov⟩ : B0 ≤ XB ∧ (∀ g, VB = some g → B0 ≤ g) ∧ Blk w4 XB 94 #[.slice vA l.length vc, .int .i64 sent, .int .i64 drawn, .slice none 0 0, .slice none 0 0] ∧ Own w4 2 1 (.slice vA l.length vc) l.length (ints l) VB)
    have m1 : w4.cell? ⟨MB, 1, none⟩ = some (.slice kA ks.length kc) := N4.out.cell (HBM.out.cell 1)
    have e4 : w4.cell? ⟨EB, 4, none⟩ = some (.int .i64 (kq : Int)) := N4.out.cell (HBE.out.cell 4)
    clear s0 s1 s2 hbX hov hVB hXB nx hge HX
    by_cases hk : kq < ks.length
    · have hf := HFIN.out
      rw [dif_pos hk] at hf
      obtain ⟨kb, ko, lA, lc, rfl, hkc, hins⟩ := HK.out.get hk
      have hkc4 := (N1.out.step N4.out).cell hkc
      have g1 : ¬ (ks.length : Int) ≤ (kq : Int) := by omega
      have g2 : (0 : Int) ≤ (kq : Int) := by omega
      have g3 : (kq : Int) < (ks.length : Int) := by omega
      obtain ⟨hl128, hok⟩ := HKS.out kq hk
      have HGO : Hid (Vm.go ⟨T, O, S, me, kq, d, me, procs, seed, vA, vc, VB⟩ ks[kq] 256 (vm0 l sent drawn) = fin) := Lib.hid (by rw [hf]; exact go_mem ⟨T, O, S, me, kq, d, me, procs, seed, none, 0, none⟩ vA vc VB ks[kq] 256 (vm0 l sent drawn))
      obtain ⟨L, hL⟩ : ∃ L, ks[kq] = L := ⟨_, rfl⟩
      rw [hL] at hkc4 hins hl128 hok HGO
      obtain ⟨m, hm⟩ : ∃ m, L.length = m := ⟨_, rfl⟩
      have HMl := Lib.hid hm
      have HINS := Lib.hid hins
      have HOK := Lib.hid hok
      rw [hm] at hkc4 hl128
      clear hf hkc hins hok hL hm HFIN hk
      obtain ⟨KB, hKB⟩ : ∃ KB, w4.heap.size = KB := ⟨_, rfl⟩
      obtain ⟨w5, hw5⟩ : ∃ w5, w4.alloc (.cells #[.slice none 0 0] 145) = w5 := ⟨_, rfl⟩
      have HKB := Lib.hid hKB
      have HW5 := Lib.hid hw5
      clear hKB hw5
      go_upto_region 8 with (fail)
      rw [HW5.out, HKB.out]
      have n5 : Nw w4 w5 := by rw [← HW5.out]; exact (Nw.refl w4).alloc _
      have hbK : Blk w5 KB 145 #[.slice none 0 0] := by rw [← HW5.out]; exact Blk.last w4 _ _ HKB.out
      have hB5 : B0 ≤ w4.heap.size := by have := Below.size N4.out; have := HZ.out.2.2.2.2.2.1; omega
      have hrun : RefH w5 (fun k => B0 ≤ k) XB KB ⟨T, O, S, me, kq, d, me, procs, seed, vA, vc, VB⟩ (vm0 l sent drawn) :=
        ⟨⟨.slice none 0 0, .slice none 0 0, none, none, none, 0, none, HX4.out.2.2.1.below n5 HX4.out.2.2.1.lt, hbK, ⟨HX4.out.2.2.2.kept (fun g e => n5.block g (HX4.out.2.2.2.lt g e)), Own.nil _ _ _, Own.nil _ _ _, HX4.out.2.1, fun g e => (by cases e), fun g e => (by cases e)⟩, Own.nil _ _ _, fun g e => (by cases e)⟩, HX4.out.1, by rw [← HKB.out]; exact hB5, Nat.zero_le _⟩
      have N5 := Lib.hid (N4.out.step n5)
      have HRUN := Lib.hid hrun
      have HB5 := Lib.hid (by have := Below.size n5; omega : B0 ≤ w5.heap.size)
      clear n5 hbK hB5 hrun m1 e4 hkc4 g1 g2 g3
      go_wp2_with fail
      go_loopw [11, 12] (fun at_ fu wr => ∃ (f p : Nat) (s : Vm), f ≤ 256 ∧ at_ = .int .i64 p ∧ fu = .int .i64 f ∧ Hid (RLoop w5 wr B0 XB KB ⟨T, O, S, me, kq, d, me, procs, seed, vA, vc, VB⟩ l.length L fin f p s)) (fun _ fu _ => 256 - (intOf fu).toNat)
      case atStart => exact ⟨0, 0, _, by omega, rfl, rfl, Lib.hid ⟨rfl, HRUN.out, Chg.refl _ _, rfl, Nat.zero_le _, Nat.zero_le _, HGO.out⟩⟩
      case round =>
        obtain ⟨f, p, s, hf256, rfl, rfl, HI⟩ := hrel
        clear HGO HRUN
        obtain ⟨sA, sc, tA, tc, SB', TB', hh, hbX⟩ := HI.out.run.stepCells
        obtain ⟨x0, x1, x2, x3, x4⟩ := blk5 hbX
        have hcE : ∀ (b o : Nat) v, b < B0 → w5.cell? ⟨b, o, none⟩ = some v → wr.cell? ⟨b, o, none⟩ = some v := fun b o v hb h => by
          have e := HI.out.chg.block b (World.block_lt_of_cell? w5 _ h) (by omega)
          rw [← h]; simp only [World.cell?, e]
        have HCE := Lib.hid hcE
        have hz := HZ.out
        clear hcE
        by_cases hcont : f < 256 ∧ p < m
        · obtain ⟨hlt, hpc⟩ := hcont
          have d1 : (f : Int) < 256 := by omega
          have d2 : (p : Int) < (m : Int) := by omega
          have d3 : (0 : Int) ≤ (p : Int) := by omega
          have hpl : p < L.length := by rw [HMl.out]; exact hpc
          obtain ⟨op, hop⟩ : ∃ op, (L[p]).1 = op := ⟨_, rfl⟩
          obtain ⟨n, hn⟩ : ∃ n, (L[p]).2 = n := ⟨_, rfl⟩
          obtain ⟨lb, lo, rfl, q0, q1⟩ := HINS.out.get hpl
          have hlb : lb < w.heap.size := World.block_lt_of_cell? w _ q0
          have i0 := HCE.out lb _ _ (by omega) (N1.out.step N5.out |>.cell q0)
          have i1 := HCE.out lb _ _ (by omega) (N1.out.step N5.out |>.cell q1)
          rw [hop] at i0
          rw [hn] at i1
          clear q0 q1
          have hoki := HOK.out _ (List.getElem_mem hpl)
          rw [hop, hn, HMl.out] at hoki
          have hvl := HI.out.vars
          have htl := HI.out.tells
          obtain ⟨hlo, hhi, hvar, hgoto, hsend⟩ := hoki
          obtain ⟨IB, hIB⟩ : ∃ IB, wr.heap.size = IB := ⟨_, rfl⟩
          obtain ⟨wi, hwi⟩ : ∃ wi, wr.alloc (.cells #[.int .i64 (op : Int), .int .i64 n] 110) = wi := ⟨_, rfl⟩
          have ni : Nw wr wi := by rw [← hwi]; exact (Nw.refl wr).alloc _
          have hbI : Blk wi IB 110 #[.int .i64 (op : Int), .int .i64 n] := by rw [← hwi]; exact Blk.last wr _ _ hIB
          have HIBS := Lib.hid hIB
          have HWI := Lib.hid hwi
          have NI := Lib.hid ni
          have HBI := Lib.hid hbI
          have hrun : RefH wi (fun k => B0 ≤ k ∧ k < IB) XB KB ⟨T, O, S, me, kq, d, me, procs, seed, vA, vc, VB⟩ { s with pc := p + 1 } := by rw [← hIB]; exact (HI.out.run.tight.new ni).pc _
          have NEXT := Lib.hid (fun (w7 : World) (s' : Vm) (hs : ({ s with pc := p + 1 } : Vm).step ⟨T, O, S, me, kq, d, me, procs, seed, vA, vc, VB⟩ op n = s') (hd : RDone wi w7 (fun k => B0 ≤ k ∧ k < IB) XB KB ⟨T, O, S, me, kq, d, me, procs, seed, vA, vc, VB⟩ s') => RLoop.next HI.out hlt hpl ni HB5.out hop hn hs (by rw [hIB]; exact hd))
          have HR := Lib.hid hrun
          have HSL := Lib.hid HI.out.sends
          have HXX := Lib.hid (⟨hh, hbX⟩ : Held wr (fun k => B0 ≤ k) ⟨T, O, S, me, kq, d, me, procs, seed, vA, vc, VB⟩ (.slice sA s.sends.length sc) (.slice tA s.tells.length tc) s.vars s.sends s.tells SB' TB' ∧ Blk wr XB 94 #[.slice vA s.vars.length vc, .int .i64 s.sent, .int .i64 s.drawn, .slice sA s.sends.length sc, .slice tA s.tells.length tc])
          have HVL := Lib.hid hvl
          have HVAR := Lib.hid hvar
          have HGOTO := Lib.hid hgoto
          have j0 : wi.cell? ⟨IB, 0, none⟩ = some (.int .i64 (op : Int)) := hbI.cell 0
          have j1 : wi.cell? ⟨IB, 1, none⟩ = some (.int .i64 n) := hbI.cell 1
          have hEcell : ∀ k v, w1.cell? ⟨EB, k, none⟩ = some v → wi.cell? ⟨EB, k, none⟩ = some v := fun k v h => ni.cell (HCE.out EB _ _ (by omega) (N5.out.cell h))
          have hMcell : ∀ k v, w1.cell? ⟨MB, k, none⟩ = some v → wi.cell? ⟨MB, k, none⟩ = some v := fun k v h => ni.cell (HCE.out MB _ _ (by omega) (N5.out.cell h))
          have HEC := Lib.hid hEcell
          have HMC := Lib.hid hMcell
          clear hIB hwi ni hbI hop hn hrun hh hbX hvl hvar hgoto hsend hz hEcell hMcell x0 x1 x2 x3 x4 hpl htl
          go_upto_region 14 with (fail)
          rw [HWI.out, HIBS.out]
          clear i0 i1 d1 d2 d3
          have hc : op = 1 ∨ op = 2 ∨ op = 3 ∨ op = 4 ∨ op = 5 ∨ op = 6 ∨ op = 7 ∨ (8 ≤ op ∧ op ≤ 12) ∨ op = 13 ∨ op = 14 ∨ op = 15 ∨ op = 16 ∨ op = 17 := by omega
          rcases hc with rfl | rfl | rfl | rfl | rfl | rfl | rfl | hc | rfl | rfl | rfl | rfl | rfl
          · go_wp2_with fail
            refine (reckon_no KB wi 1 (by omega)).mono ?_
            rintro e w6 ⟨rfl, h6⟩
            rw [h6]
            clear h6 w6
            go_wp2_with fail
            refine (rpush_any (fun k => B0 ≤ k ∧ k < IB) XB KB ⟨T, O, S, me, kq, d, me, procs, seed, vA, vc, VB⟩ { s with pc := p + 1 } n _ HR.out).mono ?_
            rintro e w7 ⟨rfl, d7⟩
            have D7 := Lib.hid (NEXT.out w7 _ rfl ( d7))
            clear d7 j0 j1
            go_wp2_with fail
            go_roundw
            case rel => exact ⟨f + 1, _, _, by omega, by rw [step_pc _ _ _ _ (by omega) (by omega) (by omega) (by omega)]; go_num, by go_num, D7⟩
            case measure => simp [intOf]; omega
          · obtain ⟨g1, g2⟩ := HVAR.out (.inl rfl)
            obtain ⟨i, rfl⟩ := Int.eq_ofNat_of_zero_le g1
            have hi : i < s.vars.length := by have := HVL.out; omega
            obtain ⟨vb, vo, hvA, hVB, v0, v1⟩ := HR.out.varAt (i := i) hi
            dsimp only at hvA hVB v0
            subst hvA hVB
            have y0 : wi.cell? ⟨XB, 0, none⟩ = some (.slice (some ⟨vb, vo, none⟩) s.vars.length vc) := NI.out.cell (HXX.out.2.cell 0)
            have g3 : (i : Int) < (s.vars.length : Int) := by omega
            have e : ({ s with pc := p + 1 } : Vm).step ⟨T, O, S, me, kq, d, me, procs, seed, some ⟨vb, vo, none⟩, vc, some vb⟩ 2 (i : Int) = ({ s with pc := p + 1 } : Vm).push s.vars[i] := by
              show Vm.push _ (s.vars.getD (i : Int).toNat 0) = _
              rw [Int.toNat_natCast, List.getD_eq_getElem?_getD, List.getElem?_eq_getElem hi]; rfl
            have HE := Lib.hid e
            have hlv : s.vars.length ≤ 4294967295 := by have := HVL.out; omega
            have HPC := Lib.hid (show (({ s with pc := p + 1 } : Vm).push s.vars[i]).pc = p + 1 from by rw [← e]; exact step_pc _ _ _ _ (by omega) (by omega) (by omega) (by omega))
            clear e
            go_wp2_with fail
            refine (reckon_no KB wi 2 (by omega)).mono ?_
            rintro e w6 ⟨rfl, h6⟩
            rw [h6]
            clear h6 w6
            go_wp2_with fail
            refine (rpush_any (fun k => B0 ≤ k ∧ k < IB) XB KB ⟨T, O, S, me, kq, d, me, procs, seed, some ⟨vb, vo, none⟩, vc, some vb⟩ { s with pc := p + 1 } s.vars[i] _ HR.out).mono ?_
            rintro e w7 ⟨rfl, d7⟩
            have D7 := Lib.hid (NEXT.out w7 _ HE.out d7)
            clear d7 j0 j1 y0 v0 v1
            go_wp2_with fail
            go_roundw
            case rel => exact ⟨f + 1, _, _, by omega, by rw [HPC.out]; go_num, by go_num, D7⟩
            case measure => simp [intOf]; omega
          · obtain ⟨g1, g2⟩ := HVAR.out (.inr rfl)
            obtain ⟨i, rfl⟩ := Int.eq_ofNat_of_zero_le g1
            have hi : i < s.vars.length := by have := HVL.out; omega
            obtain ⟨vb, vo, hvA, hVB, v0, v1⟩ := HR.out.varAt (i := i) hi
            dsimp only at hvA hVB
            subst hvA hVB
            clear v0 v1
            have y0 : wi.cell? ⟨XB, 0, none⟩ = some (.slice (some ⟨vb, vo, none⟩) s.vars.length vc) := NI.out.cell (HXX.out.2.cell 0)
            have g3 : (i : Int) < (s.vars.length : Int) := by omega
            have hlv : s.vars.length ≤ 4294967295 := by have := HVL.out; omega
            go_wp2_with fail
            refine (reckon_no KB wi 3 (by omega)).mono ?_
            rintro e w6 ⟨rfl, h6⟩
            rw [h6]
            clear h6 w6
            go_upto_region 21 with (fail)
            refine wp_region_E (fun W => W.cell? ⟨XB, 0, none⟩ = some (.slice (some ⟨vb, vo, none⟩) s.vars.length vc) ∧ W.cell? ⟨IB, 1, none⟩ = some (.int .i64 (i : Int))) 8 (by kernel_rfl) ?_
            have hS := (⟨y0, j1⟩ : wi.cell? ⟨XB, 0, none⟩ = some (.slice (some ⟨vb, vo, none⟩) s.vars.length vc) ∧ wi.cell? ⟨IB, 1, none⟩ = some (.int .i64 (i : Int)))
            refine wpAnyE_takeT (i := 0) (v := ?_) rfl (by kernel_rfl) (by kernel_rfl) (by kernel_rfl) (by kernel_rfl) (by kernel_rfl) (fun _ _ _ h => h) (by rfl) ?_ hS ?_
            rotate_left
            · intro u hu
              try dsimp only at hu
              go_simp
              try with_reducible rfl
            try simp only [Act.put, List.setIfInBounds_toArray, List.set_cons_zero, List.set_cons_succ]
            refine wpAnyE_takeT (i := 1) (v := ?_) rfl (by kernel_rfl) (by kernel_rfl) (by kernel_rfl) (by kernel_rfl) (by kernel_rfl) (fun _ _ _ h => h) (by rfl) ?_ hS ?_
            rotate_left
            · intro u hu
              try dsimp only at hu
              go_simp
              try with_reducible rfl
            try simp only [Act.put, List.setIfInBounds_toArray, List.set_cons_zero, List.set_cons_succ]
            refine wpAnyE_takeT (i := 2) (v := ?_) rfl (by kernel_rfl) (by kernel_rfl) (by kernel_rfl) (by kernel_rfl) (by kernel_rfl) (fun _ _ _ h => h) (by rfl) ?_ hS ?_
            rotate_left
            · intro u hu
              try dsimp only at hu
              go_simp
              try with_reducible rfl
            try simp only [Act.put, List.setIfInBounds_toArray, List.set_cons_zero, List.set_cons_succ]
            refine wpAnyE_takeT (i := 3) (v := ?_) rfl (by kernel_rfl) (by kernel_rfl) (by kernel_rfl) (by kernel_rfl) (by kernel_rfl) (fun _ _ _ h => h) (by rfl) ?_ hS ?_
            rotate_left
            · intro u hu
              try dsimp only at hu
              go_simp
              try with_reducible rfl
            try simp only [Act.put, List.setIfInBounds_toArray, List.set_cons_zero, List.set_cons_succ]
            refine wpAnyE_takeT (i := 4) (v := ?_) rfl (by kernel_rfl) (by kernel_rfl) (by kernel_rfl) (by kernel_rfl) (by kernel_rfl) (fun _ _ _ h => h) (by rfl) ?_ hS ?_
            rotate_left
            · intro u hu
              try dsimp only at hu
              go_simp
              try with_reducible rfl
            try simp only [Act.put, List.setIfInBounds_toArray, List.set_cons_zero, List.set_cons_succ]
            refine wpAnyE_takeT (i := 5) (v := ?_) rfl (by kernel_rfl) (by kernel_rfl) (by kernel_rfl) (by kernel_rfl) (by kernel_rfl) (fun _ _ _ h => h) (by rfl) ?_ hS ?_
            rotate_left
            · intro u hu
              try dsimp only at hu
              go_simp
              try with_reducible rfl
            try simp only [Act.put, List.setIfInBounds_toArray, List.set_cons_zero, List.set_cons_succ]
            refine wpAnyE_step (i := 6) (by kernel_rfl) rfl (by rfl) fun K hK => ?_
            go_simp
            go_at_call 80
            refine (rtake_any (fun k => B0 ≤ k ∧ k < IB) XB KB ⟨T, O, S, me, kq, d, me, procs, seed, some ⟨vb, vo, none⟩, vc, some vb⟩ { s with pc := p + 1 } _ (HR.out.new (Nw.refl wi).drew)).mono ?_
            rintro e w7 ⟨rfl, d7⟩
            have hd7 : RDone wi w7 (fun k => B0 ≤ k ∧ k < IB) XB KB ⟨T, O, S, me, kq, d, me, procs, seed, some ⟨vb, vo, none⟩, vc, some vb⟩ ({ s with pc := p + 1 } : Vm).pop := ⟨d7.run, (Chg.refl _ wi).drew.trans d7.chg (fun i _ g => g)⟩
            have D7 := Lib.hid hd7
            obtain ⟨vb', vo', hvA', hVB', v0, v1⟩ := d7.run.varAt (i := i) hi
            dsimp only at hvA' hVB' v0
            injection hvA' with hvA'
            injection hvA' with hq1 hq2 _
            subst hq1 hq2
            obtain ⟨_, _, _, _, _, _, _, hx7⟩ := d7.run.stepCells
            have hi7 := HBI.out.chg hd7.chg (fun g => absurd g.2 (Nat.lt_irrefl _))
            clear d7 hd7
            have hS := (⟨hx7.cell 0, hi7.cell 1⟩ : w7.cell? ⟨XB, 0, none⟩ = some (.slice (some ⟨vb, vo, none⟩) s.vars.length vc) ∧ w7.cell? ⟨IB, 1, none⟩ = some (.int .i64 (i : Int)))
            refine hK _ _ (.inr ((⟨hx7.cell 0, hi7.cell 1⟩ : w7.cell? ⟨XB, 0, none⟩ = some (.slice (some ⟨vb, vo, none⟩) s.vars.length vc) ∧ w7.cell? ⟨IB, 1, none⟩ = some (.int .i64 (i : Int))))) ?_
            clear hK K
            try simp only [Act.put, List.setIfInBounds_toArray, List.set_cons_zero, List.set_cons_succ]
            refine wpAnyE_step (i := 7) (by kernel_rfl) rfl (by rfl) fun K hK => ?_
            go_simp
            refine hK _ _ (.inr hS) ?_
            clear hK K
            try simp only [Act.put, List.setIfInBounds_toArray, List.set_cons_zero, List.set_cons_succ]
            refine wpAnyE_step (i := 8) (by kernel_rfl) rfl (by rfl) fun K hK => ?_
            go_simp
            refine hK _ _ (.inl rfl) ?_
            clear hK K
            try simp only [Act.put, List.setIfInBounds_toArray, List.set_cons_zero, List.set_cons_succ]
            refine wpAnyE_done (by kernel_rfl) ?_ _
            have e : ({ s with pc := p + 1 } : Vm).step ⟨T, O, S, me, kq, d, me, procs, seed, some ⟨vb, vo, none⟩, vc, some vb⟩ 3 (i : Int) = { ({ s with pc := p + 1 } : Vm).pop with vars := s.vars.set i s.top } := by
              show ({ ({ s with pc := p + 1 } : Vm).pop with vars := s.vars.set (i : Int).toNat s.top } : Vm) = _
              rw [Int.toNat_natCast]
            have D8 := Lib.hid (NEXT.out _ _ e (D7.out.then (D7.out.run.pokeVar (i := i) hi s.top rfl)))
            clear e j0 j1 y0
            go_wp2_with fail
            go_roundw
            case rel => exact ⟨f + 1, p + 1, _, by omega, by go_num, by go_num, D8⟩
            case measure => simp [intOf]; omega
          · have y0 : wi.cell? ⟨EB, 0, none⟩ = some (.int .i64 T) := HEC.out 0 _ (HBE.out.cell 0)
            go_wp2_with fail
            refine (reckon_no KB wi 4 (by omega)).mono ?_
            rintro e w6 ⟨rfl, h6⟩
            rw [h6]
            clear h6 w6
            go_wp2_with fail
            refine (rpush_any (fun k => B0 ≤ k ∧ k < IB) XB KB ⟨T, O, S, me, kq, d, me, procs, seed, vA, vc, VB⟩ { s with pc := p + 1 } T _ HR.out).mono ?_
            rintro e w7 ⟨rfl, d7⟩
            have D7 := Lib.hid (NEXT.out w7 _ rfl ( d7))
            clear d7 j0 j1 y0
            go_wp2_with fail
            go_roundw
            case rel => exact ⟨f + 1, _, _, by omega, by rw [step_pc _ _ _ _ (by omega) (by omega) (by omega) (by omega)]; go_num, by go_num, D7⟩
            case measure => simp [intOf]; omega
          · have y0 : wi.cell? ⟨EB, 5, none⟩ = some (.int .i64 d) := HEC.out 5 _ (HBE.out.cell 5)
            go_wp2_with fail
            refine (reckon_no KB wi 5 (by omega)).mono ?_
            rintro e w6 ⟨rfl, h6⟩
            rw [h6]
            clear h6 w6
            go_wp2_with fail
            refine (rpush_any (fun k => B0 ≤ k ∧ k < IB) XB KB ⟨T, O, S, me, kq, d, me, procs, seed, vA, vc, VB⟩ { s with pc := p + 1 } d _ HR.out).mono ?_
            rintro e w7 ⟨rfl, d7⟩
            have D7 := Lib.hid (NEXT.out w7 _ rfl ( d7))
            clear d7 j0 j1 y0
            go_wp2_with fail
            go_roundw
            case rel => exact ⟨f + 1, _, _, by omega, by rw [step_pc _ _ _ _ (by omega) (by omega) (by omega) (by omega)]; go_num, by go_num, D7⟩
            case measure => simp [intOf]; omega
          · have y0 : wi.cell? ⟨MB, 2, none⟩ = some (.int .i64 me) := HMC.out 2 _ (HBM.out.cell 2)
            go_wp2_with fail
            refine (reckon_no KB wi 6 (by omega)).mono ?_
            rintro e w6 ⟨rfl, h6⟩
            rw [h6]
            clear h6 w6
            go_wp2_with fail
            refine (rpush_any (fun k => B0 ≤ k ∧ k < IB) XB KB ⟨T, O, S, me, kq, d, me, procs, seed, vA, vc, VB⟩ { s with pc := p + 1 } me _ HR.out).mono ?_
            rintro e w7 ⟨rfl, d7⟩
            have D7 := Lib.hid (NEXT.out w7 _ rfl ( d7))
            clear d7 j0 j1 y0
            go_wp2_with fail
            go_roundw
            case rel => exact ⟨f + 1, _, _, by omega, by rw [step_pc _ _ _ _ (by omega) (by omega) (by omega) (by omega)]; go_num, by go_num, D7⟩
            case measure => simp [intOf]; omega
          · have y0 : wi.cell? ⟨MB, 4, none⟩ = some (.int .i64 seed) := HMC.out 4 _ (HBM.out.cell 4)
            have y1 : wi.cell? ⟨XB, 2, none⟩ = some (.int .i64 s.drawn) := NI.out.cell (HXX.out.2.cell 2)
            go_wp2_with fail
            refine (reckon_no KB wi 7 (by omega)).mono ?_
            rintro e w6 ⟨rfl, h6⟩
            rw [h6]
            clear h6 w6
            go_wp2_with fail
            refine (refChance_any seed s.drawn _).mono ?_
            rintro e w6 ⟨rfl, rfl⟩
            go_wp2_with fail
            refine (rpush_any (fun k => B0 ≤ k ∧ k < IB) XB KB ⟨T, O, S, me, kq, d, me, procs, seed, vA, vc, VB⟩ { s with pc := p + 1 } (chanceV seed s.drawn) _ HR.out).mono ?_
            rintro e w7 ⟨rfl, d7⟩
            have D7 := Lib.hid d7
            obtain ⟨_, _, _, _, _, _, _, hx7⟩ := d7.run.stepCells
            have hdr : (({ s with pc := p + 1 } : Vm).push (chanceV seed s.drawn)).drawn = s.drawn := by unfold Vm.push; split <;> rfl
            have z2 : w7.cell? ⟨XB, 2, none⟩ = some (.int .i64 s.drawn) := (hx7.cell 2).trans (congrArg (fun x => some (Value.int .i64 x)) hdr)
            have f2 := hx7.frozen 2
            clear d7 hx7 hdr j0 j1 y0 y1
            go_wp2_with fail
            have D8 := Lib.hid (NEXT.out _ _ rfl (D7.out.then (D7.out.run.setDrawn (wrap64 (s.drawn + 1)))))
            go_roundw
            case rel => exact ⟨f + 1, _, _, by omega, by rw [step_pc _ _ _ _ (by omega) (by omega) (by omega) (by omega)]; go_num, by go_num, D8⟩
            case measure => simp [intOf]; omega
          · go_wp2_with fail
            refine (reckon_yes (fun k => B0 ≤ k ∧ k < IB) XB KB ⟨T, O, S, me, kq, d, me, procs, seed, vA, vc, VB⟩ { s with pc := p + 1 } wi op HR.out hc.1 hc.2 n).mono ?_
            rintro e w7 ⟨rfl, d7⟩
            have D7 := Lib.hid (NEXT.out w7 _ rfl d7)
            have HPC := Lib.hid (step_pc ⟨T, O, S, me, kq, d, me, procs, seed, vA, vc, VB⟩ op n { s with pc := p + 1 } (by omega) (by omega) (by omega) (by omega))
            clear d7 j0 j1 hc
            go_wp2_with fail
            go_roundw
            case rel => exact ⟨f + 1, _, _, by omega, by rw [HPC.out]; go_num, by go_num, D7⟩
            case measure => simp [intOf]; omega
          · obtain ⟨g1, g2⟩ := HGOTO.out (.inl rfl)
            obtain ⟨i, rfl⟩ := Int.eq_ofNat_of_zero_le g1
            go_wp2_with fail
            refine (reckon_no KB wi 13 (by omega)).mono ?_
            rintro e w6 ⟨rfl, h6⟩
            rw [h6]
            clear h6 w6
            have D7 := Lib.hid (NEXT.out wi { s with pc := i } rfl ((RDone.same HR.out (Nw.refl wi)).pc i))
            go_wp2_with fail
            go_roundw
            case rel => exact ⟨f + 1, _, _, by omega, rfl, by go_num, D7⟩
            case measure => simp [intOf]; omega
          · obtain ⟨g1, g2⟩ := HGOTO.out (.inr rfl)
            obtain ⟨i, rfl⟩ := Int.eq_ofNat_of_zero_le g1
            go_wp2_with fail
            refine (reckon_no KB wi 14 (by omega)).mono ?_
            rintro e w6 ⟨rfl, h6⟩
            rw [h6]
            clear h6 w6
            go_wp2_with fail
            refine (rtake_any (fun k => B0 ≤ k ∧ k < IB) XB KB ⟨T, O, S, me, kq, d, me, procs, seed, vA, vc, VB⟩ { s with pc := p + 1 } _ HR.out).mono ?_
            rintro e w7 ⟨rfl, d7⟩
            have D7 := Lib.hid d7
            have j1 : w7.cell? ⟨IB, 1, none⟩ = some (.int .i64 (i : Int)) := (HBI.out.chg d7.chg (fun g => absurd g.2 (Nat.lt_irrefl _))).cell 1
            by_cases ht : s.top = 0
            · have e : ({ s with pc := p + 1 } : Vm).step ⟨T, O, S, me, kq, d, me, procs, seed, vA, vc, VB⟩ 14 (i : Int) = { s.pop with pc := i } := by show (if s.top = 0 then _ else _) = _; rw [if_pos ht]; rfl
              have D8 := Lib.hid (NEXT.out w7 _ e (D7.out.pc i))
              have gt : (({ s with pc := p + 1 } : Vm).top == 0) = true := by show (s.top == 0) = true; simp [ht]
              clear d7 j0 e ht
              go_wp2_with fail
              go_roundw
              case rel => exact ⟨f + 1, _, _, by omega, rfl, by go_num, D8⟩
              case measure => simp [intOf]; omega
            · have e : ({ s with pc := p + 1 } : Vm).step ⟨T, O, S, me, kq, d, me, procs, seed, vA, vc, VB⟩ 14 (i : Int) = ({ s with pc := p + 1 } : Vm).pop := by show (if s.top = 0 then _ else _) = _; rw [if_neg ht]
              have D8 := Lib.hid (NEXT.out w7 _ e D7.out)
              have gt : (({ s with pc := p + 1 } : Vm).top == 0) = false := by show (s.top == 0) = false; simp [ht]
              clear d7 j0 j1 e ht
              go_wp2_with fail
              go_roundw
              case rel => exact ⟨f + 1, p + 1, _, by omega, by go_num, by go_num, D8⟩
              case measure => simp [intOf]; omega
          · obtain ⟨m0, m1, m2, m3, m4⟩ := blk5 HBM.out
            have m0 := HMC.out 0 _ m0
            have m1 := HMC.out 1 _ m1
            have m2 := HMC.out 2 _ m2
            have m3 := HMC.out 3 _ m3
            have m4 := HMC.out 4 _ m4
            have e0 : wi.cell? ⟨EB, 0, none⟩ = some (.int .i64 T) := HEC.out 0 _ (HBE.out.cell 0)
            have e1 : wi.cell? ⟨EB, 1, none⟩ = some (.int .i64 O) := HEC.out 1 _ (HBE.out.cell 1)
            have e2 : wi.cell? ⟨EB, 2, none⟩ = some (.int .i64 S) := HEC.out 2 _ (HBE.out.cell 2)
            have e3 : wi.cell? ⟨EB, 3, none⟩ = some (.int .i64 me) := HEC.out 3 _ (HBE.out.cell 3)
            have e4 : wi.cell? ⟨EB, 4, none⟩ = some (.int .i64 (kq : Int)) := HEC.out 4 _ (HBE.out.cell 4)
            have e5 : wi.cell? ⟨EB, 5, none⟩ = some (.int .i64 d) := HEC.out 5 _ (HBE.out.cell 5)
            go_wp2_with fail
            refine (reckon_no KB wi 15 (by omega)).mono ?_
            rintro e w6 ⟨rfl, h6⟩
            rw [h6]
            clear h6 w6
            go_wp2_with fail
            refine (rsend_any (fun k => B0 ≤ k ∧ k < IB) XB KB ⟨T, O, S, me, kq, d, me, procs, seed, vA, vc, VB⟩ { s with pc := p + 1 } n vars (some ⟨kb, ko, none⟩) ks.length kc _ HR.out HP.out HTI.out HSL.out).mono ?_
            rintro e w7 ⟨rfl, d7⟩
            have D7 := Lib.hid (NEXT.out w7 _ rfl d7)
            have HPC := Lib.hid (step_pc ⟨T, O, S, me, kq, d, me, procs, seed, vA, vc, VB⟩ 15 n { s with pc := p + 1 } (by omega) (by omega) (by omega) (by omega))
            clear d7 j0 j1 m0 m1 m2 m3 m4 e0 e1 e2 e3 e4 e5
            go_wp2_with fail
            go_roundw
            case rel => exact ⟨f + 1, _, _, by omega, by rw [HPC.out]; go_num, by go_num, D7⟩
            case measure => simp [intOf]; omega
          · go_wp2_with fail
            refine (reckon_no KB wi 16 (by omega)).mono ?_
            rintro e w6 ⟨rfl, h6⟩
            rw [h6]
            clear h6 w6
            go_wp2_with fail
            refine (rtake_any (fun k => B0 ≤ k ∧ k < IB) XB KB ⟨T, O, S, me, kq, d, me, procs, seed, vA, vc, VB⟩ { s with pc := p + 1 } _ HR.out).mono ?_
            rintro e w7 ⟨rfl, d7⟩
            have D7 := Lib.hid d7
            have HPC := Lib.hid (step_pc ⟨T, O, S, me, kq, d, me, procs, seed, vA, vc, VB⟩ 16 n { s with pc := p + 1 } (by omega) (by omega) (by omega) (by omega))
            obtain ⟨⟨sv7, tv7, SB7, TB7, A7, cap7, GB7, hx7, hk7, hh7, ho7, hg7⟩, hX7, hK7, hd7⟩ := d7.run
            obtain ⟨tA7, tc7, rfl, _⟩ := hh7.t.rd
            have x4 : w7.cell? ⟨XB, 4, none⟩ = some (.slice tA7 s.tells.length tc7) := hx7.cell 4
            have m2 : w7.cell? ⟨MB, 2, none⟩ = some (.int .i64 me) := d7.chg.cellOf (HMC.out 2 _ (HBM.out.cell 2)) (fun g => by have := HZ.out; have := g.1; dsimp only at this; omega)
            have e0 : w7.cell? ⟨EB, 0, none⟩ = some (.int .i64 T) := d7.chg.cellOf (HEC.out 0 _ (HBE.out.cell 0)) (fun g => by have := HZ.out; have := g.1; dsimp only at this; omega)
            have e1 : w7.cell? ⟨EB, 1, none⟩ = some (.int .i64 O) := d7.chg.cellOf (HEC.out 1 _ (HBE.out.cell 1)) (fun g => by have := HZ.out; have := g.1; dsimp only at this; omega)
            have e2 : w7.cell? ⟨EB, 2, none⟩ = some (.int .i64 S) := d7.chg.cellOf (HEC.out 2 _ (HBE.out.cell 2)) (fun g => by have := HZ.out; have := g.1; dsimp only at this; omega)
            have H7 := Lib.hid (⟨hx7, hk7, hh7, ho7, hg7, hX7, hK7, hd7⟩ : _ ∧ _ ∧ _ ∧ _ ∧ _ ∧ _ ∧ _ ∧ _)
            have hto : Own w7 98 6 (.slice tA7 s.tells.length tc7) s.tells.length (ints s.tells.flatten) TB7 := hh7.t
            have hTX : TB7 ≠ some XB := fun e => by obtain ⟨cur, hc⟩ := hto.tyB XB e; exact absurd rfl (hc.ne_ hx7 (by decide))
            have HTX := Lib.hid hTX
            have HX7 := Lib.hid hx7
            obtain ⟨q, hq⟩ : ∃ q, s.tells.length = q := ⟨_, rfl⟩
            have HQ := Lib.hid hq
            rw [hq] at x4 hto
            have HTO := Lib.hid hto
            clear d7 hx7 hk7 hh7 ho7 hg7 hX7 hK7 hd7 hto hTX hq j0 j1
            by_cases hlt4 : q < 4
            · have g4 : (q : Int) < 4 := by omega
              obtain ⟨i0, hi0, hz0, hz1, hz2⟩ := info_parts infoRec
              have HL1 := Lib.hid hi0
              have HL2 := Lib.hid hz0
              have HL3 := Lib.hid hz1
              have HL4 := Lib.hid hz2
              clear hi0 hz0 hz1 hz2
              go_wp2_with (at_builtin; refine wpList_append_at _ rfl _ _ _ rfl 98 i0 _ 6 48 Try.underlying54 HL1.out HL2.out HL3.out HL4.out rfl (by omega) _ q (ints s.tells.flatten) TB7 rfl (HTO.out.kept (fun g hg => Below.heap_alloc _ _ _ (HTO.out.lt g hg))) _ 1 1 (ints [T, O, S, me, (q : Int), s.top]) rfl rfl (rd_last w7 _ (ints [T, O, S, me, (q : Int), s.top])) (ints_one _) (by simp only [maxLen]; omega) (by omega) ?_; intro A2 c2 w8 TB2 hown hchg hat; have hb8 := (HX7.out.alloc _).chg hchg (fun h => HTX.out h.symm); have b4 : w8.cell? ⟨XB, 4, none⟩ = some (.slice tA7 q tc7) := (hb8.cell 4).trans (by simp only [← HQ.out]; rfl); have z4 := hb8.frozen 4)
              have e : ({ s with pc := p + 1 } : Vm).step ⟨T, O, S, me, kq, d, me, procs, seed, vA, vc, VB⟩ 16 n = { ({ s with pc := p + 1 } : Vm).pop with tells := s.tells ++ [[T, O, S, me, (q : Int), s.top]] } := by
                show Vm.tellV _ _ = _
                unfold Vm.tellV
                rw [if_pos (show s.tells.length < 4 by rw [HQ.out]; exact hlt4), ← HQ.out]
                rfl
              have hat' : ∀ g, TB2 = some g → TB7 = some g ∨ w7.heap.size ≤ g := fun g hg => by
                rcases hat with e | e
                · exact .inl (by rw [← e]; exact hg)
                · rw [e] at hg; injection hg with hg; simp at hg; exact .inr (by omega)
              have hc8 : Chg (fun k => some k = TB7) w7 w8 := ((Chg.refl (fun k => some k = TB7) w7).alloc _).trans hchg (fun i hi e => e)
              have hq := HQ.out
              subst hq
              have D8 := Lib.hid (NEXT.out _ _ e (D7.out.then (RefH.toldTo (row := [T, O, S, me, (s.tells.length : Int), s.top]) H7.out.1 H7.out.2.1 H7.out.2.2.1 H7.out.2.2.2.1 H7.out.2.2.2.2.1 H7.out.2.2.2.2.2.1 H7.out.2.2.2.2.2.2.1 H7.out.2.2.2.2.2.2.2 hc8 hown hat')))
              clear e hat' hc8 hown hchg hat hb8
              go_roundw
              case rel => exact ⟨f + 1, p + 1, _, by omega, by go_num, by go_num, D8⟩
              case measure => simp [intOf]; omega
            · have g4 : ¬ (q : Int) < 4 := by omega
              have e : ({ s with pc := p + 1 } : Vm).step ⟨T, O, S, me, kq, d, me, procs, seed, vA, vc, VB⟩ 16 n = ({ s with pc := p + 1 } : Vm).pop := by
                show Vm.tellV _ _ = _
                unfold Vm.tellV
                rw [if_neg (show ¬ s.tells.length < 4 by rw [HQ.out]; exact hlt4)]
              have D8 := Lib.hid (NEXT.out _ _ e D7.out)
              clear e
              go_wp2_with fail
              go_roundw
              case rel => exact ⟨f + 1, p + 1, _, by omega, by go_num, by go_num, D8⟩
              case measure => simp [intOf]; omega
          · go_wp2_with fail
            refine (reckon_no KB wi 17 (by omega)).mono ?_
            rintro e w6 ⟨rfl, h6⟩
            rw [h6]
            clear h6 w6
            have hn := NEXT.out wi { s with pc := 129 } rfl ((RDone.same HR.out (Nw.refl wi)).pc 129)
            have HFS := Lib.hid (hn.stop (fun g => by have h1 := HMl.out; have h2 : 129 < L.length := g.2; omega))
            have HCH := Lib.hid hn.chg
            have hob : Blk w5 OB 94 _ := HBO.out.below N5.out HBO.out.lt
            have HOB := Lib.hid (hob.chg hn.chg (fun g => by have := HZ.out; omega))
            have HHE := Lib.hid (hn.run.stepCells)
            obtain ⟨sA, sc, tA, tc, SB9, TB9, hh9, hb9⟩ := HHE.out
            dsimp only at hh9 hb9
            clear hn hob
            have hbx := HOB.out
            have o0 : wi.cell? ⟨OB, 0, none⟩ = some (.slice none 0 0) := hbx.cell 0
            have o1 : wi.cell? ⟨OB, 1, none⟩ = some (.int .i64 0) := hbx.cell 1
            have o2 : wi.cell? ⟨OB, 2, none⟩ = some (.int .i64 0) := hbx.cell 2
            have o3 : wi.cell? ⟨OB, 3, none⟩ = some (.slice none 0 0) := hbx.cell 3
            have o4 : wi.cell? ⟨OB, 4, none⟩ = some (.slice none 0 0) := hbx.cell 4
            obtain ⟨z0, z1, z2, z3, z4⟩ := frz5 hbx
            obtain ⟨x0, x1, x2, x3, x4⟩ := blk5 hb9
            have HBX := Lib.hid hbx
            clear hbx
            go_wp2_with fail
            refine bodyPost_ret (v := .tuple #[.agg #[.slice vA s.vars.length vc, .int .i64 s.sent, .int .i64 s.drawn, .slice sA s.sends.length sc, .slice tA s.tells.length tc], .int .i64 0]) (by simp [results, Try.results62, go_sem, o0, o1, o2, o3, o4]) rfl ?_
            rw [← HFS.out]
            exact run_end (s := { s with pc := 129 }) (c := ⟨T, O, S, me, kq, d, me, procs, seed, vA, vc, VB⟩) hh9 HBX.out (fun k _ hk => by have := HZ.out; omega) HZ.out.2.2.2.2.1 (Below.trans (show Below w.heap.size w w5 from N1.out.step N5.out) (HCH.out.below (fun k _ hk => by have := HZ.out; omega) (Below.size (show Below w.heap.size w w5 from N1.out.step N5.out))))
        · have HFS := Lib.hid (HI.out.stop (fun g => hcont (by rw [HMl.out] at g; exact g)))
          have HCH := Lib.hid HI.out.chg
          have hob : Blk w5 OB 94 _ := HBO.out.below N5.out HBO.out.lt
          have HOB := Lib.hid (hob.chg HI.out.chg (fun g => by omega))
          have HH9 := Lib.hid hh
          have HB9 := Lib.hid hbX
          clear hob hh hbX hz x0 x1 x2 x3 x4
          by_cases h1 : f < 256
          · have h2 : ¬ p < m := fun g => hcont ⟨h1, g⟩
            have d1 : (f : Int) < 256 := by omega
            have d2 : decide ((p : Int) < (m : Int)) = false := decide_eq_false (by omega)
            have d3 : decide (p < m) = false := decide_eq_false h2
            clear hcont h2
            have hbx := HOB.out
            have o0 : wr.cell? ⟨OB, 0, none⟩ = some (.slice none 0 0) := hbx.cell 0
            have o1 : wr.cell? ⟨OB, 1, none⟩ = some (.int .i64 0) := hbx.cell 1
            have o2 : wr.cell? ⟨OB, 2, none⟩ = some (.int .i64 0) := hbx.cell 2
            have o3 : wr.cell? ⟨OB, 3, none⟩ = some (.slice none 0 0) := hbx.cell 3
            have o4 : wr.cell? ⟨OB, 4, none⟩ = some (.slice none 0 0) := hbx.cell 4
            obtain ⟨z0, z1, z2, z3, z4⟩ := frz5 hbx
            obtain ⟨x0, x1, x2, x3, x4⟩ := blk5 HB9.out
            have HBX := Lib.hid hbx
            clear hbx
            go_wp2_with fail
            refine bodyPost_ret (v := .tuple #[.agg #[.slice vA s.vars.length vc, .int .i64 s.sent, .int .i64 s.drawn, .slice sA s.sends.length sc, .slice tA s.tells.length tc], .int .i64 0]) (by simp [results, Try.results62, go_sem, o0, o1, o2, o3, o4]) rfl ?_
            rw [← HFS.out]
            exact run_end (s := s) (c := ⟨T, O, S, me, kq, d, me, procs, seed, vA, vc, VB⟩) HH9.out HBX.out (fun k _ hk => by have := HZ.out; omega) HZ.out.2.2.2.2.1 (Below.trans (show Below w.heap.size w w5 from N1.out.step N5.out) (HCH.out.below (fun k _ hk => by have := HZ.out; omega) (Below.size (show Below w.heap.size w w5 from N1.out.step N5.out))))
          · have d1 : decide ((f : Int) < 256) = false := decide_eq_false (by omega)
            have d4 : ¬ (f : Int) < 256 := by omega
            clear hcont
            have hbx := HOB.out
            have o0 : wr.cell? ⟨OB, 0, none⟩ = some (.slice none 0 0) := hbx.cell 0
            have o1 : wr.cell? ⟨OB, 1, none⟩ = some (.int .i64 0) := hbx.cell 1
            have o2 : wr.cell? ⟨OB, 2, none⟩ = some (.int .i64 0) := hbx.cell 2
            have o3 : wr.cell? ⟨OB, 3, none⟩ = some (.slice none 0 0) := hbx.cell 3
            have o4 : wr.cell? ⟨OB, 4, none⟩ = some (.slice none 0 0) := hbx.cell 4
            obtain ⟨z0, z1, z2, z3, z4⟩ := frz5 hbx
            obtain ⟨x0, x1, x2, x3, x4⟩ := blk5 HB9.out
            have HBX := Lib.hid hbx
            clear hbx
            go_wp2_with fail
            refine bodyPost_ret (v := .tuple #[.agg #[.slice vA s.vars.length vc, .int .i64 s.sent, .int .i64 s.drawn, .slice sA s.sends.length sc, .slice tA s.tells.length tc], .int .i64 0]) (by simp [results, Try.results62, go_sem, o0, o1, o2, o3, o4]) rfl ?_
            rw [← HFS.out]
            exact run_end (s := s) (c := ⟨T, O, S, me, kq, d, me, procs, seed, vA, vc, VB⟩) HH9.out HBX.out (fun k _ hk => by have := HZ.out; omega) HZ.out.2.2.2.2.1 (Below.trans (show Below w.heap.size w w5 from N1.out.step N5.out) (HCH.out.below (fun k _ hk => by have := HZ.out; omega) (Below.size (show Below w.heap.size w w5 from N1.out.step N5.out))))
    · have hf := HFIN.out
      rw [dif_neg hk] at hf
      have HFS := Lib.hid hf.symm
      clear hf HFIN
      have g1 : (ks.length : Int) ≤ (kq : Int) := by omega
      have HOB := Lib.hid (HBO.out.below N4.out HBO.out.lt)
      have HHE : Held w4 (fun k => B0 ≤ k) ⟨T, O, S, me, kq, d, me, procs, seed, vA, vc, VB⟩ (.slice none 0 0) (.slice none 0 0) l [] [] none none := ⟨HX4.out.2.2.2, Own.nil _ _ _, Own.nil _ _ _, HX4.out.2.1, fun g e => (by cases e), fun g e => (by cases e)⟩
      have HHI := Lib.hid HHE
      have hbx4 := HX4.out.2.2.1
      clear hk HHE
      have hbx := HOB.out
      have o0 : w4.cell? ⟨OB, 0, none⟩ = some (.slice none 0 0) := hbx.cell 0
      have o1 : w4.cell? ⟨OB, 1, none⟩ = some (.int .i64 0) := hbx.cell 1
      have o2 : w4.cell? ⟨OB, 2, none⟩ = some (.int .i64 0) := hbx.cell 2
      have o3 : w4.cell? ⟨OB, 3, none⟩ = some (.slice none 0 0) := hbx.cell 3
      have o4 : w4.cell? ⟨OB, 4, none⟩ = some (.slice none 0 0) := hbx.cell 4
      obtain ⟨z0, z1, z2, z3, z4⟩ := frz5 hbx
      obtain ⟨x0, x1, x2, x3, x4⟩ := blk5 hbx4
      have HBX := Lib.hid hbx
      clear hbx
      go_wp2_with fail
      refine bodyPost_ret (v := .tuple #[.agg #[.slice vA l.length vc, .int .i64 sent, .int .i64 drawn, .slice none 0 0, .slice none 0 0], .int .i64 0]) (by simp [results, Try.results62, go_sem, o0, o1, o2, o3, o4]) rfl ?_
      rw [← HFS.out]
      exact run_end (s := (vm0 l sent drawn)) (c := ⟨T, O, S, me, kq, d, me, procs, seed, vA, vc, VB⟩) HHI.out HBX.out (fun k _ hk => by have := HZ.out; omega) HZ.out.2.2.2.2.1 (N1.out.step N4.out)
end
end Go.Proofs.Ytgijkgngldfdiaa
