/- VmRuns: its walk. Helper. -/
import Derived.Test.YtpbapemgonidbaaVmRefRunNo
import Derived.Test.YtpbapemgonidbaaVmChanceLaw
namespace Go.Proofs.Ytpbapemgonidbaa
open Go.RowKit
set_option linter.unusedVariables false
set_option linter.unusedSimpArgs false
theorem runB_small (vars me procs seed : Int) (ks : List (List (Nat × Int))) (T O S p q d : Int) (l : List Int) (sent drawn : Int) (hl : l.length ≤ 20) :
    (runB vars me procs seed ks T O S p q d l sent drawn).1.vars.length ≤ 4294967295 ∧ (runB vars me procs seed ks T O S p q d l sent drawn).1.sends.length ≤ 4294967295 ∧ (runB vars me procs seed ks T O S p q d l sent drawn).1.tells.length ≤ 4294967295 := by
  have hz : vmZ.vars.length ≤ 4294967295 ∧ vmZ.sends.length ≤ 4294967295 ∧ vmZ.tells.length ≤ 4294967295 := ⟨by decide, by decide, by decide⟩
  unfold runB
  split
  · unfold runA
    split
    · show (runV _ _ _ _ _ _ _ _ _ _ _ _).vars.length ≤ _ ∧ (runV _ _ _ _ _ _ _ _ _ _ _ _).sends.length ≤ _ ∧ (runV _ _ _ _ _ _ _ _ _ _ _ _).tells.length ≤ _
      unfold runV
      split
      · rename_i h
        obtain ⟨h1, h2, h3⟩ := keeps_go ⟨T, O, S, me, q.toNat, d, me, procs, seed, none, 0, none⟩ ks[q.toNat] 256 (vm0 l sent drawn)
        have h2 := h2 (Nat.zero_le _)
        have h3 := h3 (Nat.zero_le _)
        have h1 : _ = l.length := h1
        omega
      · exact ⟨by show l.length ≤ _; omega, Nat.zero_le _, Nat.zero_le _⟩
    · exact hz
  · exact hz
section
variable (vars : Int) (kA : Option Addr) (ks : List (List (Int × Int))) (kc : Nat) (me procs seed : Int) (A : Option Addr) (l : List Int) (c : Nat) (sent drawn T O S p q d : Int) (w : World)
set_option maxRecDepth 100000
set_option maxHeartbeats 8000000
theorem runs_walk (hk : RKinds w kA ks) (hn : ks.length ≤ maxLen) (hA : Rd w A (ints l)) :
    Calls Try.prog 5 #[.agg #[.int .i64 vars, .slice kA ks.length kc], .int .i64 me, .int .i64 procs, .int .i64 seed, .agg #[.slice A l.length c, .int .i64 sent, .int .i64 drawn], .agg #[.int .i64 T, .int .i64 O, .int .i64 S, .int .i64 p, .int .i64 q, .int .i64 d]] w fun e w' => e = .returned (.bool true) ∧ Below w.heap.size w w' := by
  obtain ⟨w1, hw1⟩ : ∃ w1, ((w.alloc (.cells #[.int .i64 vars, .slice kA ks.length kc] 24)).alloc (.cells #[.slice A l.length c, .int .i64 sent, .int .i64 drawn] 27)).alloc (.cells #[.int .i64 T, .int .i64 O, .int .i64 S, .int .i64 p, .int .i64 q, .int .i64 d] 47) = w1 := ⟨_, rfl⟩
  have n1 : Nw w w1 := by rw [← hw1]; exact (((Nw.refl w).alloc _).alloc _).alloc _
  have hsz1 : w1.heap.size = w.heap.size + 1 + 1 + 1 := by rw [← hw1]; simp
  obtain ⟨PB, hPB⟩ : ∃ PB, w.heap.size = PB := ⟨_, rfl⟩
  obtain ⟨SB, hSB⟩ : ∃ SB, w.heap.size + 1 = SB := ⟨_, rfl⟩
  obtain ⟨EB, hEB⟩ : ∃ EB, w.heap.size + 1 + 1 = EB := ⟨_, rfl⟩
  have hbP : Blk w1 PB 24 #[.int .i64 vars, .slice kA ks.length kc] := by rw [← hw1]; exact ((Blk.last w _ _ hPB).alloc _).alloc _
  have hbS : Blk w1 SB 27 #[.slice A l.length c, .int .i64 sent, .int .i64 drawn] := by rw [← hw1]; exact (Blk.last _ _ _ (by simpa using hSB)).alloc _
  have hbE : Blk w1 EB 47 #[.int .i64 T, .int .i64 O, .int .i64 S, .int .i64 p, .int .i64 q, .int .i64 d] := by rw [← hw1]; exact Blk.last _ _ _ (by simpa using hEB)
  have HBX := Lib.hid (⟨hPB, hSB, hEB⟩ : w.heap.size = PB ∧ w.heap.size + 1 = SB ∧ w.heap.size + 1 + 1 = EB)
  have HSZ := Lib.hid (by omega : w.heap.size ≤ w1.heap.size)
  have K1 := fun W (g : Nw w1 W) => much_any vars kA ks kc W (hk.keep (n1.step g)) hn
  have K2 := fun W (g : Nw w1 W) => refMach_any vars kA ks kc me procs seed W (hk.keep (n1.step g)) hn
  have K3 := fun W => refIs_any vars kA kc me procs seed W ks.length A l.length c sent drawn
  obtain ⟨mb, hmb⟩ : ∃ mb, muchB ks = mb := ⟨_, rfl⟩
  obtain ⟨er, her⟩ : ∃ er, newErr vars ks me procs = er := ⟨_, rfl⟩
  rw [hmb] at K1
  rw [her] at K2
  have K1 := Lib.hid K1
  have K2 := Lib.hid K2
  have K3 := Lib.hid K3
  have HK := Lib.hid hk
  have HN := Lib.hid hn
  have HA := Lib.hid hA
  have HW := Lib.hid hw1
  have N1 := Lib.hid n1
  have HBP := Lib.hid hbP
  have HBS := Lib.hid hbS
  have HBE := Lib.hid hbE
  have HER := Lib.hid her
  have p0 : w1.cell? ⟨PB, 0, none⟩ = some (.int .i64 vars) := hbP.cell 0
  have p1 : w1.cell? ⟨PB, 1, none⟩ = some (.slice kA ks.length kc) := hbP.cell 1
  clear hmb her hk hn hA hw1 n1 hsz1 hbP hbS hbE hPB hSB hEB
  cases mb with
  | true =>
    go_enter Try.func5, Try.ntmps5
    go_upto_region 1 with (fail)
    rw [HW.out, HBX.out.2.2, HBX.out.2.1, HBX.out.1]
    go_wp2_with fail
    refine (K1.out _ (Nw.refl _)).mono ?_
    rintro e w2 ⟨rfl, b2⟩
    have N2 := Lib.hid (show Nw w1 w2 from b2)
    clear b2 p0 p1
    go_wp2_with fail
    refine (known_any _).mono ?_
    rintro e w9 ⟨rfl, b9⟩
    have N9 := Lib.hid (N2.out.step b9)
    clear b9
    go_wp2_with fail
    go_ret
    exact ⟨rfl, N1.out.step N9.out⟩
  | false =>
    by_cases h20 : 20 < l.length
    · have g20 : (20 : Int) < (l.length : Int) := by omega
      go_enter Try.func5, Try.ntmps5
      go_upto_region 1 with (fail)
      rw [HW.out, HBX.out.2.2, HBX.out.2.1, HBX.out.1]
      go_wp2_with fail
      refine (K1.out _ (Nw.refl _)).mono ?_
      rintro e w2 ⟨rfl, b2⟩
      have N2 := Lib.hid (show Nw w1 w2 from b2)
      clear b2 p0 p1
      have s0 : w2.cell? ⟨SB, 0, none⟩ = some (.slice A l.length c) := N2.out.cell (HBS.out.cell 0)
      go_wp2_with fail
      refine (known_any _).mono ?_
      rintro e w9 ⟨rfl, b9⟩
      have N9 := Lib.hid (N2.out.step b9)
      clear b9
      go_wp2_with fail
      go_ret
      exact ⟨rfl, N1.out.step N9.out⟩
    · have g20 : ¬ (20 : Int) < (l.length : Int) := by omega
      cases hok : (codeMay vars ks && argsOk me procs) with
      | false =>
        have hne : er ≠ 0 := by
          intro h
          have h2 := HER.out
          rw [h] at h2
          unfold newErr at h2
          cases h3 : codeMay vars ks <;> cases h4 : argsOk me procs <;> simp [h3, h4] at h2 hok
        have g1 : (er != er) = false := by simp
        have g2 : (er != 0) = true := bne_iff_ne.2 hne
        have HOK := Lib.hid hok
        clear hok hne
        go_enter Try.func5, Try.ntmps5
        go_upto_region 1 with (fail)
        rw [HW.out, HBX.out.2.2, HBX.out.2.1, HBX.out.1]
        go_wp2_with fail
        refine (K1.out _ (Nw.refl _)).mono ?_
        rintro e w2 ⟨rfl, b2⟩
        have N2 := Lib.hid (show Nw w1 w2 from b2)
        clear b2 p0 p1
        have s0 : w2.cell? ⟨SB, 0, none⟩ = some (.slice A l.length c) := N2.out.cell (HBS.out.cell 0)
        have p0 : w2.cell? ⟨PB, 0, none⟩ = some (.int .i64 vars) := N2.out.cell (HBP.out.cell 0)
        have p1 : w2.cell? ⟨PB, 1, none⟩ = some (.slice kA ks.length kc) := N2.out.cell (HBP.out.cell 1)
        have KNEW := Lib.hid (new_no vars kA ks kc me procs seed w2 (HK.out.keep (N1.out.step N2.out)) HN.out HOK.out)
        rw [HER.out] at KNEW
        go_wp2_with fail
        refine KNEW.out.mono ?_
        rintro e w3 ⟨rfl, b3⟩
        have N3 := Lib.hid (N2.out.step b3)
        have p0 := Nw.cell b3 p0
        have p1 := Nw.cell b3 p1
        clear b3 s0 KNEW
        go_wp2_with fail
        refine (K2.out _ (N3.out.alloc _)).mono ?_
        rintro e w4 ⟨rfl, b4⟩
        have N4 := Lib.hid ((N3.out.alloc _).step b4)
        clear b4 p0 p1
        go_wp2_with fail
        refine (known_any _).mono ?_
        rintro e w9 ⟨rfl, b9⟩
        have N9 := Lib.hid (N4.out.step b9)
        clear b9
        go_wp2_with fail
        go_ret
        exact ⟨rfl, N1.out.step N9.out⟩
      | true =>
        rw [Bool.and_eq_true] at hok
        have hargs := hok.2
        have ha : 1 ≤ me ∧ me ≤ procs ∧ 1 ≤ procs ∧ procs ≤ 16 := by unfold argsOk at hargs; simp only [Bool.and_eq_true, decide_eq_true_eq] at hargs; omega
        obtain rfl : er = 0 := by
          rw [← HER.out]; unfold newErr; simp [hok.1, hok.2]
        have g1 : ((0 : Int) != 0) = false := rfl
        have HOK := Lib.hid hok
        have HAA := Lib.hid ha
        clear hok ha hargs
        go_enter Try.func5, Try.ntmps5
        go_upto_region 1 with (fail)
        rw [HW.out, HBX.out.2.2, HBX.out.2.1, HBX.out.1]
        go_wp2_with fail
        refine (K1.out _ (Nw.refl _)).mono ?_
        rintro e w2 ⟨rfl, b2⟩
        have N2 := Lib.hid (show Nw w1 w2 from b2)
        clear b2 p0 p1
        have s0 : w2.cell? ⟨SB, 0, none⟩ = some (.slice A l.length c) := N2.out.cell (HBS.out.cell 0)
        have p0 : w2.cell? ⟨PB, 0, none⟩ = some (.int .i64 vars) := N2.out.cell (HBP.out.cell 0)
        have p1 : w2.cell? ⟨PB, 1, none⟩ = some (.slice kA ks.length kc) := N2.out.cell (HBP.out.cell 1)
        have KNEW := Lib.hid (new_ok vars kA ks kc me procs seed w2 (HK.out.keep (N1.out.step N2.out)) HOK.out.1 ⟨HAA.out.2.2.1, HAA.out.2.2.2⟩ ⟨HAA.out.1, HAA.out.2.1⟩)
        go_wp2_with fail
        refine KNEW.out.mono ?_
        rintro e w3 ⟨MB, kB, kd, rfl, hM, hKB, b3, hMB, hKF⟩
        have N3 := Lib.hid (N2.out.step b3)
        have HM := Lib.hid hM
        have HKB := Lib.hid hKB
        have p0 := Nw.cell b3 p0
        have p1 := Nw.cell b3 p1
        obtain ⟨QB, hQB⟩ : ∃ QB, w3.heap.size = QB := ⟨_, rfl⟩
        obtain ⟨w4, hw4⟩ : ∃ w4, w3.alloc (.cells #[.int .i64 vars, .slice kA ks.length kc, .int .i64 me, .int .i64 procs, .int .i64 seed] 30) = w4 := ⟨_, rfl⟩
        have HQ := Lib.hid hQB
        have HW4 := Lib.hid hw4
        have N4 := Lib.hid (by rw [← hw4]; exact (Nw.refl w3).alloc _ : Nw w3 w4)
        have HBQ := Lib.hid (by rw [← hw4]; exact Blk.last w3 _ _ hQB : Blk w4 QB 30 #[.int .i64 vars, .slice kA ks.length kc, .int .i64 me, .int .i64 procs, .int .i64 seed])
        clear hM hKB b3 hMB hKF s0 KNEW hQB hw4
        go_upto_region 5 with (fail)
        rw [HW4.out, HQ.out]
        obtain ⟨q0, q1, q2, q3, q4⟩ := blk5 HBQ.out
        clear p0 p1
        go_wp2_with fail
        refine (K2.out _ (N3.out.step N4.out)).mono ?_
        rintro e w5 ⟨rfl, b5⟩
        have N5 := Lib.hid (N4.out.step b5)
        have N45 := Lib.hid (show Nw w4 w5 from b5)
        clear b5 q0 q1 q2 q3 q4
        go_upto_region 9 with (fail)
        have s0 : w5.cell? ⟨SB, 0, none⟩ = some (.slice A l.length c) := (N3.out.step N5.out).cell (HBS.out.cell 0)
        have s1 : w5.cell? ⟨SB, 1, none⟩ = some (.int .i64 sent) := (N3.out.step N5.out).cell (HBS.out.cell 1)
        have s2 : w5.cell? ⟨SB, 2, none⟩ = some (.int .i64 drawn) := (N3.out.step N5.out).cell (HBS.out.cell 2)
        go_cut [16] (fun v wx => ∃ XB, v = .pointer (some ⟨XB, 0, none⟩) ∧ Hid (∃ vA vc VB, Nw w5 wx ∧ Blk wx XB 27 #[.slice vA l.length vc, .int .i64 sent, .int .i64 drawn] ∧ Own wx 2 1 (.slice vA l.length vc) l.length (ints l) VB))
        case first =>
          obtain ⟨i0, hi0, hz0, hz1, hz2⟩ := info_parts infoI
          have HL1 := Lib.hid hi0
          have HL2 := Lib.hid hz0
          have HL3 := Lib.hid hz1
          have HL4 := Lib.hid hz2
          have HSS := Lib.hid (fun W (h : Nw w5 W) => (⟨h, h.cell s0, h.cell s1, h.cell s2⟩ : Nw w5 W ∧ W.cell? ⟨SB, 0, none⟩ = some (.slice A l.length c) ∧ W.cell? ⟨SB, 1, none⟩ = some (.int .i64 sent) ∧ W.cell? ⟨SB, 2, none⟩ = some (.int .i64 drawn)))
          have HRD := Lib.hid (fun W (h : Nw w5 W) => (HA.out.keep fun p hp => Below.cell (N1.out.step ((N3.out.step N5.out).step h)) hp : Rd W A (ints l)))
          clear hi0 hz0 hz1 hz2
          go_region_held3 (fun W => Nw w5 W ∧ W.cell? ⟨SB, 0, none⟩ = some (.slice A l.length c) ∧ W.cell? ⟨SB, 1, none⟩ = some (.int .i64 sent) ∧ W.cell? ⟨SB, 2, none⟩ = some (.int .i64 drawn)) ((refine HSS.out _ ?_; repeat (first | assumption | exact Nw.refl w5 | refine Nw.drew ?_ | refine Nw.alloc ?_ _ | refine Nw.set ?_ (by first | exact Nat.le_refl _ | omega) _)))
            ((refine step_append_at _ (by rfl) _ _ _ (by rfl) 2 i0 _ 1 8 Try.underlying25 HL1.out HL2.out HL3.out HL4.out rfl (by omega) _ 0 [] none (by rfl) (Own.nil _ _ _) A l.length c (ints l) (by rfl) (by simp [ints]) (HRD.out _ (by first | assumption | exact (Nw.refl w5).drew | exact ((Nw.refl w5).alloc _).drew)) (ints_one _) (by simp only [maxLen]; omega) (by omega) ?_; intro A2 c2 w6 VB2 hown2 hchg hat2; have i6 : Nw w5 w6 := Nw.step (by first | assumption | exact (Nw.refl w5).drew | exact ((Nw.refl w5).alloc _).drew) (hchg.below (fun i hi e => (by cases e)) (Nat.le_refl _)); simp only [Nat.zero_add, List.nil_append] at hown2; try (have hbx : Blk w6 w5.heap.size 27 #[.slice none 0 0, .int .i64 0, .int .i64 0] := Blk.chg (by first | exact (Blk.last w5 _ _ rfl).drew | exact Blk.last w5 _ _ rfl) hchg (fun e => (by cases e))); try (have x0 : w6.cell? ⟨w5.heap.size, 0, none⟩ = some (.slice none 0 0) := hbx.cell 0); try (have x1 : w6.cell? ⟨w5.heap.size, 1, none⟩ = some (.int .i64 0) := hbx.cell 1); try (have x2 : w6.cell? ⟨w5.heap.size, 2, none⟩ = some (.int .i64 0) := hbx.cell 2); try (have z0 := hbx.frozen 0); try (have z1 := hbx.frozen 1); try (have z2 := hbx.frozen 2)))
          all_goals
            go_wp2_with fail
            go_meet
            first
              | exact ⟨_, rfl, Lib.hid ⟨A2, c2, VB2, i6.alloc _, Blk.last w6 _ _ rfl, hown2.kept (fun g e => Below.heap_alloc _ _ _ (hown2.lt g e))⟩⟩
              | exact ⟨_, rfl, Lib.hid ⟨A2, c2, VB2, ((i6.set (Nat.le_refl _) _).set (Nat.le_refl _) _).set (Nat.le_refl _) _, ((hbx.set_ 0 _).set_ 1 _).set_ 2 _, hown2.kept (fun g e => by
                  have hne : g ≠ w5.heap.size := by
                    rcases hat2 with h | h
                    · rw [h] at e; cases e
                    · rw [h] at e; injection e with e; simp at e; omega
                  rw [Below.heap_setCell _ _ _ _ hne, Below.heap_setCell _ _ _ _ hne, Below.heap_setCell _ _ _ _ hne])⟩⟩
        case rest =>
          obtain ⟨XB, rfl, HX⟩ := hcut
          obtain ⟨w6, hw6⟩ : ∃ w6, w6 = wc := ⟨_, rfl⟩
          subst hw6
          obtain ⟨vA, vc, VB, n6, hbX, hov⟩ := HX.out
          obtain ⟨_, _, hvA, hrv, _, _⟩ := hov.rd
          injection hvA with e1 _ e3
          subst e1 e3
          have HRV := Lib.hid hrv
          have N6 := Lib.hid (N5.out.step n6)
          have x0 : w6.cell? ⟨XB, 0, none⟩ = some (.slice vA l.length vc) := hbX.cell 0
          have x1 : w6.cell? ⟨XB, 1, none⟩ = some (.int .i64 sent) := hbX.cell 1
          have x2 : w6.cell? ⟨XB, 2, none⟩ = some (.int .i64 drawn) := hbX.cell 2
          have s0 := n6.cell s0
          have s1 := n6.cell s1
          have s2 := n6.cell s2
          have HBQ6 := Lib.hid (HBQ.out.below (N45.out.step n6) HBQ.out.lt)
          obtain ⟨m0, m1, m2, m3, m4⟩ := blk5 HBQ6.out
          have hst6 := Lib.hid (⟨x0, x1, x2, s0, s1, s2, m0, m1, m2, m3, m4⟩ : _ ∧ _ ∧ _ ∧ _ ∧ _ ∧ _ ∧ _ ∧ _ ∧ _ ∧ _ ∧ _)
          have N36 := Lib.hid (N3.out.step N6.out)
          have K16 := Lib.hid (fun W (g : Nw w6 W) => selfOf_any MB vars kB ks.length kd me procs seed W (HM.out.keep (N6.out.step g)))
          have K13 := Lib.hid (fun W (g : Nw w6 W) => mayState_any MB vars kB ks.length kd me procs seed W vA l.length vc sent drawn (HM.out.keep (N6.out.step g)) (by have := HAA.out; omega))
          obtain ⟨st, hst⟩ : ∃ st, stOk vars l.length sent drawn = st := ⟨_, rfl⟩
          rw [hst] at K13 K3
          have HST := Lib.hid hst
          have gst : (st != st) = false := by simp
          have gme : (me != me) = false := by simp
          have HSS := Lib.hid (fun W (h : Nw w6 W) => (⟨h, h.cell x0, h.cell x1, h.cell x2, h.cell s0, h.cell s1, h.cell s2, h.cell m0, h.cell m1, h.cell m2, h.cell m3, h.cell m4⟩ : Nw w6 W ∧ W.cell? ⟨XB, 0, none⟩ = some (.slice vA l.length vc) ∧ W.cell? ⟨XB, 1, none⟩ = some (.int .i64 sent) ∧ W.cell? ⟨XB, 2, none⟩ = some (.int .i64 drawn) ∧ W.cell? ⟨SB, 0, none⟩ = some (.slice A l.length c) ∧ W.cell? ⟨SB, 1, none⟩ = some (.int .i64 sent) ∧ W.cell? ⟨SB, 2, none⟩ = some (.int .i64 drawn) ∧ W.cell? ⟨QB, 0, none⟩ = some (.int .i64 vars) ∧ W.cell? ⟨QB, 1, none⟩ = some (.slice kA ks.length kc) ∧ W.cell? ⟨QB, 2, none⟩ = some (.int .i64 me) ∧ W.cell? ⟨QB, 3, none⟩ = some (.int .i64 procs) ∧ W.cell? ⟨QB, 4, none⟩ = some (.int .i64 seed)))
          clear hst n6 hbX hov hrv HX K1 K2 g20 g1
          go_upto_region 10 with (fail)
          go_cut [78] (fun v wx => v = .bool false ∧ Hid (Nw w6 wx))
          case first =>
            (first | go_region_held3 (fun W => Nw w6 W ∧ W.cell? ⟨XB, 0, none⟩ = some (.slice vA l.length vc) ∧ W.cell? ⟨XB, 1, none⟩ = some (.int .i64 sent) ∧ W.cell? ⟨XB, 2, none⟩ = some (.int .i64 drawn) ∧ W.cell? ⟨SB, 0, none⟩ = some (.slice A l.length c) ∧ W.cell? ⟨SB, 1, none⟩ = some (.int .i64 sent) ∧ W.cell? ⟨SB, 2, none⟩ = some (.int .i64 drawn) ∧ W.cell? ⟨QB, 0, none⟩ = some (.int .i64 vars) ∧ W.cell? ⟨QB, 1, none⟩ = some (.slice kA ks.length kc) ∧ W.cell? ⟨QB, 2, none⟩ = some (.int .i64 me) ∧ W.cell? ⟨QB, 3, none⟩ = some (.int .i64 procs) ∧ W.cell? ⟨QB, 4, none⟩ = some (.int .i64 seed)) ((refine HSS.out _ ?_; repeat (first | assumption | exact Nw.refl w6 | refine Nw.drew ?_))) (first
              | (go_at_call 16; refine (K16.out _ (by first | assumption | exact (Nw.refl w6).drew)).mono ?_; rintro e wz ⟨rfl, rfl⟩)
              | (go_at_call 13; refine (K13.out _ (by first | assumption | exact (Nw.refl w6).drew)).mono ?_; rintro e wz ⟨rfl, bz⟩; have iz := Nw.step (by first | assumption | exact (Nw.refl w6).drew) bz)
              | (go_at_call 8; refine (K3.out _).mono ?_; rintro e wv ⟨rfl, bv⟩; have iv := Nw.step (by assumption) bv)) | fail)
            all_goals
              go_wp2_with fail
              go_meet
              exact ⟨rfl, Lib.hid iv⟩
          case rest =>
            obtain ⟨rfl, H7⟩ := hcut
            obtain ⟨w7, hw7⟩ : ∃ w7, w7 = wc := ⟨_, rfl⟩
            subst hw7
            have N7 := Lib.hid (N6.out.step H7.out)
            obtain ⟨_, y0, y1, y2, _⟩ := HSS.out _ H7.out
            have hbE := HBE.out.below (N3.out.step N7.out) HBE.out.lt
            have e0 : w7.cell? ⟨EB, 0, none⟩ = some (.int .i64 T) := hbE.cell 0
            have e1 : w7.cell? ⟨EB, 1, none⟩ = some (.int .i64 O) := hbE.cell 1
            have e2 : w7.cell? ⟨EB, 2, none⟩ = some (.int .i64 S) := hbE.cell 2
            have e3 : w7.cell? ⟨EB, 3, none⟩ = some (.int .i64 p) := hbE.cell 3
            have e4 : w7.cell? ⟨EB, 4, none⟩ = some (.int .i64 q) := hbE.cell 4
            have e5 : w7.cell? ⟨EB, 5, none⟩ = some (.int .i64 d) := hbE.cell 5
            obtain ⟨⟨s, err⟩, hfin⟩ : ∃ fin, runB vars me procs seed (nk ks) T O S p q d l sent drawn = fin := ⟨_, rfl⟩
            have KR := Lib.hid (run_any MB vars kB ks kd me procs seed vA l vc sent drawn T O S p q d w7 (HM.out.keep N7.out) (HKB.out.keep N7.out) HOK.out.1 HOK.out.2 (HRV.out.keep fun p hp => Below.cell H7.out hp))
            have KG := Lib.hid (fun W (g : Nw w1 W) => refRun_any vars kA ks kc me procs seed A l c sent drawn T O S p q d W (HK.out.keep (N1.out.step g)) HOK.out.1 HOK.out.2 (HA.out.keep fun p hp => Below.cell (N1.out.step g) hp))
            rw [hfin] at KR KG
            have hsm := runB_small vars me procs seed (nk ks) T O S p q d l sent drawn (by omega)
            rw [hfin] at hsm
            have HSM := Lib.hid hsm
            have N17 := Lib.hid (N3.out.step N7.out)
            have N67 := H7
            clear hbE hfin hsm x0 x1 x2 s0 s1 s2 m0 m1 m2 m3 m4
            go_wp2_with fail
            refine KR.out.mono ?_
            rintro e w8 ⟨xA, xc, sA, sc, tA, tc, rfl, hx, b8⟩
            obtain ⟨SX, hSX⟩ : ∃ SX, w8.heap.size = SX := ⟨_, rfl⟩
            obtain ⟨w9, hw9⟩ : ∃ w9, w8.alloc (.cells #[.slice xA s.vars.length xc, .int .i64 s.sent, .int .i64 s.drawn, .slice sA s.sends.length sc, .slice tA s.tells.length tc] 41) = w9 := ⟨_, rfl⟩
            have n89 : Nw w8 w9 := by rw [← hw9]; exact (Nw.refl w8).alloc _
            have HBX9 := Lib.hid (by rw [← hw9]; exact Blk.last w8 _ _ hSX : Blk w9 SX 41 #[.slice xA s.vars.length xc, .int .i64 s.sent, .int .i64 s.drawn, .slice sA s.sends.length sc, .slice tA s.tells.length tc])
            have HX9 := Lib.hid (hx.keep n89)
            have N79 := Lib.hid ((show Nw w7 w8 from b8).step n89)
            have HW9 := Lib.hid hw9
            have HS9 := Lib.hid hSX
            clear hx b8 n89 hw9 hSX y0 y1 y2 e0 e1 e2 e3 e4 e5
            go_upto_region 13 with (fail)
            rw [HW9.out, HS9.out]
            have n69 := N67.out.step N79.out
            have s0 : w9.cell? ⟨SB, 0, none⟩ = some (.slice A l.length c) := n69.cell hst6.out.2.2.2.1
            have s1 : w9.cell? ⟨SB, 1, none⟩ = some (.int .i64 sent) := n69.cell hst6.out.2.2.2.2.1
            have s2 : w9.cell? ⟨SB, 2, none⟩ = some (.int .i64 drawn) := n69.cell hst6.out.2.2.2.2.2.1
            obtain ⟨m0, m1, m2, m3, m4⟩ := blk5 (HBQ6.out.below n69 HBQ6.out.lt)
            have hbE := HBE.out.below (N17.out.step N79.out) HBE.out.lt
            have e0 : w9.cell? ⟨EB, 0, none⟩ = some (.int .i64 T) := hbE.cell 0
            have e1 : w9.cell? ⟨EB, 1, none⟩ = some (.int .i64 O) := hbE.cell 1
            have e2 : w9.cell? ⟨EB, 2, none⟩ = some (.int .i64 S) := hbE.cell 2
            have e3 : w9.cell? ⟨EB, 3, none⟩ = some (.int .i64 p) := hbE.cell 3
            have e4 : w9.cell? ⟨EB, 4, none⟩ = some (.int .i64 q) := hbE.cell 4
            have e5 : w9.cell? ⟨EB, 5, none⟩ = some (.int .i64 d) := hbE.cell 5
            have N69 := Lib.hid n69
            have N19 := Lib.hid (N17.out.step N79.out)
            clear hbE n69
            go_wp2_with fail
            refine (KG.out _ N19.out).mono ?_
            rintro e w10 ⟨yA, yc, uA, uc, vvA, vvc, rfl, hy, b10⟩
            obtain ⟨SY, hSY⟩ : ∃ SY, w10.heap.size = SY := ⟨_, rfl⟩
            obtain ⟨w11, hw11⟩ : ∃ w11, w10.alloc (.cells #[.slice yA s.vars.length yc, .int .i64 s.sent, .int .i64 s.drawn, .slice uA s.sends.length uc, .slice vvA s.tells.length vvc] 41) = w11 := ⟨_, rfl⟩
            have n1011 : Nw w10 w11 := by rw [← hw11]; exact (Nw.refl w10).alloc _
            have HBY := Lib.hid (by rw [← hw11]; exact Blk.last w10 _ _ hSY : Blk w11 SY 41 #[.slice yA s.vars.length yc, .int .i64 s.sent, .int .i64 s.drawn, .slice uA s.sends.length uc, .slice vvA s.tells.length vvc])
            have HY := Lib.hid (hy.keep n1011)
            have N911 := Lib.hid ((show Nw w9 w10 from b10).step n1011)
            have HW11 := Lib.hid hw11
            have HS11 := Lib.hid hSY
            clear hy b10 n1011 hw11 hSY s0 s1 s2 m0 m1 m2 m3 m4 e0 e1 e2 e3 e4 e5
            go_upto_region 14 with (fail)
            rw [HW11.out, HS11.out]
            have hx11 := HX9.out.keep N911.out
            have hsm := HSM.out
            have KS := Lib.hid (same_yes w11 xA yA sA uA tA vvA xc yc sc uc tc vvc s hx11.1 HY.out.1 hx11.2.1 HY.out.2.1 hx11.2.2.1 HY.out.2.2.1 hx11.2.2.2.1 hx11.2.2.2.2.1 hsm.1 hsm.2.1 hsm.2.2)
            obtain ⟨x0, x1, x2, x3, x4⟩ := blk5 (HBX9.out.below N911.out HBX9.out.lt)
            obtain ⟨y0, y1, y2, y3, y4⟩ := blk5 HBY.out
            have ger : (err == err) = true := by simp
            clear hx11 hsm
            go_wp2_with fail
            refine KS.out.mono ?_
            rintro e w12 ⟨rfl, b12⟩
            have n612 := (N69.out.step N911.out).step b12
            have s0 : w12.cell? ⟨SB, 0, none⟩ = some (.slice A l.length c) := n612.cell hst6.out.2.2.2.1
            have s1 : w12.cell? ⟨SB, 1, none⟩ = some (.int .i64 sent) := n612.cell hst6.out.2.2.2.2.1
            have s2 : w12.cell? ⟨SB, 2, none⟩ = some (.int .i64 drawn) := n612.cell hst6.out.2.2.2.2.2.1
            have z0 : w12.cell? ⟨XB, 0, none⟩ = some (.slice vA l.length vc) := n612.cell hst6.out.1
            have z1 : w12.cell? ⟨XB, 1, none⟩ = some (.int .i64 sent) := n612.cell hst6.out.2.1
            have z2 : w12.cell? ⟨XB, 2, none⟩ = some (.int .i64 drawn) := n612.cell hst6.out.2.2.1
            have N112 := Lib.hid ((N19.out.step N911.out).step b12)
            have KST := Lib.hid (sameState_yes w12 vA A vc c l sent drawn (HRV.out.keep fun p hp => Below.cell n612 hp) (HA.out.keep fun p hp => Below.cell (N1.out.step N112.out) hp) (by omega))
            clear b12 n612 x0 x1 x2 x3 x4 y0 y1 y2 y3 y4
            go_wp2_with fail
            refine KST.out.mono ?_
            rintro e w13 ⟨rfl, b13⟩
            have N13 := Lib.hid (N112.out.step b13)
            clear b13 s0 s1 s2 z0 z1 z2
            go_wp2_with fail
            refine (known_any _).mono ?_
            rintro e w9 ⟨rfl, b9⟩
            have N9 := Lib.hid (N13.out.step b9)
            clear b9
            go_wp2_with fail
            go_ret
            exact ⟨rfl, N1.out.step N9.out⟩
end
end Go.Proofs.Ytpbapemgonidbaa
