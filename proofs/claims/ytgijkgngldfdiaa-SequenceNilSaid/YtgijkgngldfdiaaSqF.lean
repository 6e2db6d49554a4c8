/- A step of a sequence in which nothing waits. Helper. -/
import Derived.Test.YtgijkgngldfdiaaSqN
import Derived.Test.YtgijkgngldfdiaaSqC
import Derived.Test.YtgijkgngldfdiaaSqB
namespace Go.Proofs.Ytgijkgngldfdiaa
open Go.RowKit
set_option linter.unusedVariables false
set_option linter.unusedSimpArgs false
def clockM : Mdl := ⟨[⟨0, [[(1, 0), (1, 10), (1, 1), (15, 0)]], [], 0⟩], [⟨⟨0, 0, 0⟩, 1, 0, 0⟩]⟩
def ek : Nat → Ev
  | 0 => ⟨⟨0, 0, 0⟩, 1, 0, 0⟩
  | k + 1 => ⟨⟨10 * ((k : Int) + 1), 1, (k : Int)⟩, 1, 0, 0⟩
def sk : Nat → Sq
  | 0 => clockM.start
  | k + 1 => clockM.after (sk k) (ek k) []
theorem sk_all : (sk 0).w = [ek 0] ∧ (sk 1).w = [ek 1] ∧ (sk 2).w = [ek 2] ∧ (sk 3).w = [ek 3] ∧ (clockM.run (sk 0) (ek 0)).1.tells = [] ∧ (clockM.run (sk 1) (ek 1)).1.tells = [] ∧ (clockM.run (sk 2) (ek 2)).1.tells = [] :=
  ⟨by kernel_rfl, by kernel_rfl, by kernel_rfl, by kernel_rfl, by kernel_rfl, by kernel_rfl, by kernel_rfl⟩
theorem sk_w (k : Nat) (h : k ≤ 3) : (sk k).w = [ek k] := by
  obtain ⟨h0, h1, h2, h3, _⟩ := sk_all
  have : k = 0 ∨ k = 1 ∨ k = 2 ∨ k = 3 := by omega
  rcases this with rfl | rfl | rfl | rfl <;> assumption
theorem sk_tells (k : Nat) (h : k < 3) : (clockM.run (sk k) (ek k)).1.tells = [] := by
  obtain ⟨_, _, _, _, h0, h1, h2⟩ := sk_all
  have : k = 0 ∨ k = 1 ∨ k = 2 := by omega
  rcases this with rfl | rfl | rfl <;> assumption
theorem sk_done : ∀ k, (sk k).done = k
  | 0 => rfl
  | k + 1 => by show (sk k).done + 1 = k + 1; rw [sk_done k]
theorem ek_T (k : Nat) : (ek k).k.T = 10 * (k : Int) := by
  cases k with
  | zero => rfl
  | succ k => show 10 * ((k : Int) + 1) = _; omega
theorem clock_may : clockM.May := by
  refine ⟨by decide, by decide, by decide, fun p hp => ?_, fun i hi => ?_⟩
  · have : p = ⟨0, [[(1, 0), (1, 10), (1, 1), (15, 0)]], [], 0⟩ := by simpa [clockM] using hp
    subst this
    decide
  · have : i = 0 := by simp [clockM] at hi; omega
    subst this
    show firstB 1 ⟨⟨0, 0, 0⟩, 1, 0, 0⟩ 0 = true
    decide
section
set_option maxRecDepth 100000
set_option maxHeartbeats 3200000
theorem clock_any (w : World) : Calls Try.prog 27 #[] w fun e w' => ∃ pA fA pc fc, e = .returned (.agg #[.slice pA 1 pc, .slice fA 1 fc]) ∧ MAt w' clockM pA fA ∧ Nw w w' := by
  obtain ⟨w1, hw1⟩ : ∃ w1, w.alloc (.cells #[.slice none 0 0, .slice none 0 0] 25) = w1 := ⟨_, rfl⟩
  obtain ⟨w2, hw2⟩ : ∃ w2, w1.alloc (.cells #[.int .i64 1, .int .i64 0, .int .i64 1, .int .i64 10, .int .i64 1, .int .i64 1, .int .i64 15, .int .i64 0] 110) = w2 := ⟨_, rfl⟩
  obtain ⟨w3, hw3⟩ : ∃ w3, w2.alloc (.cells #[.slice (some ⟨w1.heap.size, 0, none⟩) 4 4] 107) = w3 := ⟨_, rfl⟩
  obtain ⟨w4, hw4⟩ : ∃ w4, w3.alloc (.cells #[.int .i64 0, .slice (some ⟨w2.heap.size, 0, none⟩) 1 1, .slice none 0 0, .int .i64 0] 79) = w4 := ⟨_, rfl⟩
  obtain ⟨w5, hw5⟩ : ∃ w5, w4.alloc (.cells #[.int .i64 0, .int .i64 0, .int .i64 0, .int .i64 1, .int .i64 0, .int .i64 0] 44) = w5 := ⟨_, rfl⟩
  have n2 : Nw w1 w2 := by rw [← hw2]; exact (Nw.refl w1).alloc _
  have n3 : Nw w2 w3 := by rw [← hw3]; exact (Nw.refl w2).alloc _
  have n4 : Nw w3 w4 := by rw [← hw4]; exact (Nw.refl w3).alloc _
  have n5 : Nw w4 w5 := by rw [← hw5]; exact (Nw.refl w4).alloc _
  have b0 : Blk w1 w.heap.size 25 #[.slice none 0 0, .slice none 0 0] := by rw [← hw1]; exact Blk.last w _ _ rfl
  have b1 : Blk w2 w1.heap.size 110 #[.int .i64 1, .int .i64 0, .int .i64 1, .int .i64 10, .int .i64 1, .int .i64 1, .int .i64 15, .int .i64 0] := by rw [← hw2]; exact Blk.last w1 _ _ rfl
  have b2 : Blk w3 w2.heap.size 107 #[.slice (some ⟨w1.heap.size, 0, none⟩) 4 4] := by rw [← hw3]; exact Blk.last w2 _ _ rfl
  have b3 : Blk w4 w3.heap.size 79 #[.int .i64 0, .slice (some ⟨w2.heap.size, 0, none⟩) 1 1, .slice none 0 0, .int .i64 0] := by rw [← hw4]; exact Blk.last w3 _ _ rfl
  have b4 : Blk w5 w4.heap.size 44 #[.int .i64 0, .int .i64 0, .int .i64 0, .int .i64 1, .int .i64 0, .int .i64 0] := by rw [← hw5]; exact Blk.last w4 _ _ rfl
  have b05 : Blk w5 w.heap.size 25 #[.slice none 0 0, .slice none 0 0] := (((b0.below n2 b0.lt).below n3 (Nat.lt_of_lt_of_le b0.lt n2.size)).below n4 (Nat.lt_of_lt_of_le b0.lt (Nat.le_trans n2.size n3.size))).below n5 (Nat.lt_of_lt_of_le b0.lt (Nat.le_trans n2.size (Nat.le_trans n3.size n4.size)))
  have B1 := ((b1.below n3 b1.lt).below n4 (Nat.lt_of_lt_of_le b1.lt n3.size)).below n5 (Nat.lt_of_lt_of_le b1.lt (Nat.le_trans n3.size n4.size))
  have B2 := (b2.below n4 b2.lt).below n5 (Nat.lt_of_lt_of_le b2.lt n4.size)
  have B3 := b3.below n5 b3.lt
  have hs1 : w1.heap.size = w.heap.size + 1 := by rw [← hw1]; simp
  have n01 : Nw w w1 := by rw [← hw1]; exact (Nw.refl w).alloc _
  have n05 : Nw w w5 := (((n01.step n2).step n3).step n4).step n5
  have s2 := n2.size
  have s3 := n3.size
  have s4 := n4.size
  have hres : ∀ x y, MAt ((w5.setCell ⟨w.heap.size, 0, none⟩ x).setCell ⟨w.heap.size, 1, none⟩ y) clockM (some ⟨w3.heap.size, 0, none⟩) (some ⟨w4.heap.size, 0, none⟩) ∧ Nw w ((w5.setCell ⟨w.heap.size, 0, none⟩ x).setCell ⟨w.heap.size, 1, none⟩ y) := fun x y => by
    have C1 := (B1.far (p := ⟨w.heap.size, 0, none⟩) (show w1.heap.size ≠ w.heap.size by omega) x).far (p := ⟨w.heap.size, 1, none⟩) (show w1.heap.size ≠ w.heap.size by omega) y
    have C2 := (B2.far (p := ⟨w.heap.size, 0, none⟩) (show w2.heap.size ≠ w.heap.size by omega) x).far (p := ⟨w.heap.size, 1, none⟩) (show w2.heap.size ≠ w.heap.size by omega) y
    have C3 := (B3.far (p := ⟨w.heap.size, 0, none⟩) (show w3.heap.size ≠ w.heap.size by omega) x).far (p := ⟨w.heap.size, 1, none⟩) (show w3.heap.size ≠ w.heap.size by omega) y
    have C4 := (b4.far (p := ⟨w.heap.size, 0, none⟩) (show w4.heap.size ≠ w.heap.size by omega) x).far (p := ⟨w.heap.size, 1, none⟩) (show w4.heap.size ≠ w.heap.size by omega) y
    refine ⟨⟨.inr ⟨w3.heap.size, 0, rfl, fun i hi => ?_⟩, .inr ⟨w4.heap.size, 0, rfl, fun j u hu => ?_⟩, by decide, by decide⟩, (n05.set (Nat.le_refl _) _).set (Nat.le_refl _) _⟩
    · have : i = 0 := by simp [clockM] at hi; omega
      subst this
      refine ⟨C3.cell 0, ⟨some ⟨w2.heap.size, 0, none⟩, 1, C3.cell 1, .inr ⟨w2.heap.size, 0, rfl, fun i hi => ?_⟩⟩, ⟨none, 0, C3.cell 2, .inl rfl⟩, C3.cell 3, by simp [clockM, maxLen], by simp [clockM, maxLen]⟩
      have : i = 0 := by simp [clockM] at hi; omega
      subst this
      refine ⟨some ⟨w1.heap.size, 0, none⟩, 4, C2.cell 0, .inr ⟨w1.heap.size, 0, rfl, fun j hj => ?_⟩, by simp [clockM, maxLen]⟩
      have hj4 : j < 4 := hj
      have : j = 0 ∨ j = 1 ∨ j = 2 ∨ j = 3 := by omega
      rcases this with rfl | rfl | rfl | rfl
      · exact ⟨C1.cell 0, C1.cell 1⟩
      · exact ⟨C1.cell 2, C1.cell 3⟩
      · exact ⟨C1.cell 4, C1.cell 5⟩
      · exact ⟨C1.cell 6, C1.cell 7⟩
    · rw [C4.cell, Nat.zero_add]
      simpa [clockM, rows, ints, Ev.row] using hu
  have z0 : w5.cell? ⟨w.heap.size, 0, none⟩ = some (.slice none 0 0) := b05.cell 0
  have z1 : w5.cell? ⟨w.heap.size, 1, none⟩ = some (.slice none 0 0) := b05.cell 1
  have f0 := b05.frozen 0
  have f1 := b05.frozen 1
  have H1 := Lib.hid hw1
  have H2 := Lib.hid hw2
  have H3 := Lib.hid hw3
  have H4 := Lib.hid hw4
  have H5 := Lib.hid hw5
  have HR := Lib.hid hres
  clear hw1 hw2 hw3 hw4 hw5 hres b0 b1 b2 b3 b4 B1 B2 B3 n2 n3 n4 n5 hs1 n01 n05 s2 s3 s4 b05
  go_enter Try.func27, Try.ntmps27
  go_upto_region 1 with (fail)
  rw [H1.out]
  go_upto_region 2 with (fail)
  rw [H2.out]
  have e3 := H3.out
  have e4 := H4.out
  have e5 := H5.out
  subst e3
  subst e4
  subst e5
  go_wp2_with fail
  refine bodyPost_ret (v := .agg #[.slice (some ⟨w2.heap.size + 1, 0, none⟩) 1 1, .slice (some ⟨w2.heap.size + 1 + 1, 0, none⟩) 1 1]) (by simp [results, Try.results27, go_sem, z0, z1]) rfl ?_
  have hr := HR.out (.slice (some ⟨w2.heap.size + 1, 0, none⟩) 1 1) (.slice (some ⟨w2.heap.size + 1 + 1, 0, none⟩) 1 1)
  simp only [World.size_alloc] at hr
  exact ⟨_, _, ⟨1, 1, rfl⟩, hr.1, hr.2⟩
/-- A sequence of the clock, so many steps on. -/
def ClockAt (w : World) (k SB : Nat) (W : World) : Prop := ∃ p ws, PSeq W p clockM (sk k) ws ∧ p.SB = SB ∧ Nw w W ∧ ∀ g, p.T g → w.heap.size ≤ g
set_option maxHeartbeats 6400000
theorem known_any (w : World) : Calls Try.prog 7 #[] w fun e w' => e = .returned (.bool true) ∧ Nw w w' := by
  have KC := Lib.hid (clock_any w)
  go_enter Try.func7, Try.ntmps7
  go_wp2_with fail
  refine KC.out.mono ?_
  rintro x w1 ⟨pA, fA, pc, fc, rfl, hM, n1⟩
  have KN := Lib.hid (seqNew_any clockM pA fA pc fc w1 hM clock_may (fun i hi => by
    have : i = 0 := by simp [clockM] at hi; omega
    subst this
    simp [clockM]))
  rw [show clockM.procs.length = 1 from rfl, show clockM.first.length = 1 from rfl] at KN
  have N1 := Lib.hid n1
  clear hM n1 KC
  go_wp2_with fail
  refine KN.out.mono ?_
  rintro x w2 ⟨p, ws, rfl, hp, n2, hlow, hU⟩
  obtain ⟨SB, hSB⟩ : ∃ SB, p.SB = SB := ⟨_, rfl⟩
  have HC : Hid (ClockAt w 0 SB w2) := Lib.hid ⟨p, ws, hp, hSB, N1.out.step n2, fun g q => Nat.le_trans N1.out.size (hlow g q)⟩
  rw [hSB]
  clear hp n2 hlow hU hSB KN
  go_wp2_with fail
  go_loopw [3] (fun i wr => ∃ k : Nat, k ≤ 3 ∧ i = .int .i64 k ∧ Hid (ClockAt w k SB wr)) (fun i _ => 3 - (intOf i).toNat)
  case atStart => exact ⟨0, Nat.zero_le _, rfl, HC⟩
  case round =>
    obtain ⟨k, hk, rfl, HI⟩ := hrel
    by_cases hlt : k < 3
    · have g1 : (k : Int) < 3 := by omega
      obtain ⟨p, ws, hp, hSB, hnw, hlow⟩ := HI.out
      have hw1 := sk_w k hk
      have hperm := hp.twin.perm
      rw [hw1] at hperm
      have hws : ws = [ek k] := List.perm_singleton.1 hperm
      subst hws
      have KS := seqStep_any p clockM (sk k) (ek k) [] [] wr hp (by rw [hw1]) (by rw [sk_done]; omega) (by rw [hw1]; simp)
      rw [hSB] at KS
      have HKS := Lib.hid KS
      have HNW := Lib.hid hnw
      have HLW := Lib.hid hlow
      have HSB := Lib.hid hSB
      have hT := ek_T k
      have HT := Lib.hid hT
      clear KS hp hperm hnw hlow hSB hw1 hT HI
      go_wp2_with fail
      refine HKS.out.mono ?_
      rintro x w3 ⟨p', tA, tc, rfl, hps, e1, e2, hch, hT', hrd, htl⟩
      obtain ⟨tl, htel⟩ : ∃ tl, (clockM.run (sk k) (ek k)).1.tells.length = tl := ⟨_, rfl⟩
      have htl0 : tl = 0 := by rw [← htel, sk_tells k hlt]; rfl
      rw [htel]
      subst htl0
      unfold ev6
      obtain ⟨EB, hEB⟩ : ∃ EB, w3.heap.size = EB := ⟨_, rfl⟩
      obtain ⟨T, hTT⟩ : ∃ T, (ek k).k.T = T := ⟨_, rfl⟩
      obtain ⟨w4, hw4⟩ : ∃ w4, w3.alloc (.cells #[.int .i64 T, .int .i64 (ek k).k.O, .int .i64 (ek k).k.S, .int .i64 (ek k).p, .int .i64 (ek k).q, .int .i64 (ek k).d] 44) = w4 := ⟨_, rfl⟩
      have hbE : Blk w4 EB 44 #[.int .i64 T, .int .i64 (ek k).k.O, .int .i64 (ek k).k.S, .int .i64 (ek k).p, .int .i64 (ek k).q, .int .i64 (ek k).d] := by rw [← hw4]; exact Blk.last w3 _ _ hEB
      have n34 : Nw w3 w4 := by rw [← hw4]; exact (Nw.refl w3).alloc _
      have hps4 : PSeq w4 p' clockM (sk (k + 1)) _ := hps.new n34
      have KF := floor_any p' clockM _ _ w4 hps4
      have hlast : (sk (k + 1)).last.T = 10 * (k : Int) := HT.out
      rw [hlast, e1, HSB.out] at KF
      have HKF := Lib.hid KF
      have HC4 : Hid (ClockAt w (k + 1) SB w4) := Lib.hid ⟨p', _, hps4, e1.trans HSB.out, Below.trans HNW.out (hch.below (fun i _ q => HLW.out i q) HNW.out.size) |> fun h => Nw.step h n34, fun g q => (hT' g q).elim (HLW.out g) fun q => Nat.le_trans HNW.out.size q⟩
      have e0 : w4.cell? ⟨EB, 0, none⟩ = some (.int .i64 T) := hbE.cell 0
      have HEB := Lib.hid hEB
      have HW4 := Lib.hid hw4
      have HTT := Lib.hid (hTT.symm.trans HT.out)
      rw [hTT]
      have wm : IntKind.i64.wrap (10 * (k : Int)) = 10 * (k : Int) := IntWalk.i64_in _ (by constructor <;> omega)
      have g2 : (T == 10 * (k : Int)) = true := beq_iff_eq.2 HTT.out
      clear KF hps4 hlast n34 hbE hps hch hT' hrd htl e1 e2 hEB hw4 hTT htel HT
      go_upto_region 8 with (fail)
      rw [HW4.out, HEB.out]
      go_wp2_with fail
      refine HKF.out.mono ?_
      rintro x wq ⟨rfl, hq⟩
      rw [hq]
      clear hq wq
      go_wp2_with fail
      go_roundw
      case rel => exact ⟨k + 1, by omega, by go_num, HC4⟩
      case measure => simp [intOf]; omega
    · have hk3 : k = 3 := by omega
      subst hk3
      obtain ⟨p, ws, hp, hSB, hnw, hlow⟩ := HI.out
      have KD := done_any p clockM _ _ wr hp
      have KW := waits_any p clockM _ _ wr hp
      rw [sk_done, hSB] at KD
      rw [sk_w 3 (by omega), hSB] at KW
      have HKD := Lib.hid KD
      have HKW := Lib.hid KW
      have HNW := Lib.hid hnw
      clear KD KW hp hSB hnw hlow HI
      go_wp2_with fail
      refine HKD.out.mono ?_
      rintro x wq ⟨rfl, hq⟩
      rw [hq]
      clear hq wq
      go_wp2_with fail
      refine HKW.out.mono ?_
      rintro x wq ⟨rfl, hq⟩
      rw [hq]
      clear hq wq
      go_wp2_with fail
      go_ret
      exact ⟨rfl, HNW.out⟩
end
end Go.Proofs.Ytgijkgngldfdiaa
/- A step of a sequence in which nothing waits. Helper. -/
namespace Go.Proofs.Ytgijkgngldfdiaa
open Go.RowKit
set_option linter.unusedVariables false
set_option linter.unusedSimpArgs false
section
variable (p : PMem) (m : Mdl) (s : Sq) (w : World)
set_option maxRecDepth 100000
set_option maxHeartbeats 1600000
theorem seqStepNo_any (h : PSeq w p m s []) :
    Calls Try.prog 17 #[.pointer (some ⟨p.SB, 0, none⟩)] w fun r w' => r = .returned (.tuple #[ev6 evZ, .slice none 0 0, .int .i64 6]) ∧ Nw w w' := by
  have HPS := Lib.hid h
  obtain ⟨w1, hw1⟩ : ∃ w1, w.alloc (.cells #[.int .i64 0, .int .i64 0, .int .i64 0, .int .i64 0, .int .i64 0, .int .i64 0] 44) = w1 := ⟨_, rfl⟩
  have n1 : Nw w w1 := by rw [← hw1]; exact (Nw.refl w).alloc _
  obtain ⟨OB, hOB⟩ : ∃ OB, w.heap.size = OB := ⟨_, rfl⟩
  have hbO : Blk w1 OB 44 #[.int .i64 0, .int .i64 0, .int .i64 0, .int .i64 0, .int .i64 0, .int .i64 0] := by rw [← hw1]; exact Blk.last w _ _ hOB
  have HW1 := Lib.hid hw1
  have HOB := Lib.hid hOB
  have HBO := Lib.hid hbO
  have N1 := Lib.hid n1
  have HK1 := Lib.hid (next_any p m s [] w1 (h.new n1))
  clear h hw1 n1 hOB hbO
  go_enter Try.func17, Try.ntmps17
  go_upto_region 1 with (fail)
  rw [HW1.out, HOB.out]
  go_wp2_with fail
  refine HK1.out.mono ?_
  rintro r w2 ⟨rfl, b2⟩
  obtain ⟨EB, hEB⟩ : ∃ EB, w2.heap.size = EB := ⟨_, rfl⟩
  obtain ⟨w3, hw3⟩ : ∃ w3, w2.alloc (.cells #[.int .i64 0, .int .i64 0, .int .i64 0, .int .i64 0, .int .i64 0, .int .i64 0] 44) = w3 := ⟨_, rfl⟩
  have n13 : Nw w1 w3 := by rw [← hw3]; exact (show Nw w1 w2 from b2).alloc _
  have hbO3 := HBO.out.below n13 HBO.out.lt
  have HW3 := Lib.hid hw3
  have HEB := Lib.hid hEB
  have hem : (!([] : List Ev).isEmpty) = false := rfl
  have hhd : ([] : List Ev).headD evZ = evZ := rfl
  rw [hem, hhd]
  unfold ev6 evZ
  have n03 : Nw w w3 := N1.out.step n13
  have N03 := Lib.hid n03
  have HK2 := Lib.hid (seqNone_any p m s [] w3 (HPS.out.new n03))
  have z0 : w3.cell? ⟨OB, 0, none⟩ = some (.int .i64 0) := hbO3.cell 0
  have z1 : w3.cell? ⟨OB, 1, none⟩ = some (.int .i64 0) := hbO3.cell 1
  have z2 : w3.cell? ⟨OB, 2, none⟩ = some (.int .i64 0) := hbO3.cell 2
  have z3 : w3.cell? ⟨OB, 3, none⟩ = some (.int .i64 0) := hbO3.cell 3
  have z4 : w3.cell? ⟨OB, 4, none⟩ = some (.int .i64 0) := hbO3.cell 4
  have z5 : w3.cell? ⟨OB, 5, none⟩ = some (.int .i64 0) := hbO3.cell 5
  obtain ⟨f0, f1, f2, f3, f4, f5⟩ := frz6 hbO3
  clear b2 hw3 hEB n13 HK1 hem hhd n03 hbO3
  dsimp only
  go_upto_region 2 with (fail)
  rw [HW3.out, HEB.out]
  go_wp2_with fail
  refine HK2.out.mono ?_
  rintro r wq ⟨rfl, hq⟩
  rw [hq]
  clear hq wq HK2
  go_wp2_with fail
  refine bodyPost_ret (v := .tuple #[ev6 evZ, .slice none 0 0, .int .i64 6]) (by simp [results, Try.results17, go_sem, z0, z1, z2, z3, z4, z5, ev6, evZ]) rfl ?_
  have hx : w.heap.size ≤ OB := Nat.le_of_eq HOB.out
  exact ⟨rfl, (((((N03.out.set (p := ⟨OB, 0, none⟩) hx _).set (p := ⟨OB, 1, none⟩) hx _).set (p := ⟨OB, 2, none⟩) hx _).set (p := ⟨OB, 3, none⟩) hx _).set (p := ⟨OB, 4, none⟩) hx _).set (p := ⟨OB, 5, none⟩) hx _⟩
end
end Go.Proofs.Ytgijkgngldfdiaa
