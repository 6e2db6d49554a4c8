/- The reference's run where it may not be; both runs at whatever state. Helper. -/
import Derived.Test.YtgijkgngldfdiaaVmRefRun
namespace Go.Proofs.Ytgijkgngldfdiaa
open Go.RowKit
set_option linter.unusedVariables false
set_option linter.unusedSimpArgs false
section
variable (vars : Int) (kA : Option Addr) (kn kc : Nat) (me procs seed : Int) (A : Option Addr) (n c : Nat) (sent drawn T O S p q d : Int) (w : World)
set_option maxRecDepth 100000
set_option maxHeartbeats 6000000
theorem refRun_no (b1 b2 b3 : Bool) (h1 : stOk vars n sent drawn = b1) (h2 : MayB T O S p q d procs = b2) (h3 : decide (p = me) = b3) (hno : (b1 && b2 && b3) = false) :
    Calls Try.prog 62 #[.agg #[.int .i64 vars, .slice kA kn kc, .int .i64 me, .int .i64 procs, .int .i64 seed], .agg #[.slice A n c, .int .i64 sent, .int .i64 drawn], .agg #[.int .i64 T, .int .i64 O, .int .i64 S, .int .i64 p, .int .i64 q, .int .i64 d]] w
      (RunNone w) := by
  obtain ⟨w1, hw1⟩ : ∃ w1, (((w.alloc (.cells #[.int .i64 vars, .slice kA kn kc, .int .i64 me, .int .i64 procs, .int .i64 seed] 123)).alloc (.cells #[.slice A n c, .int .i64 sent, .int .i64 drawn] 65)).alloc (.cells #[.int .i64 T, .int .i64 O, .int .i64 S, .int .i64 p, .int .i64 q, .int .i64 d] 44)).alloc (.cells #[.slice none 0 0, .int .i64 0, .int .i64 0, .slice none 0 0, .slice none 0 0] 94) = w1 := ⟨_, rfl⟩
  have n1 : Nw w w1 := by rw [← hw1]; exact ((((Nw.refl w).alloc _).alloc _).alloc _).alloc _
  obtain ⟨MB, hMB⟩ : ∃ MB, w.heap.size = MB := ⟨_, rfl⟩
  obtain ⟨SB, hSB⟩ : ∃ SB, w.heap.size + 1 = SB := ⟨_, rfl⟩
  obtain ⟨EB, hEB⟩ : ∃ EB, w.heap.size + 1 + 1 = EB := ⟨_, rfl⟩
  obtain ⟨OB, hOB⟩ : ∃ OB, w.heap.size + 1 + 1 + 1 = OB := ⟨_, rfl⟩
  have hbM : Blk w1 MB 123 #[.int .i64 vars, .slice kA kn kc, .int .i64 me, .int .i64 procs, .int .i64 seed] := by rw [← hw1]; exact ((((Blk.last w _ _ hMB).alloc _).alloc _).alloc _)
  have hbS : Blk w1 SB 65 #[.slice A n c, .int .i64 sent, .int .i64 drawn] := by rw [← hw1]; exact (((Blk.last _ _ _ (by simpa using hSB)).alloc _).alloc _)
  have hbE : Blk w1 EB 44 #[.int .i64 T, .int .i64 O, .int .i64 S, .int .i64 p, .int .i64 q, .int .i64 d] := by rw [← hw1]; exact ((Blk.last _ _ _ (by simpa using hEB)).alloc _)
  have hbO : Blk w1 OB 94 #[.slice none 0 0, .int .i64 0, .int .i64 0, .slice none 0 0, .slice none 0 0] := by rw [← hw1]; exact Blk.last _ _ _ (by simpa using hOB)
  have HOB := Lib.hid (by omega : w.heap.size ≤ OB)
  have HHS := Lib.hid (⟨hMB, hSB, hEB, hOB⟩ : w.heap.size = MB ∧ w.heap.size + 1 = SB ∧ w.heap.size + 1 + 1 = EB ∧ w.heap.size + 1 + 1 + 1 = OB)
  have HW := Lib.hid hw1
  have N1 := Lib.hid n1
  have HBM := Lib.hid hbM
  have HBE := Lib.hid hbE
  have HBO := Lib.hid hbO
  have K1 := Lib.hid (fun W => refIs_any vars kA kc me procs seed W kn A n c sent drawn)
  have K2 := Lib.hid (fun W => refMay_any T O S p q d procs W)
  rw [h1] at K1
  rw [h2] at K2
  obtain ⟨m0, m1, m2, m3, m4⟩ := blk5 hbM
  have s0 : w1.cell? ⟨SB, 0, none⟩ = some (.slice A n c) := hbS.cell 0
  have s1 : w1.cell? ⟨SB, 1, none⟩ = some (.int .i64 sent) := hbS.cell 1
  have s2 : w1.cell? ⟨SB, 2, none⟩ = some (.int .i64 drawn) := hbS.cell 2
  have H3 := Lib.hid h3
  have HNO := Lib.hid hno
  clear h1 h2 h3 hno hMB hSB hEB hOB hw1 n1 hbM hbS hbE hbO
  cases b1 with
  | false =>
    clear HNO H3 K2
    go_enter Try.func62, Try.ntmps62
    go_upto_region 1 with (fail)
    rw [HW.out, HHS.out.2.2.2, HHS.out.2.2.1, HHS.out.2.1, HHS.out.1]
    go_wp2_with fail
    refine (K1.out _).mono ?_
    rintro e w2 ⟨rfl, b2⟩
    have N2 := Lib.hid (show Nw w1 w2 from b2)
    clear b2 m0 m1 m2 m3 m4 s0 s1 s2 K1
    have hbx := HBO.out.below N2.out HBO.out.lt
    have o0 : w2.cell? ⟨OB, 0, none⟩ = some (.slice none 0 0) := hbx.cell 0
    have o1 : w2.cell? ⟨OB, 1, none⟩ = some (.int .i64 0) := hbx.cell 1
    have o2 : w2.cell? ⟨OB, 2, none⟩ = some (.int .i64 0) := hbx.cell 2
    have o3 : w2.cell? ⟨OB, 3, none⟩ = some (.slice none 0 0) := hbx.cell 3
    have o4 : w2.cell? ⟨OB, 4, none⟩ = some (.slice none 0 0) := hbx.cell 4
    obtain ⟨z0, z1, z2, z3, z4⟩ := frz5 hbx
    clear hbx
    go_wp2_with fail
    refine bodyPost_ret (v := .tuple #[.agg #[.slice none 0 0, .int .i64 0, .int .i64 0, .slice none 0 0, .slice none 0 0], .int .i64 2]) (by simp [results, Try.results62, go_sem, o0, o1, o2, o3, o4]) rfl ?_
    exact ⟨rfl, put5_below (N1.out.step N2.out) HOB.out _ _ _ _ _⟩
  | true =>
    cases b2 with
    | false =>
      clear HNO H3
      go_enter Try.func62, Try.ntmps62
      go_upto_region 1 with (fail)
      rw [HW.out, HHS.out.2.2.2, HHS.out.2.2.1, HHS.out.2.1, HHS.out.1]
      go_wp2_with fail
      refine (K1.out _).mono ?_
      rintro e w2 ⟨rfl, b2⟩
      have N2 := Lib.hid (show Nw w1 w2 from b2)
      have hbE := HBE.out.below b2 HBE.out.lt
      have e0 : w2.cell? ⟨EB, 0, none⟩ = some (.int .i64 T) := hbE.cell 0
      have e1 : w2.cell? ⟨EB, 1, none⟩ = some (.int .i64 O) := hbE.cell 1
      have e2 : w2.cell? ⟨EB, 2, none⟩ = some (.int .i64 S) := hbE.cell 2
      have e3 : w2.cell? ⟨EB, 3, none⟩ = some (.int .i64 p) := hbE.cell 3
      have e4 : w2.cell? ⟨EB, 4, none⟩ = some (.int .i64 q) := hbE.cell 4
      have e5 : w2.cell? ⟨EB, 5, none⟩ = some (.int .i64 d) := hbE.cell 5
      have n3 := Nw.cell b2 m3
      clear b2 hbE m0 m1 m2 m3 m4 s0 s1 s2
      go_wp2_with fail
      refine (K2.out _).mono ?_
      rintro e w3 ⟨rfl, b3⟩
      have N3 := Lib.hid (N2.out.step b3)
      clear b3 e0 e1 e2 e3 e4 e5 n3 K1 K2
      have hbx := HBO.out.below N3.out HBO.out.lt
      have o0 : w3.cell? ⟨OB, 0, none⟩ = some (.slice none 0 0) := hbx.cell 0
      have o1 : w3.cell? ⟨OB, 1, none⟩ = some (.int .i64 0) := hbx.cell 1
      have o2 : w3.cell? ⟨OB, 2, none⟩ = some (.int .i64 0) := hbx.cell 2
      have o3 : w3.cell? ⟨OB, 3, none⟩ = some (.slice none 0 0) := hbx.cell 3
      have o4 : w3.cell? ⟨OB, 4, none⟩ = some (.slice none 0 0) := hbx.cell 4
      obtain ⟨z0, z1, z2, z3, z4⟩ := frz5 hbx
      clear hbx
      go_wp2_with fail
      refine bodyPost_ret (v := .tuple #[.agg #[.slice none 0 0, .int .i64 0, .int .i64 0, .slice none 0 0, .slice none 0 0], .int .i64 2]) (by simp [results, Try.results62, go_sem, o0, o1, o2, o3, o4]) rfl ?_
      exact ⟨rfl, put5_below (N1.out.step N3.out) HOB.out _ _ _ _ _⟩
    | true =>
      have hne : ¬ p = me := by
        have h := HNO.out
        rw [← H3.out] at h
        simpa using h
      have gne : (p != me) = true := bne_iff_ne.2 hne
      clear HNO H3 hne
      go_enter Try.func62, Try.ntmps62
      go_upto_region 1 with (fail)
      rw [HW.out, HHS.out.2.2.2, HHS.out.2.2.1, HHS.out.2.1, HHS.out.1]
      go_wp2_with fail
      refine (K1.out _).mono ?_
      rintro e w2 ⟨rfl, b2⟩
      have N2 := Lib.hid (show Nw w1 w2 from b2)
      have hbE := HBE.out.below b2 HBE.out.lt
      have e0 : w2.cell? ⟨EB, 0, none⟩ = some (.int .i64 T) := hbE.cell 0
      have e1 : w2.cell? ⟨EB, 1, none⟩ = some (.int .i64 O) := hbE.cell 1
      have e2 : w2.cell? ⟨EB, 2, none⟩ = some (.int .i64 S) := hbE.cell 2
      have e3 : w2.cell? ⟨EB, 3, none⟩ = some (.int .i64 p) := hbE.cell 3
      have e4 : w2.cell? ⟨EB, 4, none⟩ = some (.int .i64 q) := hbE.cell 4
      have e5 : w2.cell? ⟨EB, 5, none⟩ = some (.int .i64 d) := hbE.cell 5
      have n2 := Nw.cell b2 m2
      have n3 := Nw.cell b2 m3
      clear b2 hbE m0 m1 m2 m3 m4 s0 s1 s2
      go_wp2_with fail
      refine (K2.out _).mono ?_
      rintro e w3 ⟨rfl, b3⟩
      have N3 := Lib.hid (N2.out.step b3)
      have f3 := Nw.cell b3 e3
      have f2 := Nw.cell b3 n2
      clear b3 e0 e1 e2 e3 e4 e5 n2 n3 K1 K2
      have hbx := HBO.out.below N3.out HBO.out.lt
      have o0 : w3.cell? ⟨OB, 0, none⟩ = some (.slice none 0 0) := hbx.cell 0
      have o1 : w3.cell? ⟨OB, 1, none⟩ = some (.int .i64 0) := hbx.cell 1
      have o2 : w3.cell? ⟨OB, 2, none⟩ = some (.int .i64 0) := hbx.cell 2
      have o3 : w3.cell? ⟨OB, 3, none⟩ = some (.slice none 0 0) := hbx.cell 3
      have o4 : w3.cell? ⟨OB, 4, none⟩ = some (.slice none 0 0) := hbx.cell 4
      obtain ⟨z0, z1, z2, z3, z4⟩ := frz5 hbx
      clear hbx
      go_wp2_with fail
      refine bodyPost_ret (v := .tuple #[.agg #[.slice none 0 0, .int .i64 0, .int .i64 0, .slice none 0 0, .slice none 0 0], .int .i64 2]) (by simp [results, Try.results62, go_sem, o0, o1, o2, o3, o4]) rfl ?_
      exact ⟨rfl, put5_below (N1.out.step N3.out) HOB.out _ _ _ _ _⟩
end
theorem runAll_none {w : World} {e : Ending} {w' : World} (h : RunNone w e w') : RunAll w (vmZ, 2) e w' := by
  obtain ⟨rfl, hB⟩ := h
  exact ⟨none, 0, none, 0, none, 0, rfl, ⟨.inl rfl, .inl rfl, .inl rfl, rfl, rfl, fun b o h => (by cases h), fun b o h => (by cases h), fun b o h => by cases h⟩, hB⟩
/-- What a machine answers, at whatever state. -/
def runB (vars me procs seed : Int) (ks : List (List (Nat × Int))) (T O S p q d : Int) (l : List Int) (sent drawn : Int) : Vm × Int :=
  if stOk vars l.length sent drawn then runA me procs seed ks T O S p q d l sent drawn else (vmZ, 2)
theorem run_any (MB : Nat) (vars : Int) (kA : Option Addr) (ks : List (List (Int × Int))) (kc : Nat) (me procs seed : Int) (A : Option Addr) (l : List Int) (c : Nat) (sent drawn T O S p q d : Int) (w : World)
    (hM : MachAt w MB vars kA ks.length kc me procs seed) (hK : RKinds w kA ks) (hmay : codeMay vars ks = true) (hargs : argsOk me procs = true) (hA : Rd w A (ints l)) :
    Calls Try.prog 42 #[.pointer (some ⟨MB, 0, none⟩), .agg #[.slice A l.length c, .int .i64 sent, .int .i64 drawn], .agg #[.int .i64 T, .int .i64 O, .int .i64 S, .int .i64 p, .int .i64 q, .int .i64 d]] w
      (RunAll w (runB vars me procs seed (nk ks) T O S p q d l sent drawn)) := by
  unfold runB
  cases hst : stOk vars l.length sent drawn with
  | true => exact run_all MB vars kA ks kc me procs seed A l c sent drawn T O S p q d w hM hK hmay hargs hA hst
  | false =>
    have ha : 1 ≤ me := by unfold argsOk at hargs; simp only [Bool.and_eq_true, decide_eq_true_eq] at hargs; omega
    exact (run_no MB vars kA ks.length kc me procs seed A l.length c sent drawn T O S p q d w false _ _ hM ha hst rfl rfl (by simp)).mono fun e w' h => runAll_none h
theorem refRun_any (vars : Int) (kA : Option Addr) (ks : List (List (Int × Int))) (kc : Nat) (me procs seed : Int) (A : Option Addr) (l : List Int) (c : Nat) (sent drawn T O S p q d : Int) (w : World)
    (hK : RKinds w kA ks) (hmay : codeMay vars ks = true) (hargs : argsOk me procs = true) (hA : Rd w A (ints l)) :
    Calls Try.prog 62 #[.agg #[.int .i64 vars, .slice kA ks.length kc, .int .i64 me, .int .i64 procs, .int .i64 seed], .agg #[.slice A l.length c, .int .i64 sent, .int .i64 drawn], .agg #[.int .i64 T, .int .i64 O, .int .i64 S, .int .i64 p, .int .i64 q, .int .i64 d]] w
      (RunAll w (runB vars me procs seed (nk ks) T O S p q d l sent drawn)) := by
  unfold runB runA
  cases hst : stOk vars l.length sent drawn with
  | false => exact (refRun_no vars kA ks.length kc me procs seed A l.length c sent drawn T O S p q d w false _ _ hst rfl rfl (by simp)).mono fun e w' h => runAll_none h
  | true =>
    cases hb : (MayB T O S p q d procs && decide (p = me)) with
    | false => exact (refRun_no vars kA ks.length kc me procs seed A l.length c sent drawn T O S p q d w true _ _ hst rfl rfl (by rw [Bool.true_and]; exact hb)).mono fun e w' h => runAll_none h
    | true =>
      rw [Bool.and_eq_true, decide_eq_true_eq] at hb
      obtain ⟨hm, rfl⟩ := hb
      have hq : 0 ≤ q := by unfold MayB at hm; simp only [Bool.and_eq_true, decide_eq_true_eq] at hm; exact hm.2.1
      obtain ⟨kq, rfl⟩ := Int.eq_ofNat_of_zero_le hq
      have ha : 1 ≤ p ∧ 1 ≤ procs ∧ procs ≤ 16 := by unfold argsOk at hargs; simp only [Bool.and_eq_true, decide_eq_true_eq] at hargs; omega
      have hv := may_vars hmay
      have hsl : (l.length : Int) = vars := by unfold stOk at hst; simp only [Bool.and_eq_true, decide_eq_true_eq] at hst; exact hst.1.1
      have hl : l.length = vars.toNat := by omega
      have hl8 : l.length ≤ 8 := by omega
      have h2 := refRun_ok vars kA (nk ks) kc p procs seed A l c sent drawn T O S d kq (runV p procs seed (nk ks) T O S d kq l sent drawn) w (kindsAt_nk hK hmay) (by have h := nk_ok hmay; rw [← hl] at h; exact h)
        (by rw [nk_length]; omega) ha.1 ha.2 hA hl8 hst hm rfl
      rw [nk_length] at h2
      simp only [Int.toNat_natCast, if_true]
      exact h2.mono fun e w' h => runAll_of h
end Go.Proofs.Ytgijkgngldfdiaa
