/- Which machines may be: the reference's May and Is, Much. Helper. -/
import Derived.Test.YtpbapemgonidbaaVmRefMayP
namespace Go.Proofs.Ytpbapemgonidbaa
open Go.RowKit
set_option linter.unusedVariables false
set_option linter.unusedSimpArgs false
def muchB (ks : List (List (Int × Int))) : Bool := (ks.take 10).any (fun k => decide (200 < k.length)) || decide (10 < ks.length)
theorem much_no {ks : List (List (Int × Int))} (h : muchB ks = false) : ks.length ≤ 10 ∧ ∀ i (hi : i < ks.length), ks[i].length ≤ 200 := by
  unfold muchB at h
  rw [Bool.or_eq_false_iff] at h
  have h2 : ks.length ≤ 10 := by simpa using h.2
  refine ⟨h2, fun i hi => ?_⟩
  have := h.1
  rw [List.any_eq_false] at this
  have h3 := this ks[i] (by rw [List.take_of_length_le h2]; exact List.getElem_mem hi)
  simpa using h3
section
variable (vars : Int) (kA : Option Addr) (ks : List (List (Int × Int))) (kc : Nat) (me procs seed : Int) (w : World)
set_option maxRecDepth 100000
set_option maxHeartbeats 1600000
theorem refMach_any (hk : RKinds w kA ks) (hn : ks.length ≤ maxLen) :
    Calls Try.prog 7 #[.agg #[.int .i64 vars, .slice kA ks.length kc, .int .i64 me, .int .i64 procs, .int .i64 seed]] w fun e w' => e = .returned (.int .i64 (newErr vars ks me procs)) ∧ Below w.heap.size w w' := by
  obtain ⟨w1, hw1⟩ : ∃ w1, w.alloc (.cells #[.int .i64 vars, .slice kA ks.length kc, .int .i64 me, .int .i64 procs, .int .i64 seed] 30) = w1 := ⟨_, rfl⟩
  have n1 : Nw w w1 := by rw [← hw1]; exact (Nw.refl w).alloc _
  have hb : Blk w1 w.heap.size 30 #[.int .i64 vars, .slice kA ks.length kc, .int .i64 me, .int .i64 procs, .int .i64 seed] := by rw [← hw1]; exact Blk.last w _ _ rfl
  have c0 : w1.cell? ⟨w.heap.size, 0, none⟩ = some (.int .i64 vars) := hb.cell 0
  have c1 : w1.cell? ⟨w.heap.size, 1, none⟩ = some (.slice kA ks.length kc) := hb.cell 1
  have c2 : w1.cell? ⟨w.heap.size, 2, none⟩ = some (.int .i64 me) := hb.cell 2
  have c3 : w1.cell? ⟨w.heap.size, 3, none⟩ = some (.int .i64 procs) := hb.cell 3
  have kcm := fun W (g : Nw w W) => refProg_any vars kA ks kc W (hk.keep g) hn
  have HW := Lib.hid hw1
  have N1 := Lib.hid n1
  have C2 := Lib.hid c2
  have C3 := Lib.hid c3
  cases hm : codeMay vars ks with
  | false =>
    rw [hm] at kcm
    have KCM := Lib.hid kcm
    have e : newErr vars ks me procs = 3 := by unfold newErr; rw [hm]; rfl
    rw [e]
    clear kcm hk e hm n1 hb hw1
    go_enter Try.func7, Try.ntmps7
    go_upto_region 1 with (fail)
    rw [HW.out]
    go_wp2_with fail
    refine (KCM.out _ N1.out).mono ?_
    rintro e w2 ⟨rfl, b2⟩
    have N2 := Lib.hid (N1.out.step b2)
    clear b2
    go_wp2_with fail
    go_ret
    exact ⟨rfl, N2.out⟩
  | true =>
    rw [hm] at kcm
    have KCM := Lib.hid kcm
    have e : newErr vars ks me procs = if argsOk me procs then 0 else 2 := by unfold newErr; rw [hm]; rfl
    rw [e]
    clear kcm hk e hm n1 hb hw1
    by_cases h1 : procs < 1
    · have e : argsOk me procs = false := by unfold argsOk; simp; omega
      rw [e]
      clear e
      go_enter Try.func7, Try.ntmps7
      go_upto_region 1 with (fail)
      rw [HW.out]
      go_wp2_with fail
      refine (KCM.out _ N1.out).mono ?_
      rintro e w2 ⟨rfl, b2⟩
      have N2 := Lib.hid (N1.out.step b2)
      have d2 := Nw.cell b2 C2.out
      have d3 := Nw.cell b2 C3.out
      clear b2 c2 c3
      go_wp2_with fail
      go_ret
      exact ⟨rfl, N2.out⟩
    by_cases h2 : 16 < procs
    · have e : argsOk me procs = false := by unfold argsOk; simp; omega
      rw [e]
      clear e
      go_enter Try.func7, Try.ntmps7
      go_upto_region 1 with (fail)
      rw [HW.out]
      go_wp2_with fail
      refine (KCM.out _ N1.out).mono ?_
      rintro e w2 ⟨rfl, b2⟩
      have N2 := Lib.hid (N1.out.step b2)
      have d2 := Nw.cell b2 C2.out
      have d3 := Nw.cell b2 C3.out
      clear b2 c2 c3
      go_wp2_with fail
      go_ret
      exact ⟨rfl, N2.out⟩
    by_cases h3 : me < 1
    · have e : argsOk me procs = false := by unfold argsOk; simp; omega
      rw [e]
      clear e
      go_enter Try.func7, Try.ntmps7
      go_upto_region 1 with (fail)
      rw [HW.out]
      go_wp2_with fail
      refine (KCM.out _ N1.out).mono ?_
      rintro e w2 ⟨rfl, b2⟩
      have N2 := Lib.hid (N1.out.step b2)
      have d2 := Nw.cell b2 C2.out
      have d3 := Nw.cell b2 C3.out
      clear b2 c2 c3
      go_wp2_with fail
      go_ret
      exact ⟨rfl, N2.out⟩
    by_cases h4 : procs < me
    · have e : argsOk me procs = false := by unfold argsOk; simp; omega
      rw [e]
      clear e
      go_enter Try.func7, Try.ntmps7
      go_upto_region 1 with (fail)
      rw [HW.out]
      go_wp2_with fail
      refine (KCM.out _ N1.out).mono ?_
      rintro e w2 ⟨rfl, b2⟩
      have N2 := Lib.hid (N1.out.step b2)
      have d2 := Nw.cell b2 C2.out
      have d3 := Nw.cell b2 C3.out
      clear b2 c2 c3
      go_wp2_with fail
      go_ret
      exact ⟨rfl, N2.out⟩
    · have e : argsOk me procs = true := by unfold argsOk; simp; omega
      rw [e]
      clear e
      go_enter Try.func7, Try.ntmps7
      go_upto_region 1 with (fail)
      rw [HW.out]
      go_wp2_with fail
      refine (KCM.out _ N1.out).mono ?_
      rintro e w2 ⟨rfl, b2⟩
      have N2 := Lib.hid (N1.out.step b2)
      have d2 := Nw.cell b2 C2.out
      have d3 := Nw.cell b2 C3.out
      clear b2 c2 c3
      go_wp2_with fail
      go_ret
      exact ⟨rfl, N2.out⟩
theorem refIs_any (kn : Nat) (A : Option Addr) (n c : Nat) (sent drawn : Int) :
    Calls Try.prog 8 #[.agg #[.int .i64 vars, .slice kA kn kc, .int .i64 me, .int .i64 procs, .int .i64 seed], .agg #[.slice A n c, .int .i64 sent, .int .i64 drawn]] w fun e w' => e = .returned (.bool (stOk vars n sent drawn)) ∧ Below w.heap.size w w' := by
  have B2 := Lib.hid (fun o1 o2 => (((Nw.refl w).alloc o1).alloc o2))
  unfold stOk
  by_cases e1 : (n : Int) = vars
  · have g1 : ((n : Int) == vars) = true := beq_iff_eq.2 e1
    have d1 : decide ((n : Int) = vars) = true := decide_eq_true e1
    rw [d1]
    clear e1
    by_cases e2 : 0 ≤ sent
    · have d2 : decide (0 ≤ sent) = true := decide_eq_true e2
      rw [d2]
      by_cases e3 : 0 ≤ drawn
      · have d3 : decide (0 ≤ drawn) = true := decide_eq_true e3
        rw [d3]
        go_enter Try.func8, Try.ntmps8
        go_wp2_with fail
        go_ret
        exact ⟨rfl, B2.out _ _⟩
      · have d3 : decide (0 ≤ drawn) = false := decide_eq_false e3
        rw [d3]
        go_enter Try.func8, Try.ntmps8
        go_wp2_with fail
        go_ret
        exact ⟨rfl, B2.out _ _⟩
    · have d2 : decide (0 ≤ sent) = false := decide_eq_false e2
      rw [d2]
      go_enter Try.func8, Try.ntmps8
      go_wp2_with fail
      go_ret
      exact ⟨rfl, B2.out _ _⟩
  · have g1 : ((n : Int) == vars) = false := beq_eq_false_iff_ne.2 e1
    have d1 : decide ((n : Int) = vars) = false := decide_eq_false e1
    rw [d1]
    clear e1
    go_enter Try.func8, Try.ntmps8
    go_wp2_with fail
    go_ret
    exact ⟨rfl, B2.out _ _⟩
theorem much_any (hk : RKinds w kA ks) (hn : ks.length ≤ maxLen) :
    Calls Try.prog 6 #[.agg #[.int .i64 vars, .slice kA ks.length kc]] w fun e w' => e = .returned (.bool (muchB ks)) ∧ Below w.heap.size w w' := by
  simp only [maxLen] at hn
  obtain ⟨B, hB⟩ : ∃ B, muchB ks = B := ⟨_, rfl⟩
  rw [hB]
  unfold muchB at hB
  have HB := Lib.hid hB
  have HK := Lib.hid hk
  obtain ⟨w1, hw1⟩ : ∃ w1, w.alloc (.cells #[.int .i64 vars, .slice kA ks.length kc] 24) = w1 := ⟨_, rfl⟩
  have n1 : Nw w w1 := by rw [← hw1]; exact (Nw.refl w).alloc _
  have hbb : Blk w1 w.heap.size 24 #[.int .i64 vars, .slice kA ks.length kc] := by rw [← hw1]; exact Blk.last w _ _ rfl
  have p1 : w1.cell? ⟨w.heap.size, 1, none⟩ = some (.slice kA ks.length kc) := hbb.cell 1
  have N1 := Lib.hid n1
  have HW := Lib.hid hw1
  clear hk hB n1 hbb hw1
  go_enter Try.func6, Try.ntmps6
  go_upto_region 1 with (fail)
  rw [HW.out]
  go_wp2_with fail
  go_loop [3] (fun i => ∃ k : Nat, k ≤ ks.length ∧ k ≤ 10 ∧ i = .int .i64 k ∧ Hid (∀ j (hj : j < ks.length), j < k → ks[j].length ≤ 200)) (fun i => ks.length - (intOf i).toNat)
  case atStart => exact ⟨0, Nat.zero_le _, by omega, rfl, Lib.hid fun j hj h => by omega⟩
  case round =>
    obtain ⟨k, hk, hk10, rfl, HI⟩ := hrel
    by_cases hlt : k < ks.length
    · have g1 : (k : Int) < (ks.length : Int) := by omega
      have g1' : decide ((k : Int) < (ks.length : Int)) = true := decide_eq_true g1
      by_cases h10 : k < 10
      · have g2 : (k : Int) < 10 := by omega
        have g2' : decide ((k : Int) < 10) = true := decide_eq_true g2
        obtain ⟨b, o, lA, lc, rfl, kc0, hins, hm⟩ := HK.out.get hlt
        have kc1 := N1.out.cell kc0
        obtain ⟨m, hml⟩ : ∃ m, ks[k].length = m := ⟨_, rfl⟩
        have HML := Lib.hid hml
        rw [hml] at kc1
        clear hml kc0 hins hm
        by_cases h200 : 200 < m
        · have g3 : (200 : Int) < (m : Int) := by omega
          go_wp2_with fail
          go_ret
          refine ⟨ret_bool ?_, N1.out⟩
          rw [← HB.out, any_some (l := ks.take 10) (j := k) (by rw [List.length_take]; omega) (by simp [HML.out, h200])]
          rfl
        · have g3 : ¬ (200 : Int) < (m : Int) := by omega
          go_wp2_with fail
          go_round
          case rel => exact ⟨k + 1, by omega, by omega, by go_num, Lib.hid fun j hj h => by
            by_cases e : j = k
            · subst e; rw [HML.out]; omega
            · exact HI.out j hj (by omega)⟩
          case measure => simp [intOf]; omega
      · have g2 : ¬ (k : Int) < 10 := by omega
        have g2' : decide ((k : Int) < 10) = false := decide_eq_false g2
        have hx : B = decide (10 < ks.length) := by
          rw [← HB.out, any_none (l := ks.take 10) (fun j hj => by
            rw [List.length_take] at hj
            have := HI.out j (by omega) (by omega)
            simp; omega)]
          rfl
        have HX := Lib.hid hx
        clear hx
        by_cases h11 : 10 < ks.length
        · have g3 : (10 : Int) < (ks.length : Int) := by omega
          go_wp2_with fail
          go_ret
          exact ⟨ret_bool (by rw [HX.out]; simp; omega), N1.out⟩
        · omega
    · have g1 : ¬ (k : Int) < (ks.length : Int) := by omega
      have g1' : decide ((k : Int) < (ks.length : Int)) = false := decide_eq_false g1
      have g3 : ¬ (10 : Int) < (ks.length : Int) := by omega
      have hx : B = false := by
        rw [← HB.out, any_none (l := ks.take 10) (fun j hj => by
          rw [List.length_take] at hj
          have := HI.out j (by omega) (by omega)
          simp; omega), Bool.false_or]
        simp; omega
      have HX := Lib.hid hx
      clear hx
      go_wp2_with fail
      go_ret
      exact ⟨ret_bool (by rw [HX.out]), N1.out⟩
end
end Go.Proofs.Ytpbapemgonidbaa
