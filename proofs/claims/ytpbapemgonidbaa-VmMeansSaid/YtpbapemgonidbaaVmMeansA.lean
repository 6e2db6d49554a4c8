/- VmMeans: where the rows alone are asked. Helper. -/
import Derived.Test.YtpbapemgonidbaaVmRunAll
namespace Go.Proofs.Ytpbapemgonidbaa
open Go.RowKit
set_option linter.unusedVariables false
set_option linter.unusedSimpArgs false
/-- Is an input gone through? -/
def meansIn (vars : Int) (ks : List (List (Int × Int))) (me procs : Int) (n : Nat) (sent drawn : Int) (m : Nat) : Bool :=
  !muchB ks && decide (n ≤ 20) && decide (m ≤ 30) && decide (newErr vars ks me procs = 0) && stOk vars n sent drawn && decide (sent ≤ 1099511627776) && decide (drawn ≤ 1099511627776)
section
variable (vars : Int) (kA : Option Addr) (ks : List (List (Int × Int))) (kc : Nat) (me procs seed : Int) (A : Option Addr) (n c : Nat) (sent drawn : Int) (lA : Option Addr) (m lc : Nat) (w : World)
set_option maxRecDepth 100000
set_option maxHeartbeats 1600000
theorem means_no (hk : RKinds w kA ks) (hn : ks.length ≤ maxLen) (hno : meansIn vars ks me procs n sent drawn m = false) :
    Calls Try.prog 3 #[.agg #[.int .i64 vars, .slice kA ks.length kc], .int .i64 me, .int .i64 procs, .int .i64 seed, .agg #[.slice A n c, .int .i64 sent, .int .i64 drawn], .slice lA m lc] w fun e w' => e = .returned (.bool true) ∧ Below w.heap.size w w' := by
  obtain ⟨w1, hw1⟩ : ∃ w1, ((w.alloc (.cells #[.int .i64 vars, .slice kA ks.length kc] 24)).alloc (.cells #[.slice A n c, .int .i64 sent, .int .i64 drawn] 27)).alloc (.cells #[.int .i64 vars, .slice kA ks.length kc, .int .i64 me, .int .i64 procs, .int .i64 seed] 30) = w1 := ⟨_, rfl⟩
  have n1 : Nw w w1 := by rw [← hw1]; exact (((Nw.refl w).alloc _).alloc _).alloc _
  have hbP : Blk w1 w.heap.size 24 #[.int .i64 vars, .slice kA ks.length kc] := by rw [← hw1]; exact ((Blk.last w _ _ rfl).alloc _).alloc _
  have hbS : Blk w1 (w.heap.size + 1) 27 #[.slice A n c, .int .i64 sent, .int .i64 drawn] := by rw [← hw1]; exact (Blk.last _ _ _ (by simp)).alloc _
  have hbM : Blk w1 (w.heap.size + 1 + 1) 30 #[.int .i64 vars, .slice kA ks.length kc, .int .i64 me, .int .i64 procs, .int .i64 seed] := by rw [← hw1]; exact Blk.last _ _ _ (by simp)
  have K1 := fun W (g : Nw w1 W) => much_any vars kA ks kc W (hk.keep (n1.step g)) hn
  have K2 := fun W (g : Nw w1 W) => refMach_any vars kA ks kc me procs seed W (hk.keep (n1.step g)) hn
  have K3 := fun W => refIs_any vars kA kc me procs seed W ks.length A n c sent drawn
  have c0 : w1.cell? ⟨w.heap.size, 0, none⟩ = some (.int .i64 vars) := hbP.cell 0
  have c1 : w1.cell? ⟨w.heap.size, 1, none⟩ = some (.slice kA ks.length kc) := hbP.cell 1
  have HW := Lib.hid hw1
  have N1 := Lib.hid n1
  have S := Lib.hid (⟨hbS.cell 0, hbS.cell 1, hbS.cell 2⟩ : w1.cell? ⟨w.heap.size + 1, 0, none⟩ = some (.slice A n c) ∧ w1.cell? ⟨w.heap.size + 1, 1, none⟩ = some (.int .i64 sent) ∧ w1.cell? ⟨w.heap.size + 1, 2, none⟩ = some (.int .i64 drawn))
  have M := Lib.hid (⟨hbM.cell 0, hbM.cell 1, hbM.cell 2, hbM.cell 3, hbM.cell 4⟩ : w1.cell? ⟨w.heap.size + 1 + 1, 0, none⟩ = some (.int .i64 vars) ∧ w1.cell? ⟨w.heap.size + 1 + 1, 1, none⟩ = some (.slice kA ks.length kc) ∧ w1.cell? ⟨w.heap.size + 1 + 1, 2, none⟩ = some (.int .i64 me) ∧ w1.cell? ⟨w.heap.size + 1 + 1, 3, none⟩ = some (.int .i64 procs) ∧ w1.cell? ⟨w.heap.size + 1 + 1, 4, none⟩ = some (.int .i64 seed))
  unfold meansIn at hno
  obtain ⟨mb, hmb⟩ : ∃ mb, muchB ks = mb := ⟨_, rfl⟩
  obtain ⟨er, her⟩ : ∃ er, newErr vars ks me procs = er := ⟨_, rfl⟩
  obtain ⟨st, hst⟩ : ∃ st, stOk vars n sent drawn = st := ⟨_, rfl⟩
  rw [hmb] at K1
  rw [her] at K2
  rw [hst] at K3
  rw [hmb, her, hst] at hno
  have K1 := Lib.hid K1
  have K2 := Lib.hid K2
  have K3 := Lib.hid K3
  clear hmb her hst hk hn hw1 n1 hbP hbS hbM
  cases mb with
  | true =>
    go_enter Try.func3, Try.ntmps3
    go_upto_region 2 with (fail)
    rw [HW.out]
    go_wp2_with fail
    refine (K1.out _ (Nw.refl _)).mono ?_
    rintro e w2 ⟨rfl, b2⟩
    have N2 := Lib.hid (show Nw w1 w2 from b2)
    clear b2 c0 c1
    go_wp2_with fail
    refine (known_any _).mono ?_
    rintro e w9 ⟨rfl, b9⟩
    have N9 := Lib.hid (N2.out.step b9)
    clear b9
    go_wp2_with fail
    go_ret
    exact ⟨rfl, N1.out.step N9.out⟩
  | false =>
    by_cases e1 : 20 < n
    · have g1 : (20 : Int) < (n : Int) := by omega
      go_enter Try.func3, Try.ntmps3
      go_upto_region 2 with (fail)
      rw [HW.out]
      go_wp2_with fail
      refine (K1.out _ (Nw.refl _)).mono ?_
      rintro e w2 ⟨rfl, b2⟩
      have N2 := Lib.hid (show Nw w1 w2 from b2)
      clear b2 c0 c1
      obtain ⟨s0, s1, s2⟩ := S.out
      have s0 := N2.out.cell s0
      have s1 := N2.out.cell s1
      have s2 := N2.out.cell s2
      go_wp2_with fail
      refine (known_any _).mono ?_
      rintro e w9 ⟨rfl, b9⟩
      have N9 := Lib.hid (N2.out.step b9)
      clear b9
      go_wp2_with fail
      go_ret
      exact ⟨rfl, N1.out.step N9.out⟩
    have g1 : ¬ (20 : Int) < (n : Int) := by omega
    by_cases e2 : 30 < m
    · have g2 : (30 : Int) < (m : Int) := by omega
      go_enter Try.func3, Try.ntmps3
      go_upto_region 2 with (fail)
      rw [HW.out]
      go_wp2_with fail
      refine (K1.out _ (Nw.refl _)).mono ?_
      rintro e w2 ⟨rfl, b2⟩
      have N2 := Lib.hid (show Nw w1 w2 from b2)
      clear b2 c0 c1
      obtain ⟨s0, s1, s2⟩ := S.out
      have s0 := N2.out.cell s0
      have s1 := N2.out.cell s1
      have s2 := N2.out.cell s2
      go_wp2_with fail
      refine (known_any _).mono ?_
      rintro e w9 ⟨rfl, b9⟩
      have N9 := Lib.hid (N2.out.step b9)
      clear b9
      go_wp2_with fail
      go_ret
      exact ⟨rfl, N1.out.step N9.out⟩
    have g2 : ¬ (30 : Int) < (m : Int) := by omega
    by_cases e3 : er = 0
    rotate_left
    · have g3 : (er != 0) = true := bne_iff_ne.2 e3
      go_enter Try.func3, Try.ntmps3
      go_upto_region 2 with (fail)
      rw [HW.out]
      go_wp2_with fail
      refine (K1.out _ (Nw.refl _)).mono ?_
      rintro e w2 ⟨rfl, b2⟩
      have N2 := Lib.hid (show Nw w1 w2 from b2)
      clear b2 c0 c1
      obtain ⟨s0, s1, s2⟩ := S.out
      have s0 := N2.out.cell s0
      have s1 := N2.out.cell s1
      have s2 := N2.out.cell s2
      obtain ⟨m0, m1, m2, m3, m4⟩ := M.out
      have m0 := N2.out.cell m0
      have m1 := N2.out.cell m1
      have m2 := N2.out.cell m2
      have m3 := N2.out.cell m3
      have m4 := N2.out.cell m4
      go_wp2_with fail
      refine (K2.out _ N2.out).mono ?_
      rintro e w3 ⟨rfl, b3⟩
      have N3 := Lib.hid (N2.out.step b3)
      clear b3 s0 s1 s2 m0 m1 m2 m3 m4
      go_wp2_with fail
      refine (known_any _).mono ?_
      rintro e w9 ⟨rfl, b9⟩
      have N9 := Lib.hid (N3.out.step b9)
      clear b9
      go_wp2_with fail
      go_ret
      exact ⟨rfl, N1.out.step N9.out⟩
    subst e3
    cases st with
    | false =>
      go_enter Try.func3, Try.ntmps3
      go_upto_region 2 with (fail)
      rw [HW.out]
      go_wp2_with fail
      refine (K1.out _ (Nw.refl _)).mono ?_
      rintro e w2 ⟨rfl, b2⟩
      have N2 := Lib.hid (show Nw w1 w2 from b2)
      clear b2 c0 c1
      obtain ⟨s0, s1, s2⟩ := S.out
      have s0 := N2.out.cell s0
      have s1 := N2.out.cell s1
      have s2 := N2.out.cell s2
      obtain ⟨m0, m1, m2, m3, m4⟩ := M.out
      have m0 := N2.out.cell m0
      have m1 := N2.out.cell m1
      have m2 := N2.out.cell m2
      have m3 := N2.out.cell m3
      have m4 := N2.out.cell m4
      go_wp2_with fail
      refine (K2.out _ N2.out).mono ?_
      rintro e w3 ⟨rfl, b3⟩
      have N3 := Lib.hid (N2.out.step b3)
      clear b3 s0 s1 s2 m0 m1 m2 m3 m4
      obtain ⟨s0, s1, s2⟩ := S.out
      have s0 := N3.out.cell s0
      have s1 := N3.out.cell s1
      have s2 := N3.out.cell s2
      obtain ⟨m0, m1, m2, m3, m4⟩ := M.out
      have m0 := N3.out.cell m0
      have m1 := N3.out.cell m1
      have m2 := N3.out.cell m2
      have m3 := N3.out.cell m3
      have m4 := N3.out.cell m4
      go_wp2_with fail
      refine (K3.out _).mono ?_
      rintro e w4 ⟨rfl, b4⟩
      have N4 := Lib.hid (N3.out.step b4)
      clear b4 s0 s1 s2 m0 m1 m2 m3 m4
      go_wp2_with fail
      refine (known_any _).mono ?_
      rintro e w9 ⟨rfl, b9⟩
      have N9 := Lib.hid (N4.out.step b9)
      clear b9
      go_wp2_with fail
      go_ret
      exact ⟨rfl, N1.out.step N9.out⟩
    | true =>
      by_cases e5 : 1099511627776 < sent
      · skip
        go_enter Try.func3, Try.ntmps3
        go_upto_region 2 with (fail)
        rw [HW.out]
        go_wp2_with fail
        refine (K1.out _ (Nw.refl _)).mono ?_
        rintro e w2 ⟨rfl, b2⟩
        have N2 := Lib.hid (show Nw w1 w2 from b2)
        clear b2 c0 c1
        obtain ⟨s0, s1, s2⟩ := S.out
        have s0 := N2.out.cell s0
        have s1 := N2.out.cell s1
        have s2 := N2.out.cell s2
        obtain ⟨m0, m1, m2, m3, m4⟩ := M.out
        have m0 := N2.out.cell m0
        have m1 := N2.out.cell m1
        have m2 := N2.out.cell m2
        have m3 := N2.out.cell m3
        have m4 := N2.out.cell m4
        go_wp2_with fail
        refine (K2.out _ N2.out).mono ?_
        rintro e w3 ⟨rfl, b3⟩
        have N3 := Lib.hid (N2.out.step b3)
        clear b3 s0 s1 s2 m0 m1 m2 m3 m4
        obtain ⟨s0, s1, s2⟩ := S.out
        have s0 := N3.out.cell s0
        have s1 := N3.out.cell s1
        have s2 := N3.out.cell s2
        obtain ⟨m0, m1, m2, m3, m4⟩ := M.out
        have m0 := N3.out.cell m0
        have m1 := N3.out.cell m1
        have m2 := N3.out.cell m2
        have m3 := N3.out.cell m3
        have m4 := N3.out.cell m4
        go_wp2_with fail
        refine (K3.out _).mono ?_
        rintro e w4 ⟨rfl, b4⟩
        have N4 := Lib.hid (N3.out.step b4)
        clear b4 s0 s1 s2 m0 m1 m2 m3 m4
        obtain ⟨s0, s1, s2⟩ := S.out
        have s0 := N4.out.cell s0
        have s1 := N4.out.cell s1
        have s2 := N4.out.cell s2
        go_wp2_with fail
        refine (known_any _).mono ?_
        rintro e w9 ⟨rfl, b9⟩
        have N9 := Lib.hid (N4.out.step b9)
        clear b9
        go_wp2_with fail
        go_ret
        exact ⟨rfl, N1.out.step N9.out⟩
      by_cases e6 : 1099511627776 < drawn
      · skip
        go_enter Try.func3, Try.ntmps3
        go_upto_region 2 with (fail)
        rw [HW.out]
        go_wp2_with fail
        refine (K1.out _ (Nw.refl _)).mono ?_
        rintro e w2 ⟨rfl, b2⟩
        have N2 := Lib.hid (show Nw w1 w2 from b2)
        clear b2 c0 c1
        obtain ⟨s0, s1, s2⟩ := S.out
        have s0 := N2.out.cell s0
        have s1 := N2.out.cell s1
        have s2 := N2.out.cell s2
        obtain ⟨m0, m1, m2, m3, m4⟩ := M.out
        have m0 := N2.out.cell m0
        have m1 := N2.out.cell m1
        have m2 := N2.out.cell m2
        have m3 := N2.out.cell m3
        have m4 := N2.out.cell m4
        go_wp2_with fail
        refine (K2.out _ N2.out).mono ?_
        rintro e w3 ⟨rfl, b3⟩
        have N3 := Lib.hid (N2.out.step b3)
        clear b3 s0 s1 s2 m0 m1 m2 m3 m4
        obtain ⟨s0, s1, s2⟩ := S.out
        have s0 := N3.out.cell s0
        have s1 := N3.out.cell s1
        have s2 := N3.out.cell s2
        obtain ⟨m0, m1, m2, m3, m4⟩ := M.out
        have m0 := N3.out.cell m0
        have m1 := N3.out.cell m1
        have m2 := N3.out.cell m2
        have m3 := N3.out.cell m3
        have m4 := N3.out.cell m4
        go_wp2_with fail
        refine (K3.out _).mono ?_
        rintro e w4 ⟨rfl, b4⟩
        have N4 := Lib.hid (N3.out.step b4)
        clear b4 s0 s1 s2 m0 m1 m2 m3 m4
        obtain ⟨s0, s1, s2⟩ := S.out
        have s0 := N4.out.cell s0
        have s1 := N4.out.cell s1
        have s2 := N4.out.cell s2
        go_wp2_with fail
        refine (known_any _).mono ?_
        rintro e w9 ⟨rfl, b9⟩
        have N9 := Lib.hid (N4.out.step b9)
        clear b9
        go_wp2_with fail
        go_ret
        exact ⟨rfl, N1.out.step N9.out⟩
      exfalso
      simp at hno
      omega
end
end Go.Proofs.Ytpbapemgonidbaa
