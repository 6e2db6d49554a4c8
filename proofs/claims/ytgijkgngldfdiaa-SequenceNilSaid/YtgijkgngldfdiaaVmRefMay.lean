/- Which machines may be: vm.New's errors; the reference's May. Helper. -/
import Derived.Test.YtgijkgngldfdiaaVmNew
namespace Go.Proofs.Ytgijkgngldfdiaa
open Go.RowKit
set_option linter.unusedVariables false
set_option linter.unusedSimpArgs false
def argsOk (me procs : Int) : Bool := decide (1 ≤ procs) && decide (procs ≤ 16) && decide (1 ≤ me) && decide (me ≤ procs)
def newErr (vars : Int) (ks : List (List (Int × Int))) (me procs : Int) : Int := if codeMay vars ks then (if argsOk me procs then 0 else 2) else 3
section
variable (vars : Int) (kA : Option Addr) (ks : List (List (Int × Int))) (kc : Nat) (me procs seed : Int) (w : World)
set_option maxRecDepth 100000
set_option maxHeartbeats 1600000
theorem new_no (hk : RKinds w kA ks) (hn : ks.length ≤ maxLen) (hno : (codeMay vars ks && argsOk me procs) = false) :
    Calls Try.prog 31 #[.agg #[.int .i64 vars, .slice kA ks.length kc], .int .i64 me, .int .i64 procs, .int .i64 seed] w fun e w' => e = .returned (.tuple #[.pointer none, .int .i64 (newErr vars ks me procs)]) ∧ Below w.heap.size w w' := by
  have kcm := fun W (g : Nw w W) => codeMay_any vars kA ks kc W (hk.keep g) hn
  have b1 : ∀ o, Nw w (w.alloc o) := fun o => (Nw.refl w).alloc o
  have B1 := Lib.hid b1
  cases hm : codeMay vars ks with
  | false =>
    rw [hm] at kcm
    have KCM := Lib.hid kcm
    have e : newErr vars ks me procs = 3 := by unfold newErr; rw [hm]; rfl
    rw [e]
    clear kcm hk e hno hm b1
    go_enter Try.func31, Try.ntmps31
    go_wp2_with fail
    refine (KCM.out _ (B1.out _)).mono ?_
    rintro e w2 ⟨rfl, b2⟩
    have N2 := Lib.hid ((B1.out _).step b2)
    clear b2
    go_wp2_with fail
    go_ret2
    exact ⟨rfl, N2.out⟩
  | true =>
    rw [hm] at kcm
    have KCM := Lib.hid kcm
    rw [hm, Bool.true_and] at hno
    have e : newErr vars ks me procs = 2 := by unfold newErr; rw [hm, hno]; rfl
    rw [e]
    unfold argsOk at hno
    have HNO := Lib.hid hno
    clear kcm hk e hno hm b1
    by_cases h1 : procs < 1
    · go_enter Try.func31, Try.ntmps31
      go_wp2_with fail
      refine (KCM.out _ (B1.out _)).mono ?_
      rintro e w2 ⟨rfl, b2⟩
      have N2 := Lib.hid ((B1.out _).step b2)
      clear b2
      go_wp2_with fail
      go_ret2
      exact ⟨rfl, N2.out⟩
    by_cases h2 : 16 < procs
    · go_enter Try.func31, Try.ntmps31
      go_wp2_with fail
      refine (KCM.out _ (B1.out _)).mono ?_
      rintro e w2 ⟨rfl, b2⟩
      have N2 := Lib.hid ((B1.out _).step b2)
      clear b2
      go_wp2_with fail
      go_ret2
      exact ⟨rfl, N2.out⟩
    by_cases h3 : me < 1
    · go_enter Try.func31, Try.ntmps31
      go_wp2_with fail
      refine (KCM.out _ (B1.out _)).mono ?_
      rintro e w2 ⟨rfl, b2⟩
      have N2 := Lib.hid ((B1.out _).step b2)
      clear b2
      go_wp2_with fail
      go_ret2
      exact ⟨rfl, N2.out⟩
    have h4 : procs < me := by
      have := HNO.out
      rw [decide_eq_true (show 1 ≤ procs by omega), decide_eq_true (show procs ≤ 16 by omega), decide_eq_true (show 1 ≤ me by omega)] at this
      simp at this
      exact this
    go_enter Try.func31, Try.ntmps31
    go_wp2_with fail
    refine (KCM.out _ (B1.out _)).mono ?_
    rintro e w2 ⟨rfl, b2⟩
    have N2 := Lib.hid ((B1.out _).step b2)
    clear b2
    go_wp2_with fail
    go_ret2
    exact ⟨rfl, N2.out⟩
/-- The reference's words. -/
theorem refWords_any : Calls Try.prog 100 #[] w fun e w' => e = .returned (.slice (some ⟨w.heap.size, 0, none⟩) 17 17) ∧ w' = w.alloc (.cells ((WL.drop 1).map Value.string).toArray 9) := by
  go_enter Try.func100, Try.ntmps100
  go_wp2
  go_ret
  exact ⟨rfl, rfl⟩
theorem refWord_any (o : Int) : Calls Try.prog 69 #[.int .i64 o] w fun e w' => e = .returned (.string (wordB o)) ∧ Below w.heap.size w w' := by
  by_cases h1 : o < 1
  · have e : wordB o = ⟨#[]⟩ := by unfold wordB; rw [if_neg (by omega)]
    rw [e]; clear e
    go_enter Try.func69, Try.ntmps69
    go_wp2_with fail
    go_ret
    exact ⟨rfl, Below.refl _ _⟩
  · by_cases h2 : 17 < o
    · have e : wordB o = ⟨#[]⟩ := by unfold wordB; rw [if_neg (by omega)]
      rw [e]; clear e
      go_enter Try.func69, Try.ntmps69
      go_wp2_with fail
      go_ret
      exact ⟨rfl, Below.refl _ _⟩
    · have hb := Blk.last w 9 ((WL.drop 1).map Value.string).toArray rfl
      obtain ⟨k, hk⟩ : ∃ k : Nat, o = (k : Int) + 1 := ⟨(o - 1).toNat, by omega⟩
      subst hk
      have c0 : (w.alloc (.cells ((WL.drop 1).map Value.string).toArray 9)).cell? ⟨w.heap.size, k, none⟩ = some (.string (wordB ((k : Int) + 1))) := by
        rw [hb.cell]
        have hk : k = 0 ∨ k = 1 ∨ k = 2 ∨ k = 3 ∨ k = 4 ∨ k = 5 ∨ k = 6 ∨ k = 7 ∨ k = 8 ∨ k = 9 ∨ k = 10 ∨ k = 11 ∨ k = 12 ∨ k = 13 ∨ k = 14 ∨ k = 15 ∨ k = 16 := by omega
        rcases hk with rfl | rfl | rfl | rfl | rfl | rfl | rfl | rfl | rfl | rfl | rfl | rfl | rfl | rfl | rfl | rfl | rfl <;> rfl
      have kw := refWords_any w
      obtain ⟨w1, hw1⟩ : ∃ w1, w.alloc (.cells ((WL.drop 1).map Value.string).toArray 9) = w1 := ⟨_, rfl⟩
      have n1 : Nw w w1 := by rw [← hw1]; exact (Nw.refl w).alloc _
      rw [hw1] at c0 kw
      have N1 := Lib.hid n1
      have KW := Lib.hid kw
      generalize wordB ((k : Int) + 1) = W at *
      have k1 : IntKind.i64.wrap ((k : Int) + 1 - 1) = (k : Int) := by rw [show (k : Int) + 1 - 1 = (k : Int) by omega]; exact IntWalk.i64_in _ (by constructor <;> omega)
      have k2 : (k : Int) < 17 := by omega
      have k3 : k < 17 := by omega
      clear hb hw1 n1 kw
      go_enter Try.func69, Try.ntmps69
      go_wp2_with fail
      refine KW.out.mono ?_
      rintro e w2 ⟨rfl, rfl⟩
      go_wp2_with fail
      go_ret
      exact ⟨rfl, N1.out⟩
end
end Go.Proofs.Ytgijkgngldfdiaa
