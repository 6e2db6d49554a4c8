/- Which machines may be: the reference's May and Is, Much. Helper. -/
import Derived.Test.YtgijkgngldfdiaaVmRefMayP
namespace Go.Proofs.Ytgijkgngldfdiaa
open Go.RowKit
set_option linter.unusedVariables false
set_option linter.unusedSimpArgs false
def muchB (ks : List (List (Int × Int))) : Bool := (ks.take 10).any (fun k => decide (200 < k.length)) || decide (10 < ks.length)
theorem much_no {ks : List (List (Int × Int))} (h : muchB ks = false) : ks.length ≤ 10 ∧ ∀ i (hi : i < ks.length), ks[i].length ≤ 200 := by
  unfold muchB at h
  rw [Bool.or_eq_false_iff] at h
  have h2 : ks.length ≤ 10 := by simpa using h.2
  refine ⟨h2, fun i hi => ?_⟩
  have := h.1
  rw [List.any_eq_false] at this
  have h3 := this ks[i] (by rw [List.take_of_length_le h2]; exact List.getElem_mem hi)
  simpa using h3
section
variable (vars : Int) (kA : Option Addr) (ks : List (List (Int × Int))) (kc : Nat) (me procs seed : Int) (w : World)
set_option maxRecDepth 100000
set_option maxHeartbeats 1600000
theorem refIs_any (kn : Nat) (A : Option Addr) (n c : Nat) (sent drawn : Int) :
    Calls Try.prog 77 #[.agg #[.int .i64 vars, .slice kA kn kc, .int .i64 me, .int .i64 procs, .int .i64 seed], .agg #[.slice A n c, .int .i64 sent, .int .i64 drawn]] w fun e w' => e = .returned (.bool (stOk vars n sent drawn)) ∧ Below w.heap.size w w' := by
  have B2 := Lib.hid (fun o1 o2 => (((Nw.refl w).alloc o1).alloc o2))
  unfold stOk
  by_cases e1 : (n : Int) = vars
  · have g1 : ((n : Int) == vars) = true := beq_iff_eq.2 e1
    have d1 : decide ((n : Int) = vars) = true := decide_eq_true e1
    rw [d1]
    clear e1
    by_cases e2 : 0 ≤ sent
    · have d2 : decide (0 ≤ sent) = true := decide_eq_true e2
      rw [d2]
      by_cases e3 : 0 ≤ drawn
      · have d3 : decide (0 ≤ drawn) = true := decide_eq_true e3
        rw [d3]
        go_enter Try.func77, Try.ntmps77
        go_wp2_with fail
        go_ret
        exact ⟨rfl, B2.out _ _⟩
      · have d3 : decide (0 ≤ drawn) = false := decide_eq_false e3
        rw [d3]
        go_enter Try.func77, Try.ntmps77
        go_wp2_with fail
        go_ret
        exact ⟨rfl, B2.out _ _⟩
    · have d2 : decide (0 ≤ sent) = false := decide_eq_false e2
      rw [d2]
      go_enter Try.func77, Try.ntmps77
      go_wp2_with fail
      go_ret
      exact ⟨rfl, B2.out _ _⟩
  · have g1 : ((n : Int) == vars) = false := beq_eq_false_iff_ne.2 e1
    have d1 : decide ((n : Int) = vars) = false := decide_eq_false e1
    rw [d1]
    clear e1
    go_enter Try.func77, Try.ntmps77
    go_wp2_with fail
    go_ret
    exact ⟨rfl, B2.out _ _⟩
end
end Go.Proofs.Ytgijkgngldfdiaa
