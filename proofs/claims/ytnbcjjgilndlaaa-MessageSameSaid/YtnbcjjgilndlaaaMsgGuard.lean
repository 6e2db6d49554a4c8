/- Messages: guard, deferred. Helper. -/
import Derived.Test.YtnbcjjgilndlaaaMsgA
import Derived.Defers
import Derived.Tactics2
import Derived.Recover
import Derived.Laws.Pointers
namespace Go.Proofs.Ytnbcjjgilndlaaa
open Go.RowKit
set_option linter.unusedVariables false
set_option linter.unusedSimpArgs false
set_option maxRecDepth 100000
theorem guard_idle (p : Addr) (w : World) :
    CallsD Try.prog 63 #[.pointer (some p)] .returning w fun e u' w' => e = .returned (.tuple #[]) ∧ u' = .returning ∧ w' = w := by
  refine callsD_of_wpS Try.func63 rfl fun c₀ cs hu => ?_
  apply wpS_seq
  apply wpS_region
  simp [wpOpsS, go_sem, recoverD, hu, Try.ntmps63, Exit.thenS]
  refine wpS_of_wp ?_
  simp only [List.size_toArray, List.length_nil, List.length_cons, Nat.reduceAdd, Nat.reduceSub, Array.replicate_succ, Array.replicate_zero, List.push_toArray, List.append_toArray, List.nil_append, List.cons_append, List.setIfInBounds_toArray, List.set_cons_succ, List.set_cons_zero]
  go_wp2_with fail
  cases c₀
  simp_all [bodyPostS, results, Try.results63]
/-- What ended it, caught. -/
def caught : List PanicEntry := [{ v := .iface 128 (.agg #[]), recovered := true }]
theorem guard_caught (p : Addr) (x : Bool) (w : World) (hc : w.cell? p = some (.bool x)) (hz : w.frozen? p = false) :
    CallsD Try.prog 63 #[.pointer (some p)] (.panicking boom) w fun e u' w' => e = .returned (.tuple #[]) ∧ u' = .panicking caught ∧ w' = (w.alloc (.cells #[] 128)).setCell p (.bool true) := by
  refine callsD_of_wpS Try.func63 rfl fun c₀ cs hu => ?_
  have hlt := World.block_lt_of_cell? w _ hc
  have hz2 : (w.alloc (.cells #[] 128)).frozen? p = false := ((Nw.refl w).alloc _).frozen hc hz
  have hta : ∀ w, (Instr.typeAssert (.iface 128 (.agg #[])) 20 128 true).run Try.prog w = .ok (.tuple #[.agg #[], .bool true]) w := fun w => by kernel_rfl
  apply wpS_seq
  apply wpS_region
  simp [wpOpsS, go_sem, recoverD, hu, Try.ntmps63, Exit.thenS, boom]
  refine wpS_of_wp ?_
  simp only [List.size_toArray, List.length_nil, List.length_cons, Nat.reduceAdd, Nat.reduceSub, Array.replicate_succ, Array.replicate_zero, List.push_toArray, List.append_toArray, List.nil_append, List.cons_append, List.setIfInBounds_toArray, List.set_cons_succ, List.set_cons_zero]
  go_wp2_with fail
  cases c₀
  simp_all [bodyPostS, results, Try.results63, caught]
end Go.Proofs.Ytnbcjjgilndlaaa
