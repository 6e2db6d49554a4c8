/- The document's pace: Horizon, New, Tick, Rate, Wait. Helper of the paces. -/
import Derived.Test.YtpmcabjplnfdgaaPaceRef
import Derived.Test.YtpmcabjplnfdgaaPaceRate
namespace Go.Proofs.Ytpmcabjplnfdgaa
open Go.RowKit
set_option linter.unusedVariables false
set_option linter.unusedSimpArgs false
/-- A pace by value, as the document has it. -/
def pagg (p : Pc) : Value := .agg #[.int .i64 p.S, .int .i64 p.B, .int .i64 p.N, .int .i64 p.d, .int .i64 p.C]
def rcells (p : Pc) : Array Value := #[.int .i64 p.S, .int .i64 p.B, .int .i64 p.N, .int .i64 p.d, .int .i64 p.C]
set_option maxRecDepth 100000 in
theorem refHorizon_at (p : Pc) (w : World) (h : p.Ok) :
    Calls Try.prog 17 #[.agg #[.int .i64 p.S, .int .i64 p.B, .int .i64 p.N, .int .i64 p.d, .int .i64 p.C]] w fun e w' => e = .returned (.int .i64 (p.hz p.C : Nat)) ∧ ∃ n, w' = (w.alloc (.cells #[.int .i64 p.S, .int .i64 p.B, .int .i64 p.N, .int .i64 p.d, .int .i64 p.C] 33)).drewN n := by
  have hs := h.s
  have hbc := h.bc
  have hc := h.c
  have hdp := h.dpos
  obtain ⟨X, hX⟩ : ∃ X : Nat, X = p.C - p.B := ⟨_, rfl⟩
  have hx : (p.C : Int) - (p.B : Int) = (X : Int) := by omega
  obtain ⟨M, hM⟩ : ∃ M : Nat, M = 1099511627776 - p.S := ⟨_, rfl⟩
  have hm : (1099511627776 : Int) - (p.S : Int) = (M : Int) := by omega
  have ks := fun w => Scaled_any X p.N p.d M w (by omega) h.n hdp.1 hdp.2 (by omega)
  have hz : p.hz p.C = p.S + min (X * p.N / p.d) M := by rw [hX, hM]; rfl
  have hMl : M ≤ 1099511627776 := by omega
  have HZ := Lib.hid hz
  have KS := Lib.hid ks
  clear hz ks hX hM
  generalize X * p.N / p.d = Q at *
  generalize p.d = d at *
  go_enter Try.func17, Try.ntmps17
  go_wp2
  go_quiet ((go_at_call 23; exact Calls.quiet_of_same (KS.out _)))
  go_wp2
  go_ret
  exact ⟨ret_int (by have := HZ.out; omega), _, rfl⟩
theorem refHorizon_any (p : Pc) (w : World) (h : p.Ok) :
    Calls Try.prog 17 #[.agg #[.int .i64 p.S, .int .i64 p.B, .int .i64 p.N, .int .i64 p.d, .int .i64 p.C]] w fun e w' => e = .returned (.int .i64 (p.hz p.C : Nat)) ∧ Below w.heap.size w w' :=
  (refHorizon_at p w h).mono fun _ _ ⟨a, n, b⟩ => ⟨a, by rw [b]; exact Below.many ((Below.refl _ _).alloc (Nat.le_refl _) _) _⟩
theorem refNew_any (w : World) :
    Calls Try.prog 12 #[] w fun e w' => e = .returned (.agg #[.int .i64 0, .int .i64 0, .int .i64 0, .int .i64 1, .int .i64 0]) ∧ Below w.heap.size w w' := by
  go_enter Try.func12, Try.ntmps12
  go_wp2
  exact bodyPost_ret (v := .agg #[.int .i64 0, .int .i64 0, .int .i64 0, .int .i64 1, .int .i64 0]) (by simp [results, Try.results12, go_sem]) rfl ⟨rfl, (Below.refl _ _).alloc (Nat.le_refl _) _⟩
theorem refTick_any (p : Pc) (k : Int) (w : World) (h : p.Ok) :
    Calls Try.prog 13 #[.agg #[.int .i64 p.S, .int .i64 p.B, .int .i64 p.N, .int .i64 p.d, .int .i64 p.C], .int .i64 k] w fun e w' => e = .returned (.agg #[.int .i64 p.S, .int .i64 p.B, .int .i64 p.N, .int .i64 p.d, .int .i64 (p.tick k).C]) ∧ Below w.heap.size w w' := by
  have he : ((p.tick k).C : Int) = max (p.C : Int) k := by
    show ((max p.C k.toNat : Nat) : Int) = _
    omega
  generalize p.d = d at *
  by_cases hk : (p.C : Int) < k
  · have e1 : ((p.tick k).C : Int) = k := by omega
    rw [e1]
    clear he e1
    go_enter Try.func13, Try.ntmps13
    go_wp2
    exact bodyPost_ret (v := .agg #[.int .i64 p.S, .int .i64 p.B, .int .i64 p.N, .int .i64 d, .int .i64 k]) (by simp [results, Try.results13, go_sem]) rfl ⟨rfl, ((Below.refl _ _).alloc (Nat.le_refl _) _).alloc (by simp) _⟩
  · have e1 : ((p.tick k).C : Int) = (p.C : Int) := by omega
    rw [e1]
    clear he e1
    go_enter Try.func13, Try.ntmps13
    go_wp2
    exact bodyPost_ret (v := .agg #[.int .i64 p.S, .int .i64 p.B, .int .i64 p.N, .int .i64 d, .int .i64 p.C]) (by simp [results, Try.results13, go_sem]) rfl ⟨rfl, ((Below.refl _ _).alloc (Nat.le_refl _) _).alloc (by simp) _⟩
end Go.Proofs.Ytpmcabjplnfdgaa
