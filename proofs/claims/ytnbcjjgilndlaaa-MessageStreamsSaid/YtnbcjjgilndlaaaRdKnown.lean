/- Messages: the chapter's rows. Helper. -/
import Derived.Test.YtnbcjjgilndlaaaRdEncQ
import Derived.Test.YtnbcjjgilndlaaaRdEncS
namespace Go.Proofs.Ytnbcjjgilndlaaa
open Go.RowKit
set_option linter.unusedVariables false
set_option linter.unusedSimpArgs false
set_option maxRecDepth 100000
set_option maxHeartbeats 6400000
theorem known_any (w : World) : Calls Try.prog 8 #[] w fun e w' => e = .returned (.bool true) ∧ Nw w w' := by
  go_enter Try.func8, Try.ntmps8
  go_wp2_with fail
  refine (encPause w 258 (by omega)).mono ?_
  rintro e w1 ⟨A, c, rfl, hb, hc, n1⟩
  have HB := Lib.hid hb
  have N1 := Lib.hid n1
  clear hb n1 hc
  go_wp2_with fail
  refine (encErr w1 11 (by omega)).mono ?_
  rintro e w2 ⟨B, d, rfl, hb2, hd, n2⟩
  have s1 := (BytesAt.below HB.out n2 (Nat.le_refl _)).str 22 5 9 c Try.underlying22 Try.underlying5 Try.underlying9
  have s2 := hb2.str 22 5 9 d Try.underlying22 Try.underlying5 Try.underlying9
  rw [show (7 :: beW 258 4 : List UInt8) = [7, 0, 0, 1, 2] from by decide] at s1
  rw [show (5 :: beW 11 1 : List UInt8) = [5, 11] from by decide] at s2
  have t1 : (convert 22 9 (.slice A 5 c)).run Try.prog w2 = .ok (.string ⟨#[7, 0, 0, 1, 2]⟩) w2 := s1
  have t2 : (convert 22 9 (.slice B 2 d)).run Try.prog w2 = .ok (.string ⟨#[5, 11]⟩) w2 := s2
  have N2 := Lib.hid (N1.out.trans (n2.mono N1.out.size))
  clear s1 s2 hb2 hd n2
  go_wp2_with fail
  go_ret
  exact ⟨rfl, N2.out⟩
end Go.Proofs.Ytnbcjjgilndlaaa
