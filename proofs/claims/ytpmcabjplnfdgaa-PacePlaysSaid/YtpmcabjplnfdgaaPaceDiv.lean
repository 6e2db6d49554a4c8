/- bits.Div64 where what is divided by is at most 2^20. Helper of the paces. -/
import Derived.Test.YtpmcabjplnfdgaaPaceNums
import Derived.Test.YtpmcabjplnfdgaaShelf
import Derived.Deep.QuietTactic
import Derived.BigQuiet
import Derived.WalkSpells
import Derived.WalkLawsBesides
namespace Go.Proofs.Ytpmcabjplnfdgaa
open Go.RowKit
set_option linter.unusedVariables false
set_option linter.unusedSimpArgs false
theorem Div64_low (lo y : Nat) (hlo : lo < 18446744073709551616) (hy : 0 < y) (hy2 : y ≤ 1048576) (w : World) :
    Calls Try.prog 22 #[.int .u64 ((0 : Nat) : Int), .int .u64 lo, .int .u64 y] w fun e w' => e = .returned (.tuple #[.int .u64 ((lo / y : Nat) : Int), .int .u64 ((lo % y : Nat) : Int)]) ∧ w.drew = w' := by
  have h1 : (((y : Nat) : Int) == 0) = false := by simp; omega
  have h2 : ¬ (y : Int) ≤ 0 := by omega
  have h3 : (y : Int) ≠ 0 := by omega
  have hW0 : ((lo / y : Nat) : Int) = (lo : Int) / (y : Int) := by push_cast; rfl
  have hW : IntKind.u64.wrap ((lo : Int) / (y : Int)) = (lo : Int) / (y : Int) := by
    have : lo / y ≤ lo := Nat.div_le_self _ _
    rw [← hW0, IntKind.wrap_u64]
    generalize lo / y = q at *
    omega
  have HW0 := Lib.hid hW0
  clear hW0
  go_enter Try.func22, Try.ntmps22
  go_wp2
  go_region
  go_wp2
  go_ret2
  exact ⟨ret_pair HW0.out.symm rfl, rfl⟩
set_option maxRecDepth 100000 in
theorem Div64_high (hi lo y s : Nat) (hhi : 0 < hi) (hlt : hi < y) (hlo : lo < 18446744073709551616) (hy2 : y ≤ 1048576) (hs : s ≤ 62) (hs2 : 43 ≤ s) (hy3 : y * 2 ^ s < 18446744073709551616) (w : World)
    (K : Calls Try.prog 24 #[.int .u64 y] w fun e w' => e = .returned (.int .i64 s) ∧ w = w') :
    Calls Try.prog 22 #[.int .u64 (hi : Int), .int .u64 lo, .int .u64 y] w fun e w' => e = .returned (.tuple #[.int .u64 (((hi * 18446744073709551616 + lo) / y : Nat) : Int), .int .u64 (((hi * 18446744073709551616 + lo) % y : Nat) : Int)]) ∧ w = w' := by
  obtain ⟨Y, y1, H, U, T, t1, t0, q1, m1, r1, V, q0, m0, r0, Z, ⟨F1, F2, F2b, F3, F4, F5, F6, F7, F7b, F8, F8b⟩, ⟨F9, F9b, F10, F10b, F10c, F11, F11b⟩, ⟨F12, F13, F13b, F14, F14b, F14c, F15, F15b⟩, F16, F17, F18⟩ := div_nums hi lo y s hlt hlo hs2 hs hy3
  have h1 : (((y : Nat) : Int) == 0) = false := by simp; omega
  have h2 : ¬ (y : Int) ≤ (hi : Int) := by omega
  have h3 : (((hi : Nat) : Int) == 0) = false := by simp; omega
  have F2c : ((y1 : Int) == 0) = false := by simp; omega
  have G1 : decide ((4294967296 : Int) ≤ (q1 : Int)) = false := by simp; omega
  have G2 : ¬ (4294967296 : Int) ≤ (q1 : Int) := by omega
  have G3 : decide ((4294967296 : Int) * (r1 : Int) + (t1 : Int) < 0) = false := by simp; omega
  have G4 : decide ((4294967296 : Int) ≤ (q0 : Int)) = false := by simp; omega
  have G5 : ¬ (4294967296 : Int) ≤ (q0 : Int) := by omega
  have G6 : decide ((4294967296 : Int) * (r0 : Int) + (t0 : Int) < 0) = false := by simp; omega
  have G7 : IntKind.u64.wrap ((q1 : Int) * 4294967296 + (q0 : Int)) = (q1 : Int) * 4294967296 + (q0 : Int) := by rw [IntKind.wrap_u64]; omega
  have G8 : IntKind.u64.wrap ((q1 : Int) * 4294967296) = (q1 : Int) * 4294967296 := by rw [IntKind.wrap_u64]; omega
  have HF17 := Lib.hid F17
  have KK := Lib.hid K
  clear K F17 F9b F13b hy3
  generalize hi * 18446744073709551616 + lo = X at *
  go_enter Try.func22, Try.ntmps22
  go_wp2_with (go_at_call 24; refine KK.out.mono ?_; rintro e w' ⟨rfl, rfl⟩)
  go_loop [15, 16] (fun a b => a = .int .u64 q1 ∧ b = .int .u64 r1) (fun _ _ => 0)
  case atStart => exact ⟨rfl, rfl⟩
  case round =>
    obtain ⟨rfl, rfl⟩ := hrel
    clear F1 F2 F3 F4 F5 F6 F7 F8 F9 F10 F11
    go_wp2
    go_loop [18, 16] (fun a b => a = .int .u64 q0 ∧ b = .int .u64 r0) (fun _ _ => 0)
    case atStart => exact ⟨rfl, rfl⟩
    case round =>
      obtain ⟨rfl, rfl⟩ := hrel
      clear F12 F13 F14 F15
      go_wp2
      go_ret2
      exact ⟨ret_pair HF17.out rfl, rfl⟩
theorem Div64_any (hi lo y : Nat) (hlt : hi < y) (hlo : lo < 18446744073709551616) (hy2 : y ≤ 1048576) (w : World) :
    Calls Try.prog 22 #[.int .u64 (hi : Int), .int .u64 lo, .int .u64 y] w fun e w' => e = .returned (.tuple #[.int .u64 (((hi * 18446744073709551616 + lo) / y : Nat) : Int), .int .u64 (((hi * 18446744073709551616 + lo) % y : Nat) : Int)]) ∧ ∃ n, w' = w.drewN n := by
  rcases Nat.eq_zero_or_pos hi with rfl | hpos
  · refine (Div64_low lo y hlo (by omega) hy2 w).mono ?_
    rintro e w' ⟨rfl, rfl⟩
    rw [Nat.zero_mul, Nat.zero_add]
    exact ⟨rfl, 1, rfl⟩
  · obtain ⟨b1, b2, b3⟩ := bitLen_bounds y (by omega) hy2
    have b4 : y * 2 ^ (64 - Lib.bitLen y) < 18446744073709551616 := by
      have e : 2 ^ Lib.bitLen y * 2 ^ (64 - Lib.bitLen y) = 18446744073709551616 := by rw [← Nat.pow_add, show Lib.bitLen y + (64 - Lib.bitLen y) = 64 by omega]
      rw [← e]
      exact Nat.mul_lt_mul_of_pos_right b3 (Nat.two_pow_pos _)
    refine (Div64_high hi lo y (64 - Lib.bitLen y) hpos hlt hlo hy2 (by omega) (by omega) b4 w ?_).mono ?_
    · refine (Try.bits_LeadingZeros64 y w (by omega) (by omega)).mono ?_
      rintro e w' ⟨rfl, rfl⟩
      refine ⟨ret_int ?_, rfl⟩
      rw [Int.toNat_natCast]
      omega
    · rintro e w' ⟨rfl, rfl⟩
      exact ⟨rfl, 0, rfl⟩
end Go.Proofs.Ytpmcabjplnfdgaa
