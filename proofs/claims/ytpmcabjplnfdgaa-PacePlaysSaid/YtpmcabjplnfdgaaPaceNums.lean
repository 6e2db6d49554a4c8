/- The numbers of bits.Div64 where what is divided by is at most 2^20. Helper of the paces. -/
import Derived.Test.YtpmcabjplnfdgaaPacePlain
import Derived.Laws.Bits64b
import Derived.Lib.BitFns
namespace Go.Proofs.Ytpmcabjplnfdgaa
open Go.RowKit
set_option linter.unusedVariables false
set_option linter.unusedSimpArgs false
theorem bitLenAux_lt : ∀ (f x : Nat), x < 2 ^ f → x < 2 ^ Lib.bitLenAux f x
  | 0, x, h => by simpa [Lib.bitLenAux] using h
  | f + 1, x, h => by
    unfold Lib.bitLenAux
    split
    · next h0 => subst h0; simp
    · have := bitLenAux_lt f (x / 2) (by rw [Nat.pow_succ] at h; omega)
      rw [Nat.add_comm, Nat.pow_succ]
      omega
theorem bitLen_bounds (y : Nat) (h2 : 2 ≤ y) (hy : y ≤ 1048576) : 2 ≤ Lib.bitLen y ∧ Lib.bitLen y ≤ 21 ∧ y < 2 ^ Lib.bitLen y := by
  have h3 : y < 2 ^ Lib.bitLen y := bitLenAux_lt 64 y (Nat.lt_of_le_of_lt hy (by decide))
  refine ⟨?_, Lib.bitLen_le y 21 (by omega) (Nat.lt_of_le_of_lt hy (by decide)), h3⟩
  rcases Nat.lt_or_ge (Lib.bitLen y) 2 with h | h
  · exfalso
    have h4 : Lib.bitLen y = 0 ∨ Lib.bitLen y = 1 := by omega
    rcases h4 with h4 | h4 <;> rw [h4] at h3 <;> omega
  · exact h
theorem digits (U m1 r1 V m0 r0 T Z : Nat) (h1 : m1 + r1 = U) (h2 : m0 + r0 = V) (h3 : V = r1 * 4294967296 + T / 4294967296) (h4 : Z = r0 * 4294967296 + T % 4294967296) :
    U * 18446744073709551616 + T = m1 * 4294967296 * 4294967296 + m0 * 4294967296 + Z := by omega
/-- The long division by a number of few bits: each number, as the walk meets it. -/
theorem div_nums (hi lo y s : Nat) (hlt : hi < y) (hlo : lo < 18446744073709551616) (hs2 : 43 ≤ s) (hs : s ≤ 62) (hy : y * 2 ^ s < 18446744073709551616) :
    ∃ Y y1 H U T t1 t0 q1 m1 r1 V q0 m0 r0 Z : Nat,
      (IntKind.u64.wrap ((y : Int) * 2 ^ s) = (Y : Int) ∧ (Y : Int) / 4294967296 = (y1 : Int) ∧ 0 < y1 ∧ bits .and .u64 (Y : Int) 4294967295 = 0 ∧ IntKind.u64.wrap ((hi : Int) * 2 ^ s) = (H : Int) ∧
      bits .or .u64 (H : Int) ((lo : Int) / 2 ^ (64 - s)) = (U : Int) ∧ IntKind.u64.wrap ((lo : Int) * 2 ^ s) = (T : Int) ∧ (T : Int) / 4294967296 = (t1 : Int) ∧ t1 < 4294967296 ∧
      bits .and .u64 (T : Int) 4294967295 = (t0 : Int) ∧ t0 < 4294967296) ∧
      ((U : Int) / (y1 : Int) = (q1 : Int) ∧ q1 < 4294967296 ∧ (q1 : Int) * (y1 : Int) = (m1 : Int) ∧ m1 ≤ U ∧ U < 18446744073709551616 ∧ (U : Int) - (m1 : Int) = (r1 : Int) ∧ r1 < 4294967296) ∧
      (IntKind.u64.wrap (IntKind.u64.wrap (IntKind.u64.wrap ((U : Int) * 4294967296) + (t1 : Int)) - IntKind.u64.wrap ((q1 : Int) * (Y : Int))) = (V : Int) ∧
      (V : Int) / (y1 : Int) = (q0 : Int) ∧ q0 < 4294967296 ∧ (q0 : Int) * (y1 : Int) = (m0 : Int) ∧ m0 ≤ V ∧ V < 18446744073709551616 ∧ (V : Int) - (m0 : Int) = (r0 : Int) ∧ r0 < 4294967296) ∧
      (IntKind.u64.wrap (IntKind.u64.wrap (IntKind.u64.wrap ((V : Int) * 4294967296) + (t0 : Int)) - IntKind.u64.wrap ((q0 : Int) * (Y : Int))) = (Z : Int) ∧
      (q1 : Int) * 4294967296 + (q0 : Int) = (((hi * 18446744073709551616 + lo) / y : Nat) : Int) ∧ (Z : Int) / 2 ^ s = (((hi * 18446744073709551616 + lo) % y : Nat) : Int)) := by
  have p32 : (2 : Nat) ^ 32 = 4294967296 := by decide
  have p64 : (2 : Nat) ^ 64 = 18446744073709551616 := by decide
  have hP : 0 < 2 ^ s := Nat.two_pow_pos s
  have hPA : 2 ^ (64 - s) * 2 ^ s = 18446744073709551616 := by rw [← Nat.pow_add, show 64 - s + s = 64 by omega, p64]
  have hP1 : 2 ^ (s - 32) * 4294967296 = 2 ^ s := by rw [← p32, ← Nat.pow_add, show s - 32 + 32 = s by omega]
  have hA : 0 < 2 ^ (64 - s) := Nat.two_pow_pos _
  have hYd : y * 2 ^ s = y * 2 ^ (s - 32) * 4294967296 := by rw [Nat.mul_assoc, hP1]
  have hy0 : 0 < y := by omega
  have hy1 : 0 < y * 2 ^ (s - 32) := Nat.mul_pos hy0 (Nat.two_pow_pos _)
  have hH : (hi + 1) * 2 ^ s ≤ y * 2 ^ s := Nat.mul_le_mul_right _ hlt
  rw [Nat.add_mul, Nat.one_mul] at hH
  have hL : lo / 2 ^ (64 - s) < 2 ^ s := by rw [Nat.div_lt_iff_lt_mul hA, Nat.mul_comm, hPA]; exact hlo
  have hor : hi * 2 ^ s ||| lo / 2 ^ (64 - s) = hi * 2 ^ s + lo / 2 ^ (64 - s) := by
    rw [Nat.mul_comm, Nat.two_pow_add_eq_or_of_lt hL]
  have hT : lo * 2 ^ s % 18446744073709551616 = lo % 2 ^ (64 - s) * 2 ^ s := by rw [← hPA, Nat.mul_mod_mul_right]
  have hX : (hi * 18446744073709551616 + lo) * 2 ^ s = (hi * 2 ^ s + lo / 2 ^ (64 - s)) * 18446744073709551616 + lo * 2 ^ s % 18446744073709551616 := by
    have e1 : lo * 2 ^ s = lo / 2 ^ (64 - s) * 18446744073709551616 + lo % 2 ^ (64 - s) * 2 ^ s := by
      have := Nat.div_add_mod lo (2 ^ (64 - s))
      have e2 : (2 ^ (64 - s) * (lo / 2 ^ (64 - s)) + lo % 2 ^ (64 - s)) * 2 ^ s = lo * 2 ^ s := by rw [this]
      rw [← e2, Nat.add_mul, Nat.mul_comm (2 ^ (64 - s)), Nat.mul_assoc, hPA]
    rw [hT, Nat.add_mul, Nat.add_mul, e1, Nat.mul_right_comm]
    exact (Nat.add_assoc _ _ _).symm
  have cY : ((y * 2 ^ s : Nat) : Int) = (y : Int) * 2 ^ s := by push_cast; rfl
  have cH : ((hi * 2 ^ s : Nat) : Int) = (hi : Int) * 2 ^ s := by push_cast; rfl
  have cT : ((lo * 2 ^ s : Nat) : Int) = (lo : Int) * 2 ^ s := by push_cast; rfl
  have cL : ((lo / 2 ^ (64 - s) : Nat) : Int) = (lo : Int) / 2 ^ (64 - s) := by push_cast; rfl
  generalize hYe : y * 2 ^ s = Y at *
  generalize hye : y * 2 ^ (s - 32) = y1 at *
  generalize hHe : hi * 2 ^ s = H at *
  generalize hTe : lo * 2 ^ s = TT at *
  generalize hLe : lo / 2 ^ (64 - s) = L at *
  generalize hUe : H + L = U at *
  generalize hTe2 : TT % 18446744073709551616 = T at *
  have hUY : U < Y := by omega
  have hTl : T < 18446744073709551616 := by omega
  -- the first digit
  have d1 := Nat.div_add_mod U y1
  have d2 := Nat.mod_lt U hy1
  have d3 : U / y1 < 4294967296 := by rw [Nat.div_lt_iff_lt_mul hy1, Nat.mul_comm]; omega
  have cq1 : ((U / y1 : Nat) : Int) = (U : Int) / (y1 : Int) := by push_cast; rfl
  have cm1 : ((y1 * (U / y1) : Nat) : Int) = ((U / y1 : Nat) : Int) * (y1 : Int) := by rw [Nat.mul_comm]; push_cast; rfl
  have cqY : ((U / y1 * Y : Nat) : Int) = ((U / y1 : Nat) : Int) * (Y : Int) := by push_cast; rfl
  have eqY : U / y1 * Y = y1 * (U / y1) * 4294967296 := by rw [hYd, ← Nat.mul_assoc, Nat.mul_comm (U / y1)]
  generalize hq1 : U / y1 = q1 at *
  generalize hr1 : U % y1 = r1 at *
  generalize hm1 : y1 * q1 = m1 at *
  -- the second digit
  obtain ⟨V, hVe⟩ : ∃ V : Nat, V = r1 * 4294967296 + T / 4294967296 := ⟨_, rfl⟩
  have hV : V < Y := by omega
  have f1 := Nat.div_add_mod V y1
  have f2 := Nat.mod_lt V hy1
  have f3 : V / y1 < 4294967296 := by rw [Nat.div_lt_iff_lt_mul hy1, Nat.mul_comm]; omega
  have cq0 : ((V / y1 : Nat) : Int) = (V : Int) / (y1 : Int) := by push_cast; rfl
  have cm0 : ((y1 * (V / y1) : Nat) : Int) = ((V / y1 : Nat) : Int) * (y1 : Int) := by rw [Nat.mul_comm]; push_cast; rfl
  have cq0Y : ((V / y1 * Y : Nat) : Int) = ((V / y1 : Nat) : Int) * (Y : Int) := by push_cast; rfl
  have eq0Y : V / y1 * Y = y1 * (V / y1) * 4294967296 := by rw [hYd, ← Nat.mul_assoc, Nat.mul_comm (V / y1)]
  generalize hq0 : V / y1 = q0 at *
  generalize hr0 : V % y1 = r0 at *
  generalize hm0 : y1 * q0 = m0 at *
  -- both together
  obtain ⟨Z, hZe⟩ : ∃ Z : Nat, Z = r0 * 4294967296 + T % 4294967296 := ⟨_, rfl⟩
  obtain ⟨X, hXe⟩ : ∃ X : Nat, X = hi * 18446744073709551616 + lo := ⟨_, rfl⟩
  obtain ⟨Q, hQe⟩ : ∃ Q : Nat, Q = q1 * 4294967296 + q0 := ⟨_, rfl⟩
  rw [← hXe] at hX ⊢
  have hZ : Z < Y := by omega
  have hall : X * 2 ^ s = Q * y * 2 ^ s + Z := by
    have a1 : q1 * 4294967296 * Y = m1 * 4294967296 * 4294967296 := by rw [Nat.mul_right_comm, eqY]
    rw [hX, Nat.mul_assoc, hYe, hQe, Nat.add_mul, a1, eq0Y]
    exact digits U m1 r1 V m0 r0 T Z d1 f1 hVe hZe
  have hQX : Q * y ≤ X := by
    have : Q * y * 2 ^ s ≤ X * 2 ^ s := by omega
    exact Nat.le_of_mul_le_mul_right this hP
  have hZX : Z = (X - Q * y) * 2 ^ s := by rw [Nat.sub_mul]; omega
  have hRy : X - Q * y < y := by
    have : (X - Q * y) * 2 ^ s < y * 2 ^ s := by rw [← hZX, hYe]; exact hZ
    exact Nat.lt_of_mul_lt_mul_right this
  have hXd : X = y * Q + (X - Q * y) := by rw [Nat.mul_comm y]; omega
  have hquo : X / y = Q := by rw [hXd, Nat.mul_add_div hy0, Nat.div_eq_of_lt hRy, Nat.add_zero]
  have hrem : X % y = X - Q * y := by
    have := Nat.mul_add_mod y Q (X - Q * y)
    rw [← hXd] at this
    rw [this, Nat.mod_eq_of_lt hRy]
  have cZ : (Z : Int) / 2 ^ s = ((Z / 2 ^ s : Nat) : Int) := by push_cast; rfl
  refine ⟨Y, y1, H, U, T, T / 4294967296, T % 4294967296, q1, m1, r1, V, q0, m0, r0, Z, ⟨?_, ?_, hy1, ?_, ?_, ?_, ?_, ?_, ?_, ?_, ?_⟩, ⟨?_, ?_, ?_, ?_, ?_, ?_, ?_⟩, ⟨?_, ?_, ?_, ?_, ?_, ?_, ?_, ?_⟩, ?_, ?_, ?_⟩
  · rw [← cY, IntKind.wrap_u64]; omega
  · omega
  · have := bits_and_u64_nat Y 4294967295 (by omega) (by omega)
    rw [show Y &&& 4294967295 = Y % 4294967296 from Nat.and_two_pow_sub_one_eq_mod Y 32] at this
    rw [show ((4294967295 : Nat) : Int) = 4294967295 from rfl] at this
    rw [this]
    omega
  · rw [← cH, IntKind.wrap_u64]; omega
  · rw [← cL, bits_or_u64_nat H L (by omega) (by omega), hor]
  · rw [← cT, IntKind.wrap_u64]; omega
  · omega
  · omega
  · have := bits_and_u64_nat T 4294967295 (by omega) (by omega)
    rw [show T &&& 4294967295 = T % 4294967296 from Nat.and_two_pow_sub_one_eq_mod T 32] at this
    exact this
  · omega
  · exact cq1.symm
  · exact d3
  · exact cm1.symm
  · omega
  · omega
  · omega
  · omega
  · rw [← cqY, IntKind.wrap_u64, IntKind.wrap_u64, IntKind.wrap_u64, IntKind.wrap_u64]; omega
  · exact cq0.symm
  · exact f3
  · exact cm0.symm
  · omega
  · omega
  · omega
  · omega
  · rw [← cq0Y, IntKind.wrap_u64, IntKind.wrap_u64, IntKind.wrap_u64, IntKind.wrap_u64]; omega
  · rw [hquo]; omega
  · rw [cZ, hrem, hZX, Nat.mul_div_cancel _ hP]
end Go.Proofs.Ytpmcabjplnfdgaa
