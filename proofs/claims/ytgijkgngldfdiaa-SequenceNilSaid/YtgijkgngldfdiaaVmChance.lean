/- Numbers by chance. Helper. -/
import Derived.Test.YtgijkgngldfdiaaOpen
import Derived.Laws.Bits64
import Derived.Laws.BitsAllLaws
namespace Go.Proofs.Ytgijkgngldfdiaa
open Go.RowKit
set_option linter.unusedVariables false
set_option linter.unusedSimpArgs false
def chanceM (seed d1 : Int) : Int :=
  let x0 := IntKind.u64.wrap (IntKind.u64.wrap seed + IntKind.u64.wrap (d1 * 11400714819323198485))
  let x1 := IntKind.u64.wrap (bits .xor .u64 x0 (x0 / 1073741824) * 13787848793156543929)
  let x2 := IntKind.u64.wrap (bits .xor .u64 x1 (x1 / 134217728) * 10723151780598845931)
  let x3 := bits .xor .u64 x2 (x2 / 2147483648)
  wrap64 (x3 / 2)
def chanceV (seed drawn : Int) : Int := chanceM seed (IntKind.u64.wrap (wrap64 (drawn + 1)))
set_option maxRecDepth 100000 in
theorem chance_any (seed drawn : Int) (w : World) :
    Calls Try.prog 109 #[.int .i64 seed, .int .i64 drawn] w fun e w' => e = .returned (.int .i64 (chanceV seed drawn)) ∧ w = w' := by
  go_enter Try.func109, Try.ntmps109
  go_wp2
  go_ret
  exact ⟨rfl, rfl⟩
theorem drawn_next (drawn : Int) : IntKind.u64.wrap (wrap64 (drawn + 1)) = IntKind.u64.wrap (IntKind.u64.wrap drawn + 1) := by
  simp only [wrap64, IntKind.wrap, IntKind.bits, IntKind.signed]
  simp
  try omega
theorem xor_range (a b : Int) (h1 : 0 ≤ a) (h2 : a < 18446744073709551616) (h3 : 0 ≤ b) (h4 : b < 18446744073709551616) : 0 ≤ bits .xor .u64 a b ∧ bits .xor .u64 a b < 18446744073709551616 := by
  rw [u64_xor a b h1 h2 h3 h4]
  have hx : a.toNat ^^^ b.toNat < 2 ^ 64 := Nat.xor_lt_two_pow (by omega) (by omega)
  omega
theorem u64_range (x : Int) : 0 ≤ IntKind.u64.wrap x ∧ IntKind.u64.wrap x < 18446744073709551616 := by
  rw [IntKind.wrap_u64]; omega
theorem u64_small {x : Int} (h1 : 0 ≤ x) (h2 : x < 18446744073709551616) : IntKind.u64.wrap x = x := by
  rw [IntKind.wrap_u64]; omega
theorem udiv (x : Int) (k : Int) (hk : 0 < k) (h1 : 0 ≤ x) (h2 : x < 18446744073709551616) : IntKind.u64.wrap (x.tdiv k) = x / k := by
  have e : x.tdiv k = x / k := Int.tdiv_eq_ediv_of_nonneg h1
  have h3 : 0 ≤ x / k := Int.ediv_nonneg h1 (by omega)
  have h4 : x / k ≤ x := Int.ediv_le_self _ h1
  rw [e, u64_small h3 (by omega)]
/-- One round: the quotient and the shift say the same. -/
def chanceR (seed d1 : Int) : Int :=
  let x0 := IntKind.u64.wrap (IntKind.u64.wrap seed + IntKind.u64.wrap (d1 * 11400714819323198485))
  let x1 := IntKind.u64.wrap (bits .xor .u64 x0 (IntKind.u64.wrap (x0.tdiv 1073741824)) * 13787848793156543929)
  let x2 := IntKind.u64.wrap (bits .xor .u64 x1 (IntKind.u64.wrap (x1.tdiv 134217728)) * 10723151780598845931)
  let x3 := bits .xor .u64 x2 (IntKind.u64.wrap (x2.tdiv 2147483648))
  wrap64 (IntKind.u64.wrap (x3.tdiv 2))
theorem chanceR_eq (seed d1 : Int) : chanceR seed d1 = chanceM seed d1 := by
  unfold chanceR chanceM
  dsimp only
  have r := u64_range (IntKind.u64.wrap seed + IntKind.u64.wrap (d1 * 11400714819323198485))
  generalize IntKind.u64.wrap (IntKind.u64.wrap seed + IntKind.u64.wrap (d1 * 11400714819323198485)) = x0 at *
  rw [udiv x0 _ (by decide) r.1 r.2]
  have r1 := u64_range (bits .xor .u64 x0 (x0 / 1073741824) * 13787848793156543929)
  generalize IntKind.u64.wrap (bits .xor .u64 x0 (x0 / 1073741824) * 13787848793156543929) = x1 at *
  rw [udiv x1 _ (by decide) r1.1 r1.2]
  have r2 := u64_range (bits .xor .u64 x1 (x1 / 134217728) * 10723151780598845931)
  generalize IntKind.u64.wrap (bits .xor .u64 x1 (x1 / 134217728) * 10723151780598845931) = x2 at *
  rw [udiv x2 _ (by decide) r2.1 r2.2]
  have r3 := xor_range x2 (x2 / 2147483648) r2.1 r2.2 (by omega) (by omega)
  generalize bits .xor .u64 x2 (x2 / 2147483648) = x3 at *
  rw [udiv x3 _ (by decide) r3.1 r3.2]
theorem chance_pos (seed drawn : Int) : 0 ≤ chanceV seed drawn := by
  unfold chanceV chanceM
  dsimp only
  have r2 := u64_range (bits .xor .u64 (IntKind.u64.wrap (bits .xor .u64 (IntKind.u64.wrap (IntKind.u64.wrap seed + IntKind.u64.wrap (IntKind.u64.wrap (wrap64 (drawn + 1)) * 11400714819323198485))) ((IntKind.u64.wrap (IntKind.u64.wrap seed + IntKind.u64.wrap (IntKind.u64.wrap (wrap64 (drawn + 1)) * 11400714819323198485))) / 1073741824) * 13787848793156543929)) (IntKind.u64.wrap (bits .xor .u64 (IntKind.u64.wrap (IntKind.u64.wrap seed + IntKind.u64.wrap (IntKind.u64.wrap (wrap64 (drawn + 1)) * 11400714819323198485))) ((IntKind.u64.wrap (IntKind.u64.wrap seed + IntKind.u64.wrap (IntKind.u64.wrap (wrap64 (drawn + 1)) * 11400714819323198485))) / 1073741824) * 13787848793156543929) / 134217728) * 10723151780598845931)
  generalize IntKind.u64.wrap (bits .xor .u64 (IntKind.u64.wrap (bits .xor .u64 (IntKind.u64.wrap (IntKind.u64.wrap seed + IntKind.u64.wrap (IntKind.u64.wrap (wrap64 (drawn + 1)) * 11400714819323198485))) ((IntKind.u64.wrap (IntKind.u64.wrap seed + IntKind.u64.wrap (IntKind.u64.wrap (wrap64 (drawn + 1)) * 11400714819323198485))) / 1073741824) * 13787848793156543929)) (IntKind.u64.wrap (bits .xor .u64 (IntKind.u64.wrap (IntKind.u64.wrap seed + IntKind.u64.wrap (IntKind.u64.wrap (wrap64 (drawn + 1)) * 11400714819323198485))) ((IntKind.u64.wrap (IntKind.u64.wrap seed + IntKind.u64.wrap (IntKind.u64.wrap (wrap64 (drawn + 1)) * 11400714819323198485))) / 1073741824) * 13787848793156543929) / 134217728) * 10723151780598845931) = x2 at *
  have r3 := xor_range x2 (x2 / 2147483648) r2.1 r2.2 (by omega) (by omega)
  generalize bits .xor .u64 x2 (x2 / 2147483648) = x3 at *
  have e : wrap64 (x3 / 2) = x3 / 2 := by unfold wrap64; omega
  rw [e]
  omega
set_option maxRecDepth 100000 in
theorem refChance_any (seed drawn : Int) (w : World) :
    Calls Try.prog 81 #[.int .i64 seed, .int .i64 drawn] w fun e w' => e = .returned (.int .i64 (chanceV seed drawn)) ∧ w = w' := by
  have h : chanceV seed drawn = chanceR seed (IntKind.u64.wrap (IntKind.u64.wrap drawn + 1)) := by unfold chanceV; rw [drawn_next, chanceR_eq]
  rw [h]
  clear h
  go_enter Try.func81, Try.ntmps81
  go_wp2
  go_ret
  exact ⟨rfl, rfl⟩
end Go.Proofs.Ytgijkgngldfdiaa
