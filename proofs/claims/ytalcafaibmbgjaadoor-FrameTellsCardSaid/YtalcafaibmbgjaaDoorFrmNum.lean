/- Frames: a number that some bytes are; a copy of bytes. Helper. -/
import Derived.Test.YtalcafaibmbgjaaDoorFrmGo
import Derived.Lib.SliceRun
namespace Go.Proofs.YtalcafaibmbgjaaDoor
open Go.RowKit
set_option linter.unusedVariables false
set_option linter.unusedSimpArgs false
set_option maxRecDepth 100000
set_option maxHeartbeats 3200000
/-- The number that bytes are, the highest first. -/
def numB (l : List UInt8) : Nat := l.foldl (fun a x => a * 256 + x.toNat) 0
theorem numB_snoc (l : List UInt8) (x : UInt8) : numB (l ++ [x]) = numB l * 256 + x.toNat := by simp [numB]
theorem numB_lt (l : List UInt8) : numB l < 256 ^ l.length := by
  suffices h : ∀ m : List UInt8, numB m.reverse < 256 ^ m.length by have := h l.reverse; simpa using this
  intro m
  induction m with
  | nil => simp [numB]
  | cons x m ih =>
    rw [List.reverse_cons, numB_snoc, List.length_cons, Nat.pow_succ]
    have := x.toNat_lt
    omega
theorem orU (U x : Nat) (hU : U < 16777216) (hx : x < 256) : bits .or .u32 ((U : Int) * 256) (x : Int) = ((U * 256 + x : Nat) : Int) := by
  have h1 : U * 256 ||| x = U * 256 + x := by
    have := Nat.two_pow_add_eq_or_of_lt (i := 8) (b := x) (by omega) U
    rw [show U * 256 = 2 ^ 8 * U by omega]
    exact this.symm
  show IntKind.u32.wrap ((BitVec.ofInt 32 ((U : Int) * 256) ||| BitVec.ofInt 32 (x : Int)).toNat : Int) = _
  have e1 : BitVec.ofInt 32 ((U : Int) * 256) = BitVec.ofNat 32 (U * 256) := by
    rw [show ((U : Int) * 256) = ((U * 256 : Nat) : Int) by push_cast; rfl]; rfl
  have e2 : BitVec.ofInt 32 (x : Int) = BitVec.ofNat 32 x := rfl
  rw [e1, e2, BitVec.toNat_or, BitVec.toNat_ofNat, BitVec.toNat_ofNat, Nat.mod_eq_of_lt (by omega), Nat.mod_eq_of_lt (by omega), h1]
  show ((U * 256 + x : Nat) : Int) % 4294967296 = _
  omega
theorem num_any (w : World) (A : Option Addr) (n c : Nat) (l : List UInt8) (hb : BytesAt w A l) (hn : l.length = n) (h4 : n ≤ 4) :
    Calls Tryd.prog 32 #[.slice A n c] w fun e w' => e = .returned (.int .u32 (numB l : Int)) ∧ w' = w := by
  have HB := Lib.hid hb
  have HN := Lib.hid hn
  clear hb hn
  go_enter Tryd.func32, Tryd.ntmps32
  go_wp2_with fail
  go_loopw [2, 7] (fun x y wr => ∃ i : Nat, i ≤ n ∧ x = .int .u32 (numB (l.take i) : Int) ∧ y = .int .i64 (i : Int) ∧ wr = w) (fun _ y _ => n - (intOf y).toNat)
  case atStart => exact ⟨0, Nat.zero_le _, by simp [numB], rfl, rfl⟩
  case round =>
    obtain ⟨i, hi, rfl, rfl, rfl⟩ := hrel
    by_cases hlt : i < n
    · have i1 : (i : Int) < (n : Int) := by omega
      obtain ⟨b, off, rfl, hblt, hcell⟩ := HB.out.get (k := i) (by rw [HN.out]; exact hlt)
      have hU : numB (l.take i) < 16777216 := by
        have h1 := numB_lt (l.take i)
        have h2 : (l.take i).length ≤ 3 := by rw [List.length_take, HN.out]; omega
        exact Nat.lt_of_lt_of_le h1 (Nat.pow_le_pow_right (by omega) h2)
      have hV : numB (l.take (i + 1)) = numB (l.take i) * 256 + (l[i]'(by rw [HN.out]; exact hlt)).toNat := by
        rw [List.take_succ_eq_append_getElem (by rw [HN.out]; exact hlt), numB_snoc]
      have hx := (l[i]'(by rw [HN.out]; exact hlt)).toNat_lt
      have HV := Lib.hid hV
      obtain ⟨U, hUe⟩ : ∃ U, numB (l.take i) = U := ⟨_, rfl⟩
      obtain ⟨x, hxe⟩ : ∃ x : Nat, (l[i]'(by rw [HN.out]; exact hlt)).toNat = x := ⟨_, rfl⟩
      have HUX := Lib.hid (And.intro hUe hxe)
      rw [hUe] at hU ⊢
      rw [hxe] at hcell hx
      have HBX := Lib.hid (And.intro hU hx)
      have e1 : IntKind.u32.wrap ((U : Int) * 256) = (U : Int) * 256 := by show ((U : Int) * 256) % 4294967296 = _; omega
      have e2 : IntKind.u32.wrap (x : Int) = (x : Int) := by show (x : Int) % 4294967296 = _; omega
      have e3 := orU U x hU hx
      clear hUe hxe hV hU hx
      go_wp2_with fail
      exact ⟨⟨i + 1, hlt, by rw [HV.out, HUX.out.1, HUX.out.2]; push_cast; rfl, by push_cast; rfl, trivial⟩, by simp [intOf]; omega⟩
    · obtain rfl : i = n := by omega
      have i1 : ¬ (i : Int) < (i : Int) := by omega
      have e : numB (l.take i) = numB l := by rw [List.take_of_length_le (by rw [HN.out]; exact Nat.le_refl _)]
      rw [e]
      go_wp2_with fail
      go_ret
      exact ⟨rfl, rfl⟩
end Go.Proofs.YtalcafaibmbgjaaDoor
