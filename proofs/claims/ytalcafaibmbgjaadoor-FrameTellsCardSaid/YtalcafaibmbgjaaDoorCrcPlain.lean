/- The plain law of crc: tables, linear maps, sums of joined texts. No program in sight. -/
import Derived.Lib.TrailingZeros
open Go
namespace Go.Proofs.YtalcafaibmbgjaaDoor
namespace CrcP
abbrev W := BitVec 32
def poly : W := 0xEDB88320#32
def step (c : W) : W := (c >>> 1) ^^^ (if c.getLsbD 0 then poly else 0#32)
def shift (c : W) : Nat → W
  | 0 => c
  | n + 1 => step (shift c n)
theorem step_xor (a b : W) : step (a ^^^ b) = step a ^^^ step b := by
  unfold step
  rw [BitVec.getLsbD_xor, BitVec.ushiftRight_xor_distrib]
  cases a.getLsbD 0 <;> cases b.getLsbD 0 <;> simp only [Bool.false_bne, Bool.true_bne, Bool.not_true, Bool.not_false, if_true, if_false, Bool.false_eq_true, BitVec.xor_zero]
  · ac_rfl
  · ac_rfl
  · rw [show a >>> 1 ^^^ poly ^^^ (b >>> 1 ^^^ poly) = (a >>> 1 ^^^ b >>> 1) ^^^ (poly ^^^ poly) from by ac_rfl, BitVec.xor_self, BitVec.xor_zero]
theorem step_zero : step 0#32 = 0#32 := by decide
theorem shift_xor (a b : W) (n : Nat) : shift (a ^^^ b) n = shift a n ^^^ shift b n := by
  induction n with
  | zero => rfl
  | succ n ih => simp only [shift, ih, step_xor]
theorem shift_zero (n : Nat) : shift 0#32 n = 0#32 := by
  induction n with
  | zero => rfl
  | succ n ih => simp only [shift, ih, step_zero]
theorem shift_add (c : W) (m n : Nat) : shift c (m + n) = shift (shift c m) n := by
  induction n with
  | zero => rfl
  | succ n ih => rw [← Nat.add_assoc]; simp only [shift, ih]
theorem shift_succ' (c : W) (n : Nat) : shift c (n + 1) = shift (step c) n := by
  rw [Nat.add_comm, shift_add]; rfl
/-- a number whose low n bits are 0 is only shifted -/
theorem shift_low (c : W) (n : Nat) (h : ∀ i, i < n → c.getLsbD i = false) : shift c n = c >>> n := by
  induction n generalizing c with
  | zero => simp [shift]
  | succ n ih =>
    rw [shift_succ']
    have h0 : step c = c >>> 1 := by unfold step; rw [h 0 (by omega), if_neg (by decide), BitVec.xor_zero]
    rw [h0, ih]
    · rw [← BitVec.shiftRight_add, Nat.add_comm]
    · intro i hi
      rw [BitVec.getLsbD_ushiftRight, Nat.add_comm]; exact h (i + 1) (by omega)
/-- the table's way of a byte -/
theorem shift8 (c : W) : shift c 8 = shift (c &&& 0xFF#32) 8 ^^^ (c >>> 8) := by
  have e : c = (c &&& 0xFF#32) ^^^ (c &&& 0xFFFFFF00#32) := by
    ext i hi
    have : ∀ i : Nat, i < 32 → (0xFF#32 : W).getLsbD i = !((0xFFFFFF00#32 : W).getLsbD i) := by decide
    simp only [BitVec.getElem_xor, BitVec.getElem_and]
    have := this i hi
    simp only [BitVec.getLsbD_eq_getElem hi] at this
    rw [this]; cases c[i] <;> cases (0xFFFFFF00#32 : W)[i] <;> rfl
  have hl : ∀ i, i < 8 → (c &&& 0xFFFFFF00#32).getLsbD i = false := by
    intro i hi
    rw [BitVec.getLsbD_and]
    have : ∀ i : Nat, i < 8 → (0xFFFFFF00#32 : W).getLsbD i = false := by decide
    rw [this i hi, Bool.and_false]
  have hs : (c &&& 0xFFFFFF00#32) >>> 8 = c >>> 8 := by
    ext i hi
    simp only [BitVec.getElem_ushiftRight, BitVec.getLsbD_and]
    have : ∀ i : Nat, i < 24 → (0xFFFFFF00#32 : W).getLsbD (8 + i) = true := by decide
    by_cases h : i < 24
    · rw [this i h, Bool.and_true]
    · rw [BitVec.getLsbD_of_ge c (8 + i) (by omega), Bool.false_and]
  conv => lhs; rw [e]
  rw [shift_xor, shift_low _ _ hl, hs]
def byteIn (c : W) (x : Nat) : W := shift (c ^^^ BitVec.ofNat 32 x) 8
def run (c : W) (l : List Nat) : W := l.foldl byteIn c
/-- 'More': the numbers' bits turned over ahead of it and behind -/
def more (c : W) (l : List Nat) : W := ~~~ run (~~~ c) l
/-- 'ref.Byte' -/
def refByte (c : W) (x : Nat) : W := ~~~ byteIn (~~~ c) x
theorem more_nil (c : W) : more c [] = c := by simp [more, run]
theorem more_cons (c : W) (x : Nat) (l : List Nat) : more c (x :: l) = more (refByte c x) l := by simp [more, run, refByte]
theorem more_append (c : W) (a b : List Nat) : more c (a ++ b) = more (more c a) b := by simp [more, run]
theorem more_fold (c : W) (l : List Nat) : l.foldl refByte c = more c l := by
  induction l generalizing c with
  | nil => simp [more_nil]
  | cons x l ih => rw [List.foldl_cons, ih, more_cons]
theorem run_append (c : W) (a b : List Nat) : run c (a ++ b) = run (run c a) b := by simp [run]
theorem byteIn_xor (c d : W) (x : Nat) : byteIn (c ^^^ d) x = byteIn c x ^^^ shift d 8 := by
  unfold byteIn; rw [← shift_xor]; congr 1; ac_rfl
theorem run_xor (c d : W) (l : List Nat) : run (c ^^^ d) l = run c l ^^^ shift d (8 * l.length) := by
  induction l generalizing c d with
  | nil => simp [run, shift]
  | cons x l ih =>
    have : run (c ^^^ d) (x :: l) = run (byteIn (c ^^^ d) x) l := rfl
    rw [this, byteIn_xor, ih]
    have : run c (x :: l) = run (byteIn c x) l := rfl
    rw [this, ← shift_add, List.length_cons, Nat.mul_add, Nat.add_comm]
theorem run_zeros (c : W) (n : Nat) : run c (List.replicate n 0) = shift c (8 * n) := by
  induction n generalizing c with
  | zero => rfl
  | succ n ih =>
    rw [List.replicate_succ]
    have : run c (0 :: List.replicate n 0) = run (byteIn c 0) (List.replicate n 0) := rfl
    rw [this, ih, byteIn]
    simp only [BitVec.xor_zero]
    rw [← shift_add, Nat.mul_add, Nat.add_comm]
theorem not_eq (c : W) : ~~~ c = c ^^^ BitVec.allOnes 32 := (BitVec.xor_allOnes).symm
/-- 'Join' -/
theorem join (a : W) (b : List Nat) : shift a (8 * b.length) ^^^ more 0#32 b = more a b := by
  unfold more
  have h1 : run (~~~ a) b = run (~~~ 0#32) b ^^^ shift a (8 * b.length) := by
    rw [← run_xor, not_eq, not_eq, BitVec.zero_xor, BitVec.xor_comm]
  rw [h1, not_eq, not_eq]
  ac_rfl
theorem nat_clear (k m : Nat) : (2 ^ k * (2 * m + 1)) &&& (2 ^ k * (2 * m + 1) - 1) = 2 ^ k * (2 * m) ∧ 2 ^ k ^^^ (2 ^ k * (2 * m)) = 2 ^ k * (2 * m + 1) := by
  have hp : 0 < 2 ^ k := Nat.two_pow_pos k
  have e1 : 2 ^ k * (2 * m + 1) - 1 = 2 ^ k * (2 * m) + (2 ^ k - 1) := by rw [Nat.mul_add, Nat.mul_one]; omega
  have e2 : 2 ^ k * (2 * m + 1) = 2 ^ k * (2 * m + 1) + 0 := rfl
  constructor
  · rw [e1]
    apply Nat.eq_of_testBit_eq
    intro i
    rw [Nat.testBit_and]
    by_cases hi : i < k
    · rw [Nat.testBit_two_pow_mul, Nat.testBit_two_pow_mul]; simp [Nat.not_le.2 hi]
    · obtain ⟨j, rfl⟩ : ∃ j, i = k + j := ⟨i - k, by omega⟩
      have h1 : (2 ^ k * (2 * m) + (2 ^ k - 1)).testBit (k + j) = (2 * m).testBit j := by
        rw [Nat.testBit_two_pow_mul_add _ (by omega), if_neg (by omega)]; congr 1; omega
      rw [h1, Nat.testBit_two_pow_mul, Nat.testBit_two_pow_mul]
      have : k + j - k = j := by omega
      rw [this]
      cases j with
      | zero => simp
      | succ j => rw [Nat.testBit_succ, Nat.testBit_succ, show (2 * m + 1) / 2 = m from by omega, show 2 * m / 2 = m from by omega]; simp
  · apply Nat.eq_of_testBit_eq
    intro i
    rw [Nat.testBit_xor, Nat.testBit_two_pow_mul, Nat.testBit_two_pow_mul, Nat.testBit_two_pow]
    by_cases hi : i < k
    · have h : k ≠ i := by omega
      have h' : ¬ i ≥ k := by omega
      simp [h, h']
    · obtain ⟨j, rfl⟩ : ∃ j, i = k + j := ⟨i - k, by omega⟩
      have : k + j - k = j := by omega
      rw [this]
      cases j with
      | zero => simp
      | succ j => rw [Nat.testBit_succ, Nat.testBit_succ, show (2 * m + 1) / 2 = m from by omega, show 2 * m / 2 = m from by omega]; simp
/-- the lowest bit of a number: it, and what is left without it -/
theorem low_bit (C : W) (h : C ≠ 0#32) : Lib.ctz 32 C.toNat < 32 ∧ C = BitVec.ofNat 32 (2 ^ Lib.ctz 32 C.toNat) ^^^ (C &&& (C - 1#32)) ∧ (C &&& (C - 1#32)).toNat < C.toNat ∧
    (C &&& (C - 1#32)).toNat = C.toNat &&& (C.toNat - 1) := by
  have h0 : C.toNat ≠ 0 := fun e => h (by apply BitVec.eq_of_toNat_eq; simpa using e)
  obtain ⟨m, hm, hk⟩ := Lib.ctzFrom_spec 32 C.toNat (by omega) C.isLt
  have hc : Lib.ctz 32 C.toNat = Lib.ctzFrom 32 C.toNat := by unfold Lib.ctz; rw [if_neg h0]
  rw [hc]
  generalize hg : Lib.ctzFrom 32 C.toNat = k at hm hk ⊢
  obtain ⟨n1, n2⟩ := nat_clear k m
  rw [← hm] at n1 n2
  have hs : (C - 1#32).toNat = C.toNat - 1 := by
    have := C.isLt
    rw [BitVec.toNat_sub]; simp; omega
  have ha : (C &&& (C - 1#32)).toNat = 2 ^ k * (2 * m) := by rw [BitVec.toNat_and, hs, n1]
  have hp : 0 < 2 ^ k := Nat.two_pow_pos k
  refine ⟨hk, ?_, ?_, ?_⟩
  · apply BitVec.eq_of_toNat_eq
    rw [BitVec.toNat_xor, ha, BitVec.toNat_ofNat, Nat.mod_eq_of_lt (Nat.pow_lt_pow_right (by decide) hk), n2]
  · rw [ha]; rw [hm, Nat.mul_add, Nat.mul_one]; omega
  · rw [BitVec.toNat_and, hs]
/-- a map that takes xors to xors -/
def Lin (f : W → W) : Prop := ∀ a b, f (a ^^^ b) = f a ^^^ f b
theorem Lin.zero {f : W → W} (h : Lin f) : f 0#32 = 0#32 := by
  have := h 0#32 0#32
  rw [BitVec.xor_self, BitVec.xor_self] at this; exact this
theorem lin_shift (n : Nat) : Lin (fun c => shift c n) := fun a b => shift_xor a b n
/-- what stands for it: 32 numbers -/
def IsMat (m : Nat → W) (f : W → W) : Prop := ∀ i, i < 32 → m i = f (BitVec.ofNat 32 (2 ^ i))
theorem mat_step {m : Nat → W} {f : W → W} (hf : Lin f) (hm : IsMat m f) (C out : W) (h : C ≠ 0#32) :
    (out ^^^ m (Lib.ctz 32 C.toNat)) ^^^ f (C &&& (C - 1#32)) = out ^^^ f C := by
  obtain ⟨h1, h2, _⟩ := low_bit C h
  rw [hm _ h1]
  conv => rhs; rw [h2, hf]
  ac_rfl
end CrcP
end Go.Proofs.YtalcafaibmbgjaaDoor
