/- Messages: a message's frame, by the document. Helper. -/
import Derived.Lib.TrailingZeros
import Derived.Test.YtnbcjjgilndlaaaProg
import Derived.Test.YtnbcjjgilndlaaaRdLib
import Derived.Test.YtnbcjjgilndlaaaRdReg
import Derived.Deep.QuietTactic
import Derived.OwnWalk
open Go
namespace Go.Proofs.Ytnbcjjgilndlaaa
namespace CrcP
abbrev W := BitVec 32
def poly : W := 0xEDB88320#32
def step (c : W) : W := (c >>> 1) ^^^ (if c.getLsbD 0 then poly else 0#32)
def shift (c : W) : Nat → W
  | 0 => c
  | n + 1 => step (shift c n)
theorem step_xor (a b : W) : step (a ^^^ b) = step a ^^^ step b := by
  unfold step
  rw [BitVec.getLsbD_xor, BitVec.ushiftRight_xor_distrib]
  cases a.getLsbD 0 <;> cases b.getLsbD 0 <;> simp only [Bool.false_bne, Bool.true_bne, Bool.not_true, Bool.not_false, if_true, if_false, Bool.false_eq_true, BitVec.xor_zero]
  · ac_rfl
  · ac_rfl
  · rw [show a >>> 1 ^^^ poly ^^^ (b >>> 1 ^^^ poly) = (a >>> 1 ^^^ b >>> 1) ^^^ (poly ^^^ poly) from by ac_rfl, BitVec.xor_self, BitVec.xor_zero]
theorem step_zero : step 0#32 = 0#32 := by decide
theorem shift_xor (a b : W) (n : Nat) : shift (a ^^^ b) n = shift a n ^^^ shift b n := by
  induction n with
  | zero => rfl
  | succ n ih => simp only [shift, ih, step_xor]
theorem shift_zero (n : Nat) : shift 0#32 n = 0#32 := by
  induction n with
  | zero => rfl
  | succ n ih => simp only [shift, ih, step_zero]
theorem shift_add (c : W) (m n : Nat) : shift c (m + n) = shift (shift c m) n := by
  induction n with
  | zero => rfl
  | succ n ih => rw [← Nat.add_assoc]; simp only [shift, ih]
theorem shift_succ' (c : W) (n : Nat) : shift c (n + 1) = shift (step c) n := by
  rw [Nat.add_comm, shift_add]; rfl
/-- a number whose low n bits are 0 is only shifted -/
theorem shift_low (c : W) (n : Nat) (h : ∀ i, i < n → c.getLsbD i = false) : shift c n = c >>> n := by
  induction n generalizing c with
  | zero => simp [shift]
  | succ n ih =>
    rw [shift_succ']
    have h0 : step c = c >>> 1 := by unfold step; rw [h 0 (by omega), if_neg (by decide), BitVec.xor_zero]
    rw [h0, ih]
    · rw [← BitVec.shiftRight_add, Nat.add_comm]
    · intro i hi
      rw [BitVec.getLsbD_ushiftRight, Nat.add_comm]; exact h (i + 1) (by omega)
/-- the table's way of a byte -/
theorem shift8 (c : W) : shift c 8 = shift (c &&& 0xFF#32) 8 ^^^ (c >>> 8) := by
  have e : c = (c &&& 0xFF#32) ^^^ (c &&& 0xFFFFFF00#32) := by
    ext i hi
    have : ∀ i : Nat, i < 32 → (0xFF#32 : W).getLsbD i = !((0xFFFFFF00#32 : W).getLsbD i) := by decide
    simp only [BitVec.getElem_xor, BitVec.getElem_and]
    have := this i hi
    simp only [BitVec.getLsbD_eq_getElem hi] at this
    rw [this]; cases c[i] <;> cases (0xFFFFFF00#32 : W)[i] <;> rfl
  have hl : ∀ i, i < 8 → (c &&& 0xFFFFFF00#32).getLsbD i = false := by
    intro i hi
    rw [BitVec.getLsbD_and]
    have : ∀ i : Nat, i < 8 → (0xFFFFFF00#32 : W).getLsbD i = false := by decide
    rw [this i hi, Bool.and_false]
  have hs : (c &&& 0xFFFFFF00#32) >>> 8 = c >>> 8 := by
    ext i hi
    simp only [BitVec.getElem_ushiftRight, BitVec.getLsbD_and]
    have : ∀ i : Nat, i < 24 → (0xFFFFFF00#32 : W).getLsbD (8 + i) = true := by decide
    by_cases h : i < 24
    · rw [this i h, Bool.and_true]
    · rw [BitVec.getLsbD_of_ge c (8 + i) (by omega), Bool.false_and]
  conv => lhs; rw [e]
  rw [shift_xor, shift_low _ _ hl, hs]
def byteIn (c : W) (x : Nat) : W := shift (c ^^^ BitVec.ofNat 32 x) 8
def run (c : W) (l : List Nat) : W := l.foldl byteIn c
/-- 'More': the numbers' bits turned over ahead of it and behind -/
def more (c : W) (l : List Nat) : W := ~~~ run (~~~ c) l
/-- 'ref.Byte' -/
def refByte (c : W) (x : Nat) : W := ~~~ byteIn (~~~ c) x
theorem more_nil (c : W) : more c [] = c := by simp [more, run]
theorem more_cons (c : W) (x : Nat) (l : List Nat) : more c (x :: l) = more (refByte c x) l := by simp [more, run, refByte]
theorem more_append (c : W) (a b : List Nat) : more c (a ++ b) = more (more c a) b := by simp [more, run]
theorem more_fold (c : W) (l : List Nat) : l.foldl refByte c = more c l := by
  induction l generalizing c with
  | nil => simp [more_nil]
  | cons x l ih => rw [List.foldl_cons, ih, more_cons]
theorem run_append (c : W) (a b : List Nat) : run c (a ++ b) = run (run c a) b := by simp [run]
theorem byteIn_xor (c d : W) (x : Nat) : byteIn (c ^^^ d) x = byteIn c x ^^^ shift d 8 := by
  unfold byteIn; rw [← shift_xor]; congr 1; ac_rfl
theorem run_xor (c d : W) (l : List Nat) : run (c ^^^ d) l = run c l ^^^ shift d (8 * l.length) := by
  induction l generalizing c d with
  | nil => simp [run, shift]
  | cons x l ih =>
    have : run (c ^^^ d) (x :: l) = run (byteIn (c ^^^ d) x) l := rfl
    rw [this, byteIn_xor, ih]
    have : run c (x :: l) = run (byteIn c x) l := rfl
    rw [this, ← shift_add, List.length_cons, Nat.mul_add, Nat.add_comm]
theorem run_zeros (c : W) (n : Nat) : run c (List.replicate n 0) = shift c (8 * n) := by
  induction n generalizing c with
  | zero => rfl
  | succ n ih =>
    rw [List.replicate_succ]
    have : run c (0 :: List.replicate n 0) = run (byteIn c 0) (List.replicate n 0) := rfl
    rw [this, ih, byteIn]
    simp only [BitVec.xor_zero]
    rw [← shift_add, Nat.mul_add, Nat.add_comm]
theorem not_eq (c : W) : ~~~ c = c ^^^ BitVec.allOnes 32 := (BitVec.xor_allOnes).symm
/-- 'Join' -/
theorem join (a : W) (b : List Nat) : shift a (8 * b.length) ^^^ more 0#32 b = more a b := by
  unfold more
  have h1 : run (~~~ a) b = run (~~~ 0#32) b ^^^ shift a (8 * b.length) := by
    rw [← run_xor, not_eq, not_eq, BitVec.zero_xor, BitVec.xor_comm]
  rw [h1, not_eq, not_eq]
  ac_rfl
theorem nat_clear (k m : Nat) : (2 ^ k * (2 * m + 1)) &&& (2 ^ k * (2 * m + 1) - 1) = 2 ^ k * (2 * m) ∧ 2 ^ k ^^^ (2 ^ k * (2 * m)) = 2 ^ k * (2 * m + 1) := by
  have hp : 0 < 2 ^ k := Nat.two_pow_pos k
  have e1 : 2 ^ k * (2 * m + 1) - 1 = 2 ^ k * (2 * m) + (2 ^ k - 1) := by rw [Nat.mul_add, Nat.mul_one]; omega
  have e2 : 2 ^ k * (2 * m + 1) = 2 ^ k * (2 * m + 1) + 0 := rfl
  constructor
  · rw [e1]
    apply Nat.eq_of_testBit_eq
    intro i
    rw [Nat.testBit_and]
    by_cases hi : i < k
    · rw [Nat.testBit_two_pow_mul, Nat.testBit_two_pow_mul]; simp [Nat.not_le.2 hi]
    · obtain ⟨j, rfl⟩ : ∃ j, i = k + j := ⟨i - k, by omega⟩
      have h1 : (2 ^ k * (2 * m) + (2 ^ k - 1)).testBit (k + j) = (2 * m).testBit j := by
        rw [Nat.testBit_two_pow_mul_add _ (by omega), if_neg (by omega)]; congr 1; omega
      rw [h1, Nat.testBit_two_pow_mul, Nat.testBit_two_pow_mul]
      have : k + j - k = j := by omega
      rw [this]
      cases j with
      | zero => simp
      | succ j => rw [Nat.testBit_succ, Nat.testBit_succ, show (2 * m + 1) / 2 = m from by omega, show 2 * m / 2 = m from by omega]; simp
  · apply Nat.eq_of_testBit_eq
    intro i
    rw [Nat.testBit_xor, Nat.testBit_two_pow_mul, Nat.testBit_two_pow_mul, Nat.testBit_two_pow]
    by_cases hi : i < k
    · have h : k ≠ i := by omega
      have h' : ¬ i ≥ k := by omega
      simp [h, h']
    · obtain ⟨j, rfl⟩ : ∃ j, i = k + j := ⟨i - k, by omega⟩
      have : k + j - k = j := by omega
      rw [this]
      cases j with
      | zero => simp
      | succ j => rw [Nat.testBit_succ, Nat.testBit_succ, show (2 * m + 1) / 2 = m from by omega, show 2 * m / 2 = m from by omega]; simp
/-- the lowest bit of a number: it, and what is left without it -/
theorem low_bit (C : W) (h : C ≠ 0#32) : Lib.ctz 32 C.toNat < 32 ∧ C = BitVec.ofNat 32 (2 ^ Lib.ctz 32 C.toNat) ^^^ (C &&& (C - 1#32)) ∧ (C &&& (C - 1#32)).toNat < C.toNat ∧
    (C &&& (C - 1#32)).toNat = C.toNat &&& (C.toNat - 1) := by
  have h0 : C.toNat ≠ 0 := fun e => h (by apply BitVec.eq_of_toNat_eq; simpa using e)
  obtain ⟨m, hm, hk⟩ := Lib.ctzFrom_spec 32 C.toNat (by omega) C.isLt
  have hc : Lib.ctz 32 C.toNat = Lib.ctzFrom 32 C.toNat := by unfold Lib.ctz; rw [if_neg h0]
  rw [hc]
  generalize hg : Lib.ctzFrom 32 C.toNat = k at hm hk ⊢
  obtain ⟨n1, n2⟩ := nat_clear k m
  rw [← hm] at n1 n2
  have hs : (C - 1#32).toNat = C.toNat - 1 := by
    have := C.isLt
    rw [BitVec.toNat_sub]; simp; omega
  have ha : (C &&& (C - 1#32)).toNat = 2 ^ k * (2 * m) := by rw [BitVec.toNat_and, hs, n1]
  have hp : 0 < 2 ^ k := Nat.two_pow_pos k
  refine ⟨hk, ?_, ?_, ?_⟩
  · apply BitVec.eq_of_toNat_eq
    rw [BitVec.toNat_xor, ha, BitVec.toNat_ofNat, Nat.mod_eq_of_lt (Nat.pow_lt_pow_right (by decide) hk), n2]
  · rw [ha]; rw [hm, Nat.mul_add, Nat.mul_one]; omega
  · rw [BitVec.toNat_and, hs]
/-- a map that takes xors to xors -/
def Lin (f : W → W) : Prop := ∀ a b, f (a ^^^ b) = f a ^^^ f b
theorem Lin.zero {f : W → W} (h : Lin f) : f 0#32 = 0#32 := by
  have := h 0#32 0#32
  rw [BitVec.xor_self, BitVec.xor_self] at this; exact this
theorem lin_shift (n : Nat) : Lin (fun c => shift c n) := fun a b => shift_xor a b n
/-- what stands for it: 32 numbers -/
def IsMat (m : Nat → W) (f : W → W) : Prop := ∀ i, i < 32 → m i = f (BitVec.ofNat 32 (2 ^ i))
theorem mat_step {m : Nat → W} {f : W → W} (hf : Lin f) (hm : IsMat m f) (C out : W) (h : C ≠ 0#32) :
    (out ^^^ m (Lib.ctz 32 C.toNat)) ^^^ f (C &&& (C - 1#32)) = out ^^^ f C := by
  obtain ⟨h1, h2, _⟩ := low_bit C h
  rw [hm _ h1]
  conv => rhs; rw [h2, hf]
  ac_rfl
end CrcP
end Go.Proofs.Ytnbcjjgilndlaaa
/- The walks of crc's functions and of the reference's: what each computes, in whatever memory. -/
namespace Go.Proofs.Ytnbcjjgilndlaaa
open Go.RowKit
theorem b32_of (A : BitVec 32) : BitVec.ofInt 32 (A.toNat : Int) = A := by
  apply BitVec.eq_of_toNat_eq; rw [ofInt_u32 _ A.isLt]
theorem b32_xor (A B : BitVec 32) : bits .xor .u32 (A.toNat : Int) (B.toNat : Int) = ((A ^^^ B).toNat : Int) := by
  rw [u32_xor_nat _ _ A.isLt B.isLt, BitVec.toNat_xor]
theorem b32_and (A B : BitVec 32) : bits .and .u32 (A.toNat : Int) (B.toNat : Int) = ((A &&& B).toNat : Int) := by
  rw [u32_and_nat _ _ A.isLt B.isLt, BitVec.toNat_and]
theorem b32_not (A : BitVec 32) : ((4294967295 : Int) - (A.toNat : Int)) = ((~~~ A).toNat : Int) := by
  have := A.isLt; rw [BitVec.toNat_not]; omega
theorem b32_half (A : BitVec 32) : ((A.toNat : Int) / (2 : Int)) = ((A >>> 1).toNat : Int) := by
  rw [BitVec.toNat_ushiftRight, Nat.shiftRight_eq_div_pow]; rfl
theorem b32_byte (A : BitVec 32) : ((A.toNat : Int) / (256 : Int)) = ((A >>> 8).toNat : Int) := by
  rw [BitVec.toNat_ushiftRight, Nat.shiftRight_eq_div_pow]; rfl
theorem shift_round (D : BitVec 32) : bits BinOp.xor IntKind.u32 (↑D.toNat / 2) (bits BinOp.and IntKind.u32 3988292384 (-bits BinOp.and IntKind.u32 (↑D.toNat) 1 % 4294967296)) = ((CrcP.step D).toNat : Int) := by
  have h1 : bits BinOp.and IntKind.u32 (↑D.toNat) 1 = ((D.toNat % 2 : Nat) : Int) := by
    have := u32_and_nat D.toNat 1 D.isLt (by decide)
    rw [Nat.and_one_is_mod] at this; exact this
  rw [h1, b32_half]
  have hp : (3988292384 : Int) = ((CrcP.poly.toNat : Nat) : Int) := rfl
  have hb : D.getLsbD 0 = decide (D.toNat % 2 = 1) := by
    rw [BitVec.getLsbD, Nat.testBit_zero]
  unfold CrcP.step
  rw [hb]
  rcases Nat.mod_two_eq_zero_or_one D.toNat with h | h
  · rw [h]
    have e : (-((0 : Nat) : Int) % 4294967296) = (((0#32).toNat : Nat) : Int) := rfl
    rw [e, hp, b32_and, b32_xor]
    simp
  · rw [h]
    have e : (-((1 : Nat) : Int) % 4294967296) = (((BitVec.allOnes 32).toNat : Nat) : Int) := rfl
    rw [e, hp, b32_and, b32_xor, BitVec.and_allOnes]
    simp
set_option maxHeartbeats 400000 in
theorem shift_any (C : BitVec 32) (n : Nat) (w : World) (hn : n ≤ 1000) :
    Calls Try.prog 87 #[.int .u32 C.toNat, .int .i64 n] w fun e w' => e = .returned (.int .u32 (CrcP.shift C n).toNat) ∧ w = w' := by
  go_enter Try.func87, Try.ntmps87
  go_wp2
  go_loop [0, 6] (fun c i => ∃ (k : Nat), k ≤ n ∧ i = .int .i64 k ∧ c = .int .u32 (CrcP.shift C k).toNat) (fun _ i => n - (intOf i).toNat)
  case atStart => exact ⟨0, Nat.zero_le _, rfl, rfl⟩
  case round =>
    obtain ⟨k, hk, rfl, rfl⟩ := hrel
    go_wp2
    · go_round
      case rel => exact ⟨k + 1, by omega, by go_num, by rw [shift_round]; rfl⟩
      case measure => simp [intOf]; omega
    · go_ret
      have : k = n := by omega
      subst this
      exact ⟨rfl, rfl⟩
/-- the table's first k numbers, noughts behind them -/
def tabArr (k : Nat) : Array Value := Array.ofFn (n := 256) fun i => .int .u32 (if i.val < k then (CrcP.shift (BitVec.ofNat 32 i.val) 8).toNat else 0 : Nat)
theorem tabArr_size (k : Nat) : (tabArr k).size = 256 := by simp [tabArr]
theorem tabArr_one (k : Nat) : (tabArr k).all (·.oneCell') = true := by
  rw [Array.all_eq_true]; intro i hi; simp [tabArr, Value.oneCell']
theorem tabArr_zero : tabArr 0 = Array.replicate 256 (.int .u32 0) := by
  apply Array.ext
  · simp [tabArr]
  · intro i h1 h2; simp [tabArr]
theorem tabArr_set (k : Nat) : (tabArr k).setIfInBounds k (.int .u32 (CrcP.shift (BitVec.ofNat 32 k) 8).toNat) = tabArr (k + 1) := by
  apply Array.ext
  · simp [tabArr]
  · intro i h1 h2
    have hi : i < (tabArr k).size := by simpa using h1
    rw [Array.getElem_setIfInBounds hi]
    by_cases h : k = i
    · subst h; simp [tabArr]
    · rw [if_neg h]
      simp only [tabArr, Array.getElem_ofFn]
      have : (i < k + 1) ↔ (i < k) := by omega
      simp only [this]
theorem tabArr_at (k : Nat) (hk : k < 256) : (tabArr k)[k]? = some (.int .u32 0) := by
  rw [Array.getElem?_eq_getElem (by rw [tabArr_size]; exact hk)]
  simp [tabArr]
theorem tabArr_get (k i : Nat) (hi : i < 256) (hk : i < k) : (tabArr k)[i]? = some (.int .u32 (CrcP.shift (BitVec.ofNat 32 i) 8).toNat) := by
  rw [Array.getElem?_eq_getElem (by rw [tabArr_size]; exact hi)]
  simp [tabArr, hk]
set_option maxRecDepth 1000000 in
set_option maxHeartbeats 400000 in
theorem table_any (w : World) : Calls Try.prog 86 #[] w fun e w' => e = .returned (.agg (tabArr 256)) ∧ w.alloc (.cells (tabArr 256) 135) = w' := by
  have hvT : ∀ w, (zeroValue 135).run Try.prog w = .ok (.agg (Array.replicate 256 (.int .u32 0))) w := fun _ => by kernel_rfl
  have hiT : (Try.prog.info? 135).map (·.size) = some 256 := by kernel_rfl
  go_enter Try.func86, Try.ntmps86
  go_wp2
  rw [← tabArr_zero]
  go_loopg [1, 2] 256 (fun g s1 s2 wx => ∃ k : Nat, k + g = 256 ∧ s2 = .int .i64 k ∧ wx = w.alloc (.cells (tabArr k) 135))
  case atStart => exact ⟨0, by omega, rfl, rfl⟩
  case round =>
    obtain ⟨k, hkg, rfl, rfl⟩ := hrel
    cases gk with
    | zero =>
      obtain rfl : k = 256 := by omega
      have hl := heap_alloc_last w (.cells (tabArr 256) 135)
      have hsT : (Try.prog.info? 135).map (·.size) = some (tabArr 256).size := by rw [tabArr_size]; exact hiT
      have HL := Lib.hid hl
      have HS := Lib.hid hsT
      have HU := Lib.hid Try.underlying135
      clear hl hsT hiT hvT hkg
      go_wp2_with (first | (refine wpList_load_row rfl 135 _ rfl w.heap.size rfl 135 (tabArr 256) (0, 0) (.array 256 25) HL.out HU.out rfl HS.out ?_) | (refine wpList_store_row rfl 135 _ _ rfl w.heap.size (tabArr 256) rfl rfl 135 (tabArr 256) HL.out HS.out rfl (tabArr_one _) ?_; rw [World.setRow_alloc_new]))
      refine bodyPost_ret (results_cell_row rfl _ _ w.heap.size 135 (tabArr 256) (0, 0) (.array 256 25) rfl HL.out HU.out rfl HS.out) rfl ⟨rfl, rfl⟩
    | succ g =>
      have hk : (k : Int) < 256 := by omega
      have hu : (k : Int) = (((BitVec.ofNat 32 k).toNat : Nat) : Int) := by rw [BitVec.toNat_ofNat]; omega
      have c1 := shift_any (BitVec.ofNat 32 k) 8 (w.alloc (.cells (tabArr k) 135)) (by omega)
      rw [← hu] at c1
      have hs := tabArr_set k
      have hcell := tabArr_at k (by omega)
      have Hs := Lib.hid hs
      clear hs hu
      go_wp2_with (go_at_call 87; refine c1.mono ?_; rintro e w' ⟨rfl, rfl⟩)
      go_roundg g
      case measure => omega
      case rel => exact ⟨k + 1, by omega, by go_num, by rw [Hs.out]⟩
/-- a byte more, the table's way -/
theorem more_round (D : BitVec 32) (x : UInt8) : ∃ n : Nat, n < 256 ∧ bits BinOp.xor IntKind.u8 (↑D.toNat % 256) ↑x.toNat = (n : Int) ∧
    bits BinOp.xor IntKind.u32 ((CrcP.shift (BitVec.ofNat 32 n) 8).toNat : Int) (↑D.toNat / 256) = ((CrcP.byteIn D x.toNat).toNat : Int) := by
  have hx : x.toNat < 256 := x.toNat_lt
  have h8 := u8_xor_nat (D.toNat % 256) x.toNat (by omega) hx
  refine ⟨D.toNat % 256 ^^^ x.toNat, Nat.xor_lt_two_pow (n := 8) (by omega) hx, ?_, ?_⟩
  · exact h8
  · rw [b32_byte, b32_xor]
    congr 2
    have hb : BitVec.ofNat 32 (D.toNat % 256 ^^^ x.toNat) = (D ^^^ BitVec.ofNat 32 x.toNat) &&& 0xFF#32 := by
      apply BitVec.eq_of_toNat_eq
      have e : (0xFF#32 : BitVec 32).toNat = 2 ^ 8 - 1 := rfl
      rw [BitVec.toNat_and, BitVec.toNat_xor, e, Nat.and_two_pow_sub_one_eq_mod, Nat.xor_mod_two_pow, BitVec.toNat_ofNat, BitVec.toNat_ofNat]
      have h1 : (D.toNat % 256 ^^^ x.toNat) < 2 ^ 8 := Nat.xor_lt_two_pow (n := 8) (by omega) hx
      rw [Nat.mod_eq_of_lt (by omega), Nat.mod_eq_of_lt (a := x.toNat) (b := 2 ^ 32) (by omega), Nat.mod_eq_of_lt (a := x.toNat) (b := 2 ^ 8) hx]
    unfold CrcP.byteIn
    rw [hb]
    conv => rhs; rw [CrcP.shift8]
    congr 1
    rw [BitVec.ushiftRight_xor_distrib]
    have : BitVec.ofNat 32 x.toNat >>> 8 = 0#32 := by
      apply BitVec.eq_of_toNat_eq
      rw [BitVec.toNat_ushiftRight, BitVec.toNat_ofNat, Nat.shiftRight_eq_div_pow]
      simp; omega
    rw [this, BitVec.xor_zero]
theorem b32_compl (A : BitVec 32) : bits .xor .u32 IntKind.u32.max (A.toNat : Int) = ((~~~ A).toNat : Int) := by
  have : IntKind.u32.max = (((BitVec.allOnes 32).toNat : Nat) : Int) := rfl
  rw [this, b32_xor, BitVec.xor_comm, BitVec.xor_allOnes]
theorem run_snoc (c : BitVec 32) (l : List UInt8) (k : Nat) (h : k < l.length) : CrcP.run c ((l.take (k + 1)).map UInt8.toNat) = CrcP.byteIn (CrcP.run c ((l.take k).map UInt8.toNat)) l[k].toNat := by
  rw [List.take_succ_eq_append_getElem h, List.map_append, CrcP.run_append]; rfl
def crcMore (C : BitVec 32) (l : List UInt8) : BitVec 32 := CrcP.more C (l.map UInt8.toNat)
set_option maxRecDepth 1000000 in
set_option maxHeartbeats 400000 in
theorem More_any (C : BitVec 32) (a : Option Addr) (l : List UInt8) (cap : Nat) (w : World) (ha : BytesAt w a l) (hl : l.length ≤ 9223372036854775807) :
    Calls Try.prog 85 #[.int .u32 C.toNat, .slice a l.length cap] w fun e w' => e = .returned (.int .u32 (crcMore C l).toNat) ∧ Below w.heap.size w w' := by
  have hiT : (Try.prog.info? 135).map (·.size) = some (tabArr 256).size := by rw [tabArr_size]; kernel_rfl
  have hvT : ∀ w, (zeroValue 135).run Try.prog w = .ok (.agg (Array.replicate 256 (.int .u32 0))) w := fun _ => by kernel_rfl
  have HI := Lib.hid hiT
  clear hiT
  go_enter Try.func85, Try.ntmps85
  go_wp2_with fail
  refine (table_any _).mono ?_
  rintro e w' ⟨rfl, rfl⟩
  have hsz : (w.alloc (.cells (tabArr 256) 135)).heap.size = w.heap.size + 1 := by simp
  have HZ := Lib.hid hsz
  clear hsz
  go_wp2_with (refine wpList_store_row rfl 135 _ _ rfl (w.heap.size + 1) (tabArr 256) rfl rfl 135 (Array.replicate 256 (.int .u32 0)) (heap_last _ _ HZ.out) HI.out (by rw [tabArr_size, Array.size_replicate]) (tabArr_one _) ?_; rw [setRow_last _ _ _ _ HZ.out])
  have hB : Below w.heap.size w ((w.alloc (.cells (tabArr 256) 135)).alloc (.cells (tabArr 256) 135)) := ((Below.refl _ _).alloc (Nat.le_refl _) _).alloc (by simp) _
  have ha2 := ha.below hB (Nat.le_refl _)
  clear hvT
  go_loop [0, 13] (fun c i => ∃ k : Nat, k ≤ l.length ∧ i = .int .i64 k ∧ c = .int .u32 (CrcP.run (~~~ C) ((l.take k).map UInt8.toNat)).toNat) (fun _ i => l.length - (intOf i).toNat)
  case atStart => exact ⟨0, Nat.zero_le _, rfl, by rw [b32_compl]; rfl⟩
  case round =>
    obtain ⟨k, hk, rfl, rfl⟩ := hrel
    by_cases hlt : k < l.length
    · obtain ⟨b, off, rfl, hb, hc⟩ := ha2.get hlt
      have hsn := run_snoc (~~~ C) l k hlt
      have HS := Lib.hid hsn
      clear hsn
      generalize CrcP.run (~~~ C) ((l.take k).map UInt8.toNat) = D at *
      obtain ⟨n, hn, e1, e2⟩ := more_round D l[k]
      have hcell := tabArr_get 256 n hn hn
      go_wp2
      go_round
      case rel => exact ⟨k + 1, by omega, by go_num, by rw [HS.out]⟩
      case measure => simp [intOf]; omega
    · have hkl : k = l.length := by omega
      have hfin : crcMore C l = ~~~ (CrcP.run (~~~ C) ((l.take k).map UInt8.toNat)) := by rw [hkl, List.take_length]; rfl
      have HF := Lib.hid hfin
      clear hfin hkl
      generalize CrcP.run (~~~ C) ((l.take k).map UInt8.toNat) = D at *
      have hn := b32_compl D
      go_wp2
      go_ret
      exact ⟨ret_int (by rw [HF.out]; simp), hB⟩
/-- the reference's round -/
theorem ref_round (D : BitVec 32) : (↑D.toNat : Int) % 2 = 1 ∧ bits BinOp.xor IntKind.u32 (↑D.toNat / 2) 3988292384 = ((CrcP.step D).toNat : Int) ∨
    (↑D.toNat : Int) % 2 = 0 ∧ (↑D.toNat : Int) / 2 = ((CrcP.step D).toNat : Int) := by
  have hb : D.getLsbD 0 = decide (D.toNat % 2 = 1) := by rw [BitVec.getLsbD, Nat.testBit_zero]
  have hp : (3988292384 : Int) = ((CrcP.poly.toNat : Nat) : Int) := rfl
  unfold CrcP.step
  rw [hb]
  rcases Nat.mod_two_eq_zero_or_one D.toNat with h | h
  · right; rw [h]; exact ⟨by omega, by rw [b32_half]; simp⟩
  · left; rw [h]; exact ⟨by omega, by rw [b32_half, hp, b32_xor]; simp⟩
set_option maxHeartbeats 400000 in
theorem refByte_any (C : BitVec 32) (x : UInt8) (w : World) :
    Calls Try.prog 84 #[.int .u32 C.toNat, .int .u8 x.toNat] w fun e w' => e = .returned (.int .u32 (CrcP.refByte C x.toNat).toNat) ∧ w = w' := by
  have hx := x.toNat_lt
  obtain ⟨E, hE⟩ : ∃ E, ~~~ C ^^^ BitVec.ofNat 32 x.toNat = E := ⟨_, rfl⟩
  have hn : bits BinOp.xor IntKind.u32 (bits .xor .u32 IntKind.u32.max (C.toNat : Int)) ↑x.toNat = (E.toNat : Int) := by
    have h0 : (x.toNat : Int) = (((BitVec.ofNat 32 x.toNat).toNat : Nat) : Int) := by rw [BitVec.toNat_ofNat]; omega
    rw [b32_compl, h0, b32_xor, hE]
  have hfin : CrcP.refByte C x.toNat = ~~~ CrcP.shift E 8 := by rw [← hE]; rfl
  have HF := Lib.hid hfin
  clear hE hfin
  go_enter Try.func84, Try.ntmps84
  go_wp2
  go_loop [0, 5] (fun c i => ∃ k : Nat, k ≤ 8 ∧ i = .int .i64 k ∧ c = .int .u32 (CrcP.shift E k).toNat) (fun _ i => 8 - (intOf i).toNat)
  case atStart => exact ⟨0, Nat.zero_le _, rfl, rfl⟩
  case round =>
    obtain ⟨k, hk, rfl, rfl⟩ := hrel
    by_cases hlt : k < 8
    · have hs : CrcP.shift E (k + 1) = CrcP.step (CrcP.shift E k) := rfl
      have HS := Lib.hid hs
      clear hs hn
      generalize CrcP.shift E k = D at *
      rcases ref_round D with ⟨h1, h2⟩ | ⟨h1, h2⟩
      · go_wp2
        go_round
        case rel => exact ⟨k + 1, by omega, by go_num, by rw [HS.out]⟩
        case measure => simp [intOf]; omega
      · go_wp2
        go_round
        case rel => exact ⟨k + 1, by omega, by go_num, by rw [HS.out]⟩
        case measure => simp [intOf]; omega
    · have hk8 : k = 8 := by omega
      subst hk8
      clear hn
      generalize CrcP.shift E 8 = D at *
      have hn := b32_compl D
      go_wp2
      go_ret
      exact ⟨ret_int (by rw [HF.out]; simp), rfl⟩
theorem more_snoc (C : BitVec 32) (l : List UInt8) (k : Nat) (h : k < l.length) : crcMore C (l.take (k + 1)) = CrcP.refByte (crcMore C (l.take k)) l[k].toNat := by
  unfold crcMore
  rw [List.take_succ_eq_append_getElem h, List.map_append, CrcP.more_append]
  exact (CrcP.more_cons _ _ []).trans (CrcP.more_nil _)
set_option maxHeartbeats 400000 in
theorem refMore_any (C : BitVec 32) (a : Option Addr) (l : List UInt8) (cap : Nat) (w : World) (ha : BytesAt w a l) (hl : l.length ≤ 9223372036854775807) :
    Calls Try.prog 82 #[.int .u32 C.toNat, .slice a l.length cap] w fun e w' => e = .returned (.int .u32 (crcMore C l).toNat) ∧ w = w' := by
  go_enter Try.func82, Try.ntmps82
  go_wp2
  go_loop [0, 5] (fun c i => ∃ k : Nat, k ≤ l.length ∧ i = .int .i64 k ∧ c = .int .u32 (crcMore C (l.take k)).toNat) (fun _ i => l.length - (intOf i).toNat)
  case atStart => exact ⟨0, Nat.zero_le _, rfl, by simp [crcMore, CrcP.more_nil]⟩
  case round =>
    obtain ⟨k, hk, rfl, rfl⟩ := hrel
    by_cases hlt : k < l.length
    · obtain ⟨b, off, rfl, hb, hc⟩ := ha.get hlt
      have hs := more_snoc C l k hlt
      have HS := Lib.hid hs
      clear hs
      generalize crcMore C (l.take k) = D at *
      go_wp2_with (go_at_call 84; refine (refByte_any _ _ _).mono ?_; rintro e w' ⟨rfl, rfl⟩)
      go_round
      case rel => exact ⟨k + 1, by omega, by go_num, by rw [HS.out]⟩
      case measure => simp [intOf]; omega
    · have hkl : k = l.length := by omega
      have hfin : crcMore C l = crcMore C (l.take k) := by rw [hkl, List.take_length]
      have HF := Lib.hid hfin
      clear hfin hkl
      generalize crcMore C (l.take k) = D at *
      go_wp2
      go_ret
      exact ⟨ret_int (by rw [HF.out]), rfl⟩
theorem Sum_any (a : Option Addr) (l : List UInt8) (cap : Nat) (w : World) (ha : BytesAt w a l) (hl : l.length ≤ 9223372036854775807) :
    Calls Try.prog 83 #[.slice a l.length cap] w fun e w' => e = .returned (.int .u32 (crcMore 0#32 l).toNat) ∧ Below w.heap.size w w' := by
  have c := More_any 0#32 a l cap w ha hl
  go_enter Try.func83, Try.ntmps83
  go_wp2_with (go_at_call 85; refine c.mono ?_; rintro e w' ⟨rfl, hB⟩)
  go_ret
  exact ⟨rfl, hB⟩
theorem refSum_any (a : Option Addr) (l : List UInt8) (cap : Nat) (w : World) (ha : BytesAt w a l) (hl : l.length ≤ 9223372036854775807) :
    Calls Try.prog 77 #[.slice a l.length cap] w fun e w' => e = .returned (.int .u32 (crcMore 0#32 l).toNat) ∧ w = w' := by
  have c := refMore_any 0#32 a l cap w ha hl
  go_enter Try.func77, Try.ntmps77
  go_wp2_with (go_at_call 82; refine c.mono ?_; rintro e w' ⟨rfl, rfl⟩)
  go_ret
  exact ⟨rfl, rfl⟩
end Go.Proofs.Ytnbcjjgilndlaaa
/- Frames: what a payload's frame is, by ours and by the document. Helper. -/
namespace Go.Proofs.Ytnbcjjgilndlaaa
open Go.RowKit
set_option linter.unusedVariables false
set_option linter.unusedSimpArgs false
set_option maxRecDepth 100000
set_option maxHeartbeats 3200000
/-- What stands ahead of a payload. -/
def headB (n : Nat) (C : BitVec 32) : List UInt8 := [UInt8.ofNat (n / 256), UInt8.ofNat n, UInt8.ofNat (C.toNat / 16777216), UInt8.ofNat (C.toNat / 65536), UInt8.ofNat (C.toNat / 256), UInt8.ofNat C.toNat]
/-- A payload's frame. -/
def frameB (l : List UInt8) : List UInt8 := headB l.length (crcMore 0#32 l) ++ l
theorem headB_cells (n : Nat) (C : BitVec 32) (hn : n ≤ 4096) : bcells (headB n C) = [.int .u8 ((n : Int) / 256), .int .u8 ((n : Int) % 256), .int .u8 ((C.toNat : Int) / 16777216), .int .u8 ((C.toNat : Int) / 65536 % 256), .int .u8 ((C.toNat : Int) / 256 % 256), .int .u8 ((C.toNat : Int) % 256)] := by
  have hC := C.isLt
  simp only [bcells, headB, List.map_cons, List.map_nil, UInt8.toNat_ofNat']
  have e1 : ((n / 256 % 2 ^ 8 : Nat) : Int) = (n : Int) / 256 := by omega
  have e2 : ((n % 2 ^ 8 : Nat) : Int) = (n : Int) % 256 := by omega
  have e3 : ((C.toNat / 16777216 % 2 ^ 8 : Nat) : Int) = (C.toNat : Int) / 16777216 := by omega
  have e4 : ((C.toNat / 65536 % 2 ^ 8 : Nat) : Int) = (C.toNat : Int) / 65536 % 256 := by omega
  have e5 : ((C.toNat / 256 % 2 ^ 8 : Nat) : Int) = (C.toNat : Int) / 256 % 256 := by omega
  have e6 : ((C.toNat % 2 ^ 8 : Nat) : Int) = (C.toNat : Int) % 256 := by omega
  rw [e1, e2, e3, e4, e5, e6]
theorem own6 (w : World) (l : List UInt8) (cs : List Value) (hl : l.length = 6) (hc : bcells l = cs) : Own (w.alloc (.cells cs.toArray 5)) 5 1 (.slice (some ⟨w.heap.size, 0, none⟩) 6 6) 6 (bcells l) (some w.heap.size) := by
  subst hc
  have h6 : (bcells l).length = 6 := by rw [bcells_length, hl]
  exact ⟨by rw [h6], some ⟨w.heap.size, 0, none⟩, 6, rfl, Nat.le_refl _, by simp [maxLen], .inr ⟨w.heap.size, 0, (bcells l).toArray, rfl, rfl, Blk.last w _ _ rfl, by simp [h6], by simp; exact List.take_of_length_le (by rw [h6]; omega)⟩⟩
theorem infoU8f : (Try.prog.info? 5).map (fun i => (i.zero, i.size, i.bytes)) = some (some (.int .u8 0), 1, 1) := by kernel_rfl
theorem frmEnc_ok (w : World) (A : Option Addr) (n c : Nat) (l : List UInt8) (hb : BytesAt w A l) (hn : l.length = n) (h1 : 1 ≤ n) (h2 : n ≤ 4096) :
    Calls Try.prog 78 #[.slice A n c] w fun e w' => ∃ A' c', e = .returned (.tuple #[.slice A' (6 + n) c', .int .i64 0]) ∧ BytesAt w' A' (frameB l) ∧ 6 + n ≤ c' ∧ Nw w w' := by
  have KS := Lib.hid (by have h := Sum_any A l c w hb (by omega); rw [hn] at h; exact h)
  obtain ⟨C, hC⟩ : ∃ C, crcMore 0#32 l = C := ⟨_, rfl⟩
  rw [hC] at KS
  obtain ⟨s, hs⟩ : ∃ s : Nat, C.toNat = s := ⟨_, rfl⟩
  rw [hs] at KS
  have hs2 : s < 4294967296 := by rw [← hs]; exact C.isLt
  have HH := Lib.hid (And.intro hn (And.intro hC hs))
  have HB := Lib.hid hb
  have g1 : ((n : Int) == 0) = false := by simp; omega
  have g2 : ¬ (4096 : Int) < (n : Int) := by omega
  clear hb hn hC hs
  go_enter Try.func78, Try.ntmps78
  go_upto_region 4 with (fail)
  go_wp2_with fail
  refine KS.out.mono ?_
  rintro e w1 ⟨rfl, n1⟩
  have N1 := Lib.hid n1
  clear n1
  have hcells := headB_cells n C h2
  rw [HH.out.2.2] at hcells
  have hown := own6 w1 (headB n C) _ rfl hcells
  obtain ⟨i0, hi0, hz0, hz1, hz2⟩ := info_parts infoU8f
  have HL1 := Lib.hid hi0
  have HL2 := Lib.hid hz0
  have HL3 := Lib.hid hz1
  have HL4 := Lib.hid hz2
  have HO := Lib.hid hown
  clear hi0 hz0 hz1 hz2 hown hcells
  go_upto_region 6 with (fail)
  obtain ⟨w2, hw2⟩ : ∃ W, w1.alloc (.cells #[.int .u8 ((n : Int) / 256), .int .u8 ((n : Int) % 256), .int .u8 ((s : Int) / 16777216), .int .u8 ((s : Int) / 65536 % 256), .int .u8 ((s : Int) / 256 % 256), .int .u8 ((s : Int) % 256)] 5) = W := ⟨_, rfl⟩
  rw [hw2]
  have n2 : Nw w w2 := by rw [← hw2]; exact Nw.alloc N1.out _
  have HO2 := Lib.hid (show Own w2 5 1 (.slice (some ⟨w1.heap.size, 0, none⟩) 6 6) 6 (bcells (headB n C)) (some w1.heap.size) by rw [← hw2]; exact HO.out)
  have HB2 := Lib.hid (show Rd w2 A (bcells l) from HB.out.below n2 (Nat.le_refl _))
  have N2 := Lib.hid n2
  clear hw2 n2
  go_wp2_with (at_builtin; refine wpList_append_at w2 rfl _ _ _ rfl 5 i0 _ 1 1 Try.underlying22 HL1.out HL2.out HL3.out HL4.out rfl (by omega) _ 6 (bcells (headB n C)) (some w1.heap.size) rfl HO2.out _ n c (bcells l) rfl (by rw [bcells_length, HH.out.1]; omega) HB2.out (bcells_one _) (by simp only [maxLen]; omega) (by omega) ?_; intro A1 c1 w3 blk1 hown hchg hat; have HO3 := Lib.hid hown; have HC3 := Lib.hid hchg; clear hown hchg hat)
  go_ret2
  obtain ⟨_, _, e2, hrd, hnc, _⟩ := HO3.out.rd
  injection e2 with e3 _ e4
  subst e3 e4
  refine ⟨_, _, rfl, ?_, hnc, Below.trans N2.out (HC3.out.below (fun i _ q => by injection q with q; have := N1.out.size; omega) N2.out.size)⟩
  have e : bcells (frameB l) = bcells (headB n C) ++ bcells l := by rw [frameB, HH.out.1, HH.out.2.1]; simp [bcells]
  show Rd w3 _ (bcells (frameB l))
  rw [e]; exact hrd
theorem refEnc_ok (w : World) (A : Option Addr) (n c : Nat) (l : List UInt8) (hb : BytesAt w A l) (hn : l.length = n) (h1 : 1 ≤ n) (h2 : n ≤ 4096) :
    Calls Try.prog 45 #[.slice A n c] w fun e w' => ∃ A' c', e = .returned (.tuple #[.slice A' (6 + n) c', .int .i64 0]) ∧ BytesAt w' A' (frameB l) ∧ 6 + n ≤ c' ∧ Nw w w' := by
  have KS := Lib.hid (by have h := refSum_any A l c w hb (by omega); rw [hn] at h; exact h)
  obtain ⟨C, hC⟩ : ∃ C, crcMore 0#32 l = C := ⟨_, rfl⟩
  rw [hC] at KS
  obtain ⟨s, hs⟩ : ∃ s : Nat, C.toNat = s := ⟨_, rfl⟩
  rw [hs] at KS
  have hs2 : s < 4294967296 := by rw [← hs]; exact C.isLt
  have HH := Lib.hid (And.intro hn (And.intro hC hs))
  have HB := Lib.hid hb
  have g1 : ((n : Int) == 0) = false := by simp; omega
  have g2 : ¬ (4096 : Int) < (n : Int) := by omega
  clear hb hn hC hs
  go_enter Try.func45, Try.ntmps45
  go_upto_region 3 with (fail)
  go_wp2_with fail
  refine KS.out.mono ?_
  rintro e w1 ⟨rfl, rfl⟩
  have N1 := Lib.hid (Nw.refl w)
  have hcells := headB_cells n C h2
  rw [HH.out.2.2] at hcells
  have hown := own6 w (headB n C) _ rfl hcells
  obtain ⟨i0, hi0, hz0, hz1, hz2⟩ := info_parts infoU8f
  have HL1 := Lib.hid hi0
  have HL2 := Lib.hid hz0
  have HL3 := Lib.hid hz1
  have HL4 := Lib.hid hz2
  have HO := Lib.hid hown
  clear hi0 hz0 hz1 hz2 hown hcells
  go_upto_region 5 with (fail)
  obtain ⟨w2, hw2⟩ : ∃ W, w.alloc (.cells #[.int .u8 ((n : Int) / 256), .int .u8 ((n : Int) % 256), .int .u8 ((s : Int) / 16777216), .int .u8 ((s : Int) / 65536 % 256), .int .u8 ((s : Int) / 256 % 256), .int .u8 ((s : Int) % 256)] 5) = W := ⟨_, rfl⟩
  rw [hw2]
  have n2 : Nw w w2 := by rw [← hw2]; exact Nw.alloc N1.out _
  have HO2 := Lib.hid (show Own w2 5 1 (.slice (some ⟨w.heap.size, 0, none⟩) 6 6) 6 (bcells (headB n C)) (some w.heap.size) by rw [← hw2]; exact HO.out)
  have HB2 := Lib.hid (show Rd w2 A (bcells l) from HB.out.below n2 (Nat.le_refl _))
  have N2 := Lib.hid n2
  clear hw2 n2
  go_wp2_with (at_builtin; refine wpList_append_at w2 rfl _ _ _ rfl 5 i0 _ 1 1 Try.underlying22 HL1.out HL2.out HL3.out HL4.out rfl (by omega) _ 6 (bcells (headB n C)) (some w.heap.size) rfl HO2.out _ n c (bcells l) rfl (by rw [bcells_length, HH.out.1]; omega) HB2.out (bcells_one _) (by simp only [maxLen]; omega) (by omega) ?_; intro A1 c1 w3 blk1 hown hchg hat; have HO3 := Lib.hid hown; have HC3 := Lib.hid hchg; clear hown hchg hat)
  go_ret2
  obtain ⟨_, _, e2, hrd, hnc, _⟩ := HO3.out.rd
  injection e2 with e3 _ e4
  subst e3 e4
  refine ⟨_, _, rfl, ?_, hnc, Below.trans N2.out (HC3.out.below (fun i _ q => by injection q with q; have := N1.out.size; omega) N2.out.size)⟩
  have e : bcells (frameB l) = bcells (headB n C) ++ bcells l := by rw [frameB, HH.out.1, HH.out.2.1]; simp [bcells]
  show Rd w3 _ (bcells (frameB l))
  rw [e]; exact hrd
theorem frmEnc_bad (w : World) (A : Option Addr) (n c : Nat) (h : n = 0 ∨ 4096 < n) :
    Calls Try.prog 78 #[.slice A n c] w fun e w' => e = .returned (.tuple #[.slice none 0 0, .int .i64 2]) ∧ w' = w := by
  rcases h with rfl | h
  · go_enter Try.func78, Try.ntmps78
    go_wp2_with fail
    go_ret2
    exact ⟨rfl, rfl⟩
  · have g1 : ((n : Int) == 0) = false := by simp; omega
    have g2 : (4096 : Int) < (n : Int) := by omega
    have g3 : ¬ (n : Int) < 1 := by omega
    clear h
    go_enter Try.func78, Try.ntmps78
    go_wp2_with fail
    go_ret2
    exact ⟨rfl, rfl⟩
theorem refEnc_bad (w : World) (A : Option Addr) (n c : Nat) (h : n = 0 ∨ 4096 < n) :
    Calls Try.prog 45 #[.slice A n c] w fun e w' => e = .returned (.tuple #[.slice none 0 0, .int .i64 2]) ∧ w' = w := by
  rcases h with rfl | h
  · go_enter Try.func45, Try.ntmps45
    go_wp2_with fail
    go_ret2
    exact ⟨rfl, rfl⟩
  · have g1 : ((n : Int) == 0) = false := by simp; omega
    have g2 : (4096 : Int) < (n : Int) := by omega
    have g3 : ¬ (n : Int) < 1 := by omega
    clear h
    go_enter Try.func45, Try.ntmps45
    go_wp2_with fail
    go_ret2
    exact ⟨rfl, rfl⟩
end Go.Proofs.Ytnbcjjgilndlaaa
/- Frames: what the document tells of a stream. Helper. -/
namespace Go.Proofs.Ytnbcjjgilndlaaa
open Go.RowKit
set_option linter.unusedVariables false
set_option linter.unusedSimpArgs false
set_option maxRecDepth 100000
set_option maxHeartbeats 3200000
/-- What a stream tells from a place on: where payloads lie, and how long they are; what is wrong; where. -/
def toldF (s : List UInt8) : Nat → Nat → List (Nat × Nat) × Int × Nat
  | 0, at_ => ([], 0, at_)
  | f + 1, at_ =>
    if s.length < at_ + 2 then ([], 0, at_)
    else if 256 * (s.getD at_ 0).toNat + (s.getD (at_ + 1) 0).toNat < 1 ∨ 4096 < 256 * (s.getD at_ 0).toNat + (s.getD (at_ + 1) 0).toNat then ([], 10, at_)
    else if s.length < at_ + 6 + (256 * (s.getD at_ 0).toNat + (s.getD (at_ + 1) 0).toNat) then ([], 0, at_)
    else if frameB ((s.drop (at_ + 6)).take (256 * (s.getD at_ 0).toNat + (s.getD (at_ + 1) 0).toNat)) ≠ (s.drop at_).take (6 + (256 * (s.getD at_ 0).toNat + (s.getD (at_ + 1) 0).toNat)) then ([], 11, at_)
    else ((at_ + 6, 256 * (s.getD at_ 0).toNat + (s.getD (at_ + 1) 0).toNat) :: (toldF s f (at_ + 6 + (256 * (s.getD at_ 0).toNat + (s.getD (at_ + 1) 0).toNat))).1, (toldF s f (at_ + 6 + (256 * (s.getD at_ 0).toNat + (s.getD (at_ + 1) 0).toNat))).2)
def told (s : List UInt8) : List (Nat × Nat) × Int × Nat := toldF s s.length 0
/-- The slices that payloads are told as. -/
def toldV (b off c : Nat) (l : List (Nat × Nat)) : List Value := l.map fun p => .slice (some ⟨b, off + p.1, none⟩) p.2 (c - p.1)
theorem infoSl : (Try.prog.info? 22).map (fun i => (i.zero, i.size, i.bytes)) = some (some (.slice none 0 0), 1, 24) := by kernel_rfl
/-- What was told so far. -/
structure ToldIn (w wr : World) (b off c : Nat) (s : List UInt8) (f at_ : Nat) (done : List (Nat × Nat)) (A' : Option Addr) (c' : Nat) (blk : Option Nat) : Prop where
  o : Own wr 22 1 (.slice A' done.length c') done.length (toldV b off c done) blk
  g : ∀ g, blk = some g → w.heap.size ≤ g
  n : Nw w wr
  t : told s = (done ++ (toldF s f at_).1, (toldF s f at_).2)
  f : s.length ≤ at_ + f
  a : at_ ≤ s.length
  k : 7 * done.length ≤ at_
theorem toldF_stop (s : List UInt8) (f at_ : Nat) (h : s.length < at_ + 2) : toldF s f at_ = ([], 0, at_) := by
  cases f with
  | zero => rfl
  | succ f => simp only [toldF, if_pos h]
theorem byte_at {w : World} {b off : Nat} {s : List UInt8} (h : BytesAt w (some ⟨b, off, none⟩) s) (k : Nat) (hk : k < s.length) : w.cell? ⟨b, off + k, none⟩ = some (.int .u8 ((s.getD k 0).toNat : Int)) := by
  obtain ⟨b', off', e, _, hc⟩ := h.get (k := k) hk
  injection e with e
  injection e with e1 e2
  subst e1 e2
  rw [hc]; simp [List.getD_eq_getElem?_getD, hk]
theorem bytes_sub {w : World} {b off : Nat} {s : List UInt8} (h : BytesAt w (some ⟨b, off, none⟩) s) (k m : Nat) (hk : k ≤ s.length) : BytesAt w (some ⟨b, off + k, none⟩) ((s.drop k).take m) := by
  have h1 := h.cut (s.length + 1) (k := k) hk (by omega)
  rw [if_neg (by omega)] at h1
  simp only [Option.map, add_plain] at h1
  exact h1.take m
theorem rd_last1 (w : World) (t : TypeId) (v : Value) : Rd (w.alloc (.cells #[v] t)) (some ⟨w.heap.size, 0, none⟩) [v] :=
  .inr ⟨w.heap.size, 0, rfl, fun j u hu => by rw [cell_of_row _ _ _ _ t (0, 0) (heap_alloc_last w _)]; simpa using hu⟩
theorem Told_any (w : World) (b off n c : Nat) (s : List UInt8) (hb : BytesAt w (some ⟨b, off, none⟩) s) (hn : s.length = n) (hc : n ≤ c) (hm : n ≤ 1000000) :
    Calls Try.prog 28 #[.slice (some ⟨b, off, none⟩) n c] w fun e w' => ∃ A' c', e = .returned (.tuple #[.slice A' (told s).1.length c', .int .i64 (told s).2.1, .int .i64 (told s).2.2]) ∧ Rd w' A' (toldV b off c (told s).1) ∧ Nw w w' := by
  obtain ⟨D, hD⟩ : ∃ D, told s = D := ⟨_, rfl⟩
  rw [hD]
  have HD := Lib.hid hD
  have HB := Lib.hid hb
  have HN := Lib.hid (And.intro hn (And.intro hc hm))
  obtain ⟨i0, hi0, hz0, hz1, hz2⟩ := info_parts infoSl
  have HL1 := Lib.hid hi0
  have HL2 := Lib.hid hz0
  have HL3 := Lib.hid hz1
  have HL4 := Lib.hid hz2
  clear hb hn hc hm hi0 hz0 hz1 hz2 hD
  go_enter Try.func28, Try.ntmps28
  go_wp2_with fail
  go_loopw [5, 6] (fun x y wr => ∃ (f at_ : Nat) (done : List (Nat × Nat)) (A' : Option Addr) (c' : Nat) (blk : Option Nat), x = .slice A' done.length c' ∧ y = .int .i64 (at_ : Int) ∧ Hid (ToldIn w wr b off c s f at_ done A' c' blk)) (fun _ y _ => (n + 1 - (intOf y).toNat))
  case atStart => exact ⟨s.length, 0, [], none, 0, none, rfl, rfl, Lib.hid ⟨Own.nil _ _ _, (fun g hg => by cases hg), Nw.refl w, by simp [told], by omega, by omega, by simp⟩⟩
  case round =>
    obtain ⟨f, at_, done, A', c', blk, rfl, rfl, HI⟩ := hrel
    have hat : at_ ≤ 1000000 := by have := HI.out.a; have := HN.out; omega
    have j2 : IntKind.i64.wrap ((at_ : Int) + 2) = (at_ : Int) + 2 := by rw [IntKind.wrap_i64]; omega
    by_cases h2 : at_ + 2 ≤ n
    rotate_left
    · have g2 : ¬ (at_ : Int) + 2 ≤ (n : Int) := by omega
      have hD : D = (done, 0, at_) := by rw [← HD.out, HI.out.t, toldF_stop s f at_ (by have := HN.out; omega)]; simp
      subst hD
      go_wp2_with fail
      go_ret3
      obtain ⟨_, _, e2, hrd, _, _⟩ := HI.out.o.rd
      injection e2 with e3 _ e4
      subst e3 e4
      exact ⟨_, ⟨_, rfl⟩, hrd, HI.out.n⟩
    have g2 : (at_ : Int) + 2 ≤ (n : Int) := by omega
    have cA := HI.out.n.cell (byte_at HB.out at_ (by have := HN.out; omega))
    have cB := HI.out.n.cell (byte_at HB.out (at_ + 1) (by have := HN.out; omega))
    obtain ⟨x, hx⟩ : ∃ x, (s.getD at_ 0).toNat = x := ⟨_, rfl⟩
    obtain ⟨y, hy⟩ : ∃ y, (s.getD (at_ + 1) 0).toNat = y := ⟨_, rfl⟩
    have hx2 : x < 256 := by rw [← hx]; exact UInt8.toNat_lt _
    have hy2 : y < 256 := by rw [← hy]; exact UInt8.toNat_lt _
    rw [hx] at cA
    rw [hy] at cB
    obtain ⟨N, hN⟩ : ∃ N, 256 * x + y = N := ⟨_, rfl⟩
    have jx : IntKind.i64.wrap (x : Int) = (x : Int) := by rw [IntKind.wrap_i64]; omega
    have jy : IntKind.i64.wrap (y : Int) = (y : Int) := by rw [IntKind.wrap_i64]; omega
    have j256 : IntKind.i64.wrap (256 * (x : Int)) = 256 * (x : Int) := by rw [IntKind.wrap_i64]; omega
    have jN : IntKind.i64.wrap (256 * (x : Int) + (y : Int)) = (N : Int) := by rw [IntKind.wrap_i64]; omega
    obtain ⟨a1, ha1⟩ : ∃ a1, at_ + 1 = a1 := ⟨_, rfl⟩
    obtain ⟨p, hp⟩ : ∃ p, at_ + 6 = p := ⟨_, rfl⟩
    obtain ⟨q, hq⟩ : ∃ q, p + N = q := ⟨_, rfl⟩
    have j1 : IntKind.i64.wrap ((at_ : Int) + 1) = (a1 : Int) := by rw [IntKind.wrap_i64]; omega
    have j6 : IntKind.i64.wrap ((at_ : Int) + 6) = (p : Int) := by rw [IntKind.wrap_i64]; omega
    have jq : IntKind.i64.wrap ((p : Int) + (N : Int)) = (q : Int) := by rw [IntKind.wrap_i64]; omega
    have cB' : wr.cell? ⟨b, off + a1, none⟩ = some (.int .u8 (y : Int)) := by rw [← ha1]; exact cB
    have g3 : (at_ : Int) < (n : Int) := by omega
    have g4 : (a1 : Int) < (n : Int) := by omega
    have HXY := Lib.hid (And.intro hx (And.intro hy (And.intro hN (And.intro hx2 hy2))))
    have hNb : N ≤ 65535 := by omega
    have HPQ := Lib.hid (And.intro ha1 (And.intro hp hq))
    clear hx hy hN hx2 hy2 ha1 hp hq
    go_upto_region 4 with (fail)
    have cA2 : wr.drew.cell? ⟨b, off + at_, none⟩ = some (.int .u8 (x : Int)) := cA
    have cB2 : wr.drew.cell? ⟨b, off + a1, none⟩ = some (.int .u8 (y : Int)) := cB'
    go_quiet (fail)
    obtain ⟨w2, hw2⟩ : ∃ W, wr.drewN nq = W := ⟨_, rfl⟩
    rw [hw2]
    have n2 : Nw wr w2 := by rw [← hw2]; exact ((Chg.refl (fun _ => False) wr).many nq).below (fun _ _ h => h.elim) (Nat.le_refl _)
    have HI2 := Lib.hid (show ToldIn w w2 b off c s f at_ done A' c' blk from ⟨HI.out.o.kept fun g hg => n2.block g (HI.out.o.lt g hg), HI.out.g, Nw.step HI.out.n n2, HI.out.t, HI.out.f, HI.out.a, HI.out.k⟩)
    obtain ⟨f', rfl⟩ : ∃ f', f = f' + 1 := ⟨f - 1, by have := HI.out.f; have := HN.out; omega⟩
    have HST := Lib.hid (show toldF s (f' + 1) at_ = if N < 1 ∨ 4096 < N then ([], 10, at_) else if n < at_ + 6 + N then ([], 0, at_) else if frameB ((s.drop (at_ + 6)).take N) ≠ (s.drop at_).take (6 + N) then ([], 11, at_) else ((at_ + 6, N) :: (toldF s f' (at_ + 6 + N)).1, (toldF s f' (at_ + 6 + N)).2) by
      have h := HXY.out
      rw [toldF, h.1, h.2.1, h.2.2.1, HN.out.1, if_neg (by omega)])
    clear hw2 n2 cA cB cA2 cB2 cB'
    by_cases hb1 : N < 1 ∨ 4096 < N
    · rw [if_pos hb1] at HST
      have hD : D = (done, 10, at_) := by rw [← HD.out, HI.out.t, HST.out]; simp
      subst hD
      rcases hb1 with hb1 | hb1
      · have g5 : (N : Int) < 1 := by omega
        go_wp2_with fail
        go_ret3
        obtain ⟨_, _, e2, hrd, _, _⟩ := HI2.out.o.rd
        injection e2 with e3 _ e4
        subst e3 e4
        exact ⟨_, ⟨_, rfl⟩, hrd, HI2.out.n⟩
      · have g5 : ¬ (N : Int) < 1 := by omega
        have g6 : (4096 : Int) < (N : Int) := by omega
        go_wp2_with fail
        go_ret3
        obtain ⟨_, _, e2, hrd, _, _⟩ := HI2.out.o.rd
        injection e2 with e3 _ e4
        subst e3 e4
        exact ⟨_, ⟨_, rfl⟩, hrd, HI2.out.n⟩
    rw [if_neg hb1] at HST
    have g5 : ¬ (N : Int) < 1 := by omega
    have g6 : ¬ (4096 : Int) < (N : Int) := by omega
    by_cases hb2 : n < at_ + 6 + N
    · rw [if_pos hb2] at HST
      have hD : D = (done, 0, at_) := by rw [← HD.out, HI.out.t, HST.out]; simp
      subst hD
      have g7 : (n : Int) < (q : Int) := by have := HPQ.out; omega
      go_wp2_with fail
      go_ret3
      obtain ⟨_, _, e2, hrd, _, _⟩ := HI2.out.o.rd
      injection e2 with e3 _ e4
      subst e3 e4
      exact ⟨_, ⟨_, rfl⟩, hrd, HI2.out.n⟩
    rw [if_neg hb2] at HST
    have g7 : ¬ (n : Int) < (q : Int) := by have := HPQ.out; omega
    have e1 : (q : Int) ≤ (c : Int) := by have := HPQ.out; have := HN.out; omega
    have e2 : (p : Int) ≤ (q : Int) := by have := HPQ.out; omega
    have e3 : ¬ (c : Int) = (p : Int) := by have := HPQ.out; have := HN.out; omega
    have e4 : ¬ c = p := by have := HPQ.out; have := HN.out; omega
    have e5 : q - p = N := by have := HPQ.out; omega
    have e6 : max (q : Int) 0 = (q : Int) := by omega
    have e7 : (at_ : Int) ≤ (q : Int) := by have := HPQ.out; omega
    have e8 : ¬ (c : Int) = (at_ : Int) := by have := HPQ.out; have := HN.out; omega
    have e9 : ¬ c = at_ := by have := HPQ.out; have := HN.out; omega
    have KE := Lib.hid (refEnc_ok w2 (some ⟨b, off + p, none⟩) N (c - p) ((s.drop (at_ + 6)).take N) (by rw [← HPQ.out.2.1]; exact Rd.below (bytes_sub HB.out (at_ + 6) N (by have := HN.out; omega)) HI2.out.n (Nat.le_refl _)) (by have := HN.out; simp; omega) (by omega) (by omega))
    obtain ⟨FB, hFB⟩ : ∃ FB, frameB ((s.drop (at_ + 6)).take N) = FB := ⟨_, rfl⟩
    obtain ⟨SB, hSB⟩ : ∃ SB, (s.drop at_).take (6 + N) = SB := ⟨_, rfl⟩
    rw [hFB, hSB] at HST
    rw [hFB] at KE
    have HFB := Lib.hid hFB
    have HSB := Lib.hid hSB
    clear hFB hSB hb1 hb2
    go_upto_region 8 with (fail)
    go_wp2_with fail
    refine KE.out.mono ?_
    rintro e w3 ⟨A8, c8, rfl, hb8, hc8, n3⟩
    have HI3 := Lib.hid (show ToldIn w w3 b off c s (f' + 1) at_ done A' c' blk from ⟨HI2.out.o.kept fun g hg => n3.block g (HI2.out.o.lt g hg), HI2.out.g, Nw.step HI2.out.n n3, HI2.out.t, HI2.out.f, HI2.out.a, HI2.out.k⟩)
    have hfl : FB.length = 6 + N := by rw [← HFB.out, frameB, List.length_append]; have := HN.out; have := HPQ.out; simp [headB]; omega
    have hsl : SB.length = 6 + N := by rw [← HSB.out]; have := HN.out; have := HPQ.out; simp; omega
    have BT3 := Lib.hid (show BytesAt w3 A8 FB ∧ BytesAt w3 (some ⟨b, off + at_, none⟩) SB from ⟨hb8, by rw [← HSB.out]; exact Rd.below (bytes_sub HB.out at_ (6 + N) (by have := HN.out; omega)) HI3.out.n (Nat.le_refl _)⟩)
    have HLL := Lib.hid (And.intro hfl hsl)
    clear hfl hsl hb8
    have ea : q - at_ = 6 + N := by have := HPQ.out; omega
    by_cases hne : FB ≠ SB
    · rw [if_pos hne] at HST
      have hD : D = (done, 11, at_) := by rw [← HD.out, HI3.out.t, HST.out]; simp
      subst hD
      have hne2 : ¬ ((⟨FB.toArray⟩ : ByteArray) = ⟨SB.toArray⟩) := fun e => hne (by have := congrArg ByteArray.data e; simpa using this)
      have hne3 : (FB == SB) = false := by simpa using hne
      clear hne
      go_upto_region 9 with (fail)
      refine wp_region_F (fun W => Nw w3 W) [10] (by kernel_rfl) ?_
      have hS : Nw w3 w3.drew := (Nw.refl w3).drew
      refine wpAnyF_freeT (i := 0) (v := ?_) rfl (by kernel_rfl) (by kernel_rfl) (by kernel_rfl) (by kernel_rfl) (by kernel_rfl) (fun _ _ _ h => h) (by rfl) ?_ hS ?_
      rotate_left
      · intro u
        go_simp
        try with_reducible rfl
      try simp only [List.getElem_toArray, List.getElem_cons_succ, List.getElem_cons_zero, Act.put, List.setIfInBounds_toArray, List.set_cons_zero, List.set_cons_succ]
      refine wpAnyF_takeT (i := 1) (v := ?_) rfl (by kernel_rfl) (by kernel_rfl) (by kernel_rfl) (by kernel_rfl) (by kernel_rfl) (by kernel_rfl) (fun _ _ _ h => h) (by rfl) ?_ hS ?_
      rotate_left
      · intro u hu
        have s1 := BytesAt.str (show BytesAt u A8 FB from Rd.below BT3.out.1 hu (Nat.le_refl _)) 22 5 9 c8 Try.underlying22 Try.underlying5 Try.underlying9
        rw [HLL.out.1] at s1
        go_simp
        try with_reducible rfl
      try simp only [List.getElem_toArray, List.getElem_cons_succ, List.getElem_cons_zero, Act.put, List.setIfInBounds_toArray, List.set_cons_zero, List.set_cons_succ]
      refine wpAnyF_freeT (i := 2) (v := ?_) rfl (by kernel_rfl) (by kernel_rfl) (by kernel_rfl) (by kernel_rfl) (by kernel_rfl) (fun _ _ _ h => h) (by rfl) ?_ hS ?_
      rotate_left
      · intro u
        go_simp
        try with_reducible rfl
      try simp only [List.getElem_toArray, List.getElem_cons_succ, List.getElem_cons_zero, Act.put, List.setIfInBounds_toArray, List.set_cons_zero, List.set_cons_succ]
      refine wpAnyF_freeT (i := 3) (v := ?_) rfl (by kernel_rfl) (by kernel_rfl) (by kernel_rfl) (by kernel_rfl) (by kernel_rfl) (fun _ _ _ h => h) (by rfl) ?_ hS ?_
      rotate_left
      · intro u
        go_simp
        try with_reducible rfl
      try simp only [List.getElem_toArray, List.getElem_cons_succ, List.getElem_cons_zero, Act.put, List.setIfInBounds_toArray, List.set_cons_zero, List.set_cons_succ]
      refine wpAnyF_freeT (i := 4) (v := ?_) rfl (by kernel_rfl) (by kernel_rfl) (by kernel_rfl) (by kernel_rfl) (by kernel_rfl) (fun _ _ _ h => h) (by rfl) ?_ hS ?_
      rotate_left
      · intro u
        go_simp
        try with_reducible rfl
      try simp only [List.getElem_toArray, List.getElem_cons_succ, List.getElem_cons_zero, Act.put, List.setIfInBounds_toArray, List.set_cons_zero, List.set_cons_succ]
      refine wpAnyF_freeT (i := 5) (v := ?_) rfl (by kernel_rfl) (by kernel_rfl) (by kernel_rfl) (by kernel_rfl) (by kernel_rfl) (fun _ _ _ h => h) (by rfl) ?_ hS ?_
      rotate_left
      · intro u
        go_simp
        try with_reducible rfl
      try simp only [List.getElem_toArray, List.getElem_cons_succ, List.getElem_cons_zero, Act.put, List.setIfInBounds_toArray, List.set_cons_zero, List.set_cons_succ]
      refine wpAnyF_freeT (i := 6) (v := ?_) rfl (by kernel_rfl) (by kernel_rfl) (by kernel_rfl) (by kernel_rfl) (by kernel_rfl) (fun _ _ _ h => h) (by rfl) ?_ hS ?_
      rotate_left
      · intro u
        go_simp
        try with_reducible rfl
      try simp only [List.getElem_toArray, List.getElem_cons_succ, List.getElem_cons_zero, Act.put, List.setIfInBounds_toArray, List.set_cons_zero, List.set_cons_succ]
      refine wpAnyF_freeT (i := 7) (v := ?_) rfl (by kernel_rfl) (by kernel_rfl) (by kernel_rfl) (by kernel_rfl) (by kernel_rfl) (fun _ _ _ h => h) (by rfl) ?_ hS ?_
      rotate_left
      · intro u
        go_simp
        try with_reducible rfl
      try simp only [List.getElem_toArray, List.getElem_cons_succ, List.getElem_cons_zero, Act.put, List.setIfInBounds_toArray, List.set_cons_zero, List.set_cons_succ]
      refine wpAnyF_freeT (i := 8) (v := ?_) rfl (by kernel_rfl) (by kernel_rfl) (by kernel_rfl) (by kernel_rfl) (by kernel_rfl) (fun _ _ _ h => h) (by rfl) ?_ hS ?_
      rotate_left
      · intro u
        go_simp
        try with_reducible rfl
      try simp only [List.getElem_toArray, List.getElem_cons_succ, List.getElem_cons_zero, Act.put, List.setIfInBounds_toArray, List.set_cons_zero, List.set_cons_succ]
      refine wpAnyF_takeT (i := 9) (v := ?_) rfl (by kernel_rfl) (by kernel_rfl) (by kernel_rfl) (by kernel_rfl) (by kernel_rfl) (by kernel_rfl) (fun _ _ _ h => h) (by rfl) ?_ hS ?_
      rotate_left
      · intro u hu
        have s2 := BytesAt.str (show BytesAt u (some ⟨b, off + at_, none⟩) SB from Rd.below BT3.out.2 hu (Nat.le_refl _)) 22 5 9 (c - at_) Try.underlying22 Try.underlying5 Try.underlying9
        rw [HLL.out.2] at s2
        go_simp
        try with_reducible rfl
      try simp only [List.getElem_toArray, List.getElem_cons_succ, List.getElem_cons_zero, Act.put, List.setIfInBounds_toArray, List.set_cons_zero, List.set_cons_succ]
      refine wpAnyF_step (i := 10) (by kernel_rfl) rfl (by rfl) fun K hK => ?_
      go_simp
      refine hK _ _ (.inl (by kernel_rfl)) ?_
      clear hK K
      try simp only [List.getElem_toArray, List.getElem_cons_succ, List.getElem_cons_zero, Act.put, List.setIfInBounds_toArray, List.set_cons_zero, List.set_cons_succ]
      refine wpAnyF_done (by kernel_rfl) ?_ _
      have HO4 := Lib.hid HI3.out.o
      have HN4 := Lib.hid HI3.out.n.drew
      go_wp2_with fail
      go_ret3
      obtain ⟨_, _, e2, hrd, _, _⟩ := HO4.out.rd
      injection e2 with e3 _ e4
      subst e3 e4
      exact ⟨_, ⟨_, rfl⟩, hrd, HN4.out⟩
    have heq : FB = SB := Classical.not_not.1 hne
    subst heq
    rw [if_neg (by simp)] at HST
    clear hne
    go_upto_region 9 with (fail)
    refine wp_region_F (fun W => Nw w3 W) [10] (by kernel_rfl) ?_
    have hS : Nw w3 w3.drew := (Nw.refl w3).drew
    refine wpAnyF_freeT (i := 0) (v := ?_) rfl (by kernel_rfl) (by kernel_rfl) (by kernel_rfl) (by kernel_rfl) (by kernel_rfl) (fun _ _ _ h => h) (by rfl) ?_ hS ?_
    rotate_left
    · intro u
      go_simp
      try with_reducible rfl
    try simp only [List.getElem_toArray, List.getElem_cons_succ, List.getElem_cons_zero, Act.put, List.setIfInBounds_toArray, List.set_cons_zero, List.set_cons_succ]
    refine wpAnyF_takeT (i := 1) (v := ?_) rfl (by kernel_rfl) (by kernel_rfl) (by kernel_rfl) (by kernel_rfl) (by kernel_rfl) (by kernel_rfl) (fun _ _ _ h => h) (by rfl) ?_ hS ?_
    rotate_left
    · intro u hu
      have s1 := BytesAt.str (show BytesAt u A8 FB from Rd.below BT3.out.1 hu (Nat.le_refl _)) 22 5 9 c8 Try.underlying22 Try.underlying5 Try.underlying9
      rw [HLL.out.1] at s1
      go_simp
      try with_reducible rfl
    try simp only [List.getElem_toArray, List.getElem_cons_succ, List.getElem_cons_zero, Act.put, List.setIfInBounds_toArray, List.set_cons_zero, List.set_cons_succ]
    refine wpAnyF_freeT (i := 2) (v := ?_) rfl (by kernel_rfl) (by kernel_rfl) (by kernel_rfl) (by kernel_rfl) (by kernel_rfl) (fun _ _ _ h => h) (by rfl) ?_ hS ?_
    rotate_left
    · intro u
      go_simp
      try with_reducible rfl
    try simp only [List.getElem_toArray, List.getElem_cons_succ, List.getElem_cons_zero, Act.put, List.setIfInBounds_toArray, List.set_cons_zero, List.set_cons_succ]
    refine wpAnyF_freeT (i := 3) (v := ?_) rfl (by kernel_rfl) (by kernel_rfl) (by kernel_rfl) (by kernel_rfl) (by kernel_rfl) (fun _ _ _ h => h) (by rfl) ?_ hS ?_
    rotate_left
    · intro u
      go_simp
      try with_reducible rfl
    try simp only [List.getElem_toArray, List.getElem_cons_succ, List.getElem_cons_zero, Act.put, List.setIfInBounds_toArray, List.set_cons_zero, List.set_cons_succ]
    refine wpAnyF_freeT (i := 4) (v := ?_) rfl (by kernel_rfl) (by kernel_rfl) (by kernel_rfl) (by kernel_rfl) (by kernel_rfl) (fun _ _ _ h => h) (by rfl) ?_ hS ?_
    rotate_left
    · intro u
      go_simp
      try with_reducible rfl
    try simp only [List.getElem_toArray, List.getElem_cons_succ, List.getElem_cons_zero, Act.put, List.setIfInBounds_toArray, List.set_cons_zero, List.set_cons_succ]
    refine wpAnyF_freeT (i := 5) (v := ?_) rfl (by kernel_rfl) (by kernel_rfl) (by kernel_rfl) (by kernel_rfl) (by kernel_rfl) (fun _ _ _ h => h) (by rfl) ?_ hS ?_
    rotate_left
    · intro u
      go_simp
      try with_reducible rfl
    try simp only [List.getElem_toArray, List.getElem_cons_succ, List.getElem_cons_zero, Act.put, List.setIfInBounds_toArray, List.set_cons_zero, List.set_cons_succ]
    refine wpAnyF_freeT (i := 6) (v := ?_) rfl (by kernel_rfl) (by kernel_rfl) (by kernel_rfl) (by kernel_rfl) (by kernel_rfl) (fun _ _ _ h => h) (by rfl) ?_ hS ?_
    rotate_left
    · intro u
      go_simp
      try with_reducible rfl
    try simp only [List.getElem_toArray, List.getElem_cons_succ, List.getElem_cons_zero, Act.put, List.setIfInBounds_toArray, List.set_cons_zero, List.set_cons_succ]
    refine wpAnyF_freeT (i := 7) (v := ?_) rfl (by kernel_rfl) (by kernel_rfl) (by kernel_rfl) (by kernel_rfl) (by kernel_rfl) (fun _ _ _ h => h) (by rfl) ?_ hS ?_
    rotate_left
    · intro u
      go_simp
      try with_reducible rfl
    try simp only [List.getElem_toArray, List.getElem_cons_succ, List.getElem_cons_zero, Act.put, List.setIfInBounds_toArray, List.set_cons_zero, List.set_cons_succ]
    refine wpAnyF_freeT (i := 8) (v := ?_) rfl (by kernel_rfl) (by kernel_rfl) (by kernel_rfl) (by kernel_rfl) (by kernel_rfl) (fun _ _ _ h => h) (by rfl) ?_ hS ?_
    rotate_left
    · intro u
      go_simp
      try with_reducible rfl
    try simp only [List.getElem_toArray, List.getElem_cons_succ, List.getElem_cons_zero, Act.put, List.setIfInBounds_toArray, List.set_cons_zero, List.set_cons_succ]
    refine wpAnyF_takeT (i := 9) (v := ?_) rfl (by kernel_rfl) (by kernel_rfl) (by kernel_rfl) (by kernel_rfl) (by kernel_rfl) (by kernel_rfl) (fun _ _ _ h => h) (by rfl) ?_ hS ?_
    rotate_left
    · intro u hu
      have s2 := BytesAt.str (show BytesAt u (some ⟨b, off + at_, none⟩) FB from Rd.below BT3.out.2 hu (Nat.le_refl _)) 22 5 9 (c - at_) Try.underlying22 Try.underlying5 Try.underlying9
      rw [HLL.out.2] at s2
      go_simp
      try with_reducible rfl
    try simp only [List.getElem_toArray, List.getElem_cons_succ, List.getElem_cons_zero, Act.put, List.setIfInBounds_toArray, List.set_cons_zero, List.set_cons_succ]
    refine wpAnyF_step (i := 10) (by kernel_rfl) rfl (by rfl) fun K hK => ?_
    go_simp
    refine hK _ _ (.inl (by kernel_rfl)) ?_
    clear hK K
    try simp only [List.getElem_toArray, List.getElem_cons_succ, List.getElem_cons_zero, Act.put, List.setIfInBounds_toArray, List.set_cons_zero, List.set_cons_succ]
    refine wpAnyF_done (by kernel_rfl) ?_ _
    obtain ⟨w4, hw4⟩ : ∃ W, w3.drew = W := ⟨_, rfl⟩
    rw [hw4]
    have n4 : Nw w3 w4 := by rw [← hw4]; exact (Nw.refl w3).drew
    have HO4 := Lib.hid (HI3.out.o.kept fun g hg => n4.block g (HI3.out.o.lt g hg))
    have HN4 := Lib.hid (Nw.step HI3.out.n n4)
    clear hw4 n4 ea
    go_upto_region 11 with (fail)
    go_upto_region 12 with (at_builtin; refine wpList_append_at (w4.alloc (.cells #[.slice (some ⟨b, off + p, none⟩) N (c - p)] 22)) rfl _ _ _ rfl 22 i0 _ 1 24 Try.underlying65 HL1.out HL2.out HL3.out HL4.out rfl (by omega) _ done.length (toldV b off c done) blk rfl (HO4.out.kept fun g hg => Below.heap_alloc _ _ _ (HO4.out.lt g hg)) _ 1 1 [.slice (some ⟨b, off + p, none⟩) N (c - p)] rfl rfl (rd_last1 _ _ _) (by simp [Value.oneCell']) (by have h1 := HI3.out.k; have h2 := HI3.out.a; have h3 := HN.out; simp only [maxLen]; omega) (by have h1 := HI3.out.k; have h2 := HI3.out.a; have h3 := HN.out; omega) ?_; intro A2 c2 w6 blk2 hown hchg hat; have HO6 := Lib.hid hown; have HC6 := Lib.hid hchg; have HT6 := Lib.hid hat; clear hown hchg hat)
    go_wp2_with fail
    have hpq := HPQ.out
    have hnn := HN.out
    have nw6 : Nw w w6 := by
      have h : Chg (fun k => some k = blk) w4 w6 := ((Chg.refl (fun k => some k = blk) w4).alloc _).trans HC6.out fun _ _ h => h
      exact Below.trans HN4.out (h.below (fun k _ hq => HI3.out.g k hq.symm) HN4.out.size)
    refine ⟨⟨f', q, done ++ [(p, N)], A2, c2, blk2, by simp, rfl, Lib.hid ⟨?_, ?_, ?_, ?_, by have := HI3.out.f; omega, by omega, by have := HI3.out.k; simp; omega⟩⟩, by simp [intOf]; omega⟩
    · have h := HO6.out
      have e : toldV b off c (done ++ [(p, N)]) = toldV b off c done ++ [.slice (some ⟨b, off + p, none⟩) N (c - p)] := by simp [toldV]
      rw [e, List.length_append]
      exact h
    · intro g hg
      rcases HT6.out with h | h
      · exact HI3.out.g g (h ▸ hg)
      · rw [h] at hg; injection hg with hg
        have := HN4.out.size
        simp at hg
        omega
    · exact nw6
    · rw [HI3.out.t, HST.out, hpq.2.1, hpq.2.2]; simp
/-- Nothing tells nothing. -/
theorem Told_none (w : World) (A : Option Addr) (c : Nat) :
    Calls Try.prog 28 #[.slice A 0 c] w fun e w' => e = .returned (.tuple #[.slice none 0 0, .int .i64 0, .int .i64 0]) ∧ Nw w w' := by
  go_enter Try.func28, Try.ntmps28
  go_wp2_with fail
  go_loopw [5, 6] (fun x y wr => x = .slice none 0 0 ∧ y = .int .i64 0 ∧ Hid (Nw w wr)) (fun _ _ _ => 0)
  case atStart => exact ⟨rfl, rfl, Lib.hid (Nw.refl w)⟩
  case round =>
    obtain ⟨rfl, rfl, HI⟩ := hrel
    go_wp2_with fail
    go_ret3
    exact ⟨rfl, HI.out⟩
end Go.Proofs.Ytnbcjjgilndlaaa
/- Frames: what is told of frames, one behind the other. No program in sight. Helper. -/
namespace Go.Proofs.Ytnbcjjgilndlaaa
open Go.RowKit
set_option linter.unusedVariables false
set_option linter.unusedSimpArgs false
theorem frameB_length (l : List UInt8) : (frameB l).length = 6 + l.length := by simp [frameB, headB]; omega
theorem toldF_frame (s : List UInt8) (f at_ : Nat) (l rest : List UInt8) (h : s.drop at_ = frameB l ++ rest) (h1 : 1 ≤ l.length) (h2 : l.length ≤ 4096) :
    toldF s (f + 1) at_ = ((at_ + 6, l.length) :: (toldF s f (at_ + 6 + l.length)).1, (toldF s f (at_ + 6 + l.length)).2) := by
  have hlen : s.length - at_ = 6 + l.length + rest.length := by
    have := congrArg List.length h
    rw [List.length_drop, List.length_append, frameB_length] at this
    exact this
  have g0 : s.getD at_ 0 = UInt8.ofNat (l.length / 256) := by
    have : (s.drop at_)[0]? = (frameB l ++ rest)[0]? := by rw [h]
    rw [List.getElem?_drop, Nat.add_zero] at this
    rw [List.getD_eq_getElem?_getD, this]
    simp [frameB, headB]
  have g1 : s.getD (at_ + 1) 0 = UInt8.ofNat l.length := by
    have : (s.drop at_)[1]? = (frameB l ++ rest)[1]? := by rw [h]
    rw [List.getElem?_drop] at this
    rw [List.getD_eq_getElem?_getD, this]
    simp [frameB, headB]
  have hN : 256 * (s.getD at_ 0).toNat + (s.getD (at_ + 1) 0).toNat = l.length := by
    rw [g0, g1, UInt8.toNat_ofNat', UInt8.toNat_ofNat']
    omega
  have e1 : (s.drop (at_ + 6)).take l.length = l := by
    rw [← List.drop_drop, h, List.drop_append_of_le_length (by rw [frameB_length]; omega)]
    have : (frameB l).drop 6 = l := by rw [frameB]; exact List.drop_left' rfl
    rw [this]
    exact List.take_left' rfl
  have e2 : (s.drop at_).take (6 + l.length) = frameB l := by rw [h]; exact List.take_left' (frameB_length l)
  rw [toldF, hN, if_neg (by omega), if_neg (by omega), if_neg (by omega), e1, e2, if_neg (by simp)]
theorem toldF_frames (ls : List (List UInt8)) (hl : ∀ l ∈ ls, 1 ≤ l.length ∧ l.length ≤ 4096) (s : List UInt8) (f at_ : Nat) (h : s.drop at_ = (ls.map frameB).flatten) (ha : at_ ≤ s.length) (hf : ls.length ≤ f) :
    (toldF s f at_).1.length = ls.length ∧ (toldF s f at_).2 = (0, s.length) := by
  induction ls generalizing f at_ with
  | nil =>
    have hz : s.length - at_ = 0 := by have := congrArg List.length h; simpa using this
    rw [toldF_stop s f at_ (by omega)]
    exact ⟨rfl, by rw [show at_ = s.length by omega]⟩
  | cons l ls ih =>
    obtain ⟨h1, h2⟩ := hl l (by simp)
    simp only [List.map_cons, List.flatten_cons] at h
    obtain ⟨f, rfl⟩ : ∃ f', f = f' + 1 := ⟨f - 1, by simp at hf; omega⟩
    rw [toldF_frame s f at_ l _ h h1 h2]
    have hlen : s.length - at_ = 6 + l.length + (ls.map frameB).flatten.length := by
      have := congrArg List.length h
      rw [List.length_drop, List.length_append, frameB_length] at this
      exact this
    have hd : s.drop (at_ + 6 + l.length) = (ls.map frameB).flatten := by
      rw [Nat.add_assoc, ← List.drop_drop, h]
      exact List.drop_left' (frameB_length l)
    obtain ⟨i1, i2⟩ := ih (fun x hx => hl x (by simp [hx])) f (at_ + 6 + l.length) hd (by omega) (by simp at hf; omega)
    exact ⟨by simp [i1], i2⟩
theorem told_frames (ls : List (List UInt8)) (hl : ∀ l ∈ ls, 1 ≤ l.length ∧ l.length ≤ 4096) : (told (ls.map frameB).flatten).1.length = ls.length ∧ (told (ls.map frameB).flatten).2 = (0, (ls.map frameB).flatten.length) := by
  refine toldF_frames ls hl _ _ 0 rfl (Nat.zero_le _) ?_
  have : ∀ ls : List (List UInt8), ls.length ≤ (ls.map frameB).flatten.length := by
    intro ls
    induction ls with
    | nil => simp
    | cons l ls ih => simp only [List.map_cons, List.flatten_cons, List.length_append, frameB_length, List.length_cons]; omega
  exact this ls
end Go.Proofs.Ytnbcjjgilndlaaa
/- Messages: a message's frame, by the document. Helper. -/
namespace Go.Proofs.Ytnbcjjgilndlaaa
open Go.RowKit
set_option linter.unusedVariables false
set_option linter.unusedSimpArgs false
set_option maxRecDepth 100000
theorem refFrame_any (w : World) (A : Option Addr) (n c : Nat) (l : List UInt8) (hb : BytesAt w A l) (hn : l.length = n) (h1 : 1 ≤ n) (h2 : n ≤ 4096) :
    Calls Try.prog 25 #[.slice A n c] w fun e w' => ∃ A' c', e = .returned (.slice A' (6 + n) c') ∧ BytesAt w' A' (frameB l) ∧ 6 + n ≤ c' ∧ Nw w w' := by
  have K := Lib.hid (refEnc_ok w A n c l hb hn h1 h2)
  clear hb hn h1 h2
  go_enter Try.func25, Try.ntmps25
  go_wp2_with fail
  refine K.out.mono ?_
  rintro e w1 ⟨A1, c1, rfl, hb1, hc1, n1⟩
  have H := Lib.hid (And.intro hb1 (And.intro hc1 n1))
  clear hb1 hc1 n1
  go_wp2_with fail
  go_ret
  exact ⟨A1, c1, rfl, H.out.1, H.out.2.1, H.out.2.2⟩
end Go.Proofs.Ytnbcjjgilndlaaa
