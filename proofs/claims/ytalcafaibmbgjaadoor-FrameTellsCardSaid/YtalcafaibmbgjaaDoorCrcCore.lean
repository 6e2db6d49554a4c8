/- The walks of crc's functions and of the reference's: what each computes, in whatever memory. -/
import Derived.Test.YtalcafaibmbgjaaDoorProg
import Derived.Test.YtalcafaibmbgjaaDoorLib
import Derived.Test.YtalcafaibmbgjaaDoorCrcPlain
namespace Go.Proofs.YtalcafaibmbgjaaDoor
open Go.RowKit
theorem b32_of (A : BitVec 32) : BitVec.ofInt 32 (A.toNat : Int) = A := by
  apply BitVec.eq_of_toNat_eq; rw [ofInt_u32 _ A.isLt]
theorem b32_xor (A B : BitVec 32) : bits .xor .u32 (A.toNat : Int) (B.toNat : Int) = ((A ^^^ B).toNat : Int) := by
  rw [u32_xor_nat _ _ A.isLt B.isLt, BitVec.toNat_xor]
theorem b32_and (A B : BitVec 32) : bits .and .u32 (A.toNat : Int) (B.toNat : Int) = ((A &&& B).toNat : Int) := by
  rw [u32_and_nat _ _ A.isLt B.isLt, BitVec.toNat_and]
theorem b32_not (A : BitVec 32) : ((4294967295 : Int) - (A.toNat : Int)) = ((~~~ A).toNat : Int) := by
  have := A.isLt; rw [BitVec.toNat_not]; omega
theorem b32_half (A : BitVec 32) : ((A.toNat : Int) / (2 : Int)) = ((A >>> 1).toNat : Int) := by
  rw [BitVec.toNat_ushiftRight, Nat.shiftRight_eq_div_pow]; rfl
theorem b32_byte (A : BitVec 32) : ((A.toNat : Int) / (256 : Int)) = ((A >>> 8).toNat : Int) := by
  rw [BitVec.toNat_ushiftRight, Nat.shiftRight_eq_div_pow]; rfl
theorem shift_round (D : BitVec 32) : bits BinOp.xor IntKind.u32 (↑D.toNat / 2) (bits BinOp.and IntKind.u32 3988292384 (-bits BinOp.and IntKind.u32 (↑D.toNat) 1 % 4294967296)) = ((CrcP.step D).toNat : Int) := by
  have h1 : bits BinOp.and IntKind.u32 (↑D.toNat) 1 = ((D.toNat % 2 : Nat) : Int) := by
    have := u32_and_nat D.toNat 1 D.isLt (by decide)
    rw [Nat.and_one_is_mod] at this; exact this
  rw [h1, b32_half]
  have hp : (3988292384 : Int) = ((CrcP.poly.toNat : Nat) : Int) := rfl
  have hb : D.getLsbD 0 = decide (D.toNat % 2 = 1) := by
    rw [BitVec.getLsbD, Nat.testBit_zero]
  unfold CrcP.step
  rw [hb]
  rcases Nat.mod_two_eq_zero_or_one D.toNat with h | h
  · rw [h]
    have e : (-((0 : Nat) : Int) % 4294967296) = (((0#32).toNat : Nat) : Int) := rfl
    rw [e, hp, b32_and, b32_xor]
    simp
  · rw [h]
    have e : (-((1 : Nat) : Int) % 4294967296) = (((BitVec.allOnes 32).toNat : Nat) : Int) := rfl
    rw [e, hp, b32_and, b32_xor, BitVec.and_allOnes]
    simp
set_option maxHeartbeats 400000 in
theorem shift_any (C : BitVec 32) (n : Nat) (w : World) (hn : n ≤ 1000) :
    Calls Tryd.prog 37 #[.int .u32 C.toNat, .int .i64 n] w fun e w' => e = .returned (.int .u32 (CrcP.shift C n).toNat) ∧ w = w' := by
  go_enter Tryd.func37, Tryd.ntmps37
  go_wp2
  go_loop [0, 6] (fun c i => ∃ (k : Nat), k ≤ n ∧ i = .int .i64 k ∧ c = .int .u32 (CrcP.shift C k).toNat) (fun _ i => n - (intOf i).toNat)
  case atStart => exact ⟨0, Nat.zero_le _, rfl, rfl⟩
  case round =>
    obtain ⟨k, hk, rfl, rfl⟩ := hrel
    go_wp2
    · go_round
      case rel => exact ⟨k + 1, by omega, by go_num, by rw [shift_round]; rfl⟩
      case measure => simp [intOf]; omega
    · go_ret
      have : k = n := by omega
      subst this
      exact ⟨rfl, rfl⟩
/-- the table's first k numbers, noughts behind them -/
def tabArr (k : Nat) : Array Value := Array.ofFn (n := 256) fun i => .int .u32 (if i.val < k then (CrcP.shift (BitVec.ofNat 32 i.val) 8).toNat else 0 : Nat)
theorem tabArr_size (k : Nat) : (tabArr k).size = 256 := by simp [tabArr]
theorem tabArr_one (k : Nat) : (tabArr k).all (·.oneCell') = true := by
  rw [Array.all_eq_true]; intro i hi; simp [tabArr, Value.oneCell']
theorem tabArr_zero : tabArr 0 = Array.replicate 256 (.int .u32 0) := by
  apply Array.ext
  · simp [tabArr]
  · intro i h1 h2; simp [tabArr]
theorem tabArr_set (k : Nat) : (tabArr k).setIfInBounds k (.int .u32 (CrcP.shift (BitVec.ofNat 32 k) 8).toNat) = tabArr (k + 1) := by
  apply Array.ext
  · simp [tabArr]
  · intro i h1 h2
    have hi : i < (tabArr k).size := by simpa using h1
    rw [Array.getElem_setIfInBounds hi]
    by_cases h : k = i
    · subst h; simp [tabArr]
    · rw [if_neg h]
      simp only [tabArr, Array.getElem_ofFn]
      have : (i < k + 1) ↔ (i < k) := by omega
      simp only [this]
theorem tabArr_at (k : Nat) (hk : k < 256) : (tabArr k)[k]? = some (.int .u32 0) := by
  rw [Array.getElem?_eq_getElem (by rw [tabArr_size]; exact hk)]
  simp [tabArr]
theorem tabArr_get (k i : Nat) (hi : i < 256) (hk : i < k) : (tabArr k)[i]? = some (.int .u32 (CrcP.shift (BitVec.ofNat 32 i) 8).toNat) := by
  rw [Array.getElem?_eq_getElem (by rw [tabArr_size]; exact hi)]
  simp [tabArr, hk]
set_option maxRecDepth 1000000 in
set_option maxHeartbeats 400000 in
theorem table_any (w : World) : Calls Tryd.prog 33 #[] w fun e w' => e = .returned (.agg (tabArr 256)) ∧ w.alloc (.cells (tabArr 256) 79) = w' := by
  have hvT : ∀ w, (zeroValue 79).run Tryd.prog w = .ok (.agg (Array.replicate 256 (.int .u32 0))) w := fun _ => by kernel_rfl
  have hiT : (Tryd.prog.info? 79).map (·.size) = some 256 := by kernel_rfl
  go_enter Tryd.func33, Tryd.ntmps33
  go_wp2
  rw [← tabArr_zero]
  go_loopg [1, 2] 256 (fun g s1 s2 wx => ∃ k : Nat, k + g = 256 ∧ s2 = .int .i64 k ∧ wx = w.alloc (.cells (tabArr k) 79))
  case atStart => exact ⟨0, by omega, rfl, rfl⟩
  case round =>
    obtain ⟨k, hkg, rfl, rfl⟩ := hrel
    cases gk with
    | zero =>
      obtain rfl : k = 256 := by omega
      have hl := heap_alloc_last w (.cells (tabArr 256) 79)
      have hsT : (Tryd.prog.info? 79).map (·.size) = some (tabArr 256).size := by rw [tabArr_size]; exact hiT
      have HL := Lib.hid hl
      have HS := Lib.hid hsT
      have HU := Lib.hid Tryd.underlying79
      clear hl hsT hiT hvT hkg
      go_wp2_with (first | (refine wpList_load_row rfl 79 _ rfl w.heap.size rfl 79 (tabArr 256) (0, 0) (.array 256 50) HL.out HU.out rfl HS.out ?_) | (refine wpList_store_row rfl 79 _ _ rfl w.heap.size (tabArr 256) rfl rfl 79 (tabArr 256) HL.out HS.out rfl (tabArr_one _) ?_; rw [World.setRow_alloc_new]))
      refine bodyPost_ret (results_cell_row rfl _ _ w.heap.size 79 (tabArr 256) (0, 0) (.array 256 50) rfl HL.out HU.out rfl HS.out) rfl ⟨rfl, rfl⟩
    | succ g =>
      have hk : (k : Int) < 256 := by omega
      have hu : (k : Int) = (((BitVec.ofNat 32 k).toNat : Nat) : Int) := by rw [BitVec.toNat_ofNat]; omega
      have c1 := shift_any (BitVec.ofNat 32 k) 8 (w.alloc (.cells (tabArr k) 79)) (by omega)
      rw [← hu] at c1
      have hs := tabArr_set k
      have hcell := tabArr_at k (by omega)
      have Hs := Lib.hid hs
      clear hs hu
      go_wp2_with (go_at_call 37; refine c1.mono ?_; rintro e w' ⟨rfl, rfl⟩)
      go_roundg g
      case measure => omega
      case rel => exact ⟨k + 1, by omega, by go_num, by rw [Hs.out]⟩
/-- a byte more, the table's way -/
theorem more_round (D : BitVec 32) (x : UInt8) : ∃ n : Nat, n < 256 ∧ bits BinOp.xor IntKind.u8 (↑D.toNat % 256) ↑x.toNat = (n : Int) ∧
    bits BinOp.xor IntKind.u32 ((CrcP.shift (BitVec.ofNat 32 n) 8).toNat : Int) (↑D.toNat / 256) = ((CrcP.byteIn D x.toNat).toNat : Int) := by
  have hx : x.toNat < 256 := x.toNat_lt
  have h8 := u8_xor_nat (D.toNat % 256) x.toNat (by omega) hx
  refine ⟨D.toNat % 256 ^^^ x.toNat, Nat.xor_lt_two_pow (n := 8) (by omega) hx, ?_, ?_⟩
  · exact h8
  · rw [b32_byte, b32_xor]
    congr 2
    have hb : BitVec.ofNat 32 (D.toNat % 256 ^^^ x.toNat) = (D ^^^ BitVec.ofNat 32 x.toNat) &&& 0xFF#32 := by
      apply BitVec.eq_of_toNat_eq
      have e : (0xFF#32 : BitVec 32).toNat = 2 ^ 8 - 1 := rfl
      rw [BitVec.toNat_and, BitVec.toNat_xor, e, Nat.and_two_pow_sub_one_eq_mod, Nat.xor_mod_two_pow, BitVec.toNat_ofNat, BitVec.toNat_ofNat]
      have h1 : (D.toNat % 256 ^^^ x.toNat) < 2 ^ 8 := Nat.xor_lt_two_pow (n := 8) (by omega) hx
      rw [Nat.mod_eq_of_lt (by omega), Nat.mod_eq_of_lt (a := x.toNat) (b := 2 ^ 32) (by omega), Nat.mod_eq_of_lt (a := x.toNat) (b := 2 ^ 8) hx]
    unfold CrcP.byteIn
    rw [hb]
    conv => rhs; rw [CrcP.shift8]
    congr 1
    rw [BitVec.ushiftRight_xor_distrib]
    have : BitVec.ofNat 32 x.toNat >>> 8 = 0#32 := by
      apply BitVec.eq_of_toNat_eq
      rw [BitVec.toNat_ushiftRight, BitVec.toNat_ofNat, Nat.shiftRight_eq_div_pow]
      simp; omega
    rw [this, BitVec.xor_zero]
theorem b32_compl (A : BitVec 32) : bits .xor .u32 IntKind.u32.max (A.toNat : Int) = ((~~~ A).toNat : Int) := by
  have : IntKind.u32.max = (((BitVec.allOnes 32).toNat : Nat) : Int) := rfl
  rw [this, b32_xor, BitVec.xor_comm, BitVec.xor_allOnes]
theorem run_snoc (c : BitVec 32) (l : List UInt8) (k : Nat) (h : k < l.length) : CrcP.run c ((l.take (k + 1)).map UInt8.toNat) = CrcP.byteIn (CrcP.run c ((l.take k).map UInt8.toNat)) l[k].toNat := by
  rw [List.take_succ_eq_append_getElem h, List.map_append, CrcP.run_append]; rfl
def crcMore (C : BitVec 32) (l : List UInt8) : BitVec 32 := CrcP.more C (l.map UInt8.toNat)
set_option maxRecDepth 1000000 in
set_option maxHeartbeats 400000 in
theorem More_any (C : BitVec 32) (a : Option Addr) (l : List UInt8) (cap : Nat) (w : World) (ha : BytesAt w a l) (hl : l.length ≤ 9223372036854775807) :
    Calls Tryd.prog 24 #[.int .u32 C.toNat, .slice a l.length cap] w fun e w' => e = .returned (.int .u32 (crcMore C l).toNat) ∧ Below w.heap.size w w' := by
  have hiT : (Tryd.prog.info? 79).map (·.size) = some (tabArr 256).size := by rw [tabArr_size]; kernel_rfl
  have hvT : ∀ w, (zeroValue 79).run Tryd.prog w = .ok (.agg (Array.replicate 256 (.int .u32 0))) w := fun _ => by kernel_rfl
  have HI := Lib.hid hiT
  clear hiT
  go_enter Tryd.func24, Tryd.ntmps24
  go_wp2_with fail
  refine (table_any _).mono ?_
  rintro e w' ⟨rfl, rfl⟩
  have hsz : (w.alloc (.cells (tabArr 256) 79)).heap.size = w.heap.size + 1 := by simp
  have HZ := Lib.hid hsz
  clear hsz
  go_wp2_with (refine wpList_store_row rfl 79 _ _ rfl (w.heap.size + 1) (tabArr 256) rfl rfl 79 (Array.replicate 256 (.int .u32 0)) (heap_last _ _ HZ.out) HI.out (by rw [tabArr_size, Array.size_replicate]) (tabArr_one _) ?_; rw [setRow_last _ _ _ _ HZ.out])
  have hB : Below w.heap.size w ((w.alloc (.cells (tabArr 256) 79)).alloc (.cells (tabArr 256) 79)) := ((Below.refl _ _).alloc (Nat.le_refl _) _).alloc (by simp) _
  have ha2 := ha.below hB (Nat.le_refl _)
  clear hvT
  go_loop [0, 13] (fun c i => ∃ k : Nat, k ≤ l.length ∧ i = .int .i64 k ∧ c = .int .u32 (CrcP.run (~~~ C) ((l.take k).map UInt8.toNat)).toNat) (fun _ i => l.length - (intOf i).toNat)
  case atStart => exact ⟨0, Nat.zero_le _, rfl, by rw [b32_compl]; rfl⟩
  case round =>
    obtain ⟨k, hk, rfl, rfl⟩ := hrel
    by_cases hlt : k < l.length
    · obtain ⟨b, off, rfl, hb, hc⟩ := ha2.get hlt
      have hsn := run_snoc (~~~ C) l k hlt
      have HS := Lib.hid hsn
      clear hsn
      generalize CrcP.run (~~~ C) ((l.take k).map UInt8.toNat) = D at *
      obtain ⟨n, hn, e1, e2⟩ := more_round D l[k]
      have hcell := tabArr_get 256 n hn hn
      go_wp2
      go_round
      case rel => exact ⟨k + 1, by omega, by go_num, by rw [HS.out]⟩
      case measure => simp [intOf]; omega
    · have hkl : k = l.length := by omega
      have hfin : crcMore C l = ~~~ (CrcP.run (~~~ C) ((l.take k).map UInt8.toNat)) := by rw [hkl, List.take_length]; rfl
      have HF := Lib.hid hfin
      clear hfin hkl
      generalize CrcP.run (~~~ C) ((l.take k).map UInt8.toNat) = D at *
      have hn := b32_compl D
      go_wp2
      go_ret
      exact ⟨ret_int (by rw [HF.out]; simp), hB⟩
/-- the reference's round -/
theorem ref_round (D : BitVec 32) : (↑D.toNat : Int) % 2 = 1 ∧ bits BinOp.xor IntKind.u32 (↑D.toNat / 2) 3988292384 = ((CrcP.step D).toNat : Int) ∨
    (↑D.toNat : Int) % 2 = 0 ∧ (↑D.toNat : Int) / 2 = ((CrcP.step D).toNat : Int) := by
  have hb : D.getLsbD 0 = decide (D.toNat % 2 = 1) := by rw [BitVec.getLsbD, Nat.testBit_zero]
  have hp : (3988292384 : Int) = ((CrcP.poly.toNat : Nat) : Int) := rfl
  unfold CrcP.step
  rw [hb]
  rcases Nat.mod_two_eq_zero_or_one D.toNat with h | h
  · right; rw [h]; exact ⟨by omega, by rw [b32_half]; simp⟩
  · left; rw [h]; exact ⟨by omega, by rw [b32_half, hp, b32_xor]; simp⟩
set_option maxHeartbeats 400000 in
theorem refByte_any (C : BitVec 32) (x : UInt8) (w : World) :
    Calls Tryd.prog 36 #[.int .u32 C.toNat, .int .u8 x.toNat] w fun e w' => e = .returned (.int .u32 (CrcP.refByte C x.toNat).toNat) ∧ w = w' := by
  have hx := x.toNat_lt
  obtain ⟨E, hE⟩ : ∃ E, ~~~ C ^^^ BitVec.ofNat 32 x.toNat = E := ⟨_, rfl⟩
  have hn : bits BinOp.xor IntKind.u32 (bits .xor .u32 IntKind.u32.max (C.toNat : Int)) ↑x.toNat = (E.toNat : Int) := by
    have h0 : (x.toNat : Int) = (((BitVec.ofNat 32 x.toNat).toNat : Nat) : Int) := by rw [BitVec.toNat_ofNat]; omega
    rw [b32_compl, h0, b32_xor, hE]
  have hfin : CrcP.refByte C x.toNat = ~~~ CrcP.shift E 8 := by rw [← hE]; rfl
  have HF := Lib.hid hfin
  clear hE hfin
  go_enter Tryd.func36, Tryd.ntmps36
  go_wp2
  go_loop [0, 5] (fun c i => ∃ k : Nat, k ≤ 8 ∧ i = .int .i64 k ∧ c = .int .u32 (CrcP.shift E k).toNat) (fun _ i => 8 - (intOf i).toNat)
  case atStart => exact ⟨0, Nat.zero_le _, rfl, rfl⟩
  case round =>
    obtain ⟨k, hk, rfl, rfl⟩ := hrel
    by_cases hlt : k < 8
    · have hs : CrcP.shift E (k + 1) = CrcP.step (CrcP.shift E k) := rfl
      have HS := Lib.hid hs
      clear hs hn
      generalize CrcP.shift E k = D at *
      rcases ref_round D with ⟨h1, h2⟩ | ⟨h1, h2⟩
      · go_wp2
        go_round
        case rel => exact ⟨k + 1, by omega, by go_num, by rw [HS.out]⟩
        case measure => simp [intOf]; omega
      · go_wp2
        go_round
        case rel => exact ⟨k + 1, by omega, by go_num, by rw [HS.out]⟩
        case measure => simp [intOf]; omega
    · have hk8 : k = 8 := by omega
      subst hk8
      clear hn
      generalize CrcP.shift E 8 = D at *
      have hn := b32_compl D
      go_wp2
      go_ret
      exact ⟨ret_int (by rw [HF.out]; simp), rfl⟩
theorem more_snoc (C : BitVec 32) (l : List UInt8) (k : Nat) (h : k < l.length) : crcMore C (l.take (k + 1)) = CrcP.refByte (crcMore C (l.take k)) l[k].toNat := by
  unfold crcMore
  rw [List.take_succ_eq_append_getElem h, List.map_append, CrcP.more_append]
  exact (CrcP.more_cons _ _ []).trans (CrcP.more_nil _)
set_option maxHeartbeats 400000 in
theorem refMore_any (C : BitVec 32) (a : Option Addr) (l : List UInt8) (cap : Nat) (w : World) (ha : BytesAt w a l) (hl : l.length ≤ 9223372036854775807) :
    Calls Tryd.prog 31 #[.int .u32 C.toNat, .slice a l.length cap] w fun e w' => e = .returned (.int .u32 (crcMore C l).toNat) ∧ w = w' := by
  go_enter Tryd.func31, Tryd.ntmps31
  go_wp2
  go_loop [0, 5] (fun c i => ∃ k : Nat, k ≤ l.length ∧ i = .int .i64 k ∧ c = .int .u32 (crcMore C (l.take k)).toNat) (fun _ i => l.length - (intOf i).toNat)
  case atStart => exact ⟨0, Nat.zero_le _, rfl, by simp [crcMore, CrcP.more_nil]⟩
  case round =>
    obtain ⟨k, hk, rfl, rfl⟩ := hrel
    by_cases hlt : k < l.length
    · obtain ⟨b, off, rfl, hb, hc⟩ := ha.get hlt
      have hs := more_snoc C l k hlt
      have HS := Lib.hid hs
      clear hs
      generalize crcMore C (l.take k) = D at *
      go_wp2_with (go_at_call 36; refine (refByte_any _ _ _).mono ?_; rintro e w' ⟨rfl, rfl⟩)
      go_round
      case rel => exact ⟨k + 1, by omega, by go_num, by rw [HS.out]⟩
      case measure => simp [intOf]; omega
    · have hkl : k = l.length := by omega
      have hfin : crcMore C l = crcMore C (l.take k) := by rw [hkl, List.take_length]
      have HF := Lib.hid hfin
      clear hfin hkl
      generalize crcMore C (l.take k) = D at *
      go_wp2
      go_ret
      exact ⟨ret_int (by rw [HF.out]), rfl⟩
theorem Sum_any (a : Option Addr) (l : List UInt8) (cap : Nat) (w : World) (ha : BytesAt w a l) (hl : l.length ≤ 9223372036854775807) :
    Calls Tryd.prog 17 #[.slice a l.length cap] w fun e w' => e = .returned (.int .u32 (crcMore 0#32 l).toNat) ∧ Below w.heap.size w w' := by
  have c := More_any 0#32 a l cap w ha hl
  go_enter Tryd.func17, Tryd.ntmps17
  go_wp2_with (go_at_call 24; refine c.mono ?_; rintro e w' ⟨rfl, hB⟩)
  go_ret
  exact ⟨rfl, hB⟩
theorem refSum_any (a : Option Addr) (l : List UInt8) (cap : Nat) (w : World) (ha : BytesAt w a l) (hl : l.length ≤ 9223372036854775807) :
    Calls Tryd.prog 21 #[.slice a l.length cap] w fun e w' => e = .returned (.int .u32 (crcMore 0#32 l).toNat) ∧ w = w' := by
  have c := refMore_any 0#32 a l cap w ha hl
  go_enter Tryd.func21, Tryd.ntmps21
  go_wp2_with (go_at_call 31; refine c.mono ?_; rintro e w' ⟨rfl, rfl⟩)
  go_ret
  exact ⟨rfl, rfl⟩
end Go.Proofs.YtalcafaibmbgjaaDoor
