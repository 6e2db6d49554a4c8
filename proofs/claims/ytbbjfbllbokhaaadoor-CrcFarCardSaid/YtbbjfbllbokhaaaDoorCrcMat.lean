/- The walks of crc's matrices: a linear map as 32 numbers, its square, noughts, joins. -/
import Derived.Test.YtbbjfbllbokhaaaDoorCrcWalks
import Derived.Deep.RegionWith
import Derived.Deep.RegionHeld3
namespace Go.Proofs.YtbbjfbllbokhaaaDoor
open Go.RowKit
/-- the library's table, where it lies -/
def TabAt (w : World) : Prop := ∀ j, j < 32 → w.cell? ⟨0, j, none⟩ = some (.int .u8 (Lib.deBruijn32tab.getD j 0))
theorem TabAt.below {w w' : World} {B : Nat} (h : TabAt w) (hB : Below B w w') (h0 : 0 < B) : TabAt w' := fun j hj => (hB.cell (p := ⟨0, j, none⟩) h0).trans (h j hj)
theorem TabAt.pos {w : World} (h : TabAt w) : 0 < w.heap.size := World.block_lt_of_cell? w _ (h 0 (by decide))
set_option maxHeartbeats 400000 in
theorem tz_core (x k idx : Nat) (w : World) (hx0 : ((x : Int) == 0) = false)
    (key : bits BinOp.and IntKind.u32 (x : Int) (-(x : Int) % 4294967296) * 125613361 % 4294967296 / 134217728 = (idx : Int))
    (hi : idx < 32) (hk : k < 32) (hcell : w.cell? ⟨0, idx, none⟩ = some (.int .u8 k)) :
    Calls Tryd.prog 18 #[.int .u32 x] w fun e w' => e = .returned (.int .i64 k) ∧ w = w' := by
  go_enter Tryd.func18, Tryd.ntmps18
  go_wp2_with (simp only [key])
  go_ret
  exact ⟨rfl, rfl⟩
theorem tz_key (x a : Nat) (hx : x < 4294967296) (hx0 : x ≠ 0) (hlow : x &&& (4294967296 - x) = a) :
    bits BinOp.and IntKind.u32 (x : Int) (-(x : Int) % 4294967296) * 125613361 % 4294967296 / 134217728 = ((a * 125613361 % 4294967296 / 134217728 : Nat) : Int) := by
  have e1 : -(x : Int) % 4294967296 = ((4294967296 - x : Nat) : Int) := by omega
  rw [e1, u32_and_nat x _ hx (by omega), hlow]
  omega
theorem tz_any (C : BitVec 32) (hC : C ≠ 0#32) (w : World) (hT : TabAt w) :
    Calls Tryd.prog 18 #[.int .u32 C.toNat] w fun e w' => e = .returned (.int .i64 (Lib.ctz 32 C.toNat)) ∧ w = w' := by
  have h0 : C.toNat ≠ 0 := fun e => hC (by apply BitVec.eq_of_toNat_eq; simpa using e)
  obtain ⟨hlow, hk⟩ := Lib.lowest_bit 32 C.toNat h0 C.isLt
  obtain ⟨hi, htab⟩ := Lib.deBruijn32_at _ hk
  have hcell := hT _ hi
  rw [htab] at hcell
  exact tz_core C.toNat _ _ w (by simp; omega) (tz_key C.toNat _ C.isLt h0 hlow) hi hk hcell
/-- a matrix as the program has it -/
def matArr (m : Nat → BitVec 32) : Array Value := Array.ofFn (n := 32) fun i => .int .u32 (m i.val).toNat
theorem matArr_size (m : Nat → BitVec 32) : (matArr m).size = 32 := by simp [matArr]
theorem matArr_one (m : Nat → BitVec 32) : (matArr m).all (·.oneCell') = true := by
  rw [Array.all_eq_true]; intro i hi; simp [matArr, Value.oneCell']
theorem matArr_at (m : Nat → BitVec 32) (i : Nat) (hi : i < 32) : (matArr m)[i]? = some (.int .u32 (m i).toNat) := by
  rw [Array.getElem?_eq_getElem (by rw [matArr_size]; exact hi)]
  simp [matArr]
attribute [irreducible] matArr
theorem clear_walk (D : BitVec 32) (h : D ≠ 0#32) : bits BinOp.and IntKind.u32 (D.toNat : Int) ((D.toNat : Int) - 1) = ((D &&& (D - 1#32)).toNat : Int) := by
  obtain ⟨_, _, _, h4⟩ := CrcP.low_bit D h
  have h0 : D.toNat ≠ 0 := fun e => h (by apply BitVec.eq_of_toNat_eq; simpa using e)
  have e : ((D.toNat : Int) - 1) = ((D.toNat - 1 : Nat) : Int) := by omega
  rw [h4, e, u32_and_nat _ _ D.isLt (by have := D.isLt; omega)]
set_option maxRecDepth 1000000 in
set_option maxHeartbeats 400000 in
theorem times_any (m : Nat → BitVec 32) (f : BitVec 32 → BitVec 32) (hf : CrcP.Lin f) (hm : CrcP.IsMat m f) (C : BitVec 32) (w : World) (hT : TabAt w) :
    Calls Tryd.prog 15 #[.agg (matArr m), .int .u32 C.toNat] w fun e w' => e = .returned (.int .u32 (f C).toNat) ∧ Below w.heap.size w w' := by
  have hB : Below w.heap.size w (w.alloc (.cells (matArr m) 34)) := (Below.refl _ _).alloc (Nat.le_refl _) _
  have hT2 := hT.below hB hT.pos
  go_enter Tryd.func15, Tryd.ntmps15
  go_wp2
  go_loop [1, 4] (fun c o => ∃ D out : BitVec 32, c = .int .u32 D.toNat ∧ o = .int .u32 out.toNat ∧ Hid (out ^^^ f D = f C)) (fun c _ => (intOf c).toNat)
  case atStart => exact ⟨C, 0#32, rfl, rfl, by unfold Hid; exact BitVec.zero_xor⟩
  case round =>
    obtain ⟨D, out, rfl, rfl, HI⟩ := hrel
    by_cases h0 : D = 0#32
    · subst h0
      have hfin : out = f C := by have := HI.out; rw [hf.zero, BitVec.xor_zero] at this; exact this
      have HF := Lib.hid hfin
      clear hfin HI
      go_wp2
      go_ret
      exact ⟨ret_int (by rw [HF.out]), hB⟩
    · obtain ⟨l1, l2, l3, l4⟩ := CrcP.low_bit D h0
      have hz := tz_any D h0 _ hT2
      have hs := CrcP.mat_step hf hm D out h0
      have hcl := clear_walk D h0
      have hcell := matArr_at m _ l1
      have hne : ((D.toNat : Int) == 0) = false := by have : D.toNat ≠ 0 := fun e => h0 (by apply BitVec.eq_of_toNat_eq; simpa using e); simp; omega
      have h1 : 1 ≤ D.toNat := by have : D.toNat ≠ 0 := fun e => h0 (by apply BitVec.eq_of_toNat_eq; simpa using e); omega
      have hlt : D.toNat ≤ 4294967295 := by have := D.isLt; omega
      have l1i : (Lib.ctz 32 D.toNat : Int) < 32 := by omega
      generalize Lib.ctz 32 D.toNat = k at *
      have hx := b32_xor out (m k)
      generalize hE : D &&& (D - 1#32) = E at *
      have HS := Lib.hid hs
      clear hs hE l4 l2 h0
      have HI2 := HI
      go_wp2_with (go_at_call 18; refine hz.mono ?_; rintro e w' ⟨rfl, rfl⟩)
      go_round
      case rel => exact ⟨E, out ^^^ m k, rfl, by simp, by unfold Hid; rw [HS.out]; exact HI2.out⟩
      case measure => simp [intOf]; omega
/-- A block that is known whole. -/
def Blk (w : World) (g : Nat) (t : TypeId) (cs : Array Value) : Prop := w.heap[g]? = some (.cells cs t (0, 0))
theorem Blk.lt {w : World} {g : Nat} {t : TypeId} {cs : Array Value} (h : Blk w g t cs) : g < w.heap.size := by
  rcases Nat.lt_or_ge g w.heap.size with hlt | hge
  · exact hlt
  · unfold Blk at h; rw [Array.getElem?_eq_none hge] at h; cases h
theorem Blk.cell {w : World} {g : Nat} {t : TypeId} {cs : Array Value} (h : Blk w g t cs) (i : Nat) : w.cell? ⟨g, i, none⟩ = cs[i]? := cell_of_row w g i cs t (0, 0) h
theorem Blk.frozen {w : World} {g : Nat} {t : TypeId} {cs : Array Value} (h : Blk w g t cs) (i : Nat) : w.frozen? ⟨g, i, none⟩ = false := by
  unfold Blk at h; simp [World.frozen?, h]
theorem Blk.below {w w' : World} {g : Nat} {t : TypeId} {cs : Array Value} {B : Nat} (h : Blk w g t cs) (hB : Below B w w') (hg : g < B) : Blk w' g t cs := (hB.block g hg).trans h
theorem Blk.last (w : World) (t : TypeId) (cs : Array Value) {n : Nat} (h : w.heap.size = n) : Blk (w.alloc (.cells cs t)) n t cs := heap_last w _ h
theorem Blk.set_ {w : World} {g : Nat} {t : TypeId} {cs : Array Value} (h : Blk w g t cs) (i : Nat) (u : Value) : Blk (w.setCell ⟨g, i, none⟩ u) g t (cs.setIfInBounds i u) := by
  unfold Blk at h ⊢
  simp [World.setCell, Array.getElem?_modify, h]
theorem Blk.far {w : World} {g : Nat} {t : TypeId} {cs : Array Value} (h : Blk w g t cs) {p : Addr} (hp : g ≠ p.block) (u : Value) : Blk (w.setCell p u) g t cs := (Below.heap_setCell w p u g hp).trans h
theorem Below.setRow {B : Nat} {a w : World} (h : Below B a w) {g : Nat} (hg : B ≤ g) (cs : Array Value) : Below B a (w.setRow g cs) :=
  h.trans ⟨rfl, rfl, rfl, by simp [World.setRow], fun k hk => by
    simp only [World.setRow, Array.getElem?_modify]
    rw [if_neg (by omega)]⟩
/-- a matrix in the making -/
def partArr (m : Nat → BitVec 32) (k : Nat) : Array Value := Array.ofFn (n := 32) fun i => .int .u32 (if i.val < k then (m i.val).toNat else 0 : Nat)
theorem partArr_size (m : Nat → BitVec 32) (k : Nat) : (partArr m k).size = 32 := by simp [partArr]
theorem partArr_one (m : Nat → BitVec 32) (k : Nat) : (partArr m k).all (·.oneCell') = true := by
  rw [Array.all_eq_true]; intro i hi; simp [partArr, Value.oneCell']
theorem partArr_zero (m : Nat → BitVec 32) : partArr m 0 = Array.replicate 32 (.int .u32 0) := by
  apply Array.ext
  · simp [partArr]
  · intro i h1 h2; simp [partArr]
theorem partArr_full (m : Nat → BitVec 32) : partArr m 32 = matArr m := by
  apply Array.ext
  · simp [partArr, matArr]
  · intro i h1 h2
    simp [partArr, matArr]
theorem partArr_set (m : Nat → BitVec 32) (k : Nat) : (partArr m k).setIfInBounds k (.int .u32 (m k).toNat) = partArr m (k + 1) := by
  apply Array.ext
  · simp [partArr]
  · intro i h1 h2
    have hi : i < (partArr m k).size := by simpa using h1
    rw [Array.getElem_setIfInBounds hi]
    by_cases h : k = i
    · subst h; simp [partArr]
    · rw [if_neg h]
      simp only [partArr, Array.getElem_ofFn]
      have : (i < k + 1) ↔ (i < k) := by omega
      simp only [this]
theorem partArr_at (m : Nat → BitVec 32) (k i : Nat) (hi : i < 32) : (partArr m k)[i]? = some (.int .u32 (if i < k then (m i).toNat else 0 : Nat)) := by
  rw [Array.getElem?_eq_getElem (by rw [partArr_size]; exact hi)]
  simp [partArr]
attribute [irreducible] partArr
theorem range_of_blk {w : World} {g : Nat} {t : TypeId} {cs : Array Value} (h : Blk w g t cs) : w.rangeAt g 0 cs.toList := fun j v hv => by
  rw [Nat.zero_add, h.cell]; simpa using hv
set_option maxRecDepth 1000000 in
set_option maxHeartbeats 400000 in
theorem squared_any (m : Nat → BitVec 32) (f : BitVec 32 → BitVec 32) (hf : CrcP.Lin f) (hm : CrcP.IsMat m f) (w : World) (hT : TabAt w) :
    Calls Tryd.prog 16 #[.agg (matArr m)] w fun e w' => e = .returned (.agg (matArr fun i => f (m i))) ∧ Below w.heap.size w w' := by
  have hv : ∀ w, (zeroValue 34).run Tryd.prog w = .ok (.agg (Array.replicate 32 (.int .u32 0))) w := fun _ => by kernel_rfl
  have hs34 : (Tryd.prog.info? 34).map (·.size) = some (matArr m).size := by rw [matArr_size]; kernel_rfl
  have HS := Lib.hid hs34
  have HU := Lib.hid Tryd.underlying34
  clear hs34
  go_enter Tryd.func16, Tryd.ntmps16
  go_wp2
  have b0 : Blk ((w.alloc (.cells (matArr m) 34)).alloc (.cells (Array.replicate 32 (.int .u32 0)) 34)) w.heap.size 34 (matArr m) := (Blk.last w 34 (matArr m) rfl).below ((Below.refl (w.heap.size + 1) _).alloc (by simp) _) (by omega)
  have b1 : Blk ((w.alloc (.cells (matArr m) 34)).alloc (.cells (Array.replicate 32 (.int .u32 0)) 34)) (w.heap.size + 1) 34 (partArr (fun i => f (m i)) 0) := by rw [partArr_zero]; exact Blk.last _ 34 _ (by simp)
  have hB : Below w.heap.size w ((w.alloc (.cells (matArr m) 34)).alloc (.cells (Array.replicate 32 (.int .u32 0)) 34)) := ((Below.refl _ _).alloc (Nat.le_refl _) _).alloc (by simp) _
  generalize ((w.alloc (.cells (matArr m) 34)).alloc (.cells (Array.replicate 32 (.int .u32 0)) 34)) = wa at *
  clear hv
  go_loopw [3, 4] (fun _ i wr => ∃ k : Nat, k ≤ 32 ∧ i = .int .i64 k ∧ Blk wr w.heap.size 34 (matArr m) ∧ Blk wr (w.heap.size + 1) 34 (partArr (fun i => f (m i)) k) ∧ Below w.heap.size w wr) (fun _ i _ => 32 - (intOf i).toNat)
  case atStart => exact ⟨0, by omega, rfl, b0, b1, hB⟩
  case round =>
    obtain ⟨k, hk, rfl, c0, c1, hBr⟩ := hrel
    clear b0 b1 hB
    by_cases hlt : k < 32
    · have hlt' : (k : Int) < 32 := by omega
      have hT3 : TabAt wr.drew := (hT.below hBr hT.pos).below ((Below.refl wr.heap.size wr).drew) (by have := hT.pos; have := hBr.size; omega)
      have k1 := times_any m f hf hm (m k) wr.drew hT3
      have K1 := Lib.hid k1
      clear k1
      have r1 : wr.drew.rangeAt w.heap.size 0 (matArr m).toList := range_of_blk (show Blk wr.drew _ 34 _ from c0)
      have r2 : wr.drew.cell? ⟨w.heap.size, k, none⟩ = some (.int .u32 (m k).toNat) := by rw [World.cell?_drew, c0.cell]; exact matArr_at m k hlt
      have q1 := Tryd.underlying34
      have q2 : (Tryd.prog.info? 34).map (·.size) = some (matArr m).toList.length := by rw [Array.length_toList]; exact HS.out
      have q3 : (matArr m).toList.length = 32 := by rw [Array.length_toList]; exact matArr_size m
      have q4 : ∀ v ∈ (matArr m).toList, v.oneCell' = true := by
        have := matArr_one m
        rw [Array.all_eq_true_iff_forall_mem] at this
        intro v hv; exact this v (by simpa using hv)
      have g0 := c0.lt
      have g1 := c1.lt
      go_wp2_with fail
      go_region_held3 (fun w' => w'.rangeAt w.heap.size 0 (matArr m).toList ∧ w'.cell? ⟨w.heap.size, k, none⟩ = some (.int .u32 (m k).toNat)) (first | exact ⟨r1, r2⟩ | exact ⟨e1, e2⟩ | exact ⟨range_of_blk (e5 _), ((e5 _).cell k).trans (matArr_at m k hlt)⟩) (first | (go_at_call 15; refine K1.out.mono ?_; rintro e w4 ⟨rfl, hB4⟩; have d0 := Blk.below (show Blk wr.drew w.heap.size 34 (matArr m) from c0) hB4 g0; have d1 := Blk.below (show Blk wr.drew (w.heap.size + 1) 34 (partArr (fun i => f (m i)) k) from c1) hB4 g1; have e1 := range_of_blk d0; have e2 := (d0.cell k).trans (matArr_at m k hlt); have e3 := (d1.cell k).trans (partArr_at (fun i => f (m i)) k k hlt); have e4 := d1.frozen k; have e5 := fun u => Blk.far d0 (p := ⟨w.heap.size + 1, k, none⟩) (by simp) u))
      go_wp2
      go_roundw
      case rel => exact ⟨k + 1, by omega, by go_num, e5 _, by rw [← partArr_set]; exact d1.set_ k _, (hBr.drew.trans (hB4.mono (by have := hBr.size; simpa using this))).setCell (p := ⟨w.heap.size + 1, k, none⟩) (by simp) _⟩
      case measure => simp [intOf]; omega
    · obtain rfl : k = 32 := by omega
      rw [partArr_full] at c1
      have C1 := Lib.hid (show wr.heap[w.heap.size + 1]? = some (.cells (matArr fun i => f (m i)) 34 (0, 0)) from c1)
      have HS2 : Hid ((Tryd.prog.info? 34).map (·.size) = some (matArr fun i => f (m i)).size) := Lib.hid (by have := HS.out; rw [matArr_size] at this ⊢; exact this)
      have hBs := Below.setRow hBr (g := w.heap.size + 1) (by omega) (matArr fun i => f (m i))
      clear c0 c1 hlt hk
      go_wp2_with (first | (refine wpList_load_row rfl 34 _ rfl (w.heap.size + 1) rfl 34 (matArr fun i => f (m i)) (0, 0) (.array 32 22) C1.out HU.out rfl HS2.out ?_) | (refine wpList_store_row rfl 34 _ _ rfl (w.heap.size + 1) (matArr fun i => f (m i)) rfl rfl 34 (matArr fun i => f (m i)) C1.out HS2.out rfl (matArr_one _) ?_))
      refine bodyPost_ret (results_cell_row rfl _ _ (w.heap.size + 1) 34 (matArr fun i => f (m i)) (0, 0) (.array 32 22) rfl (setRow_heap wr _ _ _ 34 _ C1.out) HU.out rfl HS2.out) rfl ⟨rfl, hBs⟩
/-- what a byte 0 does, 2^j times over -/
def mat8 (j : Nat) (i : Nat) : BitVec 32 := CrcP.shift (BitVec.ofNat 32 (2 ^ i)) (8 * 2 ^ j)
theorem mat8_is (j : Nat) : CrcP.IsMat (mat8 j) (fun c => CrcP.shift c (8 * 2 ^ j)) := fun _ _ => rfl
theorem mat8_succ (j : Nat) : (fun i => CrcP.shift (mat8 j i) (8 * 2 ^ j)) = mat8 (j + 1) := by
  funext i
  unfold mat8
  rw [← CrcP.shift_add]
  congr 1
  rw [Nat.pow_succ]; omega
theorem mat8_zero (k : Nat) : mat8 0 k = CrcP.shift (BitVec.ofNat 32 (2 ^ k)) 8 := rfl
attribute [irreducible] mat8
theorem half_odd (p N : Nat) (h : N % 2 = 1) : p + (p * 2) * (N / 2) = p * N := by
  have e : N = 1 + 2 * (N / 2) := by omega
  conv => rhs; rw [e]
  rw [Nat.mul_add, Nat.mul_one, Nat.mul_assoc]
theorem half_even (p N : Nat) (h : N % 2 = 0) : (p * 2) * (N / 2) = p * N := by
  have e : N = 2 * (N / 2) := by omega
  conv => rhs; rw [e]
  rw [Nat.mul_assoc]
theorem and1_i64 (n : Nat) (h : n ≤ 9223372036854775807) : bits .and .i64 (n : Int) 1 = ((n % 2 : Nat) : Int) := by
  have hx : n &&& 1 = n % 2 := Nat.and_one_is_mod n
  show IntKind.i64.wrap ((BitVec.ofInt 64 (n : Int) &&& BitVec.ofInt 64 ((1 : Nat) : Int)).toNat : Int) = _
  rw [BitVec.toNat_and, BitVec.ofInt_natCast, BitVec.ofInt_natCast, BitVec.toNat_ofNat, BitVec.toNat_ofNat, Nat.mod_eq_of_lt (by omega), Nat.mod_eq_of_lt (by omega), hx, IntKind.wrap_i64]
  omega
set_option maxRecDepth 1000000 in
set_option maxHeartbeats 400000 in
theorem moved_any (C : BitVec 32) (n : Nat) (hn : n ≤ 9223372036854775807) (w : World) (hT : TabAt w) :
    Calls Tryd.prog 12 #[.int .u32 C.toNat, .int .i64 n] w fun e w' => e = .returned (.int .u32 (CrcP.shift C (8 * n)).toNat) ∧ Below w.heap.size w w' := by
  have hv : ∀ w, (zeroValue 34).run Tryd.prog w = .ok (.agg (Array.replicate 32 (.int .u32 0))) w := fun _ => by kernel_rfl
  have hs34 : (Tryd.prog.info? 34).map (·.size) = some 32 := by kernel_rfl
  have HS := Lib.hid hs34
  have HU := Lib.hid Tryd.underlying34
  clear hs34
  go_enter Tryd.func12, Tryd.ntmps12
  go_wp2
  rw [← partArr_zero (mat8 0)]
  clear hv
  go_loopg [6, 7] 32 (fun g s6 s7 wx => ∃ k : Nat, k + g = 32 ∧ s7 = .int .i64 k ∧ wx = w.alloc (.cells (partArr (mat8 0) k) 34))
  case atStart => exact ⟨0, by omega, rfl, rfl⟩
  case round =>
    obtain ⟨k, hkg, rfl, rfl⟩ := hrel
    cases gk with
    | succ g =>
      have hk : (k : Int) < 32 := by omega
      have hcell := partArr_at (mat8 0) k k (by omega)
      have hset := partArr_set (mat8 0) k
      have HSET := Lib.hid hset
      clear hset
      have c1 := shift_any (BitVec.ofNat 32 (2 ^ k)) 8 (w.alloc (.cells (partArr (mat8 0) k) 34)) (by omega)
      rw [← mat8_zero, show (((BitVec.ofNat 32 (2 ^ k)).toNat : Nat) : Int) = 2 ^ k % 4294967296 by rw [BitVec.toNat_ofNat, Int.natCast_emod, Int.natCast_pow]; rfl] at c1
      have K1 := Lib.hid c1
      clear c1
      go_wp2_with (go_at_call 14; refine K1.out.mono ?_; rintro e w' ⟨rfl, rfl⟩)
      go_roundg g
      case measure => omega
      case rel => exact ⟨k + 1, by omega, by go_num, by rw [HSET.out]⟩
    | zero =>
      obtain rfl : k = 32 := by omega
      rw [partArr_full]
      go_wp2_with fail
      have hB : Below w.heap.size w (w.alloc (.cells (matArr (mat8 0)) 34)) := (Below.refl _ _).alloc (Nat.le_refl _) _
      have b0 := Blk.last w 34 (matArr (mat8 0)) rfl
      generalize w.alloc (.cells (matArr (mat8 0)) 34) = wa at *
      clear hkg
      go_loopw [0, 1] (fun c i wr => ∃ (j N : Nat) (D : BitVec 32), N ≤ n ∧ i = .int .i64 N ∧ c = .int .u32 D.toNat ∧ Blk wr w.heap.size 34 (matArr (mat8 j)) ∧ Hid (CrcP.shift D (8 * 2 ^ j * N) = CrcP.shift C (8 * n)) ∧ Below w.heap.size w wr) (fun _ i _ => (intOf i).toNat)
      case atStart => exact ⟨0, n, C, Nat.le_refl _, rfl, rfl, b0, by unfold Hid; rw [Nat.pow_zero, Nat.mul_one], hB⟩
      case round =>
        obtain ⟨j, N, D, hN, rfl, rfl, c0, HI, hBr⟩ := hrel
        clear b0 hB
        have g0 := c0.lt
        have hT2 : TabAt wr := hT.below hBr hT.pos
        by_cases h0 : N = 0
        · subst h0
          have hfin : D = CrcP.shift C (8 * n) := HI.out
          have HF := Lib.hid hfin
          clear hfin
          go_wp2
          go_ret
          exact ⟨ret_int (by rw [HF.out]), hBr⟩
        · have hpos : (0 : Int) < (N : Int) := by omega
          have hand := and1_i64 N (by omega)
          have C0 := Lib.hid (show wr.heap[w.heap.size]? = some (.cells (matArr (mat8 j)) 34 (0, 0)) from c0)
          have HS2 : Hid ((Tryd.prog.info? 34).map (·.size) = some (matArr (mat8 j)).size) := Lib.hid (by rw [matArr_size]; exact HS.out)
          have HS3 : Hid ((Tryd.prog.info? 34).map (·.size) = some (matArr (mat8 (j + 1))).size) := Lib.hid (by rw [matArr_size]; exact HS.out)
          have ksq := fun W h => squared_any (mat8 j) _ (CrcP.lin_shift (8 * 2 ^ j)) (mat8_is j) W h
          simp only [mat8_succ] at ksq
          have KSQ := Lib.hid ksq
          clear ksq
          rcases Nat.mod_two_eq_zero_or_one N with hp | hp
          · have hp' : ((N % 2 : Nat) : Int) = 0 := by omega
            rw [hp'] at hand
            go_wp2_with (first
              | (refine wpList_load_row rfl 34 _ rfl w.heap.size rfl 34 (matArr (mat8 j)) (0, 0) (.array 32 22) C0.out HU.out rfl HS2.out ?_)
              | (go_at_call 16; refine (KSQ.out _ hT2).mono ?_; rintro e w5 ⟨rfl, hB5⟩; have d0 := c0.below hB5 g0; have D0 := Lib.hid (show w5.heap[w.heap.size]? = some (.cells (matArr (mat8 j)) 34 (0, 0)) from d0))
              | (refine wpList_store_row rfl 34 _ _ rfl w.heap.size (matArr (mat8 (j + 1))) rfl rfl 34 (matArr (mat8 j)) D0.out HS3.out (by rw [matArr_size, matArr_size]) (matArr_one _) ?_))
            go_roundw
            case rel => exact ⟨j + 1, N / 2, D, by omega, by go_num, rfl, setRow_heap _ _ _ _ _ _ d0, by unfold Hid; rw [← HI.out, Nat.pow_succ, ← Nat.mul_assoc 8]; congr 1; exact half_even (8 * 2 ^ j) N hp, Below.setRow (hBr.trans (hB5.mono hBr.size)) (Nat.le_refl _) _⟩
            case measure => simp [intOf]; omega
          · have hp' : ((N % 2 : Nat) : Int) = 1 := by omega
            rw [hp'] at hand
            have kt := times_any (mat8 j) _ (CrcP.lin_shift (8 * 2 ^ j)) (mat8_is j) D wr hT2
            have KT := Lib.hid kt
            clear kt
            go_wp2_with (first
              | (go_at_call 15; refine KT.out.mono ?_; rintro e w4 ⟨rfl, hB4⟩; have a0 := c0.below hB4 g0; have ga := a0.lt; have hT4 := hT2.below hB4 hT2.pos; have A0 := Lib.hid (show w4.heap[w.heap.size]? = some (.cells (matArr (mat8 j)) 34 (0, 0)) from a0))
              | (go_at_call 16; refine (KSQ.out _ hT4).mono ?_; rintro e w5 ⟨rfl, hB5⟩; have d0 := a0.below hB5 ga; have D0 := Lib.hid (show w5.heap[w.heap.size]? = some (.cells (matArr (mat8 j)) 34 (0, 0)) from d0))
              | (refine wpList_load_row rfl 34 _ rfl w.heap.size rfl 34 (matArr (mat8 j)) (0, 0) (.array 32 22) A0.out HU.out rfl HS2.out ?_)
              | (refine wpList_load_row rfl 34 _ rfl w.heap.size rfl 34 (matArr (mat8 j)) (0, 0) (.array 32 22) C0.out HU.out rfl HS2.out ?_)
              | (refine wpList_store_row rfl 34 _ _ rfl w.heap.size (matArr (mat8 (j + 1))) rfl rfl 34 (matArr (mat8 j)) D0.out HS3.out (by rw [matArr_size, matArr_size]) (matArr_one _) ?_))
            go_roundw
            case rel => exact ⟨j + 1, N / 2, _, by omega, by go_num, rfl, setRow_heap _ _ _ _ _ _ d0, by unfold Hid; rw [← HI.out, ← CrcP.shift_add, Nat.pow_succ, ← Nat.mul_assoc 8]; congr 1; exact half_odd (8 * 2 ^ j) N hp, Below.setRow (hBr.trans ((hB4.mono hBr.size).trans (hB5.mono (by have := hBr.size; have := hB4.size; omega)))) (Nat.le_refl _) _⟩
            case measure => simp [intOf]; omega
set_option maxRecDepth 1000000 in
set_option maxHeartbeats 400000 in
theorem moved_neg (C : BitVec 32) (n : Int) (hn : n < 0) (hn' : -9223372036854775808 ≤ n) (w : World) :
    Calls Tryd.prog 12 #[.int .u32 C.toNat, .int .i64 n] w fun e w' => e = .returned (.int .u32 C.toNat) ∧ Below w.heap.size w w' := by
  have hv : ∀ w, (zeroValue 34).run Tryd.prog w = .ok (.agg (Array.replicate 32 (.int .u32 0))) w := fun _ => by kernel_rfl
  have hs34 : (Tryd.prog.info? 34).map (·.size) = some 32 := by kernel_rfl
  have HS := Lib.hid hs34
  have HU := Lib.hid Tryd.underlying34
  clear hs34
  go_enter Tryd.func12, Tryd.ntmps12
  go_wp2
  rw [← partArr_zero (mat8 0)]
  clear hv
  go_loopg [6, 7] 32 (fun g s6 s7 wx => ∃ k : Nat, k + g = 32 ∧ s7 = .int .i64 k ∧ wx = w.alloc (.cells (partArr (mat8 0) k) 34))
  case atStart => exact ⟨0, by omega, rfl, rfl⟩
  case round =>
    obtain ⟨k, hkg, rfl, rfl⟩ := hrel
    cases gk with
    | succ g =>
      have hk : (k : Int) < 32 := by omega
      have hcell := partArr_at (mat8 0) k k (by omega)
      have hset := partArr_set (mat8 0) k
      have HSET := Lib.hid hset
      clear hset
      have c1 := shift_any (BitVec.ofNat 32 (2 ^ k)) 8 (w.alloc (.cells (partArr (mat8 0) k) 34)) (by omega)
      rw [← mat8_zero, show (((BitVec.ofNat 32 (2 ^ k)).toNat : Nat) : Int) = 2 ^ k % 4294967296 by rw [BitVec.toNat_ofNat, Int.natCast_emod, Int.natCast_pow]; rfl] at c1
      have K1 := Lib.hid c1
      clear c1
      go_wp2_with (go_at_call 14; refine K1.out.mono ?_; rintro e w' ⟨rfl, rfl⟩)
      go_roundg g
      case measure => omega
      case rel => exact ⟨k + 1, by omega, by go_num, by rw [HSET.out]⟩
    | zero =>
      obtain rfl : k = 32 := by omega
      rw [partArr_full]
      go_wp2_with fail
      have hB : Below w.heap.size w (w.alloc (.cells (matArr (mat8 0)) 34)) := (Below.refl _ _).alloc (Nat.le_refl _) _
      have b0 := Blk.last w 34 (matArr (mat8 0)) rfl
      generalize w.alloc (.cells (matArr (mat8 0)) 34) = wa at *
      clear hkg
      refine wp_loop_rounds 1 ?_
      rw [rounds_succ]
      go_wp2
      go_ret
      exact ⟨rfl, hB⟩
/-- the noughts of an int -/
theorem moved_int (C : BitVec 32) (n : Int) (h1 : -9223372036854775808 ≤ n) (h2 : n ≤ 9223372036854775807) (w : World) (hT : TabAt w) :
    Calls Tryd.prog 12 #[.int .u32 C.toNat, .int .i64 n] w fun e w' => e = .returned (.int .u32 (CrcP.shift C (8 * n.toNat)).toNat) ∧ Below w.heap.size w w' := by
  by_cases h : n < 0
  · have := moved_neg C n h h1 w
    rw [show n.toNat = 0 by omega]; exact this
  · obtain ⟨k, rfl⟩ := Int.eq_ofNat_of_zero_le (show 0 ≤ n by omega)
    exact moved_any C k (by omega) w hT
theorem Noughts_any (C : BitVec 32) (n : Int) (h1 : -9223372036854775808 ≤ n) (h2 : n ≤ 9223372036854775807) (w : World) (hT : TabAt w) :
    Calls Tryd.prog 6 #[.int .u32 C.toNat, .int .i64 n] w fun e w' => e = .returned (.int .u32 (~~~ CrcP.shift (~~~ C) (8 * n.toNat)).toNat) ∧ Below w.heap.size w w' := by
  obtain ⟨D, hD⟩ : ∃ D, ~~~ C = D := ⟨_, rfl⟩
  have hn : bits BinOp.xor IntKind.u32 IntKind.u32.max (C.toNat : Int) = (D.toNat : Int) := by rw [b32_compl, hD]
  rw [hD]
  clear hD
  have c := moved_int D n h1 h2 w hT
  generalize CrcP.shift D (8 * n.toNat) = E at *
  have hn2 := b32_compl E
  have K := Lib.hid c
  clear c
  go_enter Tryd.func6, Tryd.ntmps6
  go_wp2_with fail
  refine K.out.mono ?_
  rintro e w' ⟨rfl, hB⟩
  go_wp2_with fail
  go_ret
  exact ⟨ret_int (by simp), hB⟩
theorem Join_any (A B : BitVec 32) (n : Int) (h1 : -9223372036854775808 ≤ n) (h2 : n ≤ 9223372036854775807) (w : World) (hT : TabAt w) :
    Calls Tryd.prog 8 #[.int .u32 A.toNat, .int .u32 B.toNat, .int .i64 n] w fun e w' => e = .returned (.int .u32 (CrcP.shift A (8 * n.toNat) ^^^ B).toNat) ∧ Below w.heap.size w w' := by
  have c := moved_int A n h1 h2 w hT
  generalize CrcP.shift A (8 * n.toNat) = E at *
  have hx := b32_xor E B
  have K := Lib.hid c
  clear c
  go_enter Tryd.func8, Tryd.ntmps8
  go_wp2_with fail
  refine K.out.mono ?_
  rintro e w' ⟨rfl, hB⟩
  go_wp2_with fail
  go_ret
  exact ⟨ret_int (by simp), hB⟩
end Go.Proofs.YtbbjfbllbokhaaaDoor
