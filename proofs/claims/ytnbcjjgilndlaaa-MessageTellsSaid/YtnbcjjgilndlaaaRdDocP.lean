/- Messages: what is put together at M, beside the two rows of noughts; numbers read from the bytes. Helper. -/
import Derived.Test.YtnbcjjgilndlaaaRdRefN
import Derived.Test.YtnbcjjgilndlaaaRdRefM
import Derived.Test.YtnbcjjgilndlaaaRdTx
import Derived.Deep.MidRow
namespace Go.Proofs.Ytnbcjjgilndlaaa
open Go.RowKit
set_option linter.unusedVariables false
set_option linter.unusedSimpArgs false
set_option maxRecDepth 100000
def rawQ (k : Nat) (bs : List UInt8) : Rq :=
  if k = 1 ∧ bs.length = 5 then { Rq.zero with k := k, id := (beN (bs.take 4) : Int), ver := (beN ((bs.drop 4).take 1) : Int) }
  else if k = 3 ∧ bs.length = 22 then { Rq.zero with k := k, id := (beN (bs.take 4) : Int), T := (s64 (beN ((bs.drop 4).take 8))), tt := (beN ((bs.drop 12).take 1) : Int), kd := (beN ((bs.drop 13).take 1) : Int), da := (s64 (beN ((bs.drop 14).take 8))) }
  else if k = 4 ∧ bs.length = 18 then { Rq.zero with k := k, id := (beN (bs.take 4) : Int), nu := (beN ((bs.drop 4).take 4) : Int), bp := (beN ((bs.drop 8).take 1) : Int), bk := (kindOf (beN ((bs.drop 9).take 1))), bt := (s64 (beN ((bs.drop 10).take 8))) }
  else if k = 5 ∧ bs.length = 8 then { Rq.zero with k := k, id := (beN (bs.take 4) : Int), nu := (beN ((bs.drop 4).take 4) : Int) }
  else if k = 6 ∧ bs.length = 5 then { Rq.zero with k := k, id := (beN (bs.take 4) : Int), pr := (beN ((bs.drop 4).take 1) : Int) }
  else if k = 10 ∧ bs.length = 20 then { Rq.zero with k := k, id := (beN (bs.take 4) : Int), nm := (s64 (beN ((bs.drop 4).take 8))), dn := (s64 (beN ((bs.drop 12).take 8))) }
  else if k = 2 then { Rq.zero with k := k, id := (beN (bs.take 4) : Int), md := bs.drop 4 }
  else { Rq.zero with k := k, id := (beN (bs.take 4) : Int) }
/-- What the document decodes: the request, and the error. -/
def dec7Q : List UInt8 → Rq × Int
  | [] => (Rq.zero, 12)
  | x :: bs => if x.toNat < 1 ∨ 12 < x.toNat then (Rq.zero, 12) else if bs.length < 4 then (Rq.zero, 14)
    else if mayQ (rawQ x.toNat bs) = true ∧ beW (rawQ x.toNat bs).k 1 ++ askB (rawQ x.toNat bs) = x :: bs then (rawQ x.toNat bs, 0) else (Rq.zero, 14)
/-- What a decoding tells. -/
def Dec7 (w : World) (p : Rq × Int) (e : Ending) (w' : World) : Prop := ∃ A c, e = .returned (.tuple #[.agg (p.1.c A c).toArray, .int .i64 p.2]) ∧ BytesAt w' A p.1.md ∧ Nw w w'
theorem byte_cell {w : World} {b off : Nat} {x : UInt8} {bs : List UInt8} (h : BytesAt w (some ⟨b, off, none⟩) (x :: bs)) (a : Nat) (ha : a < bs.length) : w.cell? ⟨b, off + (a + 1), none⟩ = some (.int .u8 (beN ((bs.drop a).take 1) : Int)) := by
  obtain ⟨b', off', e, _, hc⟩ := h.get (k := a + 1) (by simp; exact ha)
  injection e with e
  injection e with e1 e2
  subst e1 e2
  rw [hc]
  have : ∃ y ys, bs.drop a = y :: ys := by
    cases h : bs.drop a with
    | nil => have := congrArg List.length h; simp at this; omega
    | cons y ys => exact ⟨y, ys, rfl⟩
  obtain ⟨y, ys, e⟩ := this
  have hy : bs[a]'ha = y := by
    have := List.getElem_drop (xs := bs) (i := a) (j := 0) (h := by rw [e]; simp)
    simp only [Nat.add_zero] at this
    rw [← this]
    simp [e]
  simp [e, beN, hy]
theorem bytes_part {w : World} {b off : Nat} {x : UInt8} {bs : List UInt8} (h : BytesAt w (some ⟨b, off, none⟩) (x :: bs)) (a n : Nat) (ha : a < bs.length) : BytesAt w (some ⟨b, off + (a + 1), none⟩) ((bs.drop a).take n) := by
  have h1 := h.cut (bs.length + 1) (k := a + 1) (by simp; omega) (by simp)
  rw [if_neg (by omega)] at h1
  simp only [Option.map, add_plain, List.drop_succ_cons] at h1
  exact h1.take n
theorem dec7Q_cons (x : UInt8) (bs : List UInt8) (hx : ¬ (x.toNat < 1 ∨ 12 < x.toNat)) (hl : ¬ bs.length < 4) : dec7Q (x :: bs) = if mayQ (rawQ x.toNat bs) = true ∧ beW (rawQ x.toNat bs).k 1 ++ askB (rawQ x.toNat bs) = x :: bs then (rawQ x.toNat bs, 0) else (Rq.zero, 14) := by
  simp only [dec7Q]
  rw [if_neg hx, if_neg hl]
theorem bytes_setCell {w w3 : World} {A : Option Addr} {l : List UInt8} {p : Addr} {v : Value} (h : BytesAt w A l) (e3 : w.setCell p v = w3) (hf : l = [] ∨ ∃ a, A = some a ∧ a.block ≠ p.block) : BytesAt w3 A l := by
  subst e3
  rcases hf with rfl | ⟨a, rfl, ha⟩
  · exact .inl rfl
  · rcases h with h | ⟨b, off, e, hc⟩
    · exact .inl h
    · injection e with e
      subst e
      refine .inr ⟨b, off, rfl, fun j u hu => ?_⟩
      have h2 := hc j u hu
      rw [World.cell?_setCell_other (h := fun e => ha (by rw [e]))]
      exact h2
theorem bytes_setRow {w : World} {A : Option Addr} {l : List UInt8} {g : Nat} (h : BytesAt w A l) (hf : l = [] ∨ ∃ a, A = some a ∧ a.block ≠ g) (row : Array Value) : BytesAt (w.setRow g row) A l := by
  rcases hf with rfl | ⟨a, rfl, ha⟩
  · exact .inl rfl
  · rcases h with h | ⟨b, off, e, hc⟩
    · exact .inl h
    · injection e with e
      subst e
      have hh : (w.setRow g row).heap[b]? = w.heap[b]? := by
        simp only [World.setRow, Array.getElem?_modify]
        rw [if_neg (fun e => ha e.symm)]
      refine .inr ⟨b, off, rfl, fun j u hu => ?_⟩
      have h2 := hc j u hu
      unfold World.cell? at h2 ⊢
      rw [hh]
      exact h2
theorem own_far {w : World} {e : TypeId} {A : Option Addr} {c n : Nat} {l : List UInt8} {blk : Option Nat} (h : Own w e 1 (.slice A n c) n (bcells l) blk) : l = [] ∨ ∃ a, A = some a ∧ blk = some a.block := by
  obtain ⟨hl, A', c', e1, hn, hm, h | ⟨g, off, cur, rfl, rfl, hg, h1, h2⟩⟩ := h
  · left
    have : (bcells l).length = 0 := by rw [hl]; obtain ⟨h3, _⟩ := h; omega
    simpa [bcells] using this
  · injection e1 with e1 _ _
    exact .inr ⟨_, e1, rfl⟩
theorem there_of {w : World} {g : Nat} {t : TypeId} {cs : Array Value} (h : Blk w g t cs) (o n : Nat) (hn : o + n ≤ cs.size) : w.there g o n := fun j hj =>
  ⟨by rw [h.cell, Array.getElem?_eq_getElem (by omega)]; rfl, h.frozen _⟩
theorem num_n (w : World) (A : Option Addr) (c n : Nat) (l : List UInt8) (I : Int) (hb : BytesAt w A l) (hn : l.length = n) (h8 : n ≤ 8) (hI : (beN l : Int) = I) :
    Calls Try.prog 33 #[.slice A n c] w fun e w' => e = .returned (.int .u64 I) ∧ w' = w := by
  subst hn hI
  exact num_any w A c l hb h8
theorem wrap_s64 (l : List UInt8) (h : l.length ≤ 8) : IntKind.i64.wrap (beN l : Int) = s64 (beN l) ∧ wrap64 (beN l : Int) = s64 (beN l) := by
  have h1 := beN_lt l
  have h2 : beN l < 18446744073709551616 := Nat.lt_of_lt_of_le h1 (Nat.pow_le_pow_right (n := 256) (by omega) h)
  unfold s64
  constructor
  · rw [IntKind.wrap_i64]; split <;> omega
  · unfold wrap64; split <;> omega
theorem wrap_u32B (l : List UInt8) (h : l.length ≤ 4) : IntKind.u32.wrap (beN l : Int) = (beN l : Int) ∧ wrap32 (beN l : Int) = wrap32 (beN l : Int) := by
  have h1 := beN_lt l
  have h2 : beN l < 4294967296 := Nat.lt_of_lt_of_le h1 (Nat.pow_le_pow_right (n := 256) (by omega) h)
  exact ⟨by rw [IntKind.wrap_u32]; omega, rfl⟩
theorem wrap_byte (l : List UInt8) (h : l.length ≤ 1) : IntKind.i64.wrap (beN l : Int) = (beN l : Int) ∧ wrap64 (beN l : Int) = (beN l : Int) ∧ 0 ≤ (beN l : Int) ∧ (beN l : Int) ≤ 255 := by
  have h1 := beN_lt l
  have h2 : beN l < 256 := Nat.lt_of_lt_of_le h1 (Nat.pow_le_pow_right (n := 256) (by omega) h)
  exact ⟨by rw [IntKind.wrap_i64]; omega, by unfold wrap64; omega, by omega, by omega⟩
end Go.Proofs.Ytnbcjjgilndlaaa
/- Messages: what the document decodes of a kind. Helper. -/
namespace Go.Proofs.Ytnbcjjgilndlaaa
open Go.RowKit
set_option linter.unusedVariables false
set_option linter.unusedSimpArgs false
set_option maxRecDepth 100000
set_option maxHeartbeats 6400000
theorem dec7_none (w : World) (A : Option Addr) (c : Nat) :
    Calls Try.prog 11 #[.slice A 0 c] w (Dec7 w (dec7Q [])) := by
  obtain ⟨D, hDD⟩ : ∃ D, dec7Q [] = D := ⟨_, rfl⟩
  rw [hDD]
  have HDD := Lib.hid (show D = (Rq.zero, 12) by rw [← hDD]; rfl)
  clear hDD
  obtain ⟨w1, hw1⟩ : ∃ w1, (w.alloc (.cells #[.int .i64 0, .int .u32 0, .int .i64 0, .slice none 0 0, .int .i64 0, .int .i64 0, .int .i64 0, .int .i64 0, .int .i64 0, .int .i64 0, .int .u32 0, .int .i64 0, .int .i64 0, .int .i64 0, .int .i64 0, .int .i64 0, .int .i64 0] 33)).alloc (.cells #[.int .i64 0, .int .u32 0, .int .i64 0, .slice none 0 0, .int .i64 0, .int .i64 0, .int .i64 0, .int .i64 0, .int .i64 0, .int .i64 0, .int .u32 0, .int .i64 0, .int .i64 0, .int .i64 0, .int .i64 0, .int .i64 0, .int .i64 0] 33) = w1 := ⟨_, rfl⟩
  have hR : Blk w1 w.heap.size 33 #[.int .i64 0, .int .u32 0, .int .i64 0, .slice none 0 0, .int .i64 0, .int .i64 0, .int .i64 0, .int .i64 0, .int .i64 0, .int .i64 0, .int .u32 0, .int .i64 0, .int .i64 0, .int .i64 0, .int .i64 0, .int .i64 0, .int .i64 0] := by rw [← hw1]; exact (Blk.last w _ _ rfl).alloc _
  have hN : Blk w1 (w.heap.size + 1) 33 #[.int .i64 0, .int .u32 0, .int .i64 0, .slice none 0 0, .int .i64 0, .int .i64 0, .int .i64 0, .int .i64 0, .int .i64 0, .int .i64 0, .int .u32 0, .int .i64 0, .int .i64 0, .int .i64 0, .int .i64 0, .int .i64 0, .int .i64 0] := by rw [← hw1]; exact Blk.last _ _ _ (by simp)
  have n1 : Nw w w1 := by rw [← hw1]; exact ((Nw.refl w).alloc _).alloc _
  have HW1 := Lib.hid hw1
  obtain ⟨d, hd⟩ := stRq
  have HD := Lib.hid hd
  have HJ := Lib.hid (show (Try.prog.info? 33).map (·.size) = some (#[.int .i64 0, .int .u32 0, .int .i64 0, .slice none 0 0, .int .i64 0, .int .i64 0, .int .i64 0, .int .i64 0, .int .i64 0, .int .i64 0, .int .u32 0, .int .i64 0, .int .i64 0, .int .i64 0, .int .i64 0, .int .i64 0, .int .i64 0] : Array Value).size by kernel_rfl)
  have H2 := Lib.hid (show (#[.int .i64 0, .int .u32 0, .int .i64 0, .slice none 0 0, .int .i64 0, .int .i64 0, .int .i64 0, .int .i64 0, .int .i64 0, .int .i64 0, .int .u32 0, .int .i64 0, .int .i64 0, .int .i64 0, .int .i64 0, .int .i64 0, .int .i64 0] : Array Value).all (·.oneCell') = true by simp [Value.oneCell'])
  clear hw1 hd
  go_enter Try.func11, Try.ntmps11
  go_upto_region 2 with (refine wpList_store_row rfl 33 _ _ rfl (w.heap.size + 1) #[.int .i64 0, .int .u32 0, .int .i64 0, .slice none 0 0, .int .i64 0, .int .i64 0, .int .i64 0, .int .i64 0, .int .i64 0, .int .i64 0, .int .u32 0, .int .i64 0, .int .i64 0, .int .i64 0, .int .i64 0, .int .i64 0, .int .i64 0] rfl rfl 33 _ (heap_last _ _ (by simp)) HJ.out rfl H2.out ?_; rw [setRow_last _ _ _ _ (by simp)])
  go_upto_region 3 with (fail)
  rw [HW1.out]
  have HNW := Lib.hid hN
  have HRW := Lib.hid hR
  have HNF := Lib.hid n1
  clear hN hR n1
  go_wp2_with (first | (refine wpList_load_row rfl 33 _ rfl (w.heap.size + 1) rfl 33 #[.int .i64 0, .int .u32 0, .int .i64 0, .slice none 0 0, .int .i64 0, .int .i64 0, .int .i64 0, .int .i64 0, .int .i64 0, .int .i64 0, .int .u32 0, .int .i64 0, .int .i64 0, .int .i64 0, .int .i64 0, .int .i64 0, .int .i64 0] (0, 0) (.struct d) HNW.out HD.out rfl HJ.out ?_) | (refine wpList_store_row rfl 33 _ _ rfl w.heap.size #[.int .i64 0, .int .u32 0, .int .i64 0, .slice none 0 0, .int .i64 0, .int .i64 0, .int .i64 0, .int .i64 0, .int .i64 0, .int .i64 0, .int .u32 0, .int .i64 0, .int .i64 0, .int .i64 0, .int .i64 0, .int .i64 0, .int .i64 0] rfl rfl 33 _ HRW.out HJ.out rfl H2.out ?_))
  exact bodyPost_ret (results_rowB rfl _ _ w.heap.size 33 #[.int .i64 0, .int .u32 0, .int .i64 0, .slice none 0 0, .int .i64 0, .int .i64 0, .int .i64 0, .int .i64 0, .int .i64 0, .int .i64 0, .int .u32 0, .int .i64 0, .int .i64 0, .int .i64 0, .int .i64 0, .int .i64 0, .int .i64 0] (0, 0) ⟨d, rfl⟩ rfl (setRow_heap w1 w.heap.size _ #[.int .i64 0, .int .u32 0, .int .i64 0, .slice none 0 0, .int .i64 0, .int .i64 0, .int .i64 0, .int .i64 0, .int .i64 0, .int .i64 0, .int .u32 0, .int .i64 0, .int .i64 0, .int .i64 0, .int .i64 0, .int .i64 0, .int .i64 0] 33 _ HRW.out) HD.out HJ.out) rfl ⟨none, 0, by rw [HDD.out]; rfl, .inl (by rw [HDD.out]; rfl), below_setRow HNF.out (Nat.le_refl _) _⟩
theorem dec7_bad (w : World) (A : Option Addr) (n c : Nat) (x : UInt8) (bs : List UInt8) (hb : BytesAt w A (x :: bs)) (hn : bs.length + 1 = n) (hx : x.toNat < 1 ∨ 12 < x.toNat) :
    Calls Try.prog 11 #[.slice A n c] w (Dec7 w (dec7Q (x :: bs))) := by
  obtain ⟨D, hDD⟩ : ∃ D, dec7Q (x :: bs) = D := ⟨_, rfl⟩
  rw [hDD]
  have HDD := Lib.hid (show D = (Rq.zero, 12) by rw [← hDD]; simp only [dec7Q]; rw [if_pos hx])
  obtain ⟨b, off, rfl, hblt, c0⟩ := hb.get (k := 0) (by simp)
  simp only [List.getElem_cons_zero, Nat.add_zero] at c0
  obtain ⟨kx, hkx⟩ : ∃ k : Nat, x.toNat = k := ⟨_, rfl⟩
  rw [hkx] at c0 hx
  have hn0 : ((n : Int) == 0) = false := by simp; omega
  have hn1 : (0 : Int) < (n : Int) := by omega
  have HX := Lib.hid hx
  clear hb hn hDD hkx hx
  obtain ⟨w1, hw1⟩ : ∃ w1, (w.alloc (.cells #[.int .i64 0, .int .u32 0, .int .i64 0, .slice none 0 0, .int .i64 0, .int .i64 0, .int .i64 0, .int .i64 0, .int .i64 0, .int .i64 0, .int .u32 0, .int .i64 0, .int .i64 0, .int .i64 0, .int .i64 0, .int .i64 0, .int .i64 0] 33)).alloc (.cells #[.int .i64 0, .int .u32 0, .int .i64 0, .slice none 0 0, .int .i64 0, .int .i64 0, .int .i64 0, .int .i64 0, .int .i64 0, .int .i64 0, .int .u32 0, .int .i64 0, .int .i64 0, .int .i64 0, .int .i64 0, .int .i64 0, .int .i64 0] 33) = w1 := ⟨_, rfl⟩
  have hR : Blk w1 w.heap.size 33 #[.int .i64 0, .int .u32 0, .int .i64 0, .slice none 0 0, .int .i64 0, .int .i64 0, .int .i64 0, .int .i64 0, .int .i64 0, .int .i64 0, .int .u32 0, .int .i64 0, .int .i64 0, .int .i64 0, .int .i64 0, .int .i64 0, .int .i64 0] := by rw [← hw1]; exact (Blk.last w _ _ rfl).alloc _
  have hN : Blk w1 (w.heap.size + 1) 33 #[.int .i64 0, .int .u32 0, .int .i64 0, .slice none 0 0, .int .i64 0, .int .i64 0, .int .i64 0, .int .i64 0, .int .i64 0, .int .i64 0, .int .u32 0, .int .i64 0, .int .i64 0, .int .i64 0, .int .i64 0, .int .i64 0, .int .i64 0] := by rw [← hw1]; exact Blk.last _ _ _ (by simp)
  have n1 : Nw w w1 := by rw [← hw1]; exact ((Nw.refl w).alloc _).alloc _
  have HW1 := Lib.hid hw1
  obtain ⟨d, hd⟩ := stRq
  have HD := Lib.hid hd
  have HJ := Lib.hid (show (Try.prog.info? 33).map (·.size) = some (#[.int .i64 0, .int .u32 0, .int .i64 0, .slice none 0 0, .int .i64 0, .int .i64 0, .int .i64 0, .int .i64 0, .int .i64 0, .int .i64 0, .int .u32 0, .int .i64 0, .int .i64 0, .int .i64 0, .int .i64 0, .int .i64 0, .int .i64 0] : Array Value).size by kernel_rfl)
  have H2 := Lib.hid (show (#[.int .i64 0, .int .u32 0, .int .i64 0, .slice none 0 0, .int .i64 0, .int .i64 0, .int .i64 0, .int .i64 0, .int .i64 0, .int .i64 0, .int .u32 0, .int .i64 0, .int .i64 0, .int .i64 0, .int .i64 0, .int .i64 0, .int .i64 0] : Array Value).all (·.oneCell') = true by simp [Value.oneCell'])
  clear hw1 hd
  go_enter Try.func11, Try.ntmps11
  go_upto_region 2 with (refine wpList_store_row rfl 33 _ _ rfl (w.heap.size + 1) #[.int .i64 0, .int .u32 0, .int .i64 0, .slice none 0 0, .int .i64 0, .int .i64 0, .int .i64 0, .int .i64 0, .int .i64 0, .int .i64 0, .int .u32 0, .int .i64 0, .int .i64 0, .int .i64 0, .int .i64 0, .int .i64 0, .int .i64 0] rfl rfl 33 _ (heap_last _ _ (by simp)) HJ.out rfl H2.out ?_; rw [setRow_last _ _ _ _ (by simp)])
  rcases HX.out with hx | hx
  · have j1 : (kx : Int) < 1 := by omega
    go_upto_region 3 with (fail)
    rw [HW1.out]
    have HNW := Lib.hid hN
    have HRW := Lib.hid hR
    have HNF := Lib.hid n1
    clear hN hR n1
    go_wp2_with (first | (refine wpList_load_row rfl 33 _ rfl (w.heap.size + 1) rfl 33 #[.int .i64 0, .int .u32 0, .int .i64 0, .slice none 0 0, .int .i64 0, .int .i64 0, .int .i64 0, .int .i64 0, .int .i64 0, .int .i64 0, .int .u32 0, .int .i64 0, .int .i64 0, .int .i64 0, .int .i64 0, .int .i64 0, .int .i64 0] (0, 0) (.struct d) HNW.out HD.out rfl HJ.out ?_) | (refine wpList_store_row rfl 33 _ _ rfl w.heap.size #[.int .i64 0, .int .u32 0, .int .i64 0, .slice none 0 0, .int .i64 0, .int .i64 0, .int .i64 0, .int .i64 0, .int .i64 0, .int .i64 0, .int .u32 0, .int .i64 0, .int .i64 0, .int .i64 0, .int .i64 0, .int .i64 0, .int .i64 0] rfl rfl 33 _ HRW.out HJ.out rfl H2.out ?_))
    exact bodyPost_ret (results_rowB rfl _ _ w.heap.size 33 #[.int .i64 0, .int .u32 0, .int .i64 0, .slice none 0 0, .int .i64 0, .int .i64 0, .int .i64 0, .int .i64 0, .int .i64 0, .int .i64 0, .int .u32 0, .int .i64 0, .int .i64 0, .int .i64 0, .int .i64 0, .int .i64 0, .int .i64 0] (0, 0) ⟨d, rfl⟩ rfl (setRow_heap w1 w.heap.size _ #[.int .i64 0, .int .u32 0, .int .i64 0, .slice none 0 0, .int .i64 0, .int .i64 0, .int .i64 0, .int .i64 0, .int .i64 0, .int .i64 0, .int .u32 0, .int .i64 0, .int .i64 0, .int .i64 0, .int .i64 0, .int .i64 0, .int .i64 0] 33 _ HRW.out) HD.out HJ.out) rfl ⟨none, 0, by rw [HDD.out]; rfl, .inl (by rw [HDD.out]; rfl), below_setRow HNF.out (Nat.le_refl _) _⟩
  · have j1 : ¬ (kx : Int) < 1 := by omega
    have j2 : (12 : Int) < (kx : Int) := by omega
    go_upto_region 3 with (fail)
    rw [HW1.out]
    have HNW := Lib.hid hN
    have HRW := Lib.hid hR
    have HNF := Lib.hid n1
    clear hN hR n1
    go_wp2_with (first | (refine wpList_load_row rfl 33 _ rfl (w.heap.size + 1) rfl 33 #[.int .i64 0, .int .u32 0, .int .i64 0, .slice none 0 0, .int .i64 0, .int .i64 0, .int .i64 0, .int .i64 0, .int .i64 0, .int .i64 0, .int .u32 0, .int .i64 0, .int .i64 0, .int .i64 0, .int .i64 0, .int .i64 0, .int .i64 0] (0, 0) (.struct d) HNW.out HD.out rfl HJ.out ?_) | (refine wpList_store_row rfl 33 _ _ rfl w.heap.size #[.int .i64 0, .int .u32 0, .int .i64 0, .slice none 0 0, .int .i64 0, .int .i64 0, .int .i64 0, .int .i64 0, .int .i64 0, .int .i64 0, .int .u32 0, .int .i64 0, .int .i64 0, .int .i64 0, .int .i64 0, .int .i64 0, .int .i64 0] rfl rfl 33 _ HRW.out HJ.out rfl H2.out ?_))
    exact bodyPost_ret (results_rowB rfl _ _ w.heap.size 33 #[.int .i64 0, .int .u32 0, .int .i64 0, .slice none 0 0, .int .i64 0, .int .i64 0, .int .i64 0, .int .i64 0, .int .i64 0, .int .i64 0, .int .u32 0, .int .i64 0, .int .i64 0, .int .i64 0, .int .i64 0, .int .i64 0, .int .i64 0] (0, 0) ⟨d, rfl⟩ rfl (setRow_heap w1 w.heap.size _ #[.int .i64 0, .int .u32 0, .int .i64 0, .slice none 0 0, .int .i64 0, .int .i64 0, .int .i64 0, .int .i64 0, .int .i64 0, .int .i64 0, .int .u32 0, .int .i64 0, .int .i64 0, .int .i64 0, .int .i64 0, .int .i64 0, .int .i64 0] 33 _ HRW.out) HD.out HJ.out) rfl ⟨none, 0, by rw [HDD.out]; rfl, .inl (by rw [HDD.out]; rfl), below_setRow HNF.out (Nat.le_refl _) _⟩
theorem dec7_short (w : World) (A : Option Addr) (n c : Nat) (x : UInt8) (bs : List UInt8) (hb : BytesAt w A (x :: bs)) (hn : bs.length + 1 = n) (hx : ¬ (x.toNat < 1 ∨ 12 < x.toNat)) (hs : bs.length < 4) :
    Calls Try.prog 11 #[.slice A n c] w (Dec7 w (dec7Q (x :: bs))) := by
  obtain ⟨D, hDD⟩ : ∃ D, dec7Q (x :: bs) = D := ⟨_, rfl⟩
  rw [hDD]
  have HDD := Lib.hid (show D = (Rq.zero, 14) by rw [← hDD]; simp only [dec7Q]; rw [if_neg hx, if_pos hs])
  obtain ⟨b, off, rfl, hblt, c0⟩ := hb.get (k := 0) (by simp)
  simp only [List.getElem_cons_zero, Nat.add_zero] at c0
  obtain ⟨kx, hkx⟩ : ∃ k : Nat, x.toNat = k := ⟨_, rfl⟩
  rw [hkx] at c0 hx
  have hn0 : ((n : Int) == 0) = false := by simp; omega
  have hn1 : (0 : Int) < (n : Int) := by omega
  have j7 : ¬ (kx : Int) < 1 := by omega
  have j8 : ¬ (12 : Int) < (kx : Int) := by omega
  have j9 : IntKind.i64.wrap (kx : Int) = (kx : Int) := by rw [IntKind.wrap_i64]; omega
  have jw : wrap64 (kx : Int) = (kx : Int) := by unfold wrap64; omega
  have hn5 : (n : Int) < 5 := by omega
  have HX := Lib.hid hx
  clear hb hn hDD hkx hx hs
  obtain ⟨w1, hw1⟩ : ∃ w1, ((w.alloc (.cells #[.int .i64 0, .int .u32 0, .int .i64 0, .slice none 0 0, .int .i64 0, .int .i64 0, .int .i64 0, .int .i64 0, .int .i64 0, .int .i64 0, .int .u32 0, .int .i64 0, .int .i64 0, .int .i64 0, .int .i64 0, .int .i64 0, .int .i64 0] 33)).alloc (.cells #[.int .i64 0, .int .u32 0, .int .i64 0, .slice none 0 0, .int .i64 0, .int .i64 0, .int .i64 0, .int .i64 0, .int .i64 0, .int .i64 0, .int .u32 0, .int .i64 0, .int .i64 0, .int .i64 0, .int .i64 0, .int .i64 0, .int .i64 0] 33)).alloc (.cells #[.int .i64 (kx : Int), .int .u32 0, .int .i64 0, .slice none 0 0, .int .i64 0, .int .i64 0, .int .i64 0, .int .i64 0, .int .i64 0, .int .i64 0, .int .u32 0, .int .i64 0, .int .i64 0, .int .i64 0, .int .i64 0, .int .i64 0, .int .i64 0] 33) = w1 := ⟨_, rfl⟩
  have hR : Blk w1 w.heap.size 33 #[.int .i64 0, .int .u32 0, .int .i64 0, .slice none 0 0, .int .i64 0, .int .i64 0, .int .i64 0, .int .i64 0, .int .i64 0, .int .i64 0, .int .u32 0, .int .i64 0, .int .i64 0, .int .i64 0, .int .i64 0, .int .i64 0, .int .i64 0] := by rw [← hw1]; exact ((Blk.last w _ _ rfl).alloc _).alloc _
  have hN : Blk w1 (w.heap.size + 1) 33 #[.int .i64 0, .int .u32 0, .int .i64 0, .slice none 0 0, .int .i64 0, .int .i64 0, .int .i64 0, .int .i64 0, .int .i64 0, .int .i64 0, .int .u32 0, .int .i64 0, .int .i64 0, .int .i64 0, .int .i64 0, .int .i64 0, .int .i64 0] := by rw [← hw1]; exact (Blk.last _ _ _ (by simp)).alloc _
  have n1 : Nw w w1 := by rw [← hw1]; exact (((Nw.refl w).alloc _).alloc _).alloc _
  have HW1 := Lib.hid hw1
  obtain ⟨d, hd⟩ := stRq
  have HD := Lib.hid hd
  have HJ := Lib.hid (show (Try.prog.info? 33).map (·.size) = some (#[.int .i64 0, .int .u32 0, .int .i64 0, .slice none 0 0, .int .i64 0, .int .i64 0, .int .i64 0, .int .i64 0, .int .i64 0, .int .i64 0, .int .u32 0, .int .i64 0, .int .i64 0, .int .i64 0, .int .i64 0, .int .i64 0, .int .i64 0] : Array Value).size by kernel_rfl)
  have H2 := Lib.hid (show (#[.int .i64 0, .int .u32 0, .int .i64 0, .slice none 0 0, .int .i64 0, .int .i64 0, .int .i64 0, .int .i64 0, .int .i64 0, .int .i64 0, .int .u32 0, .int .i64 0, .int .i64 0, .int .i64 0, .int .i64 0, .int .i64 0, .int .i64 0] : Array Value).all (·.oneCell') = true by simp [Value.oneCell'])
  clear hw1 hd
  go_enter Try.func11, Try.ntmps11
  go_upto_region 2 with (refine wpList_store_row rfl 33 _ _ rfl (w.heap.size + 1) #[.int .i64 0, .int .u32 0, .int .i64 0, .slice none 0 0, .int .i64 0, .int .i64 0, .int .i64 0, .int .i64 0, .int .i64 0, .int .i64 0, .int .u32 0, .int .i64 0, .int .i64 0, .int .i64 0, .int .i64 0, .int .i64 0, .int .i64 0] rfl rfl 33 _ (heap_last _ _ (by simp)) HJ.out rfl H2.out ?_; rw [setRow_last _ _ _ _ (by simp)])
  have HK := Lib.hid (show (Try.prog.info? 33).map (·.size) = some (#[.int .i64 (kx : Int), .int .u32 0, .int .i64 0, .slice none 0 0, .int .i64 0, .int .i64 0, .int .i64 0, .int .i64 0, .int .i64 0, .int .i64 0, .int .u32 0, .int .i64 0, .int .i64 0, .int .i64 0, .int .i64 0, .int .i64 0, .int .i64 0] : Array Value).size by kernel_rfl)
  have H3 := Lib.hid (show (#[.int .i64 (kx : Int), .int .u32 0, .int .i64 0, .slice none 0 0, .int .i64 0, .int .i64 0, .int .i64 0, .int .i64 0, .int .i64 0, .int .i64 0, .int .u32 0, .int .i64 0, .int .i64 0, .int .i64 0, .int .i64 0, .int .i64 0, .int .i64 0] : Array Value).all (·.oneCell') = true by simp [Value.oneCell'])
  go_upto_region 4 with (fail)
  go_upto_region 5 with (refine wpList_store_row rfl 33 _ _ rfl (w.heap.size + 2) #[.int .i64 0, .int .u32 0, .int .i64 0, .slice none 0 0, .int .i64 0, .int .i64 0, .int .i64 0, .int .i64 0, .int .i64 0, .int .i64 0, .int .u32 0, .int .i64 0, .int .i64 0, .int .i64 0, .int .i64 0, .int .i64 0, .int .i64 0] rfl rfl 33 _ (heap_last _ _ (by simp)) HK.out rfl H3.out ?_; rw [setRow_last _ _ _ _ (by simp)])
  go_upto_region 6 with (fail)
  rw [HW1.out]
  have HNW := Lib.hid hN
  have HRW := Lib.hid hR
  have HNF := Lib.hid n1
  clear hN hR n1
  go_wp2_with (first | (refine wpList_load_row rfl 33 _ rfl (w.heap.size + 1) rfl 33 #[.int .i64 0, .int .u32 0, .int .i64 0, .slice none 0 0, .int .i64 0, .int .i64 0, .int .i64 0, .int .i64 0, .int .i64 0, .int .i64 0, .int .u32 0, .int .i64 0, .int .i64 0, .int .i64 0, .int .i64 0, .int .i64 0, .int .i64 0] (0, 0) (.struct d) HNW.out HD.out rfl HJ.out ?_) | (refine wpList_store_row rfl 33 _ _ rfl w.heap.size #[.int .i64 0, .int .u32 0, .int .i64 0, .slice none 0 0, .int .i64 0, .int .i64 0, .int .i64 0, .int .i64 0, .int .i64 0, .int .i64 0, .int .u32 0, .int .i64 0, .int .i64 0, .int .i64 0, .int .i64 0, .int .i64 0, .int .i64 0] rfl rfl 33 _ HRW.out HJ.out rfl H2.out ?_))
  exact bodyPost_ret (results_rowB rfl _ _ w.heap.size 33 #[.int .i64 0, .int .u32 0, .int .i64 0, .slice none 0 0, .int .i64 0, .int .i64 0, .int .i64 0, .int .i64 0, .int .i64 0, .int .i64 0, .int .u32 0, .int .i64 0, .int .i64 0, .int .i64 0, .int .i64 0, .int .i64 0, .int .i64 0] (0, 0) ⟨d, rfl⟩ rfl (setRow_heap w1 w.heap.size _ #[.int .i64 0, .int .u32 0, .int .i64 0, .slice none 0 0, .int .i64 0, .int .i64 0, .int .i64 0, .int .i64 0, .int .i64 0, .int .i64 0, .int .u32 0, .int .i64 0, .int .i64 0, .int .i64 0, .int .i64 0, .int .i64 0, .int .i64 0] 33 _ HRW.out) HD.out HJ.out) rfl ⟨none, 0, by rw [HDD.out]; rfl, .inl (by rw [HDD.out]; rfl), below_setRow HNF.out (Nat.le_refl _) _⟩
end Go.Proofs.Ytnbcjjgilndlaaa
/- Messages: what is put together at M, beside the two rows of noughts; numbers read from the bytes. Helper. -/
namespace Go.Proofs.Ytnbcjjgilndlaaa
open Go.RowKit
set_option linter.unusedVariables false
set_option linter.unusedSimpArgs false
set_option maxRecDepth 100000
/-- What a decoding has put together so far: a row at M, two rows of noughts, the bytes' block. -/
structure Doc (T : TypeId) (Z : Array Value) (w W : World) (M b : Nat) (row : Array Value) : Prop where
  m : Blk W M T row
  r : Blk W w.heap.size T Z
  z : Blk W (w.heap.size + 1) T Z
  n : Nw w W
  b : b < W.heap.size
theorem Doc.drew {T : TypeId} {Z : Array Value} {w W : World} {M b : Nat} {row : Array Value} (h : Doc T Z w W M b row) : Doc T Z w W.drew M b row :=
  ⟨h.m.drew, h.r.drew, h.z.drew, h.n.drew, h.b⟩
theorem Doc.nw {T : TypeId} {Z : Array Value} {w W W' : World} {M b : Nat} {row : Array Value} (h : Doc T Z w W M b row) (n : Nw W W') : Doc T Z w W' M b row :=
  ⟨h.m.below n h.m.lt, h.r.below n h.r.lt, h.z.below n h.z.lt, Nw.trans h.n n, Nat.lt_of_lt_of_le h.b n.size⟩
theorem Doc.at {T : TypeId} {Z : Array Value} {w W : World} {M b : Nat} {row : Array Value} (h : Hid (Doc T Z w W M b row)) (i : Nat) (v : Value) (e : row[i]? = some v) : W.cell? ⟨M, i, none⟩ = some v ∧ W.frozen? ⟨M, i, none⟩ = false :=
  ⟨(h.out.m.cell i).trans e, h.out.m.frozen i⟩
theorem Doc.set1 {T : TypeId} {Z : Array Value} {w W : World} {M b : Nat} {row : Array Value} (h : Doc T Z w W M b row) (hM : w.heap.size + 1 + 1 = M) (i : Nat) (v : Value) : Doc T Z w (W.setCell ⟨M, i, none⟩ v) M b (row.setIfInBounds i v) :=
  ⟨h.m.set_ i v, h.r.far (p := ⟨M, i, none⟩) (by show w.heap.size ≠ M; omega) v, h.z.far (p := ⟨M, i, none⟩) (by show w.heap.size + 1 ≠ M; omega) v, h.n.set (by show w.heap.size ≤ M; omega) v,
    Nat.lt_of_lt_of_le h.b (Below.setCell (Below.refl 0 W) (Nat.zero_le _) v).size⟩
/-- A row behind stores from o on. -/
def putR (row : List Value) : Nat → List Value → List Value
  | _, [] => row
  | o, v :: r => putR (row.set o v) (o + 1) r
theorem Doc.setn {T : TypeId} {Z : Array Value} {w : World} {M b : Nat} (hM : w.heap.size + 1 + 1 = M) : ∀ (l : List Value) (o : Nat) (W : World) (row : List Value), Doc T Z w W M b row.toArray → Doc T Z w (W.setCells M o l) M b (putR row o l).toArray
  | [], _, _, _, h => h
  | v :: r, o, W, row, h => Doc.setn hM r (o + 1) _ _ (by have := h.set1 hM o v; rw [List.setIfInBounds_toArray] at this; exact this)
theorem Doc.set {T : TypeId} {Z : Array Value} {w W : World} {M b : Nat} {row : Array Value} (h : Hid (Doc T Z w W M b row)) (hM : Hid (w.heap.size + 1 + 1 = M)) (i : Nat) (v : Value) (row' : Array Value) (k : Int) (e : row.setIfInBounds i v = row') (e0 : row'[0]? = some (.int .i64 k)) :
    ∃ W', W.setCell ⟨M, i, none⟩ v = W' ∧ Hid (Doc T Z w W' M b row') ∧ b < W'.heap.size ∧ W'.cell? ⟨M, 0, none⟩ = some (.int .i64 k) := by
  have h1 := h.out.set1 hM.out i v
  rw [e] at h1
  exact ⟨_, rfl, h1, h1.b, (h1.m.cell 0).trans e0⟩
theorem Doc.sets {T : TypeId} {Z : Array Value} {w W : World} {M b : Nat} {row : List Value} (h : Hid (Doc T Z w W M b row.toArray)) (hM : Hid (w.heap.size + 1 + 1 = M)) (o : Nat) (l : List Value) (row' : Array Value) (k : Int) (e : (putR row o l).toArray = row') (e0 : row'[0]? = some (.int .i64 k)) :
    ∃ W', W.setCells M o l = W' ∧ Hid (Doc T Z w W' M b row') ∧ b < W'.heap.size ∧ W'.cell? ⟨M, 0, none⟩ = some (.int .i64 k) := by
  have h1 := Doc.setn hM.out l o _ _ h.out
  rw [e] at h1
  exact ⟨_, rfl, h1, h1.b, (h1.m.cell 0).trans e0⟩
/-- A number of n bytes is read at o, in whatever world behind w. -/
def Reads (w : World) (b o n : Nat) (I : Int) : Prop := ∀ (W : World) (cc : Nat), Nw w W → Calls Try.prog 33 #[.slice (some ⟨b, o, none⟩) n cc] W fun e w' => e = .returned (.int .u64 I) ∧ w' = W
theorem reads_of {w : World} {b off : Nat} {x : UInt8} {bs : List UInt8} (hB : Hid (BytesAt w (some ⟨b, off, none⟩) (x :: bs))) (a n : Nat) (h : a + n ≤ bs.length) (h0 : 0 < n) (h8 : n ≤ 8) : Reads w b (off + (a + 1)) n (beN ((bs.drop a).take n) : Int) :=
  fun W cc hW => num_n W _ cc n _ _ (Rd.nw (bytes_part hB.out a n (by omega)) hW) (by simp; omega) h8 rfl
theorem val8 {w : World} {b off : Nat} {x : UInt8} {bs : List UInt8} (hB : Hid (BytesAt w (some ⟨b, off, none⟩) (x :: bs))) (a o : Nat) (ho : o = a + 1) (h : a + 8 ≤ bs.length) :
    ∃ i X : Int, Hid (Reads w b (off + o) 8 i) ∧ IntKind.i64.wrap i = X ∧ wrap64 i = X ∧ Hid (s64 (beN ((bs.drop a).take 8)) = X) := by
  subst ho
  have e := wrap_s64 ((bs.drop a).take 8) (by simp; omega)
  exact ⟨_, _, reads_of hB a 8 h (by omega) (by omega), e.1, e.2, rfl⟩
theorem val4 {w : World} {b off : Nat} {x : UInt8} {bs : List UInt8} (hB : Hid (BytesAt w (some ⟨b, off, none⟩) (x :: bs))) (a o : Nat) (ho : o = a + 1) (h : a + 4 ≤ bs.length) :
    ∃ X : Int, Hid (Reads w b (off + o) 4 X) ∧ IntKind.u32.wrap X = X ∧ Hid (0 ≤ X ∧ X < 4294967296) ∧ Hid ((beN ((bs.drop a).take 4) : Int) = X) := by
  subst ho
  have h2 : beN ((bs.drop a).take 4) < 4294967296 := Nat.lt_of_lt_of_le (beN_lt _) (Nat.pow_le_pow_right (n := 256) (by omega) (show ((bs.drop a).take 4).length ≤ 4 by simp; omega))
  exact ⟨_, reads_of hB a 4 h (by omega) (by omega), (wrap_u32B _ (by simp; omega)).1, (⟨by omega, by omega⟩ : _ ∧ _), rfl⟩
theorem val1 {w W : World} {b off : Nat} {x : UInt8} {bs : List UInt8} (hB : Hid (BytesAt w (some ⟨b, off, none⟩) (x :: bs))) (hW : Nw w W) (a o : Nat) (ho : o = a + 1) (h : a < bs.length) :
    ∃ X : Int, W.cell? ⟨b, off + o, none⟩ = some (.int .u8 X) ∧ IntKind.i64.wrap X = X ∧ wrap64 X = X ∧ Hid (0 ≤ X ∧ X ≤ 255) ∧ Hid ((beN ((bs.drop a).take 1) : Int) = X) := by
  subst ho
  have e := wrap_byte ((bs.drop a).take 1) (by simp; omega)
  exact ⟨_, hW.cell (byte_cell hB.out a h), e.1, e.2.1, e.2.2, rfl⟩
end Go.Proofs.Ytnbcjjgilndlaaa
