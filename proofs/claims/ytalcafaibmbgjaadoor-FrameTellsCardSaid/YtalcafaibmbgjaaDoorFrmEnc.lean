/- Frames: what a payload's frame is, by ours and by the document. Helper. -/
import Derived.Test.YtalcafaibmbgjaaDoorCrcCore
import Derived.Test.YtalcafaibmbgjaaDoorMore
namespace Go.Proofs.YtalcafaibmbgjaaDoor
open Go.RowKit
set_option linter.unusedVariables false
set_option linter.unusedSimpArgs false
set_option maxRecDepth 100000
set_option maxHeartbeats 3200000
/-- What stands ahead of a payload. -/
def headB (n : Nat) (C : BitVec 32) : List UInt8 := [UInt8.ofNat (n / 256), UInt8.ofNat n, UInt8.ofNat (C.toNat / 16777216), UInt8.ofNat (C.toNat / 65536), UInt8.ofNat (C.toNat / 256), UInt8.ofNat C.toNat]
/-- A payload's frame. -/
def frameB (l : List UInt8) : List UInt8 := headB l.length (crcMore 0#32 l) ++ l
theorem headB_cells (n : Nat) (C : BitVec 32) (hn : n ≤ 4096) : bcells (headB n C) = [.int .u8 ((n : Int) / 256), .int .u8 ((n : Int) % 256), .int .u8 ((C.toNat : Int) / 16777216), .int .u8 ((C.toNat : Int) / 65536 % 256), .int .u8 ((C.toNat : Int) / 256 % 256), .int .u8 ((C.toNat : Int) % 256)] := by
  have hC := C.isLt
  simp only [bcells, headB, List.map_cons, List.map_nil, UInt8.toNat_ofNat']
  have e1 : ((n / 256 % 2 ^ 8 : Nat) : Int) = (n : Int) / 256 := by omega
  have e2 : ((n % 2 ^ 8 : Nat) : Int) = (n : Int) % 256 := by omega
  have e3 : ((C.toNat / 16777216 % 2 ^ 8 : Nat) : Int) = (C.toNat : Int) / 16777216 := by omega
  have e4 : ((C.toNat / 65536 % 2 ^ 8 : Nat) : Int) = (C.toNat : Int) / 65536 % 256 := by omega
  have e5 : ((C.toNat / 256 % 2 ^ 8 : Nat) : Int) = (C.toNat : Int) / 256 % 256 := by omega
  have e6 : ((C.toNat % 2 ^ 8 : Nat) : Int) = (C.toNat : Int) % 256 := by omega
  rw [e1, e2, e3, e4, e5, e6]
theorem own6 (w : World) (l : List UInt8) (cs : List Value) (hl : l.length = 6) (hc : bcells l = cs) : Own (w.alloc (.cells cs.toArray 5)) 5 1 (.slice (some ⟨w.heap.size, 0, none⟩) 6 6) 6 (bcells l) (some w.heap.size) := by
  subst hc
  have h6 : (bcells l).length = 6 := by rw [bcells_length, hl]
  exact ⟨by rw [h6], some ⟨w.heap.size, 0, none⟩, 6, rfl, Nat.le_refl _, by simp [maxLen], .inr ⟨w.heap.size, 0, (bcells l).toArray, rfl, rfl, Blk.last w _ _ rfl, by simp [h6], by simp; exact List.take_of_length_le (by rw [h6]; omega)⟩⟩
theorem infoU8f : (Tryd.prog.info? 5).map (fun i => (i.zero, i.size, i.bytes)) = some (some (.int .u8 0), 1, 1) := by kernel_rfl
theorem frmEnc_ok (w : World) (A : Option Addr) (n c : Nat) (l : List UInt8) (hb : BytesAt w A l) (hn : l.length = n) (h1 : 1 ≤ n) (h2 : n ≤ 4096) :
    Calls Tryd.prog 9 #[.slice A n c] w fun e w' => ∃ A' c', e = .returned (.tuple #[.slice A' (6 + n) c', .int .i64 0]) ∧ BytesAt w' A' (frameB l) ∧ 6 + n ≤ c' ∧ Nw w w' := by
  have KS := Lib.hid (by have h := Sum_any A l c w hb (by omega); rw [hn] at h; exact h)
  obtain ⟨C, hC⟩ : ∃ C, crcMore 0#32 l = C := ⟨_, rfl⟩
  rw [hC] at KS
  obtain ⟨s, hs⟩ : ∃ s : Nat, C.toNat = s := ⟨_, rfl⟩
  rw [hs] at KS
  have hs2 : s < 4294967296 := by rw [← hs]; exact C.isLt
  have HH := Lib.hid (And.intro hn (And.intro hC hs))
  have HB := Lib.hid hb
  have g1 : ((n : Int) == 0) = false := by simp; omega
  have g2 : ¬ (4096 : Int) < (n : Int) := by omega
  clear hb hn hC hs
  go_enter Tryd.func9, Tryd.ntmps9
  go_upto_region 4 with (fail)
  go_wp2_with fail
  refine KS.out.mono ?_
  rintro e w1 ⟨rfl, n1⟩
  have N1 := Lib.hid n1
  clear n1
  have hcells := headB_cells n C h2
  rw [HH.out.2.2] at hcells
  have hown := own6 w1 (headB n C) _ rfl hcells
  obtain ⟨i0, hi0, hz0, hz1, hz2⟩ := info_parts infoU8f
  have HL1 := Lib.hid hi0
  have HL2 := Lib.hid hz0
  have HL3 := Lib.hid hz1
  have HL4 := Lib.hid hz2
  have HO := Lib.hid hown
  clear hi0 hz0 hz1 hz2 hown hcells
  go_upto_region 6 with (fail)
  obtain ⟨w2, hw2⟩ : ∃ W, w1.alloc (.cells #[.int .u8 ((n : Int) / 256), .int .u8 ((n : Int) % 256), .int .u8 ((s : Int) / 16777216), .int .u8 ((s : Int) / 65536 % 256), .int .u8 ((s : Int) / 256 % 256), .int .u8 ((s : Int) % 256)] 5) = W := ⟨_, rfl⟩
  rw [hw2]
  have n2 : Nw w w2 := by rw [← hw2]; exact Nw.alloc N1.out _
  have HO2 := Lib.hid (show Own w2 5 1 (.slice (some ⟨w1.heap.size, 0, none⟩) 6 6) 6 (bcells (headB n C)) (some w1.heap.size) by rw [← hw2]; exact HO.out)
  have HB2 := Lib.hid (show Rd w2 A (bcells l) from HB.out.below n2 (Nat.le_refl _))
  have N2 := Lib.hid n2
  clear hw2 n2
  go_wp2_with (at_builtin; refine wpList_append_at w2 rfl _ _ _ rfl 5 i0 _ 1 1 Tryd.underlying22 HL1.out HL2.out HL3.out HL4.out rfl (by omega) _ 6 (bcells (headB n C)) (some w1.heap.size) rfl HO2.out _ n c (bcells l) rfl (by rw [bcells_length, HH.out.1]; omega) HB2.out (bcells_one _) (by simp only [maxLen]; omega) (by omega) ?_; intro A1 c1 w3 blk1 hown hchg hat; have HO3 := Lib.hid hown; have HC3 := Lib.hid hchg; clear hown hchg hat)
  go_ret2
  obtain ⟨_, _, e2, hrd, hnc, _⟩ := HO3.out.rd
  injection e2 with e3 _ e4
  subst e3 e4
  refine ⟨_, _, rfl, ?_, hnc, Below.trans N2.out (HC3.out.below (fun i _ q => by injection q with q; have := N1.out.size; omega) N2.out.size)⟩
  have e : bcells (frameB l) = bcells (headB n C) ++ bcells l := by rw [frameB, HH.out.1, HH.out.2.1]; simp [bcells]
  show Rd w3 _ (bcells (frameB l))
  rw [e]; exact hrd
theorem refEnc_ok (w : World) (A : Option Addr) (n c : Nat) (l : List UInt8) (hb : BytesAt w A l) (hn : l.length = n) (h1 : 1 ≤ n) (h2 : n ≤ 4096) :
    Calls Tryd.prog 14 #[.slice A n c] w fun e w' => ∃ A' c', e = .returned (.tuple #[.slice A' (6 + n) c', .int .i64 0]) ∧ BytesAt w' A' (frameB l) ∧ 6 + n ≤ c' ∧ Nw w w' := by
  have KS := Lib.hid (by have h := refSum_any A l c w hb (by omega); rw [hn] at h; exact h)
  obtain ⟨C, hC⟩ : ∃ C, crcMore 0#32 l = C := ⟨_, rfl⟩
  rw [hC] at KS
  obtain ⟨s, hs⟩ : ∃ s : Nat, C.toNat = s := ⟨_, rfl⟩
  rw [hs] at KS
  have hs2 : s < 4294967296 := by rw [← hs]; exact C.isLt
  have HH := Lib.hid (And.intro hn (And.intro hC hs))
  have HB := Lib.hid hb
  have g1 : ((n : Int) == 0) = false := by simp; omega
  have g2 : ¬ (4096 : Int) < (n : Int) := by omega
  clear hb hn hC hs
  go_enter Tryd.func14, Tryd.ntmps14
  go_upto_region 3 with (fail)
  go_wp2_with fail
  refine KS.out.mono ?_
  rintro e w1 ⟨rfl, rfl⟩
  have N1 := Lib.hid (Nw.refl w)
  have hcells := headB_cells n C h2
  rw [HH.out.2.2] at hcells
  have hown := own6 w (headB n C) _ rfl hcells
  obtain ⟨i0, hi0, hz0, hz1, hz2⟩ := info_parts infoU8f
  have HL1 := Lib.hid hi0
  have HL2 := Lib.hid hz0
  have HL3 := Lib.hid hz1
  have HL4 := Lib.hid hz2
  have HO := Lib.hid hown
  clear hi0 hz0 hz1 hz2 hown hcells
  go_upto_region 5 with (fail)
  obtain ⟨w2, hw2⟩ : ∃ W, w.alloc (.cells #[.int .u8 ((n : Int) / 256), .int .u8 ((n : Int) % 256), .int .u8 ((s : Int) / 16777216), .int .u8 ((s : Int) / 65536 % 256), .int .u8 ((s : Int) / 256 % 256), .int .u8 ((s : Int) % 256)] 5) = W := ⟨_, rfl⟩
  rw [hw2]
  have n2 : Nw w w2 := by rw [← hw2]; exact Nw.alloc N1.out _
  have HO2 := Lib.hid (show Own w2 5 1 (.slice (some ⟨w.heap.size, 0, none⟩) 6 6) 6 (bcells (headB n C)) (some w.heap.size) by rw [← hw2]; exact HO.out)
  have HB2 := Lib.hid (show Rd w2 A (bcells l) from HB.out.below n2 (Nat.le_refl _))
  have N2 := Lib.hid n2
  clear hw2 n2
  go_wp2_with (at_builtin; refine wpList_append_at w2 rfl _ _ _ rfl 5 i0 _ 1 1 Tryd.underlying22 HL1.out HL2.out HL3.out HL4.out rfl (by omega) _ 6 (bcells (headB n C)) (some w.heap.size) rfl HO2.out _ n c (bcells l) rfl (by rw [bcells_length, HH.out.1]; omega) HB2.out (bcells_one _) (by simp only [maxLen]; omega) (by omega) ?_; intro A1 c1 w3 blk1 hown hchg hat; have HO3 := Lib.hid hown; have HC3 := Lib.hid hchg; clear hown hchg hat)
  go_ret2
  obtain ⟨_, _, e2, hrd, hnc, _⟩ := HO3.out.rd
  injection e2 with e3 _ e4
  subst e3 e4
  refine ⟨_, _, rfl, ?_, hnc, Below.trans N2.out (HC3.out.below (fun i _ q => by injection q with q; have := N1.out.size; omega) N2.out.size)⟩
  have e : bcells (frameB l) = bcells (headB n C) ++ bcells l := by rw [frameB, HH.out.1, HH.out.2.1]; simp [bcells]
  show Rd w3 _ (bcells (frameB l))
  rw [e]; exact hrd
theorem frmEnc_bad (w : World) (A : Option Addr) (n c : Nat) (h : n = 0 ∨ 4096 < n) :
    Calls Tryd.prog 9 #[.slice A n c] w fun e w' => e = .returned (.tuple #[.slice none 0 0, .int .i64 2]) ∧ w' = w := by
  rcases h with rfl | h
  · go_enter Tryd.func9, Tryd.ntmps9
    go_wp2_with fail
    go_ret2
    exact ⟨rfl, rfl⟩
  · have g1 : ((n : Int) == 0) = false := by simp; omega
    have g2 : (4096 : Int) < (n : Int) := by omega
    have g3 : ¬ (n : Int) < 1 := by omega
    clear h
    go_enter Tryd.func9, Tryd.ntmps9
    go_wp2_with fail
    go_ret2
    exact ⟨rfl, rfl⟩
theorem refEnc_bad (w : World) (A : Option Addr) (n c : Nat) (h : n = 0 ∨ 4096 < n) :
    Calls Tryd.prog 14 #[.slice A n c] w fun e w' => e = .returned (.tuple #[.slice none 0 0, .int .i64 2]) ∧ w' = w := by
  rcases h with rfl | h
  · go_enter Tryd.func14, Tryd.ntmps14
    go_wp2_with fail
    go_ret2
    exact ⟨rfl, rfl⟩
  · have g1 : ((n : Int) == 0) = false := by simp; omega
    have g2 : (4096 : Int) < (n : Int) := by omega
    have g3 : ¬ (n : Int) < 1 := by omega
    clear h
    go_enter Tryd.func14, Tryd.ntmps14
    go_wp2_with fail
    go_ret2
    exact ⟨rfl, rfl⟩
end Go.Proofs.YtalcafaibmbgjaaDoor
