/- Messages: which responses may be, by the document. Helper. -/
import Derived.Test.YtnbcjjgilndlaaaRdRefR
import Derived.Test.YtnbcjjgilndlaaaRdRefU
import Derived.Test.YtnbcjjgilndlaaaRdSm
import Derived.Test.YtnbcjjgilndlaaaRdDecS
namespace Go.Proofs.Ytnbcjjgilndlaaa
open Go.RowKit
set_option linter.unusedVariables false
set_option linter.unusedSimpArgs false
set_option maxRecDepth 100000
def Rs.zero : Rs := ⟨0, 0, 0, 0, [], 0, 0, 0, 0, 0, 0, 0, 0, 0, 0, 0, 0, 0⟩
/-- What a response's kind names. -/
def onlyS (p : Rs) : Rs :=
  if p.k = 1 then { Rs.zero with k := p.k, id := p.id, er := p.er, fl := p.fl }
  else if p.k = 2 then { Rs.zero with k := p.k, id := p.id, fl := p.fl, vs := p.vs }
  else if p.k = 3 then { Rs.zero with k := p.k, rT := p.rT, rO := p.rO, rS := p.rS, rp := p.rp, rn := p.rn, rv := p.rv }
  else if p.k = 4 then { Rs.zero with k := p.k, nu := p.nu, T := p.T, O := p.O, S := p.S, tt := p.tt, kd := p.kd, da := p.da }
  else if p.k = 5 then { Rs.zero with k := p.k, er := p.er }
  else { Rs.zero with k := p.k }
def inS (p : Rs) : Prop := 1 ≤ p.k ∧ p.k ≤ 5 ∧ 0 ≤ p.er ∧ p.er ≤ 16 ∧ p.vs.length ≤ 8 ∧ (0 ≤ p.rO ∧ p.rO ≤ 255) ∧ (0 ≤ p.rp ∧ p.rp ≤ 255) ∧ (0 ≤ p.rn ∧ p.rn ≤ 255) ∧ (0 ≤ p.O ∧ p.O ≤ 255) ∧ (0 ≤ p.tt ∧ p.tt ≤ 255) ∧ (0 ≤ p.kd ∧ p.kd ≤ 255)
instance (p : Rs) : Decidable (inS p) := by unfold inS; infer_instance
/-- May a response be? -/
def mayS (p : Rs) : Bool := decide (inS p) && decide (onlyS p = p)
theorem mayS_no {p : Rs} (h : ¬ inS p) : mayS p = false := by simp [mayS, h]
theorem mayS_yes {p : Rs} (h : inS p) : mayS p = decide (onlyS p = p) := by simp [mayS, h]
set_option maxHeartbeats 6400000 in
theorem mays7_in (w : World) (p : Rs) (A : Option Addr) (c : Nat) (hA : IntsAt w A p.vs) (hin : inS p) :
    Calls Try.prog 22 #[.agg (p.c A c).toArray] w fun e w' => e = .returned (.bool (mayS p)) ∧ Nw w w' := by
  obtain ⟨x0, x1, x2, x3, x4, x5, x6, x7, x8, x9, x10, x11, x12, x13, x14, x15, x16, x17⟩ := p
  have HIN := Lib.hid hin
  obtain ⟨h0, h1, h2, h3, h4, e6, e8, e9, e13, e15, e16⟩ := hin
  dsimp only at hA h0 h1 h2 h3 h4 e6 e8 e9 e13 e15 e16
  have HM := Lib.hid h4
  have g0 : ¬ x0 < 1 := by omega
  have g1 : ¬ 5 < x0 := by omega
  have g2 : ¬ x2 < 0 := by omega
  have g3 : ¬ 16 < x2 := by omega
  have g4 : ¬ (8 : Int) < (x4.length : Int) := by omega
  obtain ⟨w1, hw1⟩ : ∃ w1, w.alloc (.cells #[.int .i64 x0, .int .u32 x1, .int .i64 x2, .int .i64 x3, .slice A x4.length c, .int .i64 x5, .int .i64 x6, .int .i64 x7, .int .i64 x8, .int .i64 x9, .int .i64 x10, .int .u32 x11, .int .i64 x12, .int .i64 x13, .int .i64 x14, .int .i64 x15, .int .i64 x16, .int .i64 x17] 42) = w1 := ⟨_, rfl⟩
  have b1 : Blk w1 w.heap.size 42 #[.int .i64 x0, .int .u32 x1, .int .i64 x2, .int .i64 x3, .slice A x4.length c, .int .i64 x5, .int .i64 x6, .int .i64 x7, .int .i64 x8, .int .i64 x9, .int .i64 x10, .int .u32 x11, .int .i64 x12, .int .i64 x13, .int .i64 x14, .int .i64 x15, .int .i64 x16, .int .i64 x17] := by rw [← hw1]; exact Blk.last w _ _ rfl
  have n1 : Nw w w1 := by rw [← hw1]; exact (Nw.refl w).alloc _
  have u0 : w1.cell? ⟨w.heap.size, 0, none⟩ = some (.int .i64 x0) := (b1.cell 0).trans rfl
  have u2 : w1.cell? ⟨w.heap.size, 2, none⟩ = some (.int .i64 x2) := (b1.cell 2).trans rfl
  have u4 : w1.cell? ⟨w.heap.size, 4, none⟩ = some (.slice A x4.length c) := (b1.cell 4).trans rfl
  have u6 : w1.cell? ⟨w.heap.size, 6, none⟩ = some (.int .i64 x6) := (b1.cell 6).trans rfl
  have u8 : w1.cell? ⟨w.heap.size, 8, none⟩ = some (.int .i64 x8) := (b1.cell 8).trans rfl
  have u9 : w1.cell? ⟨w.heap.size, 9, none⟩ = some (.int .i64 x9) := (b1.cell 9).trans rfl
  have u13 : w1.cell? ⟨w.heap.size, 13, none⟩ = some (.int .i64 x13) := (b1.cell 13).trans rfl
  have u15 : w1.cell? ⟨w.heap.size, 15, none⟩ = some (.int .i64 x15) := (b1.cell 15).trans rfl
  have u16 : w1.cell? ⟨w.heap.size, 16, none⟩ = some (.int .i64 x16) := (b1.cell 16).trans rfl
  have HW1 := Lib.hid hw1
  have B1 := Lib.hid b1
  have N1 := Lib.hid n1
  have HA := Lib.hid hA
  have E8 := Lib.hid (fun W n => eight_any W n)
  obtain ⟨d, hd⟩ := stRs
  have HD := Lib.hid hd
  simp only [Rs.c]
  clear hw1 b1 n1 hA hd
  go_enter Try.func22, Try.ntmps22
  have d6 : decide (0 ≤ x6 ∧ x6 ≤ 255) = true := decide_eq_true e6
  have d8 : decide (0 ≤ x8 ∧ x8 ≤ 255) = true := decide_eq_true e8
  have d9 : decide (0 ≤ x9 ∧ x9 ≤ 255) = true := decide_eq_true e9
  have d13 : decide (0 ≤ x13 ∧ x13 ≤ 255) = true := decide_eq_true e13
  have d15 : decide (0 ≤ x15 ∧ x15 ≤ 255) = true := decide_eq_true e15
  have d16 : decide (0 ≤ x16 ∧ x16 ≤ 255) = true := decide_eq_true e16
  go_upto_region 3 with (go_at_call 37; (try rw [HW1.out]); refine (E8.out _ _).mono ?_; rintro e w' ⟨rfl, hw⟩; rw [hw]; clear hw w'; (first | rw [d6] | rw [d8] | rw [d9] | rw [d13] | rw [d15] | rw [d16]))
  clear g0 g1 g2 g3 g4 d6 u6 d8 u8 d9 u9 d13 u13 d15 u15 d16 u16 u2 u4
  have H2 := Lib.hid (show ∀ a : Int, (#[.int .i64 a, .int .u32 0, .int .i64 0, .int .i64 0, .slice none 0 0, .int .i64 0, .int .i64 0, .int .i64 0, .int .i64 0, .int .i64 0, .int .i64 0, .int .u32 0, .int .i64 0, .int .i64 0, .int .i64 0, .int .i64 0, .int .i64 0, .int .i64 0] : Array Value).all (·.oneCell') = true from fun a => by simp [Value.oneCell'])
  have HJ := Lib.hid (show ∀ a : Int, (Try.prog.info? 42).map (·.size) = some (#[.int .i64 a, .int .u32 0, .int .i64 0, .int .i64 0, .slice none 0 0, .int .i64 0, .int .i64 0, .int .i64 0, .int .i64 0, .int .i64 0, .int .i64 0, .int .u32 0, .int .i64 0, .int .i64 0, .int .i64 0, .int .i64 0, .int .i64 0, .int .i64 0] : Array Value).size from fun a => by kernel_rfl)
  by_cases k1 : x0 = 1
  · subst k1
    as_aux_lemma =>
      have HF := Lib.hid (show Value.bool (decide ((⟨1, x1, x2, x3, [], 0, 0, 0, 0, 0, 0, 0, 0, 0, 0, 0, 0, 0⟩ : Rs) = ⟨1, x1, x2, x3, x4, x5, x6, x7, x8, x9, x10, x11, x12, x13, x14, x15, x16, x17⟩)) = Value.bool (mayS ⟨1, x1, x2, x3, x4, x5, x6, x7, x8, x9, x10, x11, x12, x13, x14, x15, x16, x17⟩) by
        rw [mayS_yes (show inS ⟨1, x1, x2, x3, x4, x5, x6, x7, x8, x9, x10, x11, x12, x13, x14, x15, x16, x17⟩ from HIN.out)]
        simp [onlyS, Rs.zero])
      go_upto_region 4 with (refine wpList_store_row rfl 42 _ _ rfl w1.heap.size #[.int .i64 1, .int .u32 0, .int .i64 0, .int .i64 0, .slice none 0 0, .int .i64 0, .int .i64 0, .int .i64 0, .int .i64 0, .int .i64 0, .int .i64 0, .int .u32 0, .int .i64 0, .int .i64 0, .int .i64 0, .int .i64 0, .int .i64 0, .int .i64 0] rfl rfl 42 _ (heap_last _ _ rfl) (HJ.out _) rfl (H2.out _) ?_; rw [World.setRow_alloc_new])
      obtain ⟨w2, hw2⟩ : ∃ w2, w1.alloc (.cells #[.int .i64 1, .int .u32 0, .int .i64 0, .int .i64 0, .slice none 0 0, .int .i64 0, .int .i64 0, .int .i64 0, .int .i64 0, .int .i64 0, .int .i64 0, .int .u32 0, .int .i64 0, .int .i64 0, .int .i64 0, .int .i64 0, .int .i64 0, .int .i64 0] 42) = w2 := ⟨_, rfl⟩
      obtain ⟨P, hP⟩ : ∃ P, w1.heap.size = P := ⟨_, rfl⟩
      rw [hw2, hP]
      have b2 : Blk w2 P 42 #[.int .i64 1, .int .u32 0, .int .i64 0, .int .i64 0, .slice none 0 0, .int .i64 0, .int .i64 0, .int .i64 0, .int .i64 0, .int .i64 0, .int .i64 0, .int .u32 0, .int .i64 0, .int .i64 0, .int .i64 0, .int .i64 0, .int .i64 0, .int .i64 0] := by rw [← hw2]; exact Blk.last w1 _ _ hP
      have n2 : Nw w1 w2 := by rw [← hw2]; exact (Nw.refl w1).alloc _
      have o2 : Blk w2 w.heap.size 42 #[.int .i64 1, .int .u32 x1, .int .i64 x2, .int .i64 x3, .slice A x4.length c, .int .i64 x5, .int .i64 x6, .int .i64 x7, .int .i64 x8, .int .i64 x9, .int .i64 x10, .int .u32 x11, .int .i64 x12, .int .i64 x13, .int .i64 x14, .int .i64 x15, .int .i64 x16, .int .i64 x17] := B1.out.below n2 B1.out.lt
      clear u0
      have u0 : w2.cell? ⟨w.heap.size, 0, none⟩ = some (.int .i64 1) := (o2.cell 0).trans rfl
      have u1 : w2.cell? ⟨w.heap.size, 1, none⟩ = some (.int .u32 x1) := (o2.cell 1).trans rfl
      have u2 : w2.cell? ⟨w.heap.size, 2, none⟩ = some (.int .i64 x2) := (o2.cell 2).trans rfl
      have u3 : w2.cell? ⟨w.heap.size, 3, none⟩ = some (.int .i64 x3) := (o2.cell 3).trans rfl
      have v1 : w2.cell? ⟨P, 1, none⟩ = some (.int .u32 0) := (b2.cell 1).trans rfl
      have z1 := b2.frozen 1
      have v2 : w2.cell? ⟨P, 2, none⟩ = some (.int .i64 0) := (b2.cell 2).trans rfl
      have z2 := b2.frozen 2
      have v3 : w2.cell? ⟨P, 3, none⟩ = some (.int .i64 0) := (b2.cell 3).trans rfl
      have z3 := b2.frozen 3
      have B2 := Lib.hid b2
      have N2 := Lib.hid n2
      have O2 := Lib.hid o2
      have HWP := Lib.hid (And.intro hw2 hP)
      clear b2 n2 o2 hw2 hP
      go_upto_region 20 with (fail)
      obtain ⟨w3, hw3⟩ : ∃ w3, (((w2.setCell ⟨P, 1, none⟩ (.int .u32 x1)).setCell ⟨P, 2, none⟩ (.int .i64 x2)).setCell ⟨P, 3, none⟩ (.int .i64 x3)) = w3 := ⟨_, rfl⟩
      rw [hw3]
      have b3 : Blk w3 P 42 #[.int .i64 1, .int .u32 x1, .int .i64 x2, .int .i64 x3, .slice none 0 0, .int .i64 0, .int .i64 0, .int .i64 0, .int .i64 0, .int .i64 0, .int .i64 0, .int .u32 0, .int .i64 0, .int .i64 0, .int .i64 0, .int .i64 0, .int .i64 0, .int .i64 0] := by rw [← hw3]; exact (((B2.out.set_ 1 (.int .u32 x1)).set_ 2 (.int .i64 x2)).set_ 3 (.int .i64 x3))
      have o3 : Blk w3 w.heap.size 42 #[.int .i64 1, .int .u32 x1, .int .i64 x2, .int .i64 x3, .slice A x4.length c, .int .i64 x5, .int .i64 x6, .int .i64 x7, .int .i64 x8, .int .i64 x9, .int .i64 x10, .int .u32 x11, .int .i64 x12, .int .i64 x13, .int .i64 x14, .int .i64 x15, .int .i64 x16, .int .i64 x17] := by rw [← hw3]; exact (((O2.out.far (p := ⟨P, 1, none⟩) (by have := N1.out.size; have := B1.out.lt; have := HWP.out.2; show w.heap.size ≠ P; omega) (.int .u32 x1)).far (p := ⟨P, 2, none⟩) (by have := N1.out.size; have := B1.out.lt; have := HWP.out.2; show w.heap.size ≠ P; omega) (.int .i64 x2)).far (p := ⟨P, 3, none⟩) (by have := N1.out.size; have := B1.out.lt; have := HWP.out.2; show w.heap.size ≠ P; omega) (.int .i64 x3))
      have n3 : Nw w w3 := by rw [← hw3]; exact (Nw.set (Nw.set (Nw.set (Nw.trans N1.out N2.out) (by have := N1.out.size; have := HWP.out.2; show w.heap.size ≤ P; omega) (.int .u32 x1)) (by have := N1.out.size; have := HWP.out.2; show w.heap.size ≤ P; omega) (.int .i64 x2)) (by have := N1.out.size; have := HWP.out.2; show w.heap.size ≤ P; omega) (.int .i64 x3))
      have B3 := Lib.hid b3
      have O3 := Lib.hid o3
      have N3 := Lib.hid n3
      clear b3 o3 n3 hw3 u0 u1 v1 z1 u2 v2 z2 u3 v3 z3
      have HI3 := Lib.hid (show (Try.prog.info? 42).map (·.size) = some (#[.int .i64 1, .int .u32 x1, .int .i64 x2, .int .i64 x3, .slice none 0 0, .int .i64 0, .int .i64 0, .int .i64 0, .int .i64 0, .int .i64 0, .int .i64 0, .int .u32 0, .int .i64 0, .int .i64 0, .int .i64 0, .int .i64 0, .int .i64 0, .int .i64 0] : Array Value).size by kernel_rfl)
      have HIQ := Lib.hid (show (Try.prog.info? 42).map (·.size) = some (#[.int .i64 1, .int .u32 x1, .int .i64 x2, .int .i64 x3, .slice A x4.length c, .int .i64 x5, .int .i64 x6, .int .i64 x7, .int .i64 x8, .int .i64 x9, .int .i64 x10, .int .u32 x11, .int .i64 x12, .int .i64 x13, .int .i64 x14, .int .i64 x15, .int .i64 x16, .int .i64 x17] : Array Value).size by kernel_rfl)
      go_wp2_with (first | (refine wpList_load_row rfl 42 _ rfl P rfl 42 #[.int .i64 1, .int .u32 x1, .int .i64 x2, .int .i64 x3, .slice none 0 0, .int .i64 0, .int .i64 0, .int .i64 0, .int .i64 0, .int .i64 0, .int .i64 0, .int .u32 0, .int .i64 0, .int .i64 0, .int .i64 0, .int .i64 0, .int .i64 0, .int .i64 0] (0, 0) (.struct d) B3.out HD.out rfl HI3.out ?_) | (refine wpList_load_row rfl 42 _ rfl w.heap.size rfl 42 #[.int .i64 1, .int .u32 x1, .int .i64 x2, .int .i64 x3, .slice A x4.length c, .int .i64 x5, .int .i64 x6, .int .i64 x7, .int .i64 x8, .int .i64 x9, .int .i64 x10, .int .u32 x11, .int .i64 x12, .int .i64 x13, .int .i64 x14, .int .i64 x15, .int .i64 x16, .int .i64 x17] (0, 0) (.struct d) O3.out HD.out rfl HIQ.out ?_))
      refine (refRs_any w3 ⟨1, x1, x2, x3, [], 0, 0, 0, 0, 0, 0, 0, 0, 0, 0, 0, 0, 0⟩ ⟨1, x1, x2, x3, x4, x5, x6, x7, x8, x9, x10, x11, x12, x13, x14, x15, x16, x17⟩ none A 0 c (.inl rfl) (Rd.nw HA.out N3.out) (by have := HM.out; simp; try omega) (by have := HM.out; simp; omega)).mono ?_
      rintro e w4 ⟨rfl, n4⟩
      rw [HF.out]
      have N4 := Lib.hid n4
      clear n4
      go_wp2_with fail
      go_ret
      exact ⟨rfl, Nw.trans N3.out N4.out⟩
  by_cases k2 : x0 = 2
  · subst k2
    as_aux_lemma =>
      have HF := Lib.hid (show Value.bool (decide ((⟨2, x1, 0, x3, x4, 0, 0, 0, 0, 0, 0, 0, 0, 0, 0, 0, 0, 0⟩ : Rs) = ⟨2, x1, x2, x3, x4, x5, x6, x7, x8, x9, x10, x11, x12, x13, x14, x15, x16, x17⟩)) = Value.bool (mayS ⟨2, x1, x2, x3, x4, x5, x6, x7, x8, x9, x10, x11, x12, x13, x14, x15, x16, x17⟩) by
        rw [mayS_yes (show inS ⟨2, x1, x2, x3, x4, x5, x6, x7, x8, x9, x10, x11, x12, x13, x14, x15, x16, x17⟩ from HIN.out)]
        simp [onlyS, Rs.zero])
      go_upto_region 4 with (refine wpList_store_row rfl 42 _ _ rfl w1.heap.size #[.int .i64 2, .int .u32 0, .int .i64 0, .int .i64 0, .slice none 0 0, .int .i64 0, .int .i64 0, .int .i64 0, .int .i64 0, .int .i64 0, .int .i64 0, .int .u32 0, .int .i64 0, .int .i64 0, .int .i64 0, .int .i64 0, .int .i64 0, .int .i64 0] rfl rfl 42 _ (heap_last _ _ rfl) (HJ.out _) rfl (H2.out _) ?_; rw [World.setRow_alloc_new])
      obtain ⟨w2, hw2⟩ : ∃ w2, w1.alloc (.cells #[.int .i64 2, .int .u32 0, .int .i64 0, .int .i64 0, .slice none 0 0, .int .i64 0, .int .i64 0, .int .i64 0, .int .i64 0, .int .i64 0, .int .i64 0, .int .u32 0, .int .i64 0, .int .i64 0, .int .i64 0, .int .i64 0, .int .i64 0, .int .i64 0] 42) = w2 := ⟨_, rfl⟩
      obtain ⟨P, hP⟩ : ∃ P, w1.heap.size = P := ⟨_, rfl⟩
      rw [hw2, hP]
      have b2 : Blk w2 P 42 #[.int .i64 2, .int .u32 0, .int .i64 0, .int .i64 0, .slice none 0 0, .int .i64 0, .int .i64 0, .int .i64 0, .int .i64 0, .int .i64 0, .int .i64 0, .int .u32 0, .int .i64 0, .int .i64 0, .int .i64 0, .int .i64 0, .int .i64 0, .int .i64 0] := by rw [← hw2]; exact Blk.last w1 _ _ hP
      have n2 : Nw w1 w2 := by rw [← hw2]; exact (Nw.refl w1).alloc _
      have o2 : Blk w2 w.heap.size 42 #[.int .i64 2, .int .u32 x1, .int .i64 x2, .int .i64 x3, .slice A x4.length c, .int .i64 x5, .int .i64 x6, .int .i64 x7, .int .i64 x8, .int .i64 x9, .int .i64 x10, .int .u32 x11, .int .i64 x12, .int .i64 x13, .int .i64 x14, .int .i64 x15, .int .i64 x16, .int .i64 x17] := B1.out.below n2 B1.out.lt
      clear u0
      have u0 : w2.cell? ⟨w.heap.size, 0, none⟩ = some (.int .i64 2) := (o2.cell 0).trans rfl
      have u1 : w2.cell? ⟨w.heap.size, 1, none⟩ = some (.int .u32 x1) := (o2.cell 1).trans rfl
      have u3 : w2.cell? ⟨w.heap.size, 3, none⟩ = some (.int .i64 x3) := (o2.cell 3).trans rfl
      have u4 : w2.cell? ⟨w.heap.size, 4, none⟩ = some (.slice A x4.length c) := (o2.cell 4).trans rfl
      have v1 : w2.cell? ⟨P, 1, none⟩ = some (.int .u32 0) := (b2.cell 1).trans rfl
      have z1 := b2.frozen 1
      have v3 : w2.cell? ⟨P, 3, none⟩ = some (.int .i64 0) := (b2.cell 3).trans rfl
      have z3 := b2.frozen 3
      have v4 : w2.cell? ⟨P, 4, none⟩ = some (.slice none 0 0) := (b2.cell 4).trans rfl
      have z4 := b2.frozen 4
      have B2 := Lib.hid b2
      have N2 := Lib.hid n2
      have O2 := Lib.hid o2
      have HWP := Lib.hid (And.intro hw2 hP)
      clear b2 n2 o2 hw2 hP
      go_upto_region 20 with (fail)
      obtain ⟨w3, hw3⟩ : ∃ w3, (((w2.setCell ⟨P, 1, none⟩ (.int .u32 x1)).setCell ⟨P, 3, none⟩ (.int .i64 x3)).setCell ⟨P, 4, none⟩ (.slice A x4.length c)) = w3 := ⟨_, rfl⟩
      rw [hw3]
      have b3 : Blk w3 P 42 #[.int .i64 2, .int .u32 x1, .int .i64 0, .int .i64 x3, .slice A x4.length c, .int .i64 0, .int .i64 0, .int .i64 0, .int .i64 0, .int .i64 0, .int .i64 0, .int .u32 0, .int .i64 0, .int .i64 0, .int .i64 0, .int .i64 0, .int .i64 0, .int .i64 0] := by rw [← hw3]; exact (((B2.out.set_ 1 (.int .u32 x1)).set_ 3 (.int .i64 x3)).set_ 4 (.slice A x4.length c))
      have o3 : Blk w3 w.heap.size 42 #[.int .i64 2, .int .u32 x1, .int .i64 x2, .int .i64 x3, .slice A x4.length c, .int .i64 x5, .int .i64 x6, .int .i64 x7, .int .i64 x8, .int .i64 x9, .int .i64 x10, .int .u32 x11, .int .i64 x12, .int .i64 x13, .int .i64 x14, .int .i64 x15, .int .i64 x16, .int .i64 x17] := by rw [← hw3]; exact (((O2.out.far (p := ⟨P, 1, none⟩) (by have := N1.out.size; have := B1.out.lt; have := HWP.out.2; show w.heap.size ≠ P; omega) (.int .u32 x1)).far (p := ⟨P, 3, none⟩) (by have := N1.out.size; have := B1.out.lt; have := HWP.out.2; show w.heap.size ≠ P; omega) (.int .i64 x3)).far (p := ⟨P, 4, none⟩) (by have := N1.out.size; have := B1.out.lt; have := HWP.out.2; show w.heap.size ≠ P; omega) (.slice A x4.length c))
      have n3 : Nw w w3 := by rw [← hw3]; exact (Nw.set (Nw.set (Nw.set (Nw.trans N1.out N2.out) (by have := N1.out.size; have := HWP.out.2; show w.heap.size ≤ P; omega) (.int .u32 x1)) (by have := N1.out.size; have := HWP.out.2; show w.heap.size ≤ P; omega) (.int .i64 x3)) (by have := N1.out.size; have := HWP.out.2; show w.heap.size ≤ P; omega) (.slice A x4.length c))
      have B3 := Lib.hid b3
      have O3 := Lib.hid o3
      have N3 := Lib.hid n3
      clear b3 o3 n3 hw3 u0 u1 v1 z1 u3 v3 z3 u4 v4 z4
      have HI3 := Lib.hid (show (Try.prog.info? 42).map (·.size) = some (#[.int .i64 2, .int .u32 x1, .int .i64 0, .int .i64 x3, .slice A x4.length c, .int .i64 0, .int .i64 0, .int .i64 0, .int .i64 0, .int .i64 0, .int .i64 0, .int .u32 0, .int .i64 0, .int .i64 0, .int .i64 0, .int .i64 0, .int .i64 0, .int .i64 0] : Array Value).size by kernel_rfl)
      have HIQ := Lib.hid (show (Try.prog.info? 42).map (·.size) = some (#[.int .i64 2, .int .u32 x1, .int .i64 x2, .int .i64 x3, .slice A x4.length c, .int .i64 x5, .int .i64 x6, .int .i64 x7, .int .i64 x8, .int .i64 x9, .int .i64 x10, .int .u32 x11, .int .i64 x12, .int .i64 x13, .int .i64 x14, .int .i64 x15, .int .i64 x16, .int .i64 x17] : Array Value).size by kernel_rfl)
      go_wp2_with (first | (refine wpList_load_row rfl 42 _ rfl P rfl 42 #[.int .i64 2, .int .u32 x1, .int .i64 0, .int .i64 x3, .slice A x4.length c, .int .i64 0, .int .i64 0, .int .i64 0, .int .i64 0, .int .i64 0, .int .i64 0, .int .u32 0, .int .i64 0, .int .i64 0, .int .i64 0, .int .i64 0, .int .i64 0, .int .i64 0] (0, 0) (.struct d) B3.out HD.out rfl HI3.out ?_) | (refine wpList_load_row rfl 42 _ rfl w.heap.size rfl 42 #[.int .i64 2, .int .u32 x1, .int .i64 x2, .int .i64 x3, .slice A x4.length c, .int .i64 x5, .int .i64 x6, .int .i64 x7, .int .i64 x8, .int .i64 x9, .int .i64 x10, .int .u32 x11, .int .i64 x12, .int .i64 x13, .int .i64 x14, .int .i64 x15, .int .i64 x16, .int .i64 x17] (0, 0) (.struct d) O3.out HD.out rfl HIQ.out ?_))
      refine (refRs_any w3 ⟨2, x1, 0, x3, x4, 0, 0, 0, 0, 0, 0, 0, 0, 0, 0, 0, 0, 0⟩ ⟨2, x1, x2, x3, x4, x5, x6, x7, x8, x9, x10, x11, x12, x13, x14, x15, x16, x17⟩ A A c c (Rd.nw HA.out N3.out) (Rd.nw HA.out N3.out) (by have := HM.out; simp; try omega) (by have := HM.out; simp; omega)).mono ?_
      rintro e w4 ⟨rfl, n4⟩
      rw [HF.out]
      have N4 := Lib.hid n4
      clear n4
      go_wp2_with fail
      go_ret
      exact ⟨rfl, Nw.trans N3.out N4.out⟩
  by_cases k3 : x0 = 3
  · subst k3
    as_aux_lemma =>
      have HF := Lib.hid (show Value.bool (decide ((⟨3, 0, 0, 0, [], x5, x6, x7, x8, x9, x10, 0, 0, 0, 0, 0, 0, 0⟩ : Rs) = ⟨3, x1, x2, x3, x4, x5, x6, x7, x8, x9, x10, x11, x12, x13, x14, x15, x16, x17⟩)) = Value.bool (mayS ⟨3, x1, x2, x3, x4, x5, x6, x7, x8, x9, x10, x11, x12, x13, x14, x15, x16, x17⟩) by
        rw [mayS_yes (show inS ⟨3, x1, x2, x3, x4, x5, x6, x7, x8, x9, x10, x11, x12, x13, x14, x15, x16, x17⟩ from HIN.out)]
        simp [onlyS, Rs.zero])
      go_upto_region 4 with (refine wpList_store_row rfl 42 _ _ rfl w1.heap.size #[.int .i64 3, .int .u32 0, .int .i64 0, .int .i64 0, .slice none 0 0, .int .i64 0, .int .i64 0, .int .i64 0, .int .i64 0, .int .i64 0, .int .i64 0, .int .u32 0, .int .i64 0, .int .i64 0, .int .i64 0, .int .i64 0, .int .i64 0, .int .i64 0] rfl rfl 42 _ (heap_last _ _ rfl) (HJ.out _) rfl (H2.out _) ?_; rw [World.setRow_alloc_new])
      obtain ⟨w2, hw2⟩ : ∃ w2, w1.alloc (.cells #[.int .i64 3, .int .u32 0, .int .i64 0, .int .i64 0, .slice none 0 0, .int .i64 0, .int .i64 0, .int .i64 0, .int .i64 0, .int .i64 0, .int .i64 0, .int .u32 0, .int .i64 0, .int .i64 0, .int .i64 0, .int .i64 0, .int .i64 0, .int .i64 0] 42) = w2 := ⟨_, rfl⟩
      obtain ⟨P, hP⟩ : ∃ P, w1.heap.size = P := ⟨_, rfl⟩
      rw [hw2, hP]
      have b2 : Blk w2 P 42 #[.int .i64 3, .int .u32 0, .int .i64 0, .int .i64 0, .slice none 0 0, .int .i64 0, .int .i64 0, .int .i64 0, .int .i64 0, .int .i64 0, .int .i64 0, .int .u32 0, .int .i64 0, .int .i64 0, .int .i64 0, .int .i64 0, .int .i64 0, .int .i64 0] := by rw [← hw2]; exact Blk.last w1 _ _ hP
      have n2 : Nw w1 w2 := by rw [← hw2]; exact (Nw.refl w1).alloc _
      have o2 : Blk w2 w.heap.size 42 #[.int .i64 3, .int .u32 x1, .int .i64 x2, .int .i64 x3, .slice A x4.length c, .int .i64 x5, .int .i64 x6, .int .i64 x7, .int .i64 x8, .int .i64 x9, .int .i64 x10, .int .u32 x11, .int .i64 x12, .int .i64 x13, .int .i64 x14, .int .i64 x15, .int .i64 x16, .int .i64 x17] := B1.out.below n2 B1.out.lt
      clear u0
      have u0 : w2.cell? ⟨w.heap.size, 0, none⟩ = some (.int .i64 3) := (o2.cell 0).trans rfl
      have u5 : w2.cell? ⟨w.heap.size, 5, none⟩ = some (.int .i64 x5) := (o2.cell 5).trans rfl
      have u6 : w2.cell? ⟨w.heap.size, 6, none⟩ = some (.int .i64 x6) := (o2.cell 6).trans rfl
      have u7 : w2.cell? ⟨w.heap.size, 7, none⟩ = some (.int .i64 x7) := (o2.cell 7).trans rfl
      have u8 : w2.cell? ⟨w.heap.size, 8, none⟩ = some (.int .i64 x8) := (o2.cell 8).trans rfl
      have u9 : w2.cell? ⟨w.heap.size, 9, none⟩ = some (.int .i64 x9) := (o2.cell 9).trans rfl
      have u10 : w2.cell? ⟨w.heap.size, 10, none⟩ = some (.int .i64 x10) := (o2.cell 10).trans rfl
      have v5 : w2.cell? ⟨P, 5, none⟩ = some (.int .i64 0) := (b2.cell 5).trans rfl
      have z5 := b2.frozen 5
      have v6 : w2.cell? ⟨P, 6, none⟩ = some (.int .i64 0) := (b2.cell 6).trans rfl
      have z6 := b2.frozen 6
      have v7 : w2.cell? ⟨P, 7, none⟩ = some (.int .i64 0) := (b2.cell 7).trans rfl
      have z7 := b2.frozen 7
      have v8 : w2.cell? ⟨P, 8, none⟩ = some (.int .i64 0) := (b2.cell 8).trans rfl
      have z8 := b2.frozen 8
      have v9 : w2.cell? ⟨P, 9, none⟩ = some (.int .i64 0) := (b2.cell 9).trans rfl
      have z9 := b2.frozen 9
      have v10 : w2.cell? ⟨P, 10, none⟩ = some (.int .i64 0) := (b2.cell 10).trans rfl
      have z10 := b2.frozen 10
      have B2 := Lib.hid b2
      have N2 := Lib.hid n2
      have O2 := Lib.hid o2
      have HWP := Lib.hid (And.intro hw2 hP)
      clear b2 n2 o2 hw2 hP
      go_upto_region 20 with (fail)
      obtain ⟨w3, hw3⟩ : ∃ w3, ((((((w2.setCell ⟨P, 5, none⟩ (.int .i64 x5)).setCell ⟨P, 6, none⟩ (.int .i64 x6)).setCell ⟨P, 7, none⟩ (.int .i64 x7)).setCell ⟨P, 8, none⟩ (.int .i64 x8)).setCell ⟨P, 9, none⟩ (.int .i64 x9)).setCell ⟨P, 10, none⟩ (.int .i64 x10)) = w3 := ⟨_, rfl⟩
      rw [hw3]
      have b3 : Blk w3 P 42 #[.int .i64 3, .int .u32 0, .int .i64 0, .int .i64 0, .slice none 0 0, .int .i64 x5, .int .i64 x6, .int .i64 x7, .int .i64 x8, .int .i64 x9, .int .i64 x10, .int .u32 0, .int .i64 0, .int .i64 0, .int .i64 0, .int .i64 0, .int .i64 0, .int .i64 0] := by rw [← hw3]; exact ((((((B2.out.set_ 5 (.int .i64 x5)).set_ 6 (.int .i64 x6)).set_ 7 (.int .i64 x7)).set_ 8 (.int .i64 x8)).set_ 9 (.int .i64 x9)).set_ 10 (.int .i64 x10))
      have o3 : Blk w3 w.heap.size 42 #[.int .i64 3, .int .u32 x1, .int .i64 x2, .int .i64 x3, .slice A x4.length c, .int .i64 x5, .int .i64 x6, .int .i64 x7, .int .i64 x8, .int .i64 x9, .int .i64 x10, .int .u32 x11, .int .i64 x12, .int .i64 x13, .int .i64 x14, .int .i64 x15, .int .i64 x16, .int .i64 x17] := by rw [← hw3]; exact ((((((O2.out.far (p := ⟨P, 5, none⟩) (by have := N1.out.size; have := B1.out.lt; have := HWP.out.2; show w.heap.size ≠ P; omega) (.int .i64 x5)).far (p := ⟨P, 6, none⟩) (by have := N1.out.size; have := B1.out.lt; have := HWP.out.2; show w.heap.size ≠ P; omega) (.int .i64 x6)).far (p := ⟨P, 7, none⟩) (by have := N1.out.size; have := B1.out.lt; have := HWP.out.2; show w.heap.size ≠ P; omega) (.int .i64 x7)).far (p := ⟨P, 8, none⟩) (by have := N1.out.size; have := B1.out.lt; have := HWP.out.2; show w.heap.size ≠ P; omega) (.int .i64 x8)).far (p := ⟨P, 9, none⟩) (by have := N1.out.size; have := B1.out.lt; have := HWP.out.2; show w.heap.size ≠ P; omega) (.int .i64 x9)).far (p := ⟨P, 10, none⟩) (by have := N1.out.size; have := B1.out.lt; have := HWP.out.2; show w.heap.size ≠ P; omega) (.int .i64 x10))
      have n3 : Nw w w3 := by rw [← hw3]; exact (Nw.set (Nw.set (Nw.set (Nw.set (Nw.set (Nw.set (Nw.trans N1.out N2.out) (by have := N1.out.size; have := HWP.out.2; show w.heap.size ≤ P; omega) (.int .i64 x5)) (by have := N1.out.size; have := HWP.out.2; show w.heap.size ≤ P; omega) (.int .i64 x6)) (by have := N1.out.size; have := HWP.out.2; show w.heap.size ≤ P; omega) (.int .i64 x7)) (by have := N1.out.size; have := HWP.out.2; show w.heap.size ≤ P; omega) (.int .i64 x8)) (by have := N1.out.size; have := HWP.out.2; show w.heap.size ≤ P; omega) (.int .i64 x9)) (by have := N1.out.size; have := HWP.out.2; show w.heap.size ≤ P; omega) (.int .i64 x10))
      have B3 := Lib.hid b3
      have O3 := Lib.hid o3
      have N3 := Lib.hid n3
      clear b3 o3 n3 hw3 u0 u5 v5 z5 u6 v6 z6 u7 v7 z7 u8 v8 z8 u9 v9 z9 u10 v10 z10
      have HI3 := Lib.hid (show (Try.prog.info? 42).map (·.size) = some (#[.int .i64 3, .int .u32 0, .int .i64 0, .int .i64 0, .slice none 0 0, .int .i64 x5, .int .i64 x6, .int .i64 x7, .int .i64 x8, .int .i64 x9, .int .i64 x10, .int .u32 0, .int .i64 0, .int .i64 0, .int .i64 0, .int .i64 0, .int .i64 0, .int .i64 0] : Array Value).size by kernel_rfl)
      have HIQ := Lib.hid (show (Try.prog.info? 42).map (·.size) = some (#[.int .i64 3, .int .u32 x1, .int .i64 x2, .int .i64 x3, .slice A x4.length c, .int .i64 x5, .int .i64 x6, .int .i64 x7, .int .i64 x8, .int .i64 x9, .int .i64 x10, .int .u32 x11, .int .i64 x12, .int .i64 x13, .int .i64 x14, .int .i64 x15, .int .i64 x16, .int .i64 x17] : Array Value).size by kernel_rfl)
      go_wp2_with (first | (refine wpList_load_row rfl 42 _ rfl P rfl 42 #[.int .i64 3, .int .u32 0, .int .i64 0, .int .i64 0, .slice none 0 0, .int .i64 x5, .int .i64 x6, .int .i64 x7, .int .i64 x8, .int .i64 x9, .int .i64 x10, .int .u32 0, .int .i64 0, .int .i64 0, .int .i64 0, .int .i64 0, .int .i64 0, .int .i64 0] (0, 0) (.struct d) B3.out HD.out rfl HI3.out ?_) | (refine wpList_load_row rfl 42 _ rfl w.heap.size rfl 42 #[.int .i64 3, .int .u32 x1, .int .i64 x2, .int .i64 x3, .slice A x4.length c, .int .i64 x5, .int .i64 x6, .int .i64 x7, .int .i64 x8, .int .i64 x9, .int .i64 x10, .int .u32 x11, .int .i64 x12, .int .i64 x13, .int .i64 x14, .int .i64 x15, .int .i64 x16, .int .i64 x17] (0, 0) (.struct d) O3.out HD.out rfl HIQ.out ?_))
      refine (refRs_any w3 ⟨3, 0, 0, 0, [], x5, x6, x7, x8, x9, x10, 0, 0, 0, 0, 0, 0, 0⟩ ⟨3, x1, x2, x3, x4, x5, x6, x7, x8, x9, x10, x11, x12, x13, x14, x15, x16, x17⟩ none A 0 c (.inl rfl) (Rd.nw HA.out N3.out) (by have := HM.out; simp; try omega) (by have := HM.out; simp; omega)).mono ?_
      rintro e w4 ⟨rfl, n4⟩
      rw [HF.out]
      have N4 := Lib.hid n4
      clear n4
      go_wp2_with fail
      go_ret
      exact ⟨rfl, Nw.trans N3.out N4.out⟩
  by_cases k4 : x0 = 4
  · subst k4
    as_aux_lemma =>
      have HF := Lib.hid (show Value.bool (decide ((⟨4, 0, 0, 0, [], 0, 0, 0, 0, 0, 0, x11, x12, x13, x14, x15, x16, x17⟩ : Rs) = ⟨4, x1, x2, x3, x4, x5, x6, x7, x8, x9, x10, x11, x12, x13, x14, x15, x16, x17⟩)) = Value.bool (mayS ⟨4, x1, x2, x3, x4, x5, x6, x7, x8, x9, x10, x11, x12, x13, x14, x15, x16, x17⟩) by
        rw [mayS_yes (show inS ⟨4, x1, x2, x3, x4, x5, x6, x7, x8, x9, x10, x11, x12, x13, x14, x15, x16, x17⟩ from HIN.out)]
        simp [onlyS, Rs.zero])
      go_upto_region 4 with (refine wpList_store_row rfl 42 _ _ rfl w1.heap.size #[.int .i64 4, .int .u32 0, .int .i64 0, .int .i64 0, .slice none 0 0, .int .i64 0, .int .i64 0, .int .i64 0, .int .i64 0, .int .i64 0, .int .i64 0, .int .u32 0, .int .i64 0, .int .i64 0, .int .i64 0, .int .i64 0, .int .i64 0, .int .i64 0] rfl rfl 42 _ (heap_last _ _ rfl) (HJ.out _) rfl (H2.out _) ?_; rw [World.setRow_alloc_new])
      obtain ⟨w2, hw2⟩ : ∃ w2, w1.alloc (.cells #[.int .i64 4, .int .u32 0, .int .i64 0, .int .i64 0, .slice none 0 0, .int .i64 0, .int .i64 0, .int .i64 0, .int .i64 0, .int .i64 0, .int .i64 0, .int .u32 0, .int .i64 0, .int .i64 0, .int .i64 0, .int .i64 0, .int .i64 0, .int .i64 0] 42) = w2 := ⟨_, rfl⟩
      obtain ⟨P, hP⟩ : ∃ P, w1.heap.size = P := ⟨_, rfl⟩
      rw [hw2, hP]
      have b2 : Blk w2 P 42 #[.int .i64 4, .int .u32 0, .int .i64 0, .int .i64 0, .slice none 0 0, .int .i64 0, .int .i64 0, .int .i64 0, .int .i64 0, .int .i64 0, .int .i64 0, .int .u32 0, .int .i64 0, .int .i64 0, .int .i64 0, .int .i64 0, .int .i64 0, .int .i64 0] := by rw [← hw2]; exact Blk.last w1 _ _ hP
      have n2 : Nw w1 w2 := by rw [← hw2]; exact (Nw.refl w1).alloc _
      have o2 : Blk w2 w.heap.size 42 #[.int .i64 4, .int .u32 x1, .int .i64 x2, .int .i64 x3, .slice A x4.length c, .int .i64 x5, .int .i64 x6, .int .i64 x7, .int .i64 x8, .int .i64 x9, .int .i64 x10, .int .u32 x11, .int .i64 x12, .int .i64 x13, .int .i64 x14, .int .i64 x15, .int .i64 x16, .int .i64 x17] := B1.out.below n2 B1.out.lt
      clear u0
      have u0 : w2.cell? ⟨w.heap.size, 0, none⟩ = some (.int .i64 4) := (o2.cell 0).trans rfl
      have u11 : w2.cell? ⟨w.heap.size, 11, none⟩ = some (.int .u32 x11) := (o2.cell 11).trans rfl
      have u12 : w2.cell? ⟨w.heap.size, 12, none⟩ = some (.int .i64 x12) := (o2.cell 12).trans rfl
      have u13 : w2.cell? ⟨w.heap.size, 13, none⟩ = some (.int .i64 x13) := (o2.cell 13).trans rfl
      have u14 : w2.cell? ⟨w.heap.size, 14, none⟩ = some (.int .i64 x14) := (o2.cell 14).trans rfl
      have u15 : w2.cell? ⟨w.heap.size, 15, none⟩ = some (.int .i64 x15) := (o2.cell 15).trans rfl
      have u16 : w2.cell? ⟨w.heap.size, 16, none⟩ = some (.int .i64 x16) := (o2.cell 16).trans rfl
      have u17 : w2.cell? ⟨w.heap.size, 17, none⟩ = some (.int .i64 x17) := (o2.cell 17).trans rfl
      have v11 : w2.cell? ⟨P, 11, none⟩ = some (.int .u32 0) := (b2.cell 11).trans rfl
      have z11 := b2.frozen 11
      have v12 : w2.cell? ⟨P, 12, none⟩ = some (.int .i64 0) := (b2.cell 12).trans rfl
      have z12 := b2.frozen 12
      have v13 : w2.cell? ⟨P, 13, none⟩ = some (.int .i64 0) := (b2.cell 13).trans rfl
      have z13 := b2.frozen 13
      have v14 : w2.cell? ⟨P, 14, none⟩ = some (.int .i64 0) := (b2.cell 14).trans rfl
      have z14 := b2.frozen 14
      have v15 : w2.cell? ⟨P, 15, none⟩ = some (.int .i64 0) := (b2.cell 15).trans rfl
      have z15 := b2.frozen 15
      have v16 : w2.cell? ⟨P, 16, none⟩ = some (.int .i64 0) := (b2.cell 16).trans rfl
      have z16 := b2.frozen 16
      have v17 : w2.cell? ⟨P, 17, none⟩ = some (.int .i64 0) := (b2.cell 17).trans rfl
      have z17 := b2.frozen 17
      have B2 := Lib.hid b2
      have N2 := Lib.hid n2
      have O2 := Lib.hid o2
      have HWP := Lib.hid (And.intro hw2 hP)
      clear b2 n2 o2 hw2 hP
      go_upto_region 20 with (fail)
      obtain ⟨w3, hw3⟩ : ∃ w3, (((((((w2.setCell ⟨P, 11, none⟩ (.int .u32 x11)).setCell ⟨P, 12, none⟩ (.int .i64 x12)).setCell ⟨P, 13, none⟩ (.int .i64 x13)).setCell ⟨P, 14, none⟩ (.int .i64 x14)).setCell ⟨P, 15, none⟩ (.int .i64 x15)).setCell ⟨P, 16, none⟩ (.int .i64 x16)).setCell ⟨P, 17, none⟩ (.int .i64 x17)) = w3 := ⟨_, rfl⟩
      rw [hw3]
      have b3 : Blk w3 P 42 #[.int .i64 4, .int .u32 0, .int .i64 0, .int .i64 0, .slice none 0 0, .int .i64 0, .int .i64 0, .int .i64 0, .int .i64 0, .int .i64 0, .int .i64 0, .int .u32 x11, .int .i64 x12, .int .i64 x13, .int .i64 x14, .int .i64 x15, .int .i64 x16, .int .i64 x17] := by rw [← hw3]; exact (((((((B2.out.set_ 11 (.int .u32 x11)).set_ 12 (.int .i64 x12)).set_ 13 (.int .i64 x13)).set_ 14 (.int .i64 x14)).set_ 15 (.int .i64 x15)).set_ 16 (.int .i64 x16)).set_ 17 (.int .i64 x17))
      have o3 : Blk w3 w.heap.size 42 #[.int .i64 4, .int .u32 x1, .int .i64 x2, .int .i64 x3, .slice A x4.length c, .int .i64 x5, .int .i64 x6, .int .i64 x7, .int .i64 x8, .int .i64 x9, .int .i64 x10, .int .u32 x11, .int .i64 x12, .int .i64 x13, .int .i64 x14, .int .i64 x15, .int .i64 x16, .int .i64 x17] := by rw [← hw3]; exact (((((((O2.out.far (p := ⟨P, 11, none⟩) (by have := N1.out.size; have := B1.out.lt; have := HWP.out.2; show w.heap.size ≠ P; omega) (.int .u32 x11)).far (p := ⟨P, 12, none⟩) (by have := N1.out.size; have := B1.out.lt; have := HWP.out.2; show w.heap.size ≠ P; omega) (.int .i64 x12)).far (p := ⟨P, 13, none⟩) (by have := N1.out.size; have := B1.out.lt; have := HWP.out.2; show w.heap.size ≠ P; omega) (.int .i64 x13)).far (p := ⟨P, 14, none⟩) (by have := N1.out.size; have := B1.out.lt; have := HWP.out.2; show w.heap.size ≠ P; omega) (.int .i64 x14)).far (p := ⟨P, 15, none⟩) (by have := N1.out.size; have := B1.out.lt; have := HWP.out.2; show w.heap.size ≠ P; omega) (.int .i64 x15)).far (p := ⟨P, 16, none⟩) (by have := N1.out.size; have := B1.out.lt; have := HWP.out.2; show w.heap.size ≠ P; omega) (.int .i64 x16)).far (p := ⟨P, 17, none⟩) (by have := N1.out.size; have := B1.out.lt; have := HWP.out.2; show w.heap.size ≠ P; omega) (.int .i64 x17))
      have n3 : Nw w w3 := by rw [← hw3]; exact (Nw.set (Nw.set (Nw.set (Nw.set (Nw.set (Nw.set (Nw.set (Nw.trans N1.out N2.out) (by have := N1.out.size; have := HWP.out.2; show w.heap.size ≤ P; omega) (.int .u32 x11)) (by have := N1.out.size; have := HWP.out.2; show w.heap.size ≤ P; omega) (.int .i64 x12)) (by have := N1.out.size; have := HWP.out.2; show w.heap.size ≤ P; omega) (.int .i64 x13)) (by have := N1.out.size; have := HWP.out.2; show w.heap.size ≤ P; omega) (.int .i64 x14)) (by have := N1.out.size; have := HWP.out.2; show w.heap.size ≤ P; omega) (.int .i64 x15)) (by have := N1.out.size; have := HWP.out.2; show w.heap.size ≤ P; omega) (.int .i64 x16)) (by have := N1.out.size; have := HWP.out.2; show w.heap.size ≤ P; omega) (.int .i64 x17))
      have B3 := Lib.hid b3
      have O3 := Lib.hid o3
      have N3 := Lib.hid n3
      clear b3 o3 n3 hw3 u0 u11 v11 z11 u12 v12 z12 u13 v13 z13 u14 v14 z14 u15 v15 z15 u16 v16 z16 u17 v17 z17
      have HI3 := Lib.hid (show (Try.prog.info? 42).map (·.size) = some (#[.int .i64 4, .int .u32 0, .int .i64 0, .int .i64 0, .slice none 0 0, .int .i64 0, .int .i64 0, .int .i64 0, .int .i64 0, .int .i64 0, .int .i64 0, .int .u32 x11, .int .i64 x12, .int .i64 x13, .int .i64 x14, .int .i64 x15, .int .i64 x16, .int .i64 x17] : Array Value).size by kernel_rfl)
      have HIQ := Lib.hid (show (Try.prog.info? 42).map (·.size) = some (#[.int .i64 4, .int .u32 x1, .int .i64 x2, .int .i64 x3, .slice A x4.length c, .int .i64 x5, .int .i64 x6, .int .i64 x7, .int .i64 x8, .int .i64 x9, .int .i64 x10, .int .u32 x11, .int .i64 x12, .int .i64 x13, .int .i64 x14, .int .i64 x15, .int .i64 x16, .int .i64 x17] : Array Value).size by kernel_rfl)
      go_wp2_with (first | (refine wpList_load_row rfl 42 _ rfl P rfl 42 #[.int .i64 4, .int .u32 0, .int .i64 0, .int .i64 0, .slice none 0 0, .int .i64 0, .int .i64 0, .int .i64 0, .int .i64 0, .int .i64 0, .int .i64 0, .int .u32 x11, .int .i64 x12, .int .i64 x13, .int .i64 x14, .int .i64 x15, .int .i64 x16, .int .i64 x17] (0, 0) (.struct d) B3.out HD.out rfl HI3.out ?_) | (refine wpList_load_row rfl 42 _ rfl w.heap.size rfl 42 #[.int .i64 4, .int .u32 x1, .int .i64 x2, .int .i64 x3, .slice A x4.length c, .int .i64 x5, .int .i64 x6, .int .i64 x7, .int .i64 x8, .int .i64 x9, .int .i64 x10, .int .u32 x11, .int .i64 x12, .int .i64 x13, .int .i64 x14, .int .i64 x15, .int .i64 x16, .int .i64 x17] (0, 0) (.struct d) O3.out HD.out rfl HIQ.out ?_))
      refine (refRs_any w3 ⟨4, 0, 0, 0, [], 0, 0, 0, 0, 0, 0, x11, x12, x13, x14, x15, x16, x17⟩ ⟨4, x1, x2, x3, x4, x5, x6, x7, x8, x9, x10, x11, x12, x13, x14, x15, x16, x17⟩ none A 0 c (.inl rfl) (Rd.nw HA.out N3.out) (by have := HM.out; simp; try omega) (by have := HM.out; simp; omega)).mono ?_
      rintro e w4 ⟨rfl, n4⟩
      rw [HF.out]
      have N4 := Lib.hid n4
      clear n4
      go_wp2_with fail
      go_ret
      exact ⟨rfl, Nw.trans N3.out N4.out⟩
  obtain rfl : x0 = 5 := by omega
  as_aux_lemma =>
    have HF := Lib.hid (show Value.bool (decide ((⟨5, 0, x2, 0, [], 0, 0, 0, 0, 0, 0, 0, 0, 0, 0, 0, 0, 0⟩ : Rs) = ⟨5, x1, x2, x3, x4, x5, x6, x7, x8, x9, x10, x11, x12, x13, x14, x15, x16, x17⟩)) = Value.bool (mayS ⟨5, x1, x2, x3, x4, x5, x6, x7, x8, x9, x10, x11, x12, x13, x14, x15, x16, x17⟩) by
      rw [mayS_yes (show inS ⟨5, x1, x2, x3, x4, x5, x6, x7, x8, x9, x10, x11, x12, x13, x14, x15, x16, x17⟩ from HIN.out)]
      simp [onlyS, Rs.zero])
    go_upto_region 4 with (refine wpList_store_row rfl 42 _ _ rfl w1.heap.size #[.int .i64 5, .int .u32 0, .int .i64 0, .int .i64 0, .slice none 0 0, .int .i64 0, .int .i64 0, .int .i64 0, .int .i64 0, .int .i64 0, .int .i64 0, .int .u32 0, .int .i64 0, .int .i64 0, .int .i64 0, .int .i64 0, .int .i64 0, .int .i64 0] rfl rfl 42 _ (heap_last _ _ rfl) (HJ.out _) rfl (H2.out _) ?_; rw [World.setRow_alloc_new])
    obtain ⟨w2, hw2⟩ : ∃ w2, w1.alloc (.cells #[.int .i64 5, .int .u32 0, .int .i64 0, .int .i64 0, .slice none 0 0, .int .i64 0, .int .i64 0, .int .i64 0, .int .i64 0, .int .i64 0, .int .i64 0, .int .u32 0, .int .i64 0, .int .i64 0, .int .i64 0, .int .i64 0, .int .i64 0, .int .i64 0] 42) = w2 := ⟨_, rfl⟩
    obtain ⟨P, hP⟩ : ∃ P, w1.heap.size = P := ⟨_, rfl⟩
    rw [hw2, hP]
    have b2 : Blk w2 P 42 #[.int .i64 5, .int .u32 0, .int .i64 0, .int .i64 0, .slice none 0 0, .int .i64 0, .int .i64 0, .int .i64 0, .int .i64 0, .int .i64 0, .int .i64 0, .int .u32 0, .int .i64 0, .int .i64 0, .int .i64 0, .int .i64 0, .int .i64 0, .int .i64 0] := by rw [← hw2]; exact Blk.last w1 _ _ hP
    have n2 : Nw w1 w2 := by rw [← hw2]; exact (Nw.refl w1).alloc _
    have o2 : Blk w2 w.heap.size 42 #[.int .i64 5, .int .u32 x1, .int .i64 x2, .int .i64 x3, .slice A x4.length c, .int .i64 x5, .int .i64 x6, .int .i64 x7, .int .i64 x8, .int .i64 x9, .int .i64 x10, .int .u32 x11, .int .i64 x12, .int .i64 x13, .int .i64 x14, .int .i64 x15, .int .i64 x16, .int .i64 x17] := B1.out.below n2 B1.out.lt
    clear u0
    have u0 : w2.cell? ⟨w.heap.size, 0, none⟩ = some (.int .i64 5) := (o2.cell 0).trans rfl
    have u2 : w2.cell? ⟨w.heap.size, 2, none⟩ = some (.int .i64 x2) := (o2.cell 2).trans rfl
    have v2 : w2.cell? ⟨P, 2, none⟩ = some (.int .i64 0) := (b2.cell 2).trans rfl
    have z2 := b2.frozen 2
    have B2 := Lib.hid b2
    have N2 := Lib.hid n2
    have O2 := Lib.hid o2
    have HWP := Lib.hid (And.intro hw2 hP)
    clear b2 n2 o2 hw2 hP
    go_upto_region 20 with (fail)
    obtain ⟨w3, hw3⟩ : ∃ w3, (w2.setCell ⟨P, 2, none⟩ (.int .i64 x2)) = w3 := ⟨_, rfl⟩
    rw [hw3]
    have b3 : Blk w3 P 42 #[.int .i64 5, .int .u32 0, .int .i64 x2, .int .i64 0, .slice none 0 0, .int .i64 0, .int .i64 0, .int .i64 0, .int .i64 0, .int .i64 0, .int .i64 0, .int .u32 0, .int .i64 0, .int .i64 0, .int .i64 0, .int .i64 0, .int .i64 0, .int .i64 0] := by rw [← hw3]; exact (B2.out.set_ 2 (.int .i64 x2))
    have o3 : Blk w3 w.heap.size 42 #[.int .i64 5, .int .u32 x1, .int .i64 x2, .int .i64 x3, .slice A x4.length c, .int .i64 x5, .int .i64 x6, .int .i64 x7, .int .i64 x8, .int .i64 x9, .int .i64 x10, .int .u32 x11, .int .i64 x12, .int .i64 x13, .int .i64 x14, .int .i64 x15, .int .i64 x16, .int .i64 x17] := by rw [← hw3]; exact (O2.out.far (p := ⟨P, 2, none⟩) (by have := N1.out.size; have := B1.out.lt; have := HWP.out.2; show w.heap.size ≠ P; omega) (.int .i64 x2))
    have n3 : Nw w w3 := by rw [← hw3]; exact (Nw.set (Nw.trans N1.out N2.out) (by have := N1.out.size; have := HWP.out.2; show w.heap.size ≤ P; omega) (.int .i64 x2))
    have B3 := Lib.hid b3
    have O3 := Lib.hid o3
    have N3 := Lib.hid n3
    clear b3 o3 n3 hw3 u0 u2 v2 z2
    have HI3 := Lib.hid (show (Try.prog.info? 42).map (·.size) = some (#[.int .i64 5, .int .u32 0, .int .i64 x2, .int .i64 0, .slice none 0 0, .int .i64 0, .int .i64 0, .int .i64 0, .int .i64 0, .int .i64 0, .int .i64 0, .int .u32 0, .int .i64 0, .int .i64 0, .int .i64 0, .int .i64 0, .int .i64 0, .int .i64 0] : Array Value).size by kernel_rfl)
    have HIQ := Lib.hid (show (Try.prog.info? 42).map (·.size) = some (#[.int .i64 5, .int .u32 x1, .int .i64 x2, .int .i64 x3, .slice A x4.length c, .int .i64 x5, .int .i64 x6, .int .i64 x7, .int .i64 x8, .int .i64 x9, .int .i64 x10, .int .u32 x11, .int .i64 x12, .int .i64 x13, .int .i64 x14, .int .i64 x15, .int .i64 x16, .int .i64 x17] : Array Value).size by kernel_rfl)
    go_wp2_with (first | (refine wpList_load_row rfl 42 _ rfl P rfl 42 #[.int .i64 5, .int .u32 0, .int .i64 x2, .int .i64 0, .slice none 0 0, .int .i64 0, .int .i64 0, .int .i64 0, .int .i64 0, .int .i64 0, .int .i64 0, .int .u32 0, .int .i64 0, .int .i64 0, .int .i64 0, .int .i64 0, .int .i64 0, .int .i64 0] (0, 0) (.struct d) B3.out HD.out rfl HI3.out ?_) | (refine wpList_load_row rfl 42 _ rfl w.heap.size rfl 42 #[.int .i64 5, .int .u32 x1, .int .i64 x2, .int .i64 x3, .slice A x4.length c, .int .i64 x5, .int .i64 x6, .int .i64 x7, .int .i64 x8, .int .i64 x9, .int .i64 x10, .int .u32 x11, .int .i64 x12, .int .i64 x13, .int .i64 x14, .int .i64 x15, .int .i64 x16, .int .i64 x17] (0, 0) (.struct d) O3.out HD.out rfl HIQ.out ?_))
    refine (refRs_any w3 ⟨5, 0, x2, 0, [], 0, 0, 0, 0, 0, 0, 0, 0, 0, 0, 0, 0, 0⟩ ⟨5, x1, x2, x3, x4, x5, x6, x7, x8, x9, x10, x11, x12, x13, x14, x15, x16, x17⟩ none A 0 c (.inl rfl) (Rd.nw HA.out N3.out) (by have := HM.out; simp; try omega) (by have := HM.out; simp; omega)).mono ?_
    rintro e w4 ⟨rfl, n4⟩
    rw [HF.out]
    have N4 := Lib.hid n4
    clear n4
    go_wp2_with fail
    go_ret
    exact ⟨rfl, Nw.trans N3.out N4.out⟩
set_option maxHeartbeats 6400000 in
theorem mays7_er (w : World) (p : Rs) (A : Option Addr) (c : Nat) (hA : IntsAt w A p.vs) (hk : 1 ≤ p.k ∧ p.k ≤ 5) (he : 16 < p.er) :
    Calls Try.prog 22 #[.agg (p.c A c).toArray] w fun e w' => e = .returned (.bool false) ∧ Nw w w' := by
  obtain ⟨x0, x1, x2, x3, x4, x5, x6, x7, x8, x9, x10, x11, x12, x13, x14, x15, x16, x17⟩ := p
  dsimp only at hA hk he
  have g0 : ¬ x0 < 1 := by omega
  have g1 : ¬ 5 < x0 := by omega
  have g2 : ¬ x2 < 0 := by omega
  obtain ⟨w1, hw1⟩ : ∃ w1, w.alloc (.cells #[.int .i64 x0, .int .u32 x1, .int .i64 x2, .int .i64 x3, .slice A x4.length c, .int .i64 x5, .int .i64 x6, .int .i64 x7, .int .i64 x8, .int .i64 x9, .int .i64 x10, .int .u32 x11, .int .i64 x12, .int .i64 x13, .int .i64 x14, .int .i64 x15, .int .i64 x16, .int .i64 x17] 42) = w1 := ⟨_, rfl⟩
  have b1 : Blk w1 w.heap.size 42 #[.int .i64 x0, .int .u32 x1, .int .i64 x2, .int .i64 x3, .slice A x4.length c, .int .i64 x5, .int .i64 x6, .int .i64 x7, .int .i64 x8, .int .i64 x9, .int .i64 x10, .int .u32 x11, .int .i64 x12, .int .i64 x13, .int .i64 x14, .int .i64 x15, .int .i64 x16, .int .i64 x17] := by rw [← hw1]; exact Blk.last w _ _ rfl
  have n1 : Nw w w1 := by rw [← hw1]; exact (Nw.refl w).alloc _
  have u0 : w1.cell? ⟨w.heap.size, 0, none⟩ = some (.int .i64 x0) := (b1.cell 0).trans rfl
  have u2 : w1.cell? ⟨w.heap.size, 2, none⟩ = some (.int .i64 x2) := (b1.cell 2).trans rfl
  have HW1 := Lib.hid hw1
  have B1 := Lib.hid b1
  have N1 := Lib.hid n1
  have HA := Lib.hid hA
  have E8 := Lib.hid (fun W n => eight_any W n)
  obtain ⟨d, hd⟩ := stRs
  have HD := Lib.hid hd
  simp only [Rs.c]
  clear hw1 b1 n1 hA hd
  go_enter Try.func22, Try.ntmps22
  go_wp2_with fail
  rw [HW1.out]
  go_ret
  exact ⟨rfl, N1.out⟩
end Go.Proofs.Ytnbcjjgilndlaaa
