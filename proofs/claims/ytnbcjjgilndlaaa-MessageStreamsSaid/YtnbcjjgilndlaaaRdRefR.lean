/- Messages: the document's bytes of a response of a kind. Helper. -/
import Derived.Test.YtnbcjjgilndlaaaRdRefN
namespace Go.Proofs.Ytnbcjjgilndlaaa
open Go.RowKit
set_option linter.unusedVariables false
set_option linter.unusedSimpArgs false
set_option maxRecDepth 100000
set_option maxHeartbeats 6400000
def keyB (T O S : Int) : List UInt8 := beW T 8 ++ beW O 1 ++ beW S 8
theorem join_four (w : World) (A A1 A2 A3 A4 : Option Addr) (n1 n2 n3 n4 c c1 c2 c3 c4 : Nat) (l1 l2 l3 l4 : List UInt8) (h : Rd w A [.slice A1 n1 c1, .slice A2 n2 c2, .slice A3 n3 c3, .slice A4 n4 c4]) (b1 : BytesAt w A1 l1) (b2 : BytesAt w A2 l2) (b3 : BytesAt w A3 l3) (b4 : BytesAt w A4 l4) (h1 : l1.length = n1) (h2 : l2.length = n2) (h3 : l3.length = n3) (h4 : l4.length = n4) (hl : n1 + n2 + n3 + n4 ≤ 1000000) :
    Calls Try.prog 40 #[.slice A 4 c] w (Txt7 w (l1 ++ l2 ++ l3 ++ l4)) := by
  subst h1 h2 h3 h4
  have ht : Tx.all [(A1, c1, l1), (A2, c2, l2), (A3, c3, l3), (A4, c4, l4)] = l1 ++ l2 ++ l3 ++ l4 := by simp [Tx.all]
  have hlen : (Tx.all [(A1, c1, l1), (A2, c2, l2), (A3, c3, l3), (A4, c4, l4)]).length = l1.length + l2.length + l3.length + l4.length := by rw [ht]; simp [Nat.add_assoc]
  refine (join7_any w A c [(A1, c1, l1), (A2, c2, l2), (A3, c3, l3), (A4, c4, l4)] h (by simp; exact ⟨b1, b2, b3, b4⟩) (by simp) (by rw [hlen]; omega)).mono ?_
  rintro e w' ⟨A', c', blk, rfl, ho, _, hn⟩
  obtain ⟨_, _, e2, hrd, hnc, _⟩ := ho.rd
  injection e2 with e3 _ e4
  subst e3 e4
  rw [ht] at hrd hnc ⊢
  exact ⟨_, _, rfl, hrd, hnc, hn⟩
theorem join_six (w : World) (A A1 A2 A3 A4 A5 A6 : Option Addr) (n1 n2 n3 n4 n5 n6 c c1 c2 c3 c4 c5 c6 : Nat) (l1 l2 l3 l4 l5 l6 : List UInt8) (h : Rd w A [.slice A1 n1 c1, .slice A2 n2 c2, .slice A3 n3 c3, .slice A4 n4 c4, .slice A5 n5 c5, .slice A6 n6 c6]) (b1 : BytesAt w A1 l1) (b2 : BytesAt w A2 l2) (b3 : BytesAt w A3 l3) (b4 : BytesAt w A4 l4) (b5 : BytesAt w A5 l5) (b6 : BytesAt w A6 l6) (h1 : l1.length = n1) (h2 : l2.length = n2) (h3 : l3.length = n3) (h4 : l4.length = n4) (h5 : l5.length = n5) (h6 : l6.length = n6) (hl : n1 + n2 + n3 + n4 + n5 + n6 ≤ 1000000) :
    Calls Try.prog 40 #[.slice A 6 c] w (Txt7 w (l1 ++ l2 ++ l3 ++ l4 ++ l5 ++ l6)) := by
  subst h1 h2 h3 h4 h5 h6
  have ht : Tx.all [(A1, c1, l1), (A2, c2, l2), (A3, c3, l3), (A4, c4, l4), (A5, c5, l5), (A6, c6, l6)] = l1 ++ l2 ++ l3 ++ l4 ++ l5 ++ l6 := by simp [Tx.all]
  have hlen : (Tx.all [(A1, c1, l1), (A2, c2, l2), (A3, c3, l3), (A4, c4, l4), (A5, c5, l5), (A6, c6, l6)]).length = l1.length + l2.length + l3.length + l4.length + l5.length + l6.length := by rw [ht]; simp [Nat.add_assoc]
  refine (join7_any w A c [(A1, c1, l1), (A2, c2, l2), (A3, c3, l3), (A4, c4, l4), (A5, c5, l5), (A6, c6, l6)] h (by simp; exact ⟨b1, b2, b3, b4, b5, b6⟩) (by simp) (by rw [hlen]; omega)).mono ?_
  rintro e w' ⟨A', c', blk, rfl, ho, _, hn⟩
  obtain ⟨_, _, e2, hrd, hnc, _⟩ := ho.rd
  injection e2 with e3 _ e4
  subst e3 e4
  rw [ht] at hrd hnc ⊢
  exact ⟨_, _, rfl, hrd, hnc, hn⟩
theorem join_fourO (w : World) (A A1 A2 A3 A4 : Option Addr) (n1 n2 n3 n4 c c1 c2 c3 c4 : Nat) (l1 l2 l3 l4 : List UInt8) (h : Rd w A [.slice A1 n1 c1, .slice A2 n2 c2, .slice A3 n3 c3, .slice A4 n4 c4]) (b1 : BytesAt w A1 l1) (b2 : BytesAt w A2 l2) (b3 : BytesAt w A3 l3) (b4 : BytesAt w A4 l4) (h1 : l1.length = n1) (h2 : l2.length = n2) (h3 : l3.length = n3) (h4 : l4.length = n4) (hl : n1 + n2 + n3 + n4 ≤ 1000000) :
    Calls Try.prog 40 #[.slice A 4 c] w (fun e w' => ∃ A' c' blk, e = .returned (.slice A' (n1 + n2 + n3 + n4) c') ∧ Own w' 5 1 (.slice A' (n1 + n2 + n3 + n4) c') (n1 + n2 + n3 + n4) (bcells (l1 ++ l2 ++ l3 ++ l4)) blk ∧ (∀ g, blk = some g → w.heap.size ≤ g) ∧ Nw w w') := by
  subst h1 h2 h3 h4
  have ht : Tx.all [(A1, c1, l1), (A2, c2, l2), (A3, c3, l3), (A4, c4, l4)] = l1 ++ l2 ++ l3 ++ l4 := by simp [Tx.all]
  have hlen : (Tx.all [(A1, c1, l1), (A2, c2, l2), (A3, c3, l3), (A4, c4, l4)]).length = l1.length + l2.length + l3.length + l4.length := by rw [ht]; simp [Nat.add_assoc]
  refine (join7_any w A c [(A1, c1, l1), (A2, c2, l2), (A3, c3, l3), (A4, c4, l4)] h (by simp; exact ⟨b1, b2, b3, b4⟩) (by simp) (by rw [hlen]; omega)).mono ?_
  rintro e w' ⟨A', c', blk, rfl, ho, hb, hn⟩
  rw [hlen, ht] at ho
  rw [hlen]
  exact ⟨A', c', blk, rfl, ho, hb, hn⟩
theorem key7_any (w : World) (T O S : Int) : Calls Try.prog 44 #[.agg #[.int .i64 T, .int .i64 O, .int .i64 S]] w (Txt7 w (keyB T O S)) := by
  obtain ⟨w3, hw1⟩ : ∃ w1, w.alloc (.cells #[.int .i64 T, .int .i64 O, .int .i64 S] 27) = w1 := ⟨_, rfl⟩
  have b1 : Blk w3 w.heap.size 27 #[.int .i64 T, .int .i64 O, .int .i64 S] := by rw [← hw1]; exact Blk.last w _ _ rfl
  have n1 : Nw w w3 := by rw [← hw1]; exact (Nw.refl w).alloc _
  have v0 : w3.cell? ⟨w.heap.size, 0, none⟩ = some (.int .i64 T) := (b1.cell 0).trans rfl
  have v1 : w3.cell? ⟨w.heap.size, 1, none⟩ = some (.int .i64 O) := (b1.cell 1).trans rfl
  have v2 : w3.cell? ⟨w.heap.size, 2, none⟩ = some (.int .i64 S) := (b1.cell 2).trans rfl
  have HW1 := Lib.hid hw1
  have N1 := Lib.hid n1
  clear hw1 b1 n1
  go_enter Try.func44, Try.ntmps44
  go_upto_region 1 with (fail)
  rw [HW1.out]
  have HSS := Lib.hid (show ∀ W, NwI w3 W → (fun W => NwI w3 W ∧ W.cell? ⟨w.heap.size, 0, none⟩ = some (.int .i64 T) ∧ W.cell? ⟨w.heap.size, 1, none⟩ = some (.int .i64 O) ∧ W.cell? ⟨w.heap.size, 2, none⟩ = some (.int .i64 S)) W from fun W h => ⟨h, h.h.cell v0, h.h.cell v1, h.h.cell v2⟩)
  clear v0 v1 v2
  go_upto_region 1 with (fail)
  go_region_held3 (fun W => NwI w3 W ∧ W.cell? ⟨w.heap.size, 0, none⟩ = some (.int .i64 T) ∧ W.cell? ⟨w.heap.size, 1, none⟩ = some (.int .i64 O) ∧ W.cell? ⟨w.heap.size, 2, none⟩ = some (.int .i64 S)) ((refine HSS.out _ ?_; repeat (first | assumption | exact ⟨Nw.refl w3⟩ | refine NwI.drew ?_ | refine NwI.alloc ?_ _))) (first
    | (go_at_call 43; refine (long7_any _ T).mono ?_; rintro e w10 ⟨A10, c10, rfl, b10, g10, m10⟩; have i10 : NwI w3 w10 := NwI.step (by repeat (first | assumption | exact ⟨Nw.refl w3⟩ | refine NwI.drew ?_)) m10)
    | (go_at_call 42; refine (small7_any _ O).mono ?_; rintro e w11 ⟨A11, c11, rfl, b11, g11, m11⟩; have i11 : NwI w3 w11 := NwI.step (by repeat (first | assumption | exact ⟨Nw.refl w3⟩ | refine NwI.drew ?_)) m11)
    | (go_at_call 43; refine (long7_any _ S).mono ?_; rintro e w12 ⟨A12, c12, rfl, b12, g12, m12⟩; have i12 : NwI w3 w12 := NwI.step (by repeat (first | assumption | exact ⟨Nw.refl w3⟩ | refine NwI.drew ?_)) m12)
    | (go_at_call 40; refine (join_three _ _ A10 A11 A12 8 1 8 _ c10 c11 c12 (beW T 8) (beW O 1) (beW S 8) (rd_last_row _ _ _) (Rd.nw b10 (by repeat (first | assumption | exact Nw.refl _ | refine Nw.alloc ?_ _ | refine Nw.drew ?_ | refine Nw.trans ?_ (by assumption)))) (Rd.nw b11 (by repeat (first | assumption | exact Nw.refl _ | refine Nw.alloc ?_ _ | refine Nw.drew ?_ | refine Nw.trans ?_ (by assumption)))) (Rd.nw b12 (by repeat (first | assumption | exact Nw.refl _ | refine Nw.alloc ?_ _ | refine Nw.drew ?_ | refine Nw.trans ?_ (by assumption)))) (by simp [beW_length, keyB]) (by simp [beW_length, keyB]) (by simp [beW_length, keyB]) (by omega)).mono ?_; rintro e w5 ⟨A5, c5, rfl, h5, h6, n5⟩; have i5 : NwI w3 w5 := NwI.step (by repeat (first | assumption | refine NwI.alloc ?_ _)) n5))
  all_goals
    go_wp2_with fail
    go_ret
    exact ⟨A5, c5, by simp [beW_length, keyB], h5, h6, Nw.trans N1.out i5.h⟩
end Go.Proofs.Ytnbcjjgilndlaaa
/- Messages: the document's bytes of a response. Helper. -/
namespace Go.Proofs.Ytnbcjjgilndlaaa
open Go.RowKit
set_option linter.unusedVariables false
set_option linter.unusedSimpArgs false
set_option maxRecDepth 100000
def encB (p : Rs) : List UInt8 :=
  if p.k = 1 then beW p.k 1 ++ beW p.id 4 ++ beW p.er 1 ++ beW p.fl 8
  else if p.k = 2 then beW p.k 1 ++ beW p.id 4 ++ beW p.fl 8 ++ beW (p.vs.length : Int) 1 ++ p.vs.flatMap fun v => beW v 8
  else if p.k = 3 then beW p.k 1 ++ keyB p.rT p.rO p.rS ++ beW p.rp 1 ++ beW p.rn 1 ++ beW p.rv 8
  else if p.k = 4 then beW p.k 1 ++ beW p.nu 4 ++ keyB p.T p.O p.S ++ beW p.tt 1 ++ beW p.kd 1 ++ beW p.da 8
  else beW p.k 1 ++ beW p.er 1
theorem flat8_len (l : List Int) : (l.flatMap fun v => beW v 8).length = 8 * l.length := by
  induction l with
  | nil => rfl
  | cons a l ih => simp only [List.flatMap_cons, List.length_append, beW_length, ih, List.length_cons]; omega
theorem fresh_le {w3 W : World} {a g : Nat} (s : a ≤ w3.heap.size) (h6 : W.heap.size ≤ g) (h : NwI w3 W) : a ≤ g := Nat.le_trans s (Nat.le_trans h.h.size h6)
theorem own_txt2 {w w9 : World} {A9 : Option Addr} {c9 : Nat} {x2 x0 : Int} {b9 : Option Nat} (h : Own w9 5 1 (.slice A9 (1 + 1) c9) (1 + 1) ([.int .u8 x0] ++ bcells (beW x2 1)) b9) (hx : bcells (beW x0 1) = [.int .u8 x0]) (n : Nw w w9) : Txt7 w (beW x0 1 ++ beW x2 1) (.returned (.slice A9 (1 + 1) c9)) w9 := by
  have := own_txt (B := beW x2 1) (by rw [beW_length]; exact h) hx n
  rw [beW_length] at this
  exact this
/-- A response that is within bounds. -/
structure Rs.In (p : Rs) : Prop where
  k : 1 ≤ p.k ∧ p.k ≤ 5
  id : 0 ≤ p.id ∧ p.id < 4294967296
  nu : 0 ≤ p.nu ∧ p.nu < 4294967296
  vs : p.vs.length ≤ 200
end Go.Proofs.Ytnbcjjgilndlaaa
/- Messages: the document's bytes of a response of a kind. Helper. -/
namespace Go.Proofs.Ytnbcjjgilndlaaa
open Go.RowKit
set_option linter.unusedVariables false
set_option linter.unusedSimpArgs false
set_option maxRecDepth 100000
set_option maxHeartbeats 6400000
theorem enc7_0 (w : World) (p : Rs) (A : Option Addr) (c : Nat) (hk : p.k ≠ 1 ∧ p.k ≠ 2 ∧ p.k ≠ 3 ∧ p.k ≠ 4) (hA : IntsAt w A p.vs) (hin : p.In) :
    Calls Try.prog 24 #[.agg (p.c A c).toArray] w (Txt7 w (encB p)) := by
  obtain ⟨x0, x1, x2, x3, x4, x5, x6, x7, x8, x9, x10, x11, x12, x13, x14, x15, x16, x17⟩ := p
  dsimp only at hA hk
  obtain ⟨k1, k2, k3, k4⟩ := hk
  have henc : encB ⟨x0, x1, x2, x3, x4, x5, x6, x7, x8, x9, x10, x11, x12, x13, x14, x15, x16, x17⟩ = beW x0 1 ++ beW x2 1 := by simp [encB, k1, k2, k3, k4]
  rw [henc]
  have j1 : (x0 == 1) = false := by simp [k1]
  have j2 : (x0 == 2) = false := by simp [k2]
  have j3 : (x0 == 3) = false := by simp [k3]
  have j4 : (x0 == 4) = false := by simp [k4]
  obtain ⟨w1, hw1⟩ : ∃ w1, w.alloc (.cells #[.int .i64 x0, .int .u32 x1, .int .i64 x2, .int .i64 x3, .slice A x4.length c, .int .i64 x5, .int .i64 x6, .int .i64 x7, .int .i64 x8, .int .i64 x9, .int .i64 x10, .int .u32 x11, .int .i64 x12, .int .i64 x13, .int .i64 x14, .int .i64 x15, .int .i64 x16, .int .i64 x17] 42) = w1 := ⟨_, rfl⟩
  have b1 : Blk w1 w.heap.size 42 #[.int .i64 x0, .int .u32 x1, .int .i64 x2, .int .i64 x3, .slice A x4.length c, .int .i64 x5, .int .i64 x6, .int .i64 x7, .int .i64 x8, .int .i64 x9, .int .i64 x10, .int .u32 x11, .int .i64 x12, .int .i64 x13, .int .i64 x14, .int .i64 x15, .int .i64 x16, .int .i64 x17] := by rw [← hw1]; exact Blk.last w _ _ rfl
  have n1 : Nw w w1 := by rw [← hw1]; exact (Nw.refl w).alloc _
  have u0 : w1.cell? ⟨w.heap.size, 0, none⟩ = some (.int .i64 x0) := (b1.cell 0).trans rfl
  have g0 : IntKind.u8.wrap x0 = x0 := by have := hin.k; dsimp only at this; rw [IntKind.wrap_u8]; omega
  have HX := Lib.hid (show bcells (beW x0 1) = [.int .u8 x0] by simp [bcells, beW, byteOf_cell, g0])
  have HW1 := Lib.hid hw1
  have S1 := Lib.hid (show w1.heap.size = w.heap.size + 1 by rw [← hw1]; simp)
  have B1 := Lib.hid b1
  have N1 := Lib.hid n1
  have HA := Lib.hid hA
  have HIN := Lib.hid hin
  simp only [Rs.c]
  clear hw1 b1 n1 hA henc hin
  go_enter Try.func24, Try.ntmps24
  go_upto_region 2 with (fail)
  rw [HW1.out]
  obtain ⟨w3, hw3⟩ : ∃ w3, w1.alloc (.cells #[.int .u8 x0] 5) = w3 := ⟨_, rfl⟩
  obtain ⟨G, hG⟩ : ∃ G, w.heap.size + 1 = G := ⟨_, rfl⟩
  have ho3 : Own w3 5 1 (.slice (some ⟨G, 0, none⟩) 1 1) 1 [.int .u8 x0] (some G) := by rw [← hw3, ← hG, ← S1.out]; exact own_new w1 _
  have b3 : Blk w3 w.heap.size 42 #[.int .i64 x0, .int .u32 x1, .int .i64 x2, .int .i64 x3, .slice A x4.length c, .int .i64 x5, .int .i64 x6, .int .i64 x7, .int .i64 x8, .int .i64 x9, .int .i64 x10, .int .u32 x11, .int .i64 x12, .int .i64 x13, .int .i64 x14, .int .i64 x15, .int .i64 x16, .int .i64 x17] := by rw [← hw3]; exact B1.out.alloc _
  have n3 : Nw w w3 := by rw [← hw3]; exact N1.out.alloc _
  have hy3 : BytesAt w3 (some ⟨G, 0, none⟩) (beW x0 1) := by
    obtain ⟨_, _, e2, hrd, _⟩ := ho3.rd
    injection e2 with e3 _ e4
    subst e3 e4
    show Rd w3 _ (bcells (beW x0 1))
    rw [HX.out]; exact hrd
  have S3 := Lib.hid (show w.heap.size + 1 ≤ w3.heap.size by rw [← hw3, ← S1.out]; simp)
  rw [hw3, hG]
  clear u0 g0
  have u0 : w3.cell? ⟨w.heap.size, 0, none⟩ = some (.int .i64 x0) := (b3.cell 0).trans rfl
  have u2 : w3.cell? ⟨w.heap.size, 2, none⟩ = some (.int .i64 x2) := (b3.cell 2).trans rfl
  have HO3 := Lib.hid ho3
  have B3 := Lib.hid b3
  have N3 := Lib.hid n3
  have HY3 := Lib.hid hy3
  have HG := Lib.hid hG
  clear hw3 ho3 b3 n3 hy3 hG
  obtain ⟨i0, hi0, hz0, hz1, hz2⟩ := info_parts infoU8
  have HL1 := Lib.hid hi0
  have HL2 := Lib.hid hz0
  have HL3 := Lib.hid hz1
  have HL4 := Lib.hid hz2
  clear hi0 hz0 hz1 hz2
  obtain ⟨y, hy⟩ : ∃ y, IntKind.u8.wrap x2 = y := ⟨_, rfl⟩
  have HY := Lib.hid (show bcells (beW x2 1) = [.int .u8 y] by simp [bcells, beW, byteOf_cell, hy])
  go_wp2_with (at_builtin; refine wpList_append_at _ rfl _ _ _ rfl 5 i0 _ 1 1 Try.underlying22 HL1.out HL2.out HL3.out HL4.out rfl (by omega) _ 1 [.int .u8 x0] (some G) rfl (HO3.out.kept fun g hg => by injection hg with hg; rw [← hg]; exact Below.heap_alloc _ _ _ (HO3.out.lt _ rfl)) _ 1 1 (bcells (beW x2 1)) rfl (by rw [bcells_length, beW_length]) (by rw [HY.out]; exact rd_last_row _ _ _) (bcells_one _) (by simp only [maxLen]; omega) (by omega) ?_; intro A9 c9 w9 b9 hown hchg hat; have HO9 := Lib.hid hown; have HC9 := Lib.hid hchg; clear hown hchg hat)
  go_ret
  refine own_txt2 HO9.out HX.out ?_
  have h3 : Nw w w3 := N3.out
  exact Below.trans (h3.alloc _) (HC9.out.below (fun k hk hq => by injection hq with hq; have := HG.out; have := N1.out.size; omega) (h3.alloc _).size)
end Go.Proofs.Ytnbcjjgilndlaaa
/- Messages: the document's bytes of a response of a kind. Helper. -/
namespace Go.Proofs.Ytnbcjjgilndlaaa
open Go.RowKit
set_option linter.unusedVariables false
set_option linter.unusedSimpArgs false
set_option maxRecDepth 100000
set_option maxHeartbeats 6400000
theorem enc7_1 (w : World) (p : Rs) (A : Option Addr) (c : Nat) (hk : p.k = 1) (hA : IntsAt w A p.vs) (hin : p.In) :
    Calls Try.prog 24 #[.agg (p.c A c).toArray] w (Txt7 w (encB p)) := by
  obtain ⟨x0, x1, x2, x3, x4, x5, x6, x7, x8, x9, x10, x11, x12, x13, x14, x15, x16, x17⟩ := p
  dsimp only at hA hk
  subst hk
  have henc : encB ⟨1, x1, x2, x3, x4, x5, x6, x7, x8, x9, x10, x11, x12, x13, x14, x15, x16, x17⟩ = beW 1 1 ++ beW x1 4 ++ beW x2 1 ++ beW x3 8 := by simp [encB]
  rw [henc]
  obtain ⟨w1, hw1⟩ : ∃ w1, w.alloc (.cells #[.int .i64 1, .int .u32 x1, .int .i64 x2, .int .i64 x3, .slice A x4.length c, .int .i64 x5, .int .i64 x6, .int .i64 x7, .int .i64 x8, .int .i64 x9, .int .i64 x10, .int .u32 x11, .int .i64 x12, .int .i64 x13, .int .i64 x14, .int .i64 x15, .int .i64 x16, .int .i64 x17] 42) = w1 := ⟨_, rfl⟩
  have b1 : Blk w1 w.heap.size 42 #[.int .i64 1, .int .u32 x1, .int .i64 x2, .int .i64 x3, .slice A x4.length c, .int .i64 x5, .int .i64 x6, .int .i64 x7, .int .i64 x8, .int .i64 x9, .int .i64 x10, .int .u32 x11, .int .i64 x12, .int .i64 x13, .int .i64 x14, .int .i64 x15, .int .i64 x16, .int .i64 x17] := by rw [← hw1]; exact Blk.last w _ _ rfl
  have n1 : Nw w w1 := by rw [← hw1]; exact (Nw.refl w).alloc _
  have u0 : w1.cell? ⟨w.heap.size, 0, none⟩ = some (.int .i64 1) := (b1.cell 0).trans rfl
  have g0 : IntKind.u8.wrap 1 = 1 := by have := hin.k; dsimp only at this; rw [IntKind.wrap_u8]; omega
  have HX := Lib.hid (show bcells (beW 1 1) = [.int .u8 1] by simp [bcells, beW, byteOf_cell, g0])
  have HW1 := Lib.hid hw1
  have S1 := Lib.hid (show w1.heap.size = w.heap.size + 1 by rw [← hw1]; simp)
  have B1 := Lib.hid b1
  have N1 := Lib.hid n1
  have HA := Lib.hid hA
  have HIN := Lib.hid hin
  simp only [Rs.c]
  clear hw1 b1 n1 hA henc hin
  go_enter Try.func24, Try.ntmps24
  go_upto_region 2 with (fail)
  rw [HW1.out]
  obtain ⟨w3, hw3⟩ : ∃ w3, w1.alloc (.cells #[.int .u8 1] 5) = w3 := ⟨_, rfl⟩
  obtain ⟨G, hG⟩ : ∃ G, w.heap.size + 1 = G := ⟨_, rfl⟩
  have ho3 : Own w3 5 1 (.slice (some ⟨G, 0, none⟩) 1 1) 1 [.int .u8 1] (some G) := by rw [← hw3, ← hG, ← S1.out]; exact own_new w1 _
  have b3 : Blk w3 w.heap.size 42 #[.int .i64 1, .int .u32 x1, .int .i64 x2, .int .i64 x3, .slice A x4.length c, .int .i64 x5, .int .i64 x6, .int .i64 x7, .int .i64 x8, .int .i64 x9, .int .i64 x10, .int .u32 x11, .int .i64 x12, .int .i64 x13, .int .i64 x14, .int .i64 x15, .int .i64 x16, .int .i64 x17] := by rw [← hw3]; exact B1.out.alloc _
  have n3 : Nw w w3 := by rw [← hw3]; exact N1.out.alloc _
  have hy3 : BytesAt w3 (some ⟨G, 0, none⟩) (beW 1 1) := by
    obtain ⟨_, _, e2, hrd, _⟩ := ho3.rd
    injection e2 with e3 _ e4
    subst e3 e4
    show Rd w3 _ (bcells (beW 1 1))
    rw [HX.out]; exact hrd
  have S3 := Lib.hid (show w.heap.size + 1 ≤ w3.heap.size by rw [← hw3, ← S1.out]; simp)
  rw [hw3, hG]
  clear u0 g0
  have u0 : w3.cell? ⟨w.heap.size, 0, none⟩ = some (.int .i64 1) := (b3.cell 0).trans rfl
  have u1 : w3.cell? ⟨w.heap.size, 1, none⟩ = some (.int .u32 x1) := (b3.cell 1).trans rfl
  have u2 : w3.cell? ⟨w.heap.size, 2, none⟩ = some (.int .i64 x2) := (b3.cell 2).trans rfl
  have u3 : w3.cell? ⟨w.heap.size, 3, none⟩ = some (.int .i64 x3) := (b3.cell 3).trans rfl
  have HO3 := Lib.hid ho3
  have B3 := Lib.hid b3
  have N3 := Lib.hid n3
  have HY3 := Lib.hid hy3
  have HG := Lib.hid hG
  clear hw3 ho3 b3 n3 hy3 hG
  go_upto_region 4 with (fail)
  clear u0
  have HSS := Lib.hid (show ∀ W, NwI w3 W → (fun W => NwI w3 W ∧ W.cell? ⟨w.heap.size, 1, none⟩ = some (.int .u32 x1) ∧ W.cell? ⟨w.heap.size, 2, none⟩ = some (.int .i64 x2) ∧ W.cell? ⟨w.heap.size, 3, none⟩ = some (.int .i64 x3)) W from fun W h => ⟨h, h.h.cell u1, h.h.cell u2, h.h.cell u3⟩)
  clear u1 u2 u3
  go_region_held3 (fun W => NwI w3 W ∧ W.cell? ⟨w.heap.size, 1, none⟩ = some (.int .u32 x1) ∧ W.cell? ⟨w.heap.size, 2, none⟩ = some (.int .i64 x2) ∧ W.cell? ⟨w.heap.size, 3, none⟩ = some (.int .i64 x3)) ((refine HSS.out _ ?_; repeat (first | assumption | exact ⟨Nw.refl w3⟩ | refine NwI.drew ?_ | refine NwI.alloc ?_ _))) (first
    | (go_at_call 41; refine (word7_any _ x1 HIN.out.id).mono ?_; rintro e w10 ⟨A10, c10, rfl, b10, g10, m10⟩; have i10 : NwI w3 w10 := NwI.step (by repeat (first | assumption | exact ⟨Nw.refl w3⟩ | refine NwI.drew ?_)) m10)
    | (go_at_call 42; refine (small7_any _ x2).mono ?_; rintro e w11 ⟨A11, c11, rfl, b11, g11, m11⟩; have i11 : NwI w3 w11 := NwI.step (by repeat (first | assumption | exact ⟨Nw.refl w3⟩ | refine NwI.drew ?_)) m11)
    | (go_at_call 43; refine (long7_any _ x3).mono ?_; rintro e w12 ⟨A12, c12, rfl, b12, g12, m12⟩; have i12 : NwI w3 w12 := NwI.step (by repeat (first | assumption | exact ⟨Nw.refl w3⟩ | refine NwI.drew ?_)) m12)
    | (go_at_call 40; refine (join_four _ _ (some ⟨G, 0, none⟩) A10 A11 A12 1 4 1 8 _ 1 c10 c11 c12 (beW 1 1) (beW x1 4) (beW x2 1) (beW x3 8) (rd_last_row _ _ _) (Rd.nw HY3.out (by repeat (first | assumption | exact Nw.refl _ | refine Nw.alloc ?_ _ | refine Nw.drew ?_ | refine Nw.trans ?_ (by assumption)))) (Rd.nw b10 (by repeat (first | assumption | exact Nw.refl _ | refine Nw.alloc ?_ _ | refine Nw.drew ?_ | refine Nw.trans ?_ (by assumption)))) (Rd.nw b11 (by repeat (first | assumption | exact Nw.refl _ | refine Nw.alloc ?_ _ | refine Nw.drew ?_ | refine Nw.trans ?_ (by assumption)))) (Rd.nw b12 (by repeat (first | assumption | exact Nw.refl _ | refine Nw.alloc ?_ _ | refine Nw.drew ?_ | refine Nw.trans ?_ (by assumption)))) (by simp [beW_length, keyB]) (by simp [beW_length, keyB]) (by simp [beW_length, keyB]) (by simp [beW_length, keyB]) (by omega)).mono ?_; rintro e w5 ⟨A5, c5, rfl, h5, h6, n5⟩; have i5 : NwI w3 w5 := NwI.step (by repeat (first | assumption | refine NwI.alloc ?_ _)) n5))
  all_goals
    go_wp2_with fail
    go_ret
    exact ⟨A5, c5, by simp [beW_length, keyB], h5, h6, Nw.trans N3.out i5.h⟩
end Go.Proofs.Ytnbcjjgilndlaaa
/- Messages: the document's bytes of a response of a kind. Helper. -/
namespace Go.Proofs.Ytnbcjjgilndlaaa
open Go.RowKit
set_option linter.unusedVariables false
set_option linter.unusedSimpArgs false
set_option maxRecDepth 100000
set_option maxHeartbeats 6400000
theorem enc7_2 (w : World) (p : Rs) (A : Option Addr) (c : Nat) (hk : p.k = 2) (hA : IntsAt w A p.vs) (hin : p.In) :
    Calls Try.prog 24 #[.agg (p.c A c).toArray] w (Txt7 w (encB p)) := by
  obtain ⟨x0, x1, x2, x3, x4, x5, x6, x7, x8, x9, x10, x11, x12, x13, x14, x15, x16, x17⟩ := p
  dsimp only at hA hk
  subst hk
  have henc : encB ⟨2, x1, x2, x3, x4, x5, x6, x7, x8, x9, x10, x11, x12, x13, x14, x15, x16, x17⟩ = beW 2 1 ++ beW x1 4 ++ beW x3 8 ++ beW (x4.length : Int) 1 ++ x4.flatMap fun v => beW v 8 := by simp [encB]
  rw [henc]
  obtain ⟨P0, hP0⟩ : ∃ P0, beW 2 1 ++ beW x1 4 ++ beW x3 8 ++ beW (x4.length : Int) 1 = P0 := ⟨_, rfl⟩
  have HP0 := Lib.hid hP0
  have HPL := Lib.hid (show P0.length = 14 by rw [← hP0]; simp [beW_length])
  rw [hP0]
  clear hP0
  obtain ⟨w1, hw1⟩ : ∃ w1, w.alloc (.cells #[.int .i64 2, .int .u32 x1, .int .i64 x2, .int .i64 x3, .slice A x4.length c, .int .i64 x5, .int .i64 x6, .int .i64 x7, .int .i64 x8, .int .i64 x9, .int .i64 x10, .int .u32 x11, .int .i64 x12, .int .i64 x13, .int .i64 x14, .int .i64 x15, .int .i64 x16, .int .i64 x17] 42) = w1 := ⟨_, rfl⟩
  have b1 : Blk w1 w.heap.size 42 #[.int .i64 2, .int .u32 x1, .int .i64 x2, .int .i64 x3, .slice A x4.length c, .int .i64 x5, .int .i64 x6, .int .i64 x7, .int .i64 x8, .int .i64 x9, .int .i64 x10, .int .u32 x11, .int .i64 x12, .int .i64 x13, .int .i64 x14, .int .i64 x15, .int .i64 x16, .int .i64 x17] := by rw [← hw1]; exact Blk.last w _ _ rfl
  have n1 : Nw w w1 := by rw [← hw1]; exact (Nw.refl w).alloc _
  have u0 : w1.cell? ⟨w.heap.size, 0, none⟩ = some (.int .i64 2) := (b1.cell 0).trans rfl
  have g0 : IntKind.u8.wrap 2 = 2 := by have := hin.k; dsimp only at this; rw [IntKind.wrap_u8]; omega
  have HX := Lib.hid (show bcells (beW 2 1) = [.int .u8 2] by simp [bcells, beW, byteOf_cell, g0])
  have HW1 := Lib.hid hw1
  have S1 := Lib.hid (show w1.heap.size = w.heap.size + 1 by rw [← hw1]; simp)
  have B1 := Lib.hid b1
  have N1 := Lib.hid n1
  have HA := Lib.hid hA
  have HIN := Lib.hid hin
  simp only [Rs.c]
  clear hw1 b1 n1 hA henc hin
  go_enter Try.func24, Try.ntmps24
  go_upto_region 2 with (fail)
  rw [HW1.out]
  obtain ⟨w3, hw3⟩ : ∃ w3, w1.alloc (.cells #[.int .u8 2] 5) = w3 := ⟨_, rfl⟩
  obtain ⟨G, hG⟩ : ∃ G, w.heap.size + 1 = G := ⟨_, rfl⟩
  have ho3 : Own w3 5 1 (.slice (some ⟨G, 0, none⟩) 1 1) 1 [.int .u8 2] (some G) := by rw [← hw3, ← hG, ← S1.out]; exact own_new w1 _
  have b3 : Blk w3 w.heap.size 42 #[.int .i64 2, .int .u32 x1, .int .i64 x2, .int .i64 x3, .slice A x4.length c, .int .i64 x5, .int .i64 x6, .int .i64 x7, .int .i64 x8, .int .i64 x9, .int .i64 x10, .int .u32 x11, .int .i64 x12, .int .i64 x13, .int .i64 x14, .int .i64 x15, .int .i64 x16, .int .i64 x17] := by rw [← hw3]; exact B1.out.alloc _
  have n3 : Nw w w3 := by rw [← hw3]; exact N1.out.alloc _
  have hy3 : BytesAt w3 (some ⟨G, 0, none⟩) (beW 2 1) := by
    obtain ⟨_, _, e2, hrd, _⟩ := ho3.rd
    injection e2 with e3 _ e4
    subst e3 e4
    show Rd w3 _ (bcells (beW 2 1))
    rw [HX.out]; exact hrd
  have S3 := Lib.hid (show w.heap.size + 1 ≤ w3.heap.size by rw [← hw3, ← S1.out]; simp)
  rw [hw3, hG]
  clear u0 g0
  have u0 : w3.cell? ⟨w.heap.size, 0, none⟩ = some (.int .i64 2) := (b3.cell 0).trans rfl
  have u1 : w3.cell? ⟨w.heap.size, 1, none⟩ = some (.int .u32 x1) := (b3.cell 1).trans rfl
  have u3 : w3.cell? ⟨w.heap.size, 3, none⟩ = some (.int .i64 x3) := (b3.cell 3).trans rfl
  have u4 : w3.cell? ⟨w.heap.size, 4, none⟩ = some (.slice A x4.length c) := (b3.cell 4).trans rfl
  have HO3 := Lib.hid ho3
  have B3 := Lib.hid b3
  have N3 := Lib.hid n3
  have HY3 := Lib.hid hy3
  have HG := Lib.hid hG
  clear hw3 ho3 b3 n3 hy3 hG
  go_upto_region 6 with (fail)
  clear u0
  go_cut [3] from 27 to 40 (fun s3 wx => ∃ (A' : Option Addr) (c' : Nat) (blk : Option Nat), s3 = .slice A' 14 c' ∧ Hid (Own wx 5 1 (.slice A' 14 c') 14 (bcells P0) blk ∧ (∀ g, blk = some g → w.heap.size + 1 ≤ g) ∧ Nw w3 wx))
  case first =>
   as_aux_lemma =>
    have HSS := Lib.hid (show ∀ W, NwI w3 W → (fun W => NwI w3 W ∧ W.cell? ⟨w.heap.size, 1, none⟩ = some (.int .u32 x1) ∧ W.cell? ⟨w.heap.size, 3, none⟩ = some (.int .i64 x3) ∧ W.cell? ⟨w.heap.size, 4, none⟩ = some (.slice A x4.length c)) W from fun W h => ⟨h, h.h.cell u1, h.h.cell u3, h.h.cell u4⟩)
    clear u1 u3 u4
    go_region_held3 (fun W => NwI w3 W ∧ W.cell? ⟨w.heap.size, 1, none⟩ = some (.int .u32 x1) ∧ W.cell? ⟨w.heap.size, 3, none⟩ = some (.int .i64 x3) ∧ W.cell? ⟨w.heap.size, 4, none⟩ = some (.slice A x4.length c)) ((refine HSS.out _ ?_; repeat (first | assumption | exact ⟨Nw.refl w3⟩ | refine NwI.drew ?_ | refine NwI.alloc ?_ _))) (first
      | (go_at_call 41; refine (word7_any _ x1 HIN.out.id).mono ?_; rintro e w10 ⟨A10, c10, rfl, b10, g10, m10⟩; have i10 : NwI w3 w10 := NwI.step (by repeat (first | assumption | exact ⟨Nw.refl w3⟩ | refine NwI.drew ?_)) m10)
      | (go_at_call 43; refine (long7_any _ x3).mono ?_; rintro e w11 ⟨A11, c11, rfl, b11, g11, m11⟩; have i11 : NwI w3 w11 := NwI.step (by repeat (first | assumption | exact ⟨Nw.refl w3⟩ | refine NwI.drew ?_)) m11)
      | (go_at_call 42; refine (small7_any _ (x4.length : Int)).mono ?_; rintro e w12 ⟨A12, c12, rfl, b12, g12, m12⟩; have i12 : NwI w3 w12 := NwI.step (by repeat (first | assumption | exact ⟨Nw.refl w3⟩ | refine NwI.drew ?_)) m12)
      | (go_at_call 40; refine (join_fourO _ _ (some ⟨G, 0, none⟩) A10 A11 A12 1 4 8 1 _ 1 c10 c11 c12 (beW 2 1) (beW x1 4) (beW x3 8) (beW (x4.length : Int) 1) (rd_last_row _ _ _) (Rd.nw HY3.out (by repeat (first | assumption | exact Nw.refl _ | refine Nw.alloc ?_ _ | refine Nw.drew ?_ | refine Nw.trans ?_ (by assumption)))) (Rd.nw b10 (by repeat (first | assumption | exact Nw.refl _ | refine Nw.alloc ?_ _ | refine Nw.drew ?_ | refine Nw.trans ?_ (by assumption)))) (Rd.nw b11 (by repeat (first | assumption | exact Nw.refl _ | refine Nw.alloc ?_ _ | refine Nw.drew ?_ | refine Nw.trans ?_ (by assumption)))) (Rd.nw b12 (by repeat (first | assumption | exact Nw.refl _ | refine Nw.alloc ?_ _ | refine Nw.drew ?_ | refine Nw.trans ?_ (by assumption)))) (by simp [beW_length, keyB]) (by simp [beW_length, keyB]) (by simp [beW_length, keyB]) (by simp [beW_length, keyB]) (by omega)).mono ?_; rintro e w5 ⟨A5, c5, blk5, rfl, h5, h6, n5⟩; have i5 : NwI w3 w5 := NwI.step (by repeat (first | assumption | refine NwI.alloc ?_ _)) n5))
    all_goals
      go_wp2_with fail
      go_meet
      exact ⟨_, _, _, rfl, Lib.hid ⟨by rw [← HP0.out]; exact h5, fun g hg => fresh_le S3.out (h6 g hg) (by repeat (first | assumption | exact ⟨Nw.refl w3⟩ | refine NwI.alloc ?_ _ | refine NwI.drew ?_)), i5.h⟩⟩
  case rest =>
    obtain ⟨A0, c0, blk0, rfl, HX0⟩ := hcut
    obtain ⟨i0, hi0, hz0, hz1, hz2⟩ := info_parts infoU8
    have HL1 := Lib.hid hi0
    have HL2 := Lib.hid hz0
    have HL3 := Lib.hid hz1
    have HL4 := Lib.hid hz2
    have HAC := Lib.hid (show IntsAt wc A x4 from Rd.nw HA.out (Nw.trans N3.out HX0.out.2.2))
    have HBC := Lib.hid (show Blk wc w.heap.size 42 #[.int .i64 2, .int .u32 x1, .int .i64 x2, .int .i64 x3, .slice A x4.length c, .int .i64 x5, .int .i64 x6, .int .i64 x7, .int .i64 x8, .int .i64 x9, .int .i64 x10, .int .u32 x11, .int .i64 x12, .int .i64 x13, .int .i64 x14, .int .i64 x15, .int .i64 x16, .int .i64 x17] from B3.out.below HX0.out.2.2 B3.out.lt)
    have HNC := Lib.hid (Nw.trans N3.out HX0.out.2.2)
    clear hi0 hz0 hz1 hz2
    obtain ⟨n, hn⟩ : ∃ n, x4.length = n := ⟨_, rfl⟩
    have hn200 : n ≤ 200 := by have := HIN.out.vs; dsimp only at this; omega
    have HN := Lib.hid (And.intro hn hn200)
    rw [hn] at HBC ⊢
    clear hn hn200
    go_upto_region 8 with (fail)
    go_loopw [3, 4] (fun x y wr => ∃ (i m : Nat) (blk : Option Nat) (A' : Option Addr) (c' : Nat), i ≤ n ∧ m = 14 + 8 * i ∧ y = .int .i64 (i : Int) ∧ x = .slice A' m c' ∧ Hid (Own wr 5 1 (.slice A' m c') m (bcells (P0 ++ (x4.take i).flatMap fun v => beW v 8)) blk ∧ (∀ g, blk = some g → w.heap.size + 1 ≤ g) ∧ Below (w.heap.size + 1) wc wr)) (fun _ y _ => n - (intOf y).toNat)
    case atStart => exact ⟨0, 14, blk0, A0, c0, Nat.zero_le _, rfl, rfl, rfl, Lib.hid ⟨by simpa using HX0.out.1, HX0.out.2.1, Below.refl _ _⟩⟩
    case round =>
      obtain ⟨i, m, blk, A', c', hi, hm, rfl, rfl, HI⟩ := hrel
      have HBR := HBC.out.below HI.out.2.2 (Nat.lt_succ_self _)
      have u4 : wr.cell? ⟨w.heap.size, 4, none⟩ = some (.slice A n c) := (HBR.cell 4).trans rfl
      clear HBR
      by_cases hlt : i < n
      · have i1 : (i : Int) < (n : Int) := by omega
        have i2 : (i : Int) ≤ 200 := by have := HN.out.2; omega
        have hil : i < x4.length := by have := HN.out.1; omega
        have hNw : Nw w wr := Below.trans HNC.out (HI.out.2.2.mono (Nat.le_succ _))
        obtain ⟨b, off, rfl, it⟩ := IntsAt.get (Rd.nw HA.out hNw) (k := i) hil
        obtain ⟨v, hv⟩ : ∃ v : Int, x4[i]'hil = v := ⟨_, rfl⟩
        rw [hv] at it
        have HE := Lib.hid (show ((x4.take (i + 1)).flatMap fun v => beW v 8) = ((x4.take i).flatMap fun v => beW v 8) ++ beW v 8 by rw [List.take_succ_eq_append_getElem hil, hv]; simp)
        have HSZ := Lib.hid (show w.heap.size + 1 ≤ wr.heap.size from Nat.le_trans HBC.out.lt HI.out.2.2.size)
        have hm6 : m ≤ 2000 := by have := HN.out.2; omega
        have HM := Lib.hid (And.intro hm hm6)
        clear hv hNw hm hm6
        go_wp2_with fail
        refine (long7_any _ v).mono ?_
        rintro e w6 ⟨A6, c6, rfl, hb6, hc6, n6⟩
        have H6 := Lib.hid (And.intro hb6 n6)
        clear hb6 hc6 n6
        go_wp2_with (at_builtin; refine wpList_append_at w6 rfl _ _ _ rfl 5 i0 _ 1 1 Try.underlying22 HL1.out HL2.out HL3.out HL4.out rfl (by omega) _ m _ blk rfl (HI.out.1.kept fun g hg => H6.out.2.block g (HI.out.1.lt g hg)) _ 8 c6 (bcells (beW v 8)) rfl (by rw [bcells_length, beW_length]) H6.out.1 (bcells_one _) (by have := HM.out; simp only [maxLen]; omega) (by have := HM.out; omega) ?_; intro A2 c2 w7 blk2 hown hchg hat; have HO2 := Lib.hid hown; have HC := Lib.hid hchg; have HT := Lib.hid hat; clear hown hchg hat)
        refine ⟨⟨i + 1, m + 8, blk2, A2, c2, hlt, by have := HM.out.1; omega, by go_num, rfl, Lib.hid ⟨?_, ?_, ?_⟩⟩, by simp [intOf]; omega⟩
        · have := HO2.out
          rw [HE.out, ← List.append_assoc, bcells_append]
          exact this
        · intro g hg
          rcases HT.out with q | q
          · exact HI.out.2.1 g (by rw [← q]; exact hg)
          · rw [q] at hg; injection hg with hg; rw [← hg]; exact Nat.le_trans HSZ.out H6.out.2.size
        · exact Below.trans HI.out.2.2 (Below.trans (H6.out.2.mono HSZ.out) (HC.out.below (fun k hk hq => by have := HI.out.2.1 k hq.symm; omega) (Nat.le_trans HSZ.out H6.out.2.size)))
      · obtain rfl : i = n := by omega
        have i1 : ¬ ((i : Nat) : Int) < (i : Int) := by omega
        have HM := Lib.hid hm
        clear hm
        go_wp2_with fail
        go_ret
        obtain ⟨_, _, e2, hrd, hnc, _⟩ := HI.out.1.rd
        injection e2 with e3 _ e4
        subst e3 e4
        rw [List.take_of_length_le (by have := HN.out.1; omega)] at hrd
        have hlen : (P0 ++ x4.flatMap fun v => beW v 8).length = m := by
          rw [List.length_append, HPL.out, flat8_len, HN.out.1, HM.out]
        exact ⟨_, _, by rw [hlen]; rfl, hrd, by rw [hlen]; exact hnc, Below.trans HNC.out (HI.out.2.2.mono (Nat.le_succ _))⟩
end Go.Proofs.Ytnbcjjgilndlaaa
/- Messages: the document's bytes of a response of a kind. Helper. -/
namespace Go.Proofs.Ytnbcjjgilndlaaa
open Go.RowKit
set_option linter.unusedVariables false
set_option linter.unusedSimpArgs false
set_option maxRecDepth 100000
set_option maxHeartbeats 6400000
theorem enc7_3 (w : World) (p : Rs) (A : Option Addr) (c : Nat) (hk : p.k = 3) (hA : IntsAt w A p.vs) (hin : p.In) :
    Calls Try.prog 24 #[.agg (p.c A c).toArray] w (Txt7 w (encB p)) := by
  obtain ⟨x0, x1, x2, x3, x4, x5, x6, x7, x8, x9, x10, x11, x12, x13, x14, x15, x16, x17⟩ := p
  dsimp only at hA hk
  subst hk
  have henc : encB ⟨3, x1, x2, x3, x4, x5, x6, x7, x8, x9, x10, x11, x12, x13, x14, x15, x16, x17⟩ = beW 3 1 ++ keyB x5 x6 x7 ++ beW x8 1 ++ beW x9 1 ++ beW x10 8 := by simp [encB]
  rw [henc]
  obtain ⟨w1, hw1⟩ : ∃ w1, w.alloc (.cells #[.int .i64 3, .int .u32 x1, .int .i64 x2, .int .i64 x3, .slice A x4.length c, .int .i64 x5, .int .i64 x6, .int .i64 x7, .int .i64 x8, .int .i64 x9, .int .i64 x10, .int .u32 x11, .int .i64 x12, .int .i64 x13, .int .i64 x14, .int .i64 x15, .int .i64 x16, .int .i64 x17] 42) = w1 := ⟨_, rfl⟩
  have b1 : Blk w1 w.heap.size 42 #[.int .i64 3, .int .u32 x1, .int .i64 x2, .int .i64 x3, .slice A x4.length c, .int .i64 x5, .int .i64 x6, .int .i64 x7, .int .i64 x8, .int .i64 x9, .int .i64 x10, .int .u32 x11, .int .i64 x12, .int .i64 x13, .int .i64 x14, .int .i64 x15, .int .i64 x16, .int .i64 x17] := by rw [← hw1]; exact Blk.last w _ _ rfl
  have n1 : Nw w w1 := by rw [← hw1]; exact (Nw.refl w).alloc _
  have u0 : w1.cell? ⟨w.heap.size, 0, none⟩ = some (.int .i64 3) := (b1.cell 0).trans rfl
  have g0 : IntKind.u8.wrap 3 = 3 := by have := hin.k; dsimp only at this; rw [IntKind.wrap_u8]; omega
  have HX := Lib.hid (show bcells (beW 3 1) = [.int .u8 3] by simp [bcells, beW, byteOf_cell, g0])
  have HW1 := Lib.hid hw1
  have S1 := Lib.hid (show w1.heap.size = w.heap.size + 1 by rw [← hw1]; simp)
  have B1 := Lib.hid b1
  have N1 := Lib.hid n1
  have HA := Lib.hid hA
  have HIN := Lib.hid hin
  simp only [Rs.c]
  clear hw1 b1 n1 hA henc hin
  go_enter Try.func24, Try.ntmps24
  go_upto_region 2 with (fail)
  rw [HW1.out]
  obtain ⟨w3, hw3⟩ : ∃ w3, w1.alloc (.cells #[.int .u8 3] 5) = w3 := ⟨_, rfl⟩
  obtain ⟨G, hG⟩ : ∃ G, w.heap.size + 1 = G := ⟨_, rfl⟩
  have ho3 : Own w3 5 1 (.slice (some ⟨G, 0, none⟩) 1 1) 1 [.int .u8 3] (some G) := by rw [← hw3, ← hG, ← S1.out]; exact own_new w1 _
  have b3 : Blk w3 w.heap.size 42 #[.int .i64 3, .int .u32 x1, .int .i64 x2, .int .i64 x3, .slice A x4.length c, .int .i64 x5, .int .i64 x6, .int .i64 x7, .int .i64 x8, .int .i64 x9, .int .i64 x10, .int .u32 x11, .int .i64 x12, .int .i64 x13, .int .i64 x14, .int .i64 x15, .int .i64 x16, .int .i64 x17] := by rw [← hw3]; exact B1.out.alloc _
  have n3 : Nw w w3 := by rw [← hw3]; exact N1.out.alloc _
  have hy3 : BytesAt w3 (some ⟨G, 0, none⟩) (beW 3 1) := by
    obtain ⟨_, _, e2, hrd, _⟩ := ho3.rd
    injection e2 with e3 _ e4
    subst e3 e4
    show Rd w3 _ (bcells (beW 3 1))
    rw [HX.out]; exact hrd
  have S3 := Lib.hid (show w.heap.size + 1 ≤ w3.heap.size by rw [← hw3, ← S1.out]; simp)
  rw [hw3, hG]
  clear u0 g0
  have u0 : w3.cell? ⟨w.heap.size, 0, none⟩ = some (.int .i64 3) := (b3.cell 0).trans rfl
  have u5 : w3.cell? ⟨w.heap.size, 5, none⟩ = some (.int .i64 x5) := (b3.cell 5).trans rfl
  have u6 : w3.cell? ⟨w.heap.size, 6, none⟩ = some (.int .i64 x6) := (b3.cell 6).trans rfl
  have u7 : w3.cell? ⟨w.heap.size, 7, none⟩ = some (.int .i64 x7) := (b3.cell 7).trans rfl
  have u8 : w3.cell? ⟨w.heap.size, 8, none⟩ = some (.int .i64 x8) := (b3.cell 8).trans rfl
  have u9 : w3.cell? ⟨w.heap.size, 9, none⟩ = some (.int .i64 x9) := (b3.cell 9).trans rfl
  have u10 : w3.cell? ⟨w.heap.size, 10, none⟩ = some (.int .i64 x10) := (b3.cell 10).trans rfl
  have HO3 := Lib.hid ho3
  have B3 := Lib.hid b3
  have N3 := Lib.hid n3
  have HY3 := Lib.hid hy3
  have HG := Lib.hid hG
  clear hw3 ho3 b3 n3 hy3 hG
  go_upto_region 13 with (fail)
  clear u0
  have HSS := Lib.hid (show ∀ W, NwI w3 W → (fun W => NwI w3 W ∧ W.cell? ⟨w.heap.size, 5, none⟩ = some (.int .i64 x5) ∧ W.cell? ⟨w.heap.size, 6, none⟩ = some (.int .i64 x6) ∧ W.cell? ⟨w.heap.size, 7, none⟩ = some (.int .i64 x7) ∧ W.cell? ⟨w.heap.size, 8, none⟩ = some (.int .i64 x8) ∧ W.cell? ⟨w.heap.size, 9, none⟩ = some (.int .i64 x9) ∧ W.cell? ⟨w.heap.size, 10, none⟩ = some (.int .i64 x10)) W from fun W h => ⟨h, h.h.cell u5, h.h.cell u6, h.h.cell u7, h.h.cell u8, h.h.cell u9, h.h.cell u10⟩)
  clear u5 u6 u7 u8 u9 u10
  go_region_held3 (fun W => NwI w3 W ∧ W.cell? ⟨w.heap.size, 5, none⟩ = some (.int .i64 x5) ∧ W.cell? ⟨w.heap.size, 6, none⟩ = some (.int .i64 x6) ∧ W.cell? ⟨w.heap.size, 7, none⟩ = some (.int .i64 x7) ∧ W.cell? ⟨w.heap.size, 8, none⟩ = some (.int .i64 x8) ∧ W.cell? ⟨w.heap.size, 9, none⟩ = some (.int .i64 x9) ∧ W.cell? ⟨w.heap.size, 10, none⟩ = some (.int .i64 x10)) ((refine HSS.out _ ?_; repeat (first | assumption | exact ⟨Nw.refl w3⟩ | refine NwI.drew ?_ | refine NwI.alloc ?_ _))) (first
    | (go_at_call 44; refine (key7_any _ x5 x6 x7).mono ?_; rintro e w10 ⟨A10, c10, rfl, b10, g10, m10⟩; have i10 : NwI w3 w10 := NwI.step (by repeat (first | assumption | exact ⟨Nw.refl w3⟩ | refine NwI.drew ?_)) m10)
    | (go_at_call 42; refine (small7_any _ x8).mono ?_; rintro e w11 ⟨A11, c11, rfl, b11, g11, m11⟩; have i11 : NwI w3 w11 := NwI.step (by repeat (first | assumption | exact ⟨Nw.refl w3⟩ | refine NwI.drew ?_)) m11)
    | (go_at_call 42; refine (small7_any _ x9).mono ?_; rintro e w12 ⟨A12, c12, rfl, b12, g12, m12⟩; have i12 : NwI w3 w12 := NwI.step (by repeat (first | assumption | exact ⟨Nw.refl w3⟩ | refine NwI.drew ?_)) m12)
    | (go_at_call 43; refine (long7_any _ x10).mono ?_; rintro e w13 ⟨A13, c13, rfl, b13, g13, m13⟩; have i13 : NwI w3 w13 := NwI.step (by repeat (first | assumption | exact ⟨Nw.refl w3⟩ | refine NwI.drew ?_)) m13)
    | (go_at_call 40; refine (join_five _ _ (some ⟨G, 0, none⟩) A10 A11 A12 A13 1 17 1 1 8 _ 1 c10 c11 c12 c13 (beW 3 1) (keyB x5 x6 x7) (beW x8 1) (beW x9 1) (beW x10 8) (rd_last_row _ _ _) (Rd.nw HY3.out (by repeat (first | assumption | exact Nw.refl _ | refine Nw.alloc ?_ _ | refine Nw.drew ?_ | refine Nw.trans ?_ (by assumption)))) (Rd.nw b10 (by repeat (first | assumption | exact Nw.refl _ | refine Nw.alloc ?_ _ | refine Nw.drew ?_ | refine Nw.trans ?_ (by assumption)))) (Rd.nw b11 (by repeat (first | assumption | exact Nw.refl _ | refine Nw.alloc ?_ _ | refine Nw.drew ?_ | refine Nw.trans ?_ (by assumption)))) (Rd.nw b12 (by repeat (first | assumption | exact Nw.refl _ | refine Nw.alloc ?_ _ | refine Nw.drew ?_ | refine Nw.trans ?_ (by assumption)))) (Rd.nw b13 (by repeat (first | assumption | exact Nw.refl _ | refine Nw.alloc ?_ _ | refine Nw.drew ?_ | refine Nw.trans ?_ (by assumption)))) (by simp [beW_length, keyB]) (by simp [beW_length, keyB]) (by simp [beW_length, keyB]) (by simp [beW_length, keyB]) (by simp [beW_length, keyB]) (by omega)).mono ?_; rintro e w5 ⟨A5, c5, rfl, h5, h6, n5⟩; have i5 : NwI w3 w5 := NwI.step (by repeat (first | assumption | refine NwI.alloc ?_ _)) n5))
  all_goals
    go_wp2_with fail
    go_ret
    exact ⟨A5, c5, by simp [beW_length, keyB], h5, h6, Nw.trans N3.out i5.h⟩
end Go.Proofs.Ytnbcjjgilndlaaa
/- Messages: the document's bytes of a response of a kind. Helper. -/
namespace Go.Proofs.Ytnbcjjgilndlaaa
open Go.RowKit
set_option linter.unusedVariables false
set_option linter.unusedSimpArgs false
set_option maxRecDepth 100000
set_option maxHeartbeats 6400000
theorem enc7_4 (w : World) (p : Rs) (A : Option Addr) (c : Nat) (hk : p.k = 4) (hA : IntsAt w A p.vs) (hin : p.In) :
    Calls Try.prog 24 #[.agg (p.c A c).toArray] w (Txt7 w (encB p)) := by
  obtain ⟨x0, x1, x2, x3, x4, x5, x6, x7, x8, x9, x10, x11, x12, x13, x14, x15, x16, x17⟩ := p
  dsimp only at hA hk
  subst hk
  have henc : encB ⟨4, x1, x2, x3, x4, x5, x6, x7, x8, x9, x10, x11, x12, x13, x14, x15, x16, x17⟩ = beW 4 1 ++ beW x11 4 ++ keyB x12 x13 x14 ++ beW x15 1 ++ beW x16 1 ++ beW x17 8 := by simp [encB]
  rw [henc]
  obtain ⟨w1, hw1⟩ : ∃ w1, w.alloc (.cells #[.int .i64 4, .int .u32 x1, .int .i64 x2, .int .i64 x3, .slice A x4.length c, .int .i64 x5, .int .i64 x6, .int .i64 x7, .int .i64 x8, .int .i64 x9, .int .i64 x10, .int .u32 x11, .int .i64 x12, .int .i64 x13, .int .i64 x14, .int .i64 x15, .int .i64 x16, .int .i64 x17] 42) = w1 := ⟨_, rfl⟩
  have b1 : Blk w1 w.heap.size 42 #[.int .i64 4, .int .u32 x1, .int .i64 x2, .int .i64 x3, .slice A x4.length c, .int .i64 x5, .int .i64 x6, .int .i64 x7, .int .i64 x8, .int .i64 x9, .int .i64 x10, .int .u32 x11, .int .i64 x12, .int .i64 x13, .int .i64 x14, .int .i64 x15, .int .i64 x16, .int .i64 x17] := by rw [← hw1]; exact Blk.last w _ _ rfl
  have n1 : Nw w w1 := by rw [← hw1]; exact (Nw.refl w).alloc _
  have u0 : w1.cell? ⟨w.heap.size, 0, none⟩ = some (.int .i64 4) := (b1.cell 0).trans rfl
  have g0 : IntKind.u8.wrap 4 = 4 := by have := hin.k; dsimp only at this; rw [IntKind.wrap_u8]; omega
  have HX := Lib.hid (show bcells (beW 4 1) = [.int .u8 4] by simp [bcells, beW, byteOf_cell, g0])
  have HW1 := Lib.hid hw1
  have S1 := Lib.hid (show w1.heap.size = w.heap.size + 1 by rw [← hw1]; simp)
  have B1 := Lib.hid b1
  have N1 := Lib.hid n1
  have HA := Lib.hid hA
  have HIN := Lib.hid hin
  simp only [Rs.c]
  clear hw1 b1 n1 hA henc hin
  go_enter Try.func24, Try.ntmps24
  go_upto_region 2 with (fail)
  rw [HW1.out]
  obtain ⟨w3, hw3⟩ : ∃ w3, w1.alloc (.cells #[.int .u8 4] 5) = w3 := ⟨_, rfl⟩
  obtain ⟨G, hG⟩ : ∃ G, w.heap.size + 1 = G := ⟨_, rfl⟩
  have ho3 : Own w3 5 1 (.slice (some ⟨G, 0, none⟩) 1 1) 1 [.int .u8 4] (some G) := by rw [← hw3, ← hG, ← S1.out]; exact own_new w1 _
  have b3 : Blk w3 w.heap.size 42 #[.int .i64 4, .int .u32 x1, .int .i64 x2, .int .i64 x3, .slice A x4.length c, .int .i64 x5, .int .i64 x6, .int .i64 x7, .int .i64 x8, .int .i64 x9, .int .i64 x10, .int .u32 x11, .int .i64 x12, .int .i64 x13, .int .i64 x14, .int .i64 x15, .int .i64 x16, .int .i64 x17] := by rw [← hw3]; exact B1.out.alloc _
  have n3 : Nw w w3 := by rw [← hw3]; exact N1.out.alloc _
  have hy3 : BytesAt w3 (some ⟨G, 0, none⟩) (beW 4 1) := by
    obtain ⟨_, _, e2, hrd, _⟩ := ho3.rd
    injection e2 with e3 _ e4
    subst e3 e4
    show Rd w3 _ (bcells (beW 4 1))
    rw [HX.out]; exact hrd
  have S3 := Lib.hid (show w.heap.size + 1 ≤ w3.heap.size by rw [← hw3, ← S1.out]; simp)
  rw [hw3, hG]
  clear u0 g0
  have u0 : w3.cell? ⟨w.heap.size, 0, none⟩ = some (.int .i64 4) := (b3.cell 0).trans rfl
  have u11 : w3.cell? ⟨w.heap.size, 11, none⟩ = some (.int .u32 x11) := (b3.cell 11).trans rfl
  have u12 : w3.cell? ⟨w.heap.size, 12, none⟩ = some (.int .i64 x12) := (b3.cell 12).trans rfl
  have u13 : w3.cell? ⟨w.heap.size, 13, none⟩ = some (.int .i64 x13) := (b3.cell 13).trans rfl
  have u14 : w3.cell? ⟨w.heap.size, 14, none⟩ = some (.int .i64 x14) := (b3.cell 14).trans rfl
  have u15 : w3.cell? ⟨w.heap.size, 15, none⟩ = some (.int .i64 x15) := (b3.cell 15).trans rfl
  have u16 : w3.cell? ⟨w.heap.size, 16, none⟩ = some (.int .i64 x16) := (b3.cell 16).trans rfl
  have u17 : w3.cell? ⟨w.heap.size, 17, none⟩ = some (.int .i64 x17) := (b3.cell 17).trans rfl
  have HO3 := Lib.hid ho3
  have B3 := Lib.hid b3
  have N3 := Lib.hid n3
  have HY3 := Lib.hid hy3
  have HG := Lib.hid hG
  clear hw3 ho3 b3 n3 hy3 hG
  go_upto_region 15 with (fail)
  clear u0
  have HSS := Lib.hid (show ∀ W, NwI w3 W → (fun W => NwI w3 W ∧ W.cell? ⟨w.heap.size, 11, none⟩ = some (.int .u32 x11) ∧ W.cell? ⟨w.heap.size, 12, none⟩ = some (.int .i64 x12) ∧ W.cell? ⟨w.heap.size, 13, none⟩ = some (.int .i64 x13) ∧ W.cell? ⟨w.heap.size, 14, none⟩ = some (.int .i64 x14) ∧ W.cell? ⟨w.heap.size, 15, none⟩ = some (.int .i64 x15) ∧ W.cell? ⟨w.heap.size, 16, none⟩ = some (.int .i64 x16) ∧ W.cell? ⟨w.heap.size, 17, none⟩ = some (.int .i64 x17)) W from fun W h => ⟨h, h.h.cell u11, h.h.cell u12, h.h.cell u13, h.h.cell u14, h.h.cell u15, h.h.cell u16, h.h.cell u17⟩)
  clear u11 u12 u13 u14 u15 u16 u17
  go_region_held3 (fun W => NwI w3 W ∧ W.cell? ⟨w.heap.size, 11, none⟩ = some (.int .u32 x11) ∧ W.cell? ⟨w.heap.size, 12, none⟩ = some (.int .i64 x12) ∧ W.cell? ⟨w.heap.size, 13, none⟩ = some (.int .i64 x13) ∧ W.cell? ⟨w.heap.size, 14, none⟩ = some (.int .i64 x14) ∧ W.cell? ⟨w.heap.size, 15, none⟩ = some (.int .i64 x15) ∧ W.cell? ⟨w.heap.size, 16, none⟩ = some (.int .i64 x16) ∧ W.cell? ⟨w.heap.size, 17, none⟩ = some (.int .i64 x17)) ((refine HSS.out _ ?_; repeat (first | assumption | exact ⟨Nw.refl w3⟩ | refine NwI.drew ?_ | refine NwI.alloc ?_ _))) (first
    | (go_at_call 41; refine (word7_any _ x11 HIN.out.nu).mono ?_; rintro e w10 ⟨A10, c10, rfl, b10, g10, m10⟩; have i10 : NwI w3 w10 := NwI.step (by repeat (first | assumption | exact ⟨Nw.refl w3⟩ | refine NwI.drew ?_)) m10)
    | (go_at_call 44; refine (key7_any _ x12 x13 x14).mono ?_; rintro e w11 ⟨A11, c11, rfl, b11, g11, m11⟩; have i11 : NwI w3 w11 := NwI.step (by repeat (first | assumption | exact ⟨Nw.refl w3⟩ | refine NwI.drew ?_)) m11)
    | (go_at_call 42; refine (small7_any _ x15).mono ?_; rintro e w12 ⟨A12, c12, rfl, b12, g12, m12⟩; have i12 : NwI w3 w12 := NwI.step (by repeat (first | assumption | exact ⟨Nw.refl w3⟩ | refine NwI.drew ?_)) m12)
    | (go_at_call 42; refine (small7_any _ x16).mono ?_; rintro e w13 ⟨A13, c13, rfl, b13, g13, m13⟩; have i13 : NwI w3 w13 := NwI.step (by repeat (first | assumption | exact ⟨Nw.refl w3⟩ | refine NwI.drew ?_)) m13)
    | (go_at_call 43; refine (long7_any _ x17).mono ?_; rintro e w14 ⟨A14, c14, rfl, b14, g14, m14⟩; have i14 : NwI w3 w14 := NwI.step (by repeat (first | assumption | exact ⟨Nw.refl w3⟩ | refine NwI.drew ?_)) m14)
    | (go_at_call 40; refine (join_six _ _ (some ⟨G, 0, none⟩) A10 A11 A12 A13 A14 1 4 17 1 1 8 _ 1 c10 c11 c12 c13 c14 (beW 4 1) (beW x11 4) (keyB x12 x13 x14) (beW x15 1) (beW x16 1) (beW x17 8) (rd_last_row _ _ _) (Rd.nw HY3.out (by repeat (first | assumption | exact Nw.refl _ | refine Nw.alloc ?_ _ | refine Nw.drew ?_ | refine Nw.trans ?_ (by assumption)))) (Rd.nw b10 (by repeat (first | assumption | exact Nw.refl _ | refine Nw.alloc ?_ _ | refine Nw.drew ?_ | refine Nw.trans ?_ (by assumption)))) (Rd.nw b11 (by repeat (first | assumption | exact Nw.refl _ | refine Nw.alloc ?_ _ | refine Nw.drew ?_ | refine Nw.trans ?_ (by assumption)))) (Rd.nw b12 (by repeat (first | assumption | exact Nw.refl _ | refine Nw.alloc ?_ _ | refine Nw.drew ?_ | refine Nw.trans ?_ (by assumption)))) (Rd.nw b13 (by repeat (first | assumption | exact Nw.refl _ | refine Nw.alloc ?_ _ | refine Nw.drew ?_ | refine Nw.trans ?_ (by assumption)))) (Rd.nw b14 (by repeat (first | assumption | exact Nw.refl _ | refine Nw.alloc ?_ _ | refine Nw.drew ?_ | refine Nw.trans ?_ (by assumption)))) (by simp [beW_length, keyB]) (by simp [beW_length, keyB]) (by simp [beW_length, keyB]) (by simp [beW_length, keyB]) (by simp [beW_length, keyB]) (by simp [beW_length, keyB]) (by omega)).mono ?_; rintro e w5 ⟨A5, c5, rfl, h5, h6, n5⟩; have i5 : NwI w3 w5 := NwI.step (by repeat (first | assumption | refine NwI.alloc ?_ _)) n5))
  all_goals
    go_wp2_with fail
    go_ret
    exact ⟨A5, c5, by simp [beW_length, keyB], h5, h6, Nw.trans N3.out i5.h⟩
end Go.Proofs.Ytnbcjjgilndlaaa
