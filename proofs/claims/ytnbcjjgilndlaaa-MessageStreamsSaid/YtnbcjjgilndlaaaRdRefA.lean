/- Messages: the document's bytes of a request of a kind. Helper. -/
import Derived.Test.YtnbcjjgilndlaaaRdRefU
namespace Go.Proofs.Ytnbcjjgilndlaaa
open Go.RowKit
set_option linter.unusedVariables false
set_option linter.unusedSimpArgs false
set_option maxRecDepth 100000
set_option maxHeartbeats 6400000
theorem ask7_0 (w : World) (q : Rq) (A : Option Addr) (c : Nat) (hk : q.k ≠ 1 ∧ q.k ≠ 2 ∧ q.k ≠ 3 ∧ q.k ≠ 4 ∧ q.k ≠ 5 ∧ q.k ≠ 6 ∧ q.k ≠ 10) (hA : BytesAt w A q.md) (hin : q.In) :
    Calls Try.prog 38 #[.agg (q.c A c).toArray] w (Txt7 w (askB q)) := by
  obtain ⟨x0, x1, x2, x3, x4, x5, x6, x7, x8, x9, x10, x11, x12, x13, x14, x15, x16⟩ := q
  obtain ⟨hid, hnu, hmd⟩ := hin
  dsimp only at hA hk hid hnu hmd
  obtain ⟨k1, k2, k3, k4, k5, k6, k10⟩ := hk
  have hask : askB ⟨x0, x1, x2, x3, x4, x5, x6, x7, x8, x9, x10, x11, x12, x13, x14, x15, x16⟩ = beW x1 4 := by simp [askB, *]
  rw [hask]
  have j1 : (x0 == 1) = false := by simp [k1]
  have j2 : (x0 == 2) = false := by simp [k2]
  have j3 : (x0 == 3) = false := by simp [k3]
  have j4 : (x0 == 4) = false := by simp [k4]
  have j5 : (x0 == 5) = false := by simp [k5]
  have j6 : (x0 == 6) = false := by simp [k6]
  have j10 : (x0 == 10) = false := by simp [k10]
  obtain ⟨w1, hw1⟩ : ∃ w1, w.alloc (.cells #[.int .i64 x0, .int .u32 x1, .int .i64 x2, .slice A x3.length c, .int .i64 x4, .int .i64 x5, .int .i64 x6, .int .i64 x7, .int .i64 x8, .int .i64 x9, .int .u32 x10, .int .i64 x11, .int .i64 x12, .int .i64 x13, .int .i64 x14, .int .i64 x15, .int .i64 x16] 33) = w1 := ⟨_, rfl⟩
  have b1 : Blk w1 w.heap.size 33 #[.int .i64 x0, .int .u32 x1, .int .i64 x2, .slice A x3.length c, .int .i64 x4, .int .i64 x5, .int .i64 x6, .int .i64 x7, .int .i64 x8, .int .i64 x9, .int .u32 x10, .int .i64 x11, .int .i64 x12, .int .i64 x13, .int .i64 x14, .int .i64 x15, .int .i64 x16] := by rw [← hw1]; exact Blk.last w _ _ rfl
  have n1 : Nw w w1 := by rw [← hw1]; exact (Nw.refl w).alloc _
  have u1 : w1.cell? ⟨w.heap.size, 1, none⟩ = some (.int .u32 x1) := (b1.cell 1).trans rfl
  have HW1 := Lib.hid hw1
  have B1 := Lib.hid b1
  have N1 := Lib.hid n1
  have HA := Lib.hid hA
  have HIN := Lib.hid (And.intro hid (And.intro hnu hmd))
  simp only [Rq.c]
  clear hw1 b1 n1 hA hask hid hnu hmd
  go_enter Try.func38, Try.ntmps38
  go_wp2_with fail
  rw [HW1.out]
  refine (word7_any w1 x1 HIN.out.1).mono ?_
  rintro e w2 ⟨A1, c1, rfl, hb1, hc1, n2⟩
  have b2 : Blk w2 w.heap.size 33 #[.int .i64 x0, .int .u32 x1, .int .i64 x2, .slice A x3.length c, .int .i64 x4, .int .i64 x5, .int .i64 x6, .int .i64 x7, .int .i64 x8, .int .i64 x9, .int .u32 x10, .int .i64 x11, .int .i64 x12, .int .i64 x13, .int .i64 x14, .int .i64 x15, .int .i64 x16] := B1.out.below n2 B1.out.lt
  have e4 : w2.cell? ⟨w.heap.size, 4, none⟩ = some (.int .i64 x4) := (b2.cell 4).trans rfl
  have e5 : w2.cell? ⟨w.heap.size, 5, none⟩ = some (.int .i64 x5) := (b2.cell 5).trans rfl
  have e6 : w2.cell? ⟨w.heap.size, 6, none⟩ = some (.int .i64 x6) := (b2.cell 6).trans rfl
  have e7 : w2.cell? ⟨w.heap.size, 7, none⟩ = some (.int .i64 x7) := (b2.cell 7).trans rfl
  have e8 : w2.cell? ⟨w.heap.size, 8, none⟩ = some (.int .i64 x8) := (b2.cell 8).trans rfl
  have e9 : w2.cell? ⟨w.heap.size, 9, none⟩ = some (.int .i64 x9) := (b2.cell 9).trans rfl
  have B2 := Lib.hid b2
  have HB1 := Lib.hid hb1
  have N2 := Lib.hid n2
  clear b2 hb1 n2 u1
  go_upto_region 3 with (fail)
  obtain ⟨w3, hw3⟩ : ∃ w3, w2.alloc (.cells #[.int .i64 x4, .int .i64 x5, .int .i64 x6, .int .i64 x7, .int .i64 x8, .int .i64 x9] 29) = w3 := ⟨_, rfl⟩
  have bE : Blk w3 w2.heap.size 29 #[.int .i64 x4, .int .i64 x5, .int .i64 x6, .int .i64 x7, .int .i64 x8, .int .i64 x9] := by rw [← hw3]; exact Blk.last w2 _ _ rfl
  have b3 : Blk w3 w.heap.size 33 #[.int .i64 x0, .int .u32 x1, .int .i64 x2, .slice A x3.length c, .int .i64 x4, .int .i64 x5, .int .i64 x6, .int .i64 x7, .int .i64 x8, .int .i64 x9, .int .u32 x10, .int .i64 x11, .int .i64 x12, .int .i64 x13, .int .i64 x14, .int .i64 x15, .int .i64 x16] := by rw [← hw3]; exact B2.out.alloc _
  have n3 : Nw w2 w3 := by rw [← hw3]; exact (Nw.refl w2).alloc _
  rw [hw3]
  have u0 : w3.cell? ⟨w.heap.size, 0, none⟩ = some (.int .i64 x0) := (b3.cell 0).trans rfl
  have N13 := Lib.hid (Nw.trans N1.out (Nw.trans N2.out n3))
  have HB3 := Lib.hid (show BytesAt w3 A1 (beW x1 4) from Rd.nw HB1.out n3)
  have HA3 := Lib.hid (show BytesAt w3 A x3 from Rd.nw HA.out (Nw.trans N1.out (Nw.trans N2.out n3)))
  clear hw3 bE b3 n3 e4 e5 e6 e7 e8 e9
  go_wp2_with fail
  go_ret
  exact ⟨A1, c1, by simp [beW_length], HB3.out, by rw [beW_length]; exact hc1, N13.out⟩
end Go.Proofs.Ytnbcjjgilndlaaa
/- Messages: the document's bytes of a request of a kind. Helper. -/
namespace Go.Proofs.Ytnbcjjgilndlaaa
open Go.RowKit
set_option linter.unusedVariables false
set_option linter.unusedSimpArgs false
set_option maxRecDepth 100000
set_option maxHeartbeats 6400000
theorem ask7_1 (w : World) (q : Rq) (A : Option Addr) (c : Nat) (hk : q.k = 1) (hA : BytesAt w A q.md) (hin : q.In) :
    Calls Try.prog 38 #[.agg (q.c A c).toArray] w (Txt7 w (askB q)) := by
  obtain ⟨x0, x1, x2, x3, x4, x5, x6, x7, x8, x9, x10, x11, x12, x13, x14, x15, x16⟩ := q
  obtain ⟨hid, hnu, hmd⟩ := hin
  dsimp only at hA hk hid hnu hmd
  subst hk
  have hask : askB ⟨1, x1, x2, x3, x4, x5, x6, x7, x8, x9, x10, x11, x12, x13, x14, x15, x16⟩ = beW x1 4 ++ beW x2 1 := by simp [askB]
  rw [hask]
  obtain ⟨w1, hw1⟩ : ∃ w1, w.alloc (.cells #[.int .i64 1, .int .u32 x1, .int .i64 x2, .slice A x3.length c, .int .i64 x4, .int .i64 x5, .int .i64 x6, .int .i64 x7, .int .i64 x8, .int .i64 x9, .int .u32 x10, .int .i64 x11, .int .i64 x12, .int .i64 x13, .int .i64 x14, .int .i64 x15, .int .i64 x16] 33) = w1 := ⟨_, rfl⟩
  have b1 : Blk w1 w.heap.size 33 #[.int .i64 1, .int .u32 x1, .int .i64 x2, .slice A x3.length c, .int .i64 x4, .int .i64 x5, .int .i64 x6, .int .i64 x7, .int .i64 x8, .int .i64 x9, .int .u32 x10, .int .i64 x11, .int .i64 x12, .int .i64 x13, .int .i64 x14, .int .i64 x15, .int .i64 x16] := by rw [← hw1]; exact Blk.last w _ _ rfl
  have n1 : Nw w w1 := by rw [← hw1]; exact (Nw.refl w).alloc _
  have u1 : w1.cell? ⟨w.heap.size, 1, none⟩ = some (.int .u32 x1) := (b1.cell 1).trans rfl
  have HW1 := Lib.hid hw1
  have B1 := Lib.hid b1
  have N1 := Lib.hid n1
  have HA := Lib.hid hA
  have HIN := Lib.hid (And.intro hid (And.intro hnu hmd))
  simp only [Rq.c]
  clear hw1 b1 n1 hA hask hid hnu hmd
  go_enter Try.func38, Try.ntmps38
  go_wp2_with fail
  rw [HW1.out]
  refine (word7_any w1 x1 HIN.out.1).mono ?_
  rintro e w2 ⟨A1, c1, rfl, hb1, hc1, n2⟩
  have b2 : Blk w2 w.heap.size 33 #[.int .i64 1, .int .u32 x1, .int .i64 x2, .slice A x3.length c, .int .i64 x4, .int .i64 x5, .int .i64 x6, .int .i64 x7, .int .i64 x8, .int .i64 x9, .int .u32 x10, .int .i64 x11, .int .i64 x12, .int .i64 x13, .int .i64 x14, .int .i64 x15, .int .i64 x16] := B1.out.below n2 B1.out.lt
  have e4 : w2.cell? ⟨w.heap.size, 4, none⟩ = some (.int .i64 x4) := (b2.cell 4).trans rfl
  have e5 : w2.cell? ⟨w.heap.size, 5, none⟩ = some (.int .i64 x5) := (b2.cell 5).trans rfl
  have e6 : w2.cell? ⟨w.heap.size, 6, none⟩ = some (.int .i64 x6) := (b2.cell 6).trans rfl
  have e7 : w2.cell? ⟨w.heap.size, 7, none⟩ = some (.int .i64 x7) := (b2.cell 7).trans rfl
  have e8 : w2.cell? ⟨w.heap.size, 8, none⟩ = some (.int .i64 x8) := (b2.cell 8).trans rfl
  have e9 : w2.cell? ⟨w.heap.size, 9, none⟩ = some (.int .i64 x9) := (b2.cell 9).trans rfl
  have B2 := Lib.hid b2
  have HB1 := Lib.hid hb1
  have N2 := Lib.hid n2
  clear b2 hb1 n2 u1
  go_upto_region 3 with (fail)
  obtain ⟨w3, hw3⟩ : ∃ w3, w2.alloc (.cells #[.int .i64 x4, .int .i64 x5, .int .i64 x6, .int .i64 x7, .int .i64 x8, .int .i64 x9] 29) = w3 := ⟨_, rfl⟩
  have bE : Blk w3 w2.heap.size 29 #[.int .i64 x4, .int .i64 x5, .int .i64 x6, .int .i64 x7, .int .i64 x8, .int .i64 x9] := by rw [← hw3]; exact Blk.last w2 _ _ rfl
  have b3 : Blk w3 w.heap.size 33 #[.int .i64 1, .int .u32 x1, .int .i64 x2, .slice A x3.length c, .int .i64 x4, .int .i64 x5, .int .i64 x6, .int .i64 x7, .int .i64 x8, .int .i64 x9, .int .u32 x10, .int .i64 x11, .int .i64 x12, .int .i64 x13, .int .i64 x14, .int .i64 x15, .int .i64 x16] := by rw [← hw3]; exact B2.out.alloc _
  have n3 : Nw w2 w3 := by rw [← hw3]; exact (Nw.refl w2).alloc _
  rw [hw3]
  have u0 : w3.cell? ⟨w.heap.size, 0, none⟩ = some (.int .i64 1) := (b3.cell 0).trans rfl
  have u2 : w3.cell? ⟨w.heap.size, 2, none⟩ = some (.int .i64 x2) := (b3.cell 2).trans rfl
  have N13 := Lib.hid (Nw.trans N1.out (Nw.trans N2.out n3))
  have HB3 := Lib.hid (show BytesAt w3 A1 (beW x1 4) from Rd.nw HB1.out n3)
  have HA3 := Lib.hid (show BytesAt w3 A x3 from Rd.nw HA.out (Nw.trans N1.out (Nw.trans N2.out n3)))
  clear hw3 bE b3 n3 e4 e5 e6 e7 e8 e9
  go_wp2_with fail
  refine (small7_any w3 x2).mono ?_
  rintro e w4 ⟨A2, c2, rfl, hb2, hc2, n4⟩
  have H4 := Lib.hid (And.intro hb2 n4)
  clear hb2 n4
  go_wp2_with fail
  refine (join_two _ _ A1 A2 4 1 _ c1 c2 (beW x1 4) (beW x2 1) (rd_last_row _ _ _) (Rd.nw HB3.out (H4.out.2.alloc _)) (Rd.nw H4.out.1 ((Nw.refl _).alloc _)) (beW_length _ _) (beW_length _ _) (by omega)).mono ?_
  rintro e w5 ⟨A5, c5, rfl, h5, h6, n5⟩
  have H5 := Lib.hid (And.intro h5 (And.intro h6 n5))
  clear h5 h6 n5
  go_wp2_with fail
  go_ret
  exact ⟨A5, c5, rfl, H5.out.1, H5.out.2.1, Nw.trans N13.out (Nw.trans (H4.out.2.alloc _) H5.out.2.2)⟩
end Go.Proofs.Ytnbcjjgilndlaaa
/- Messages: the document's bytes of a request of a kind. Helper. -/
namespace Go.Proofs.Ytnbcjjgilndlaaa
open Go.RowKit
set_option linter.unusedVariables false
set_option linter.unusedSimpArgs false
set_option maxRecDepth 100000
set_option maxHeartbeats 6400000
theorem ask7_2 (w : World) (q : Rq) (A : Option Addr) (c : Nat) (hk : q.k = 2) (hA : BytesAt w A q.md) (hin : q.In) :
    Calls Try.prog 38 #[.agg (q.c A c).toArray] w (Txt7 w (askB q)) := by
  obtain ⟨x0, x1, x2, x3, x4, x5, x6, x7, x8, x9, x10, x11, x12, x13, x14, x15, x16⟩ := q
  obtain ⟨hid, hnu, hmd⟩ := hin
  dsimp only at hA hk hid hnu hmd
  subst hk
  have hask : askB ⟨2, x1, x2, x3, x4, x5, x6, x7, x8, x9, x10, x11, x12, x13, x14, x15, x16⟩ = beW x1 4 ++ x3 := by simp [askB]
  rw [hask]
  obtain ⟨w1, hw1⟩ : ∃ w1, w.alloc (.cells #[.int .i64 2, .int .u32 x1, .int .i64 x2, .slice A x3.length c, .int .i64 x4, .int .i64 x5, .int .i64 x6, .int .i64 x7, .int .i64 x8, .int .i64 x9, .int .u32 x10, .int .i64 x11, .int .i64 x12, .int .i64 x13, .int .i64 x14, .int .i64 x15, .int .i64 x16] 33) = w1 := ⟨_, rfl⟩
  have b1 : Blk w1 w.heap.size 33 #[.int .i64 2, .int .u32 x1, .int .i64 x2, .slice A x3.length c, .int .i64 x4, .int .i64 x5, .int .i64 x6, .int .i64 x7, .int .i64 x8, .int .i64 x9, .int .u32 x10, .int .i64 x11, .int .i64 x12, .int .i64 x13, .int .i64 x14, .int .i64 x15, .int .i64 x16] := by rw [← hw1]; exact Blk.last w _ _ rfl
  have n1 : Nw w w1 := by rw [← hw1]; exact (Nw.refl w).alloc _
  have u1 : w1.cell? ⟨w.heap.size, 1, none⟩ = some (.int .u32 x1) := (b1.cell 1).trans rfl
  have HW1 := Lib.hid hw1
  have B1 := Lib.hid b1
  have N1 := Lib.hid n1
  have HA := Lib.hid hA
  have HIN := Lib.hid (And.intro hid (And.intro hnu hmd))
  simp only [Rq.c]
  clear hw1 b1 n1 hA hask hid hnu hmd
  go_enter Try.func38, Try.ntmps38
  go_wp2_with fail
  rw [HW1.out]
  refine (word7_any w1 x1 HIN.out.1).mono ?_
  rintro e w2 ⟨A1, c1, rfl, hb1, hc1, n2⟩
  have b2 : Blk w2 w.heap.size 33 #[.int .i64 2, .int .u32 x1, .int .i64 x2, .slice A x3.length c, .int .i64 x4, .int .i64 x5, .int .i64 x6, .int .i64 x7, .int .i64 x8, .int .i64 x9, .int .u32 x10, .int .i64 x11, .int .i64 x12, .int .i64 x13, .int .i64 x14, .int .i64 x15, .int .i64 x16] := B1.out.below n2 B1.out.lt
  have e4 : w2.cell? ⟨w.heap.size, 4, none⟩ = some (.int .i64 x4) := (b2.cell 4).trans rfl
  have e5 : w2.cell? ⟨w.heap.size, 5, none⟩ = some (.int .i64 x5) := (b2.cell 5).trans rfl
  have e6 : w2.cell? ⟨w.heap.size, 6, none⟩ = some (.int .i64 x6) := (b2.cell 6).trans rfl
  have e7 : w2.cell? ⟨w.heap.size, 7, none⟩ = some (.int .i64 x7) := (b2.cell 7).trans rfl
  have e8 : w2.cell? ⟨w.heap.size, 8, none⟩ = some (.int .i64 x8) := (b2.cell 8).trans rfl
  have e9 : w2.cell? ⟨w.heap.size, 9, none⟩ = some (.int .i64 x9) := (b2.cell 9).trans rfl
  have B2 := Lib.hid b2
  have HB1 := Lib.hid hb1
  have N2 := Lib.hid n2
  clear b2 hb1 n2 u1
  go_upto_region 3 with (fail)
  obtain ⟨w3, hw3⟩ : ∃ w3, w2.alloc (.cells #[.int .i64 x4, .int .i64 x5, .int .i64 x6, .int .i64 x7, .int .i64 x8, .int .i64 x9] 29) = w3 := ⟨_, rfl⟩
  have bE : Blk w3 w2.heap.size 29 #[.int .i64 x4, .int .i64 x5, .int .i64 x6, .int .i64 x7, .int .i64 x8, .int .i64 x9] := by rw [← hw3]; exact Blk.last w2 _ _ rfl
  have b3 : Blk w3 w.heap.size 33 #[.int .i64 2, .int .u32 x1, .int .i64 x2, .slice A x3.length c, .int .i64 x4, .int .i64 x5, .int .i64 x6, .int .i64 x7, .int .i64 x8, .int .i64 x9, .int .u32 x10, .int .i64 x11, .int .i64 x12, .int .i64 x13, .int .i64 x14, .int .i64 x15, .int .i64 x16] := by rw [← hw3]; exact B2.out.alloc _
  have n3 : Nw w2 w3 := by rw [← hw3]; exact (Nw.refl w2).alloc _
  rw [hw3]
  have u0 : w3.cell? ⟨w.heap.size, 0, none⟩ = some (.int .i64 2) := (b3.cell 0).trans rfl
  have u3 : w3.cell? ⟨w.heap.size, 3, none⟩ = some (.slice A x3.length c) := (b3.cell 3).trans rfl
  have N13 := Lib.hid (Nw.trans N1.out (Nw.trans N2.out n3))
  have HB3 := Lib.hid (show BytesAt w3 A1 (beW x1 4) from Rd.nw HB1.out n3)
  have HA3 := Lib.hid (show BytesAt w3 A x3 from Rd.nw HA.out (Nw.trans N1.out (Nw.trans N2.out n3)))
  clear hw3 bE b3 n3 e4 e5 e6 e7 e8 e9
  go_wp2_with fail
  refine (join_two _ _ A1 A 4 x3.length _ c1 c (beW x1 4) x3 (rd_last_row _ _ _) (Rd.nw HB3.out ((Nw.refl _).alloc _)) (Rd.nw HA3.out ((Nw.refl _).alloc _)) (beW_length _ _) rfl (by have := HIN.out.2.2; omega)).mono ?_
  rintro e w5 ⟨A5, c5, rfl, h5, h6, n5⟩
  have H5 := Lib.hid (And.intro h5 (And.intro h6 n5))
  clear h5 h6 n5
  go_wp2_with fail
  go_ret
  exact ⟨A5, c5, by simp [beW_length], H5.out.1, H5.out.2.1, Nw.trans N13.out (Nw.trans ((Nw.refl _).alloc _) H5.out.2.2)⟩
end Go.Proofs.Ytnbcjjgilndlaaa
/- Messages: the document's bytes of a request of a kind. Helper. -/
namespace Go.Proofs.Ytnbcjjgilndlaaa
open Go.RowKit
set_option linter.unusedVariables false
set_option linter.unusedSimpArgs false
set_option maxRecDepth 100000
set_option maxHeartbeats 6400000
theorem ask7_3 (w : World) (q : Rq) (A : Option Addr) (c : Nat) (hk : q.k = 3) (hA : BytesAt w A q.md) (hin : q.In) :
    Calls Try.prog 38 #[.agg (q.c A c).toArray] w (Txt7 w (askB q)) := by
  obtain ⟨x0, x1, x2, x3, x4, x5, x6, x7, x8, x9, x10, x11, x12, x13, x14, x15, x16⟩ := q
  obtain ⟨hid, hnu, hmd⟩ := hin
  dsimp only at hA hk hid hnu hmd
  subst hk
  have hask : askB ⟨3, x1, x2, x3, x4, x5, x6, x7, x8, x9, x10, x11, x12, x13, x14, x15, x16⟩ = beW x1 4 ++ beW x4 8 ++ beW x7 1 ++ beW x8 1 ++ beW x9 8 := by simp [askB]
  rw [hask]
  obtain ⟨w1, hw1⟩ : ∃ w1, w.alloc (.cells #[.int .i64 3, .int .u32 x1, .int .i64 x2, .slice A x3.length c, .int .i64 x4, .int .i64 x5, .int .i64 x6, .int .i64 x7, .int .i64 x8, .int .i64 x9, .int .u32 x10, .int .i64 x11, .int .i64 x12, .int .i64 x13, .int .i64 x14, .int .i64 x15, .int .i64 x16] 33) = w1 := ⟨_, rfl⟩
  have b1 : Blk w1 w.heap.size 33 #[.int .i64 3, .int .u32 x1, .int .i64 x2, .slice A x3.length c, .int .i64 x4, .int .i64 x5, .int .i64 x6, .int .i64 x7, .int .i64 x8, .int .i64 x9, .int .u32 x10, .int .i64 x11, .int .i64 x12, .int .i64 x13, .int .i64 x14, .int .i64 x15, .int .i64 x16] := by rw [← hw1]; exact Blk.last w _ _ rfl
  have n1 : Nw w w1 := by rw [← hw1]; exact (Nw.refl w).alloc _
  have u1 : w1.cell? ⟨w.heap.size, 1, none⟩ = some (.int .u32 x1) := (b1.cell 1).trans rfl
  have HW1 := Lib.hid hw1
  have B1 := Lib.hid b1
  have N1 := Lib.hid n1
  have HA := Lib.hid hA
  have HIN := Lib.hid (And.intro hid (And.intro hnu hmd))
  simp only [Rq.c]
  clear hw1 b1 n1 hA hask hid hnu hmd
  go_enter Try.func38, Try.ntmps38
  go_wp2_with fail
  rw [HW1.out]
  refine (word7_any w1 x1 HIN.out.1).mono ?_
  rintro e w2 ⟨A1, c1, rfl, hb1, hc1, n2⟩
  have b2 : Blk w2 w.heap.size 33 #[.int .i64 3, .int .u32 x1, .int .i64 x2, .slice A x3.length c, .int .i64 x4, .int .i64 x5, .int .i64 x6, .int .i64 x7, .int .i64 x8, .int .i64 x9, .int .u32 x10, .int .i64 x11, .int .i64 x12, .int .i64 x13, .int .i64 x14, .int .i64 x15, .int .i64 x16] := B1.out.below n2 B1.out.lt
  have e4 : w2.cell? ⟨w.heap.size, 4, none⟩ = some (.int .i64 x4) := (b2.cell 4).trans rfl
  have e5 : w2.cell? ⟨w.heap.size, 5, none⟩ = some (.int .i64 x5) := (b2.cell 5).trans rfl
  have e6 : w2.cell? ⟨w.heap.size, 6, none⟩ = some (.int .i64 x6) := (b2.cell 6).trans rfl
  have e7 : w2.cell? ⟨w.heap.size, 7, none⟩ = some (.int .i64 x7) := (b2.cell 7).trans rfl
  have e8 : w2.cell? ⟨w.heap.size, 8, none⟩ = some (.int .i64 x8) := (b2.cell 8).trans rfl
  have e9 : w2.cell? ⟨w.heap.size, 9, none⟩ = some (.int .i64 x9) := (b2.cell 9).trans rfl
  have B2 := Lib.hid b2
  have HB1 := Lib.hid hb1
  have N2 := Lib.hid n2
  clear b2 hb1 n2 u1
  go_upto_region 3 with (fail)
  obtain ⟨w3, hw3⟩ : ∃ w3, w2.alloc (.cells #[.int .i64 x4, .int .i64 x5, .int .i64 x6, .int .i64 x7, .int .i64 x8, .int .i64 x9] 29) = w3 := ⟨_, rfl⟩
  have bE : Blk w3 w2.heap.size 29 #[.int .i64 x4, .int .i64 x5, .int .i64 x6, .int .i64 x7, .int .i64 x8, .int .i64 x9] := by rw [← hw3]; exact Blk.last w2 _ _ rfl
  have b3 : Blk w3 w.heap.size 33 #[.int .i64 3, .int .u32 x1, .int .i64 x2, .slice A x3.length c, .int .i64 x4, .int .i64 x5, .int .i64 x6, .int .i64 x7, .int .i64 x8, .int .i64 x9, .int .u32 x10, .int .i64 x11, .int .i64 x12, .int .i64 x13, .int .i64 x14, .int .i64 x15, .int .i64 x16] := by rw [← hw3]; exact B2.out.alloc _
  have n3 : Nw w2 w3 := by rw [← hw3]; exact (Nw.refl w2).alloc _
  rw [hw3]
  have u0 : w3.cell? ⟨w.heap.size, 0, none⟩ = some (.int .i64 3) := (b3.cell 0).trans rfl
  have v0 : w3.cell? ⟨w2.heap.size, 0, none⟩ = some (.int .i64 x4) := (bE.cell 0).trans rfl
  have v3 : w3.cell? ⟨w2.heap.size, 3, none⟩ = some (.int .i64 x7) := (bE.cell 3).trans rfl
  have v4 : w3.cell? ⟨w2.heap.size, 4, none⟩ = some (.int .i64 x8) := (bE.cell 4).trans rfl
  have v5 : w3.cell? ⟨w2.heap.size, 5, none⟩ = some (.int .i64 x9) := (bE.cell 5).trans rfl
  have N13 := Lib.hid (Nw.trans N1.out (Nw.trans N2.out n3))
  have HB3 := Lib.hid (show BytesAt w3 A1 (beW x1 4) from Rd.nw HB1.out n3)
  have HA3 := Lib.hid (show BytesAt w3 A x3 from Rd.nw HA.out (Nw.trans N1.out (Nw.trans N2.out n3)))
  clear hw3 bE b3 n3 e4 e5 e6 e7 e8 e9
  have HSS := Lib.hid (show ∀ W, NwI w3 W → (fun W => NwI w3 W ∧ W.cell? ⟨w2.heap.size, 0, none⟩ = some (.int .i64 x4) ∧ W.cell? ⟨w2.heap.size, 3, none⟩ = some (.int .i64 x7) ∧ W.cell? ⟨w2.heap.size, 4, none⟩ = some (.int .i64 x8) ∧ W.cell? ⟨w2.heap.size, 5, none⟩ = some (.int .i64 x9)) W from fun W h => ⟨h, h.h.cell v0, h.h.cell v3, h.h.cell v4, h.h.cell v5⟩)
  clear v0 v3 v4 v5
  go_upto_region 9 with (fail)
  go_region_held3 (fun W => NwI w3 W ∧ W.cell? ⟨w2.heap.size, 0, none⟩ = some (.int .i64 x4) ∧ W.cell? ⟨w2.heap.size, 3, none⟩ = some (.int .i64 x7) ∧ W.cell? ⟨w2.heap.size, 4, none⟩ = some (.int .i64 x8) ∧ W.cell? ⟨w2.heap.size, 5, none⟩ = some (.int .i64 x9)) ((refine HSS.out _ ?_; repeat (first | assumption | exact ⟨Nw.refl w3⟩ | refine NwI.drew ?_ | refine NwI.alloc ?_ _))) (first
    | (go_at_call 43; refine (long7_any _ x4).mono ?_; rintro e w10 ⟨A10, c10, rfl, b10, g10, m10⟩; have i10 : NwI w3 w10 := NwI.step (by repeat (first | assumption | exact ⟨Nw.refl w3⟩ | refine NwI.drew ?_)) m10)
    | (go_at_call 42; refine (small7_any _ x7).mono ?_; rintro e w11 ⟨A11, c11, rfl, b11, g11, m11⟩; have i11 : NwI w3 w11 := NwI.step (by repeat (first | assumption | exact ⟨Nw.refl w3⟩ | refine NwI.drew ?_)) m11)
    | (go_at_call 42; refine (small7_any _ x8).mono ?_; rintro e w12 ⟨A12, c12, rfl, b12, g12, m12⟩; have i12 : NwI w3 w12 := NwI.step (by repeat (first | assumption | exact ⟨Nw.refl w3⟩ | refine NwI.drew ?_)) m12)
    | (go_at_call 43; refine (long7_any _ x9).mono ?_; rintro e w13 ⟨A13, c13, rfl, b13, g13, m13⟩; have i13 : NwI w3 w13 := NwI.step (by repeat (first | assumption | exact ⟨Nw.refl w3⟩ | refine NwI.drew ?_)) m13)
    | (go_at_call 40; refine (join_five _ _ A1 A10 A11 A12 A13 4 8 1 1 8 _ c1 c10 c11 c12 c13 (beW x1 4) (beW x4 8) (beW x7 1) (beW x8 1) (beW x9 8) (rd_last_row _ _ _) (Rd.nw HB3.out (by repeat (first | assumption | exact Nw.refl _ | refine Nw.alloc ?_ _ | refine Nw.drew ?_ | refine Nw.trans ?_ (by assumption)))) (Rd.nw b10 (by repeat (first | assumption | exact Nw.refl _ | refine Nw.alloc ?_ _ | refine Nw.drew ?_ | refine Nw.trans ?_ (by assumption)))) (Rd.nw b11 (by repeat (first | assumption | exact Nw.refl _ | refine Nw.alloc ?_ _ | refine Nw.drew ?_ | refine Nw.trans ?_ (by assumption)))) (Rd.nw b12 (by repeat (first | assumption | exact Nw.refl _ | refine Nw.alloc ?_ _ | refine Nw.drew ?_ | refine Nw.trans ?_ (by assumption)))) (Rd.nw b13 (by repeat (first | assumption | exact Nw.refl _ | refine Nw.alloc ?_ _ | refine Nw.drew ?_ | refine Nw.trans ?_ (by assumption)))) (beW_length _ _) (beW_length _ _) (beW_length _ _) (beW_length _ _) (beW_length _ _) (by omega)).mono ?_; rintro e w5 ⟨A5, c5, rfl, h5, h6, n5⟩; have i5 : NwI w3 w5 := NwI.step (by repeat (first | assumption | refine NwI.alloc ?_ _)) n5))
  all_goals
    go_wp2_with fail
    go_ret
    exact ⟨A5, c5, by simp [beW_length], h5, h6, Nw.trans N13.out i5.h⟩
end Go.Proofs.Ytnbcjjgilndlaaa
/- Messages: the document's bytes of a request of a kind. Helper. -/
namespace Go.Proofs.Ytnbcjjgilndlaaa
open Go.RowKit
set_option linter.unusedVariables false
set_option linter.unusedSimpArgs false
set_option maxRecDepth 100000
set_option maxHeartbeats 6400000
theorem ask7_4 (w : World) (q : Rq) (A : Option Addr) (c : Nat) (hk : q.k = 4) (hA : BytesAt w A q.md) (hin : q.In) :
    Calls Try.prog 38 #[.agg (q.c A c).toArray] w (Txt7 w (askB q)) := by
  obtain ⟨x0, x1, x2, x3, x4, x5, x6, x7, x8, x9, x10, x11, x12, x13, x14, x15, x16⟩ := q
  obtain ⟨hid, hnu, hmd⟩ := hin
  dsimp only at hA hk hid hnu hmd
  subst hk
  have hask : askB ⟨4, x1, x2, x3, x4, x5, x6, x7, x8, x9, x10, x11, x12, x13, x14, x15, x16⟩ = beW x1 4 ++ beW x10 4 ++ beW x11 1 ++ beW x12 1 ++ beW x13 8 := by simp [askB]
  rw [hask]
  obtain ⟨w1, hw1⟩ : ∃ w1, w.alloc (.cells #[.int .i64 4, .int .u32 x1, .int .i64 x2, .slice A x3.length c, .int .i64 x4, .int .i64 x5, .int .i64 x6, .int .i64 x7, .int .i64 x8, .int .i64 x9, .int .u32 x10, .int .i64 x11, .int .i64 x12, .int .i64 x13, .int .i64 x14, .int .i64 x15, .int .i64 x16] 33) = w1 := ⟨_, rfl⟩
  have b1 : Blk w1 w.heap.size 33 #[.int .i64 4, .int .u32 x1, .int .i64 x2, .slice A x3.length c, .int .i64 x4, .int .i64 x5, .int .i64 x6, .int .i64 x7, .int .i64 x8, .int .i64 x9, .int .u32 x10, .int .i64 x11, .int .i64 x12, .int .i64 x13, .int .i64 x14, .int .i64 x15, .int .i64 x16] := by rw [← hw1]; exact Blk.last w _ _ rfl
  have n1 : Nw w w1 := by rw [← hw1]; exact (Nw.refl w).alloc _
  have u1 : w1.cell? ⟨w.heap.size, 1, none⟩ = some (.int .u32 x1) := (b1.cell 1).trans rfl
  have HW1 := Lib.hid hw1
  have B1 := Lib.hid b1
  have N1 := Lib.hid n1
  have HA := Lib.hid hA
  have HIN := Lib.hid (And.intro hid (And.intro hnu hmd))
  simp only [Rq.c]
  clear hw1 b1 n1 hA hask hid hnu hmd
  go_enter Try.func38, Try.ntmps38
  go_wp2_with fail
  rw [HW1.out]
  refine (word7_any w1 x1 HIN.out.1).mono ?_
  rintro e w2 ⟨A1, c1, rfl, hb1, hc1, n2⟩
  have b2 : Blk w2 w.heap.size 33 #[.int .i64 4, .int .u32 x1, .int .i64 x2, .slice A x3.length c, .int .i64 x4, .int .i64 x5, .int .i64 x6, .int .i64 x7, .int .i64 x8, .int .i64 x9, .int .u32 x10, .int .i64 x11, .int .i64 x12, .int .i64 x13, .int .i64 x14, .int .i64 x15, .int .i64 x16] := B1.out.below n2 B1.out.lt
  have e4 : w2.cell? ⟨w.heap.size, 4, none⟩ = some (.int .i64 x4) := (b2.cell 4).trans rfl
  have e5 : w2.cell? ⟨w.heap.size, 5, none⟩ = some (.int .i64 x5) := (b2.cell 5).trans rfl
  have e6 : w2.cell? ⟨w.heap.size, 6, none⟩ = some (.int .i64 x6) := (b2.cell 6).trans rfl
  have e7 : w2.cell? ⟨w.heap.size, 7, none⟩ = some (.int .i64 x7) := (b2.cell 7).trans rfl
  have e8 : w2.cell? ⟨w.heap.size, 8, none⟩ = some (.int .i64 x8) := (b2.cell 8).trans rfl
  have e9 : w2.cell? ⟨w.heap.size, 9, none⟩ = some (.int .i64 x9) := (b2.cell 9).trans rfl
  have B2 := Lib.hid b2
  have HB1 := Lib.hid hb1
  have N2 := Lib.hid n2
  clear b2 hb1 n2 u1
  go_upto_region 3 with (fail)
  obtain ⟨w3, hw3⟩ : ∃ w3, w2.alloc (.cells #[.int .i64 x4, .int .i64 x5, .int .i64 x6, .int .i64 x7, .int .i64 x8, .int .i64 x9] 29) = w3 := ⟨_, rfl⟩
  have bE : Blk w3 w2.heap.size 29 #[.int .i64 x4, .int .i64 x5, .int .i64 x6, .int .i64 x7, .int .i64 x8, .int .i64 x9] := by rw [← hw3]; exact Blk.last w2 _ _ rfl
  have b3 : Blk w3 w.heap.size 33 #[.int .i64 4, .int .u32 x1, .int .i64 x2, .slice A x3.length c, .int .i64 x4, .int .i64 x5, .int .i64 x6, .int .i64 x7, .int .i64 x8, .int .i64 x9, .int .u32 x10, .int .i64 x11, .int .i64 x12, .int .i64 x13, .int .i64 x14, .int .i64 x15, .int .i64 x16] := by rw [← hw3]; exact B2.out.alloc _
  have n3 : Nw w2 w3 := by rw [← hw3]; exact (Nw.refl w2).alloc _
  rw [hw3]
  have u0 : w3.cell? ⟨w.heap.size, 0, none⟩ = some (.int .i64 4) := (b3.cell 0).trans rfl
  have u10 : w3.cell? ⟨w.heap.size, 10, none⟩ = some (.int .u32 x10) := (b3.cell 10).trans rfl
  have u11 : w3.cell? ⟨w.heap.size, 11, none⟩ = some (.int .i64 x11) := (b3.cell 11).trans rfl
  have u12 : w3.cell? ⟨w.heap.size, 12, none⟩ = some (.int .i64 x12) := (b3.cell 12).trans rfl
  have u13 : w3.cell? ⟨w.heap.size, 13, none⟩ = some (.int .i64 x13) := (b3.cell 13).trans rfl
  have N13 := Lib.hid (Nw.trans N1.out (Nw.trans N2.out n3))
  have HB3 := Lib.hid (show BytesAt w3 A1 (beW x1 4) from Rd.nw HB1.out n3)
  have HA3 := Lib.hid (show BytesAt w3 A x3 from Rd.nw HA.out (Nw.trans N1.out (Nw.trans N2.out n3)))
  clear hw3 bE b3 n3 e4 e5 e6 e7 e8 e9
  have HSS := Lib.hid (show ∀ W, NwI w3 W → (fun W => NwI w3 W ∧ W.cell? ⟨w.heap.size, 10, none⟩ = some (.int .u32 x10) ∧ W.cell? ⟨w.heap.size, 11, none⟩ = some (.int .i64 x11) ∧ W.cell? ⟨w.heap.size, 12, none⟩ = some (.int .i64 x12) ∧ W.cell? ⟨w.heap.size, 13, none⟩ = some (.int .i64 x13)) W from fun W h => ⟨h, h.h.cell u10, h.h.cell u11, h.h.cell u12, h.h.cell u13⟩)
  clear u10 u11 u12 u13
  go_upto_region 11 with (fail)
  go_region_held3 (fun W => NwI w3 W ∧ W.cell? ⟨w.heap.size, 10, none⟩ = some (.int .u32 x10) ∧ W.cell? ⟨w.heap.size, 11, none⟩ = some (.int .i64 x11) ∧ W.cell? ⟨w.heap.size, 12, none⟩ = some (.int .i64 x12) ∧ W.cell? ⟨w.heap.size, 13, none⟩ = some (.int .i64 x13)) ((refine HSS.out _ ?_; repeat (first | assumption | exact ⟨Nw.refl w3⟩ | refine NwI.drew ?_ | refine NwI.alloc ?_ _))) (first
    | (go_at_call 41; refine (word7_any _ x10 HIN.out.2.1).mono ?_; rintro e w10 ⟨A10, c10, rfl, b10, g10, m10⟩; have i10 : NwI w3 w10 := NwI.step (by repeat (first | assumption | exact ⟨Nw.refl w3⟩ | refine NwI.drew ?_)) m10)
    | (go_at_call 42; refine (small7_any _ x11).mono ?_; rintro e w11 ⟨A11, c11, rfl, b11, g11, m11⟩; have i11 : NwI w3 w11 := NwI.step (by repeat (first | assumption | exact ⟨Nw.refl w3⟩ | refine NwI.drew ?_)) m11)
    | (go_at_call 42; refine (small7_any _ x12).mono ?_; rintro e w12 ⟨A12, c12, rfl, b12, g12, m12⟩; have i12 : NwI w3 w12 := NwI.step (by repeat (first | assumption | exact ⟨Nw.refl w3⟩ | refine NwI.drew ?_)) m12)
    | (go_at_call 43; refine (long7_any _ x13).mono ?_; rintro e w13 ⟨A13, c13, rfl, b13, g13, m13⟩; have i13 : NwI w3 w13 := NwI.step (by repeat (first | assumption | exact ⟨Nw.refl w3⟩ | refine NwI.drew ?_)) m13)
    | (go_at_call 40; refine (join_five _ _ A1 A10 A11 A12 A13 4 4 1 1 8 _ c1 c10 c11 c12 c13 (beW x1 4) (beW x10 4) (beW x11 1) (beW x12 1) (beW x13 8) (rd_last_row _ _ _) (Rd.nw HB3.out (by repeat (first | assumption | exact Nw.refl _ | refine Nw.alloc ?_ _ | refine Nw.drew ?_ | refine Nw.trans ?_ (by assumption)))) (Rd.nw b10 (by repeat (first | assumption | exact Nw.refl _ | refine Nw.alloc ?_ _ | refine Nw.drew ?_ | refine Nw.trans ?_ (by assumption)))) (Rd.nw b11 (by repeat (first | assumption | exact Nw.refl _ | refine Nw.alloc ?_ _ | refine Nw.drew ?_ | refine Nw.trans ?_ (by assumption)))) (Rd.nw b12 (by repeat (first | assumption | exact Nw.refl _ | refine Nw.alloc ?_ _ | refine Nw.drew ?_ | refine Nw.trans ?_ (by assumption)))) (Rd.nw b13 (by repeat (first | assumption | exact Nw.refl _ | refine Nw.alloc ?_ _ | refine Nw.drew ?_ | refine Nw.trans ?_ (by assumption)))) (beW_length _ _) (beW_length _ _) (beW_length _ _) (beW_length _ _) (beW_length _ _) (by omega)).mono ?_; rintro e w5 ⟨A5, c5, rfl, h5, h6, n5⟩; have i5 : NwI w3 w5 := NwI.step (by repeat (first | assumption | refine NwI.alloc ?_ _)) n5))
  all_goals
    go_wp2_with fail
    go_ret
    exact ⟨A5, c5, by simp [beW_length], h5, h6, Nw.trans N13.out i5.h⟩
end Go.Proofs.Ytnbcjjgilndlaaa
/- Messages: the document's bytes of a request of a kind. Helper. -/
namespace Go.Proofs.Ytnbcjjgilndlaaa
open Go.RowKit
set_option linter.unusedVariables false
set_option linter.unusedSimpArgs false
set_option maxRecDepth 100000
set_option maxHeartbeats 6400000
theorem ask7_5 (w : World) (q : Rq) (A : Option Addr) (c : Nat) (hk : q.k = 5) (hA : BytesAt w A q.md) (hin : q.In) :
    Calls Try.prog 38 #[.agg (q.c A c).toArray] w (Txt7 w (askB q)) := by
  obtain ⟨x0, x1, x2, x3, x4, x5, x6, x7, x8, x9, x10, x11, x12, x13, x14, x15, x16⟩ := q
  obtain ⟨hid, hnu, hmd⟩ := hin
  dsimp only at hA hk hid hnu hmd
  subst hk
  have hask : askB ⟨5, x1, x2, x3, x4, x5, x6, x7, x8, x9, x10, x11, x12, x13, x14, x15, x16⟩ = beW x1 4 ++ beW x10 4 := by simp [askB]
  rw [hask]
  obtain ⟨w1, hw1⟩ : ∃ w1, w.alloc (.cells #[.int .i64 5, .int .u32 x1, .int .i64 x2, .slice A x3.length c, .int .i64 x4, .int .i64 x5, .int .i64 x6, .int .i64 x7, .int .i64 x8, .int .i64 x9, .int .u32 x10, .int .i64 x11, .int .i64 x12, .int .i64 x13, .int .i64 x14, .int .i64 x15, .int .i64 x16] 33) = w1 := ⟨_, rfl⟩
  have b1 : Blk w1 w.heap.size 33 #[.int .i64 5, .int .u32 x1, .int .i64 x2, .slice A x3.length c, .int .i64 x4, .int .i64 x5, .int .i64 x6, .int .i64 x7, .int .i64 x8, .int .i64 x9, .int .u32 x10, .int .i64 x11, .int .i64 x12, .int .i64 x13, .int .i64 x14, .int .i64 x15, .int .i64 x16] := by rw [← hw1]; exact Blk.last w _ _ rfl
  have n1 : Nw w w1 := by rw [← hw1]; exact (Nw.refl w).alloc _
  have u1 : w1.cell? ⟨w.heap.size, 1, none⟩ = some (.int .u32 x1) := (b1.cell 1).trans rfl
  have HW1 := Lib.hid hw1
  have B1 := Lib.hid b1
  have N1 := Lib.hid n1
  have HA := Lib.hid hA
  have HIN := Lib.hid (And.intro hid (And.intro hnu hmd))
  simp only [Rq.c]
  clear hw1 b1 n1 hA hask hid hnu hmd
  go_enter Try.func38, Try.ntmps38
  go_wp2_with fail
  rw [HW1.out]
  refine (word7_any w1 x1 HIN.out.1).mono ?_
  rintro e w2 ⟨A1, c1, rfl, hb1, hc1, n2⟩
  have b2 : Blk w2 w.heap.size 33 #[.int .i64 5, .int .u32 x1, .int .i64 x2, .slice A x3.length c, .int .i64 x4, .int .i64 x5, .int .i64 x6, .int .i64 x7, .int .i64 x8, .int .i64 x9, .int .u32 x10, .int .i64 x11, .int .i64 x12, .int .i64 x13, .int .i64 x14, .int .i64 x15, .int .i64 x16] := B1.out.below n2 B1.out.lt
  have e4 : w2.cell? ⟨w.heap.size, 4, none⟩ = some (.int .i64 x4) := (b2.cell 4).trans rfl
  have e5 : w2.cell? ⟨w.heap.size, 5, none⟩ = some (.int .i64 x5) := (b2.cell 5).trans rfl
  have e6 : w2.cell? ⟨w.heap.size, 6, none⟩ = some (.int .i64 x6) := (b2.cell 6).trans rfl
  have e7 : w2.cell? ⟨w.heap.size, 7, none⟩ = some (.int .i64 x7) := (b2.cell 7).trans rfl
  have e8 : w2.cell? ⟨w.heap.size, 8, none⟩ = some (.int .i64 x8) := (b2.cell 8).trans rfl
  have e9 : w2.cell? ⟨w.heap.size, 9, none⟩ = some (.int .i64 x9) := (b2.cell 9).trans rfl
  have B2 := Lib.hid b2
  have HB1 := Lib.hid hb1
  have N2 := Lib.hid n2
  clear b2 hb1 n2 u1
  go_upto_region 3 with (fail)
  obtain ⟨w3, hw3⟩ : ∃ w3, w2.alloc (.cells #[.int .i64 x4, .int .i64 x5, .int .i64 x6, .int .i64 x7, .int .i64 x8, .int .i64 x9] 29) = w3 := ⟨_, rfl⟩
  have bE : Blk w3 w2.heap.size 29 #[.int .i64 x4, .int .i64 x5, .int .i64 x6, .int .i64 x7, .int .i64 x8, .int .i64 x9] := by rw [← hw3]; exact Blk.last w2 _ _ rfl
  have b3 : Blk w3 w.heap.size 33 #[.int .i64 5, .int .u32 x1, .int .i64 x2, .slice A x3.length c, .int .i64 x4, .int .i64 x5, .int .i64 x6, .int .i64 x7, .int .i64 x8, .int .i64 x9, .int .u32 x10, .int .i64 x11, .int .i64 x12, .int .i64 x13, .int .i64 x14, .int .i64 x15, .int .i64 x16] := by rw [← hw3]; exact B2.out.alloc _
  have n3 : Nw w2 w3 := by rw [← hw3]; exact (Nw.refl w2).alloc _
  rw [hw3]
  have u0 : w3.cell? ⟨w.heap.size, 0, none⟩ = some (.int .i64 5) := (b3.cell 0).trans rfl
  have u10 : w3.cell? ⟨w.heap.size, 10, none⟩ = some (.int .u32 x10) := (b3.cell 10).trans rfl
  have N13 := Lib.hid (Nw.trans N1.out (Nw.trans N2.out n3))
  have HB3 := Lib.hid (show BytesAt w3 A1 (beW x1 4) from Rd.nw HB1.out n3)
  have HA3 := Lib.hid (show BytesAt w3 A x3 from Rd.nw HA.out (Nw.trans N1.out (Nw.trans N2.out n3)))
  clear hw3 bE b3 n3 e4 e5 e6 e7 e8 e9
  go_wp2_with fail
  refine (word7_any w3 x10 HIN.out.2.1).mono ?_
  rintro e w4 ⟨A2, c2, rfl, hb2, hc2, n4⟩
  have H4 := Lib.hid (And.intro hb2 n4)
  clear hb2 n4
  go_wp2_with fail
  refine (join_two _ _ A1 A2 4 4 _ c1 c2 (beW x1 4) (beW x10 4) (rd_last_row _ _ _) (Rd.nw HB3.out (H4.out.2.alloc _)) (Rd.nw H4.out.1 ((Nw.refl _).alloc _)) (beW_length _ _) (beW_length _ _) (by omega)).mono ?_
  rintro e w5 ⟨A5, c5, rfl, h5, h6, n5⟩
  have H5 := Lib.hid (And.intro h5 (And.intro h6 n5))
  clear h5 h6 n5
  go_wp2_with fail
  go_ret
  exact ⟨A5, c5, rfl, H5.out.1, H5.out.2.1, Nw.trans N13.out (Nw.trans (H4.out.2.alloc _) H5.out.2.2)⟩
end Go.Proofs.Ytnbcjjgilndlaaa
/- Messages: the document's bytes of a request of a kind. Helper. -/
namespace Go.Proofs.Ytnbcjjgilndlaaa
open Go.RowKit
set_option linter.unusedVariables false
set_option linter.unusedSimpArgs false
set_option maxRecDepth 100000
set_option maxHeartbeats 6400000
theorem ask7_6 (w : World) (q : Rq) (A : Option Addr) (c : Nat) (hk : q.k = 6) (hA : BytesAt w A q.md) (hin : q.In) :
    Calls Try.prog 38 #[.agg (q.c A c).toArray] w (Txt7 w (askB q)) := by
  obtain ⟨x0, x1, x2, x3, x4, x5, x6, x7, x8, x9, x10, x11, x12, x13, x14, x15, x16⟩ := q
  obtain ⟨hid, hnu, hmd⟩ := hin
  dsimp only at hA hk hid hnu hmd
  subst hk
  have hask : askB ⟨6, x1, x2, x3, x4, x5, x6, x7, x8, x9, x10, x11, x12, x13, x14, x15, x16⟩ = beW x1 4 ++ beW x14 1 := by simp [askB]
  rw [hask]
  obtain ⟨w1, hw1⟩ : ∃ w1, w.alloc (.cells #[.int .i64 6, .int .u32 x1, .int .i64 x2, .slice A x3.length c, .int .i64 x4, .int .i64 x5, .int .i64 x6, .int .i64 x7, .int .i64 x8, .int .i64 x9, .int .u32 x10, .int .i64 x11, .int .i64 x12, .int .i64 x13, .int .i64 x14, .int .i64 x15, .int .i64 x16] 33) = w1 := ⟨_, rfl⟩
  have b1 : Blk w1 w.heap.size 33 #[.int .i64 6, .int .u32 x1, .int .i64 x2, .slice A x3.length c, .int .i64 x4, .int .i64 x5, .int .i64 x6, .int .i64 x7, .int .i64 x8, .int .i64 x9, .int .u32 x10, .int .i64 x11, .int .i64 x12, .int .i64 x13, .int .i64 x14, .int .i64 x15, .int .i64 x16] := by rw [← hw1]; exact Blk.last w _ _ rfl
  have n1 : Nw w w1 := by rw [← hw1]; exact (Nw.refl w).alloc _
  have u1 : w1.cell? ⟨w.heap.size, 1, none⟩ = some (.int .u32 x1) := (b1.cell 1).trans rfl
  have HW1 := Lib.hid hw1
  have B1 := Lib.hid b1
  have N1 := Lib.hid n1
  have HA := Lib.hid hA
  have HIN := Lib.hid (And.intro hid (And.intro hnu hmd))
  simp only [Rq.c]
  clear hw1 b1 n1 hA hask hid hnu hmd
  go_enter Try.func38, Try.ntmps38
  go_wp2_with fail
  rw [HW1.out]
  refine (word7_any w1 x1 HIN.out.1).mono ?_
  rintro e w2 ⟨A1, c1, rfl, hb1, hc1, n2⟩
  have b2 : Blk w2 w.heap.size 33 #[.int .i64 6, .int .u32 x1, .int .i64 x2, .slice A x3.length c, .int .i64 x4, .int .i64 x5, .int .i64 x6, .int .i64 x7, .int .i64 x8, .int .i64 x9, .int .u32 x10, .int .i64 x11, .int .i64 x12, .int .i64 x13, .int .i64 x14, .int .i64 x15, .int .i64 x16] := B1.out.below n2 B1.out.lt
  have e4 : w2.cell? ⟨w.heap.size, 4, none⟩ = some (.int .i64 x4) := (b2.cell 4).trans rfl
  have e5 : w2.cell? ⟨w.heap.size, 5, none⟩ = some (.int .i64 x5) := (b2.cell 5).trans rfl
  have e6 : w2.cell? ⟨w.heap.size, 6, none⟩ = some (.int .i64 x6) := (b2.cell 6).trans rfl
  have e7 : w2.cell? ⟨w.heap.size, 7, none⟩ = some (.int .i64 x7) := (b2.cell 7).trans rfl
  have e8 : w2.cell? ⟨w.heap.size, 8, none⟩ = some (.int .i64 x8) := (b2.cell 8).trans rfl
  have e9 : w2.cell? ⟨w.heap.size, 9, none⟩ = some (.int .i64 x9) := (b2.cell 9).trans rfl
  have B2 := Lib.hid b2
  have HB1 := Lib.hid hb1
  have N2 := Lib.hid n2
  clear b2 hb1 n2 u1
  go_upto_region 3 with (fail)
  obtain ⟨w3, hw3⟩ : ∃ w3, w2.alloc (.cells #[.int .i64 x4, .int .i64 x5, .int .i64 x6, .int .i64 x7, .int .i64 x8, .int .i64 x9] 29) = w3 := ⟨_, rfl⟩
  have bE : Blk w3 w2.heap.size 29 #[.int .i64 x4, .int .i64 x5, .int .i64 x6, .int .i64 x7, .int .i64 x8, .int .i64 x9] := by rw [← hw3]; exact Blk.last w2 _ _ rfl
  have b3 : Blk w3 w.heap.size 33 #[.int .i64 6, .int .u32 x1, .int .i64 x2, .slice A x3.length c, .int .i64 x4, .int .i64 x5, .int .i64 x6, .int .i64 x7, .int .i64 x8, .int .i64 x9, .int .u32 x10, .int .i64 x11, .int .i64 x12, .int .i64 x13, .int .i64 x14, .int .i64 x15, .int .i64 x16] := by rw [← hw3]; exact B2.out.alloc _
  have n3 : Nw w2 w3 := by rw [← hw3]; exact (Nw.refl w2).alloc _
  rw [hw3]
  have u0 : w3.cell? ⟨w.heap.size, 0, none⟩ = some (.int .i64 6) := (b3.cell 0).trans rfl
  have u14 : w3.cell? ⟨w.heap.size, 14, none⟩ = some (.int .i64 x14) := (b3.cell 14).trans rfl
  have N13 := Lib.hid (Nw.trans N1.out (Nw.trans N2.out n3))
  have HB3 := Lib.hid (show BytesAt w3 A1 (beW x1 4) from Rd.nw HB1.out n3)
  have HA3 := Lib.hid (show BytesAt w3 A x3 from Rd.nw HA.out (Nw.trans N1.out (Nw.trans N2.out n3)))
  clear hw3 bE b3 n3 e4 e5 e6 e7 e8 e9
  go_wp2_with fail
  refine (small7_any w3 x14).mono ?_
  rintro e w4 ⟨A2, c2, rfl, hb2, hc2, n4⟩
  have H4 := Lib.hid (And.intro hb2 n4)
  clear hb2 n4
  go_wp2_with fail
  refine (join_two _ _ A1 A2 4 1 _ c1 c2 (beW x1 4) (beW x14 1) (rd_last_row _ _ _) (Rd.nw HB3.out (H4.out.2.alloc _)) (Rd.nw H4.out.1 ((Nw.refl _).alloc _)) (beW_length _ _) (beW_length _ _) (by omega)).mono ?_
  rintro e w5 ⟨A5, c5, rfl, h5, h6, n5⟩
  have H5 := Lib.hid (And.intro h5 (And.intro h6 n5))
  clear h5 h6 n5
  go_wp2_with fail
  go_ret
  exact ⟨A5, c5, rfl, H5.out.1, H5.out.2.1, Nw.trans N13.out (Nw.trans (H4.out.2.alloc _) H5.out.2.2)⟩
end Go.Proofs.Ytnbcjjgilndlaaa
/- Messages: the document's bytes of a request of a kind. Helper. -/
namespace Go.Proofs.Ytnbcjjgilndlaaa
open Go.RowKit
set_option linter.unusedVariables false
set_option linter.unusedSimpArgs false
set_option maxRecDepth 100000
set_option maxHeartbeats 6400000
theorem ask7_10 (w : World) (q : Rq) (A : Option Addr) (c : Nat) (hk : q.k = 10) (hA : BytesAt w A q.md) (hin : q.In) :
    Calls Try.prog 38 #[.agg (q.c A c).toArray] w (Txt7 w (askB q)) := by
  obtain ⟨x0, x1, x2, x3, x4, x5, x6, x7, x8, x9, x10, x11, x12, x13, x14, x15, x16⟩ := q
  obtain ⟨hid, hnu, hmd⟩ := hin
  dsimp only at hA hk hid hnu hmd
  subst hk
  have hask : askB ⟨10, x1, x2, x3, x4, x5, x6, x7, x8, x9, x10, x11, x12, x13, x14, x15, x16⟩ = beW x1 4 ++ beW x15 8 ++ beW x16 8 := by simp [askB]
  rw [hask]
  obtain ⟨w1, hw1⟩ : ∃ w1, w.alloc (.cells #[.int .i64 10, .int .u32 x1, .int .i64 x2, .slice A x3.length c, .int .i64 x4, .int .i64 x5, .int .i64 x6, .int .i64 x7, .int .i64 x8, .int .i64 x9, .int .u32 x10, .int .i64 x11, .int .i64 x12, .int .i64 x13, .int .i64 x14, .int .i64 x15, .int .i64 x16] 33) = w1 := ⟨_, rfl⟩
  have b1 : Blk w1 w.heap.size 33 #[.int .i64 10, .int .u32 x1, .int .i64 x2, .slice A x3.length c, .int .i64 x4, .int .i64 x5, .int .i64 x6, .int .i64 x7, .int .i64 x8, .int .i64 x9, .int .u32 x10, .int .i64 x11, .int .i64 x12, .int .i64 x13, .int .i64 x14, .int .i64 x15, .int .i64 x16] := by rw [← hw1]; exact Blk.last w _ _ rfl
  have n1 : Nw w w1 := by rw [← hw1]; exact (Nw.refl w).alloc _
  have u1 : w1.cell? ⟨w.heap.size, 1, none⟩ = some (.int .u32 x1) := (b1.cell 1).trans rfl
  have HW1 := Lib.hid hw1
  have B1 := Lib.hid b1
  have N1 := Lib.hid n1
  have HA := Lib.hid hA
  have HIN := Lib.hid (And.intro hid (And.intro hnu hmd))
  simp only [Rq.c]
  clear hw1 b1 n1 hA hask hid hnu hmd
  go_enter Try.func38, Try.ntmps38
  go_wp2_with fail
  rw [HW1.out]
  refine (word7_any w1 x1 HIN.out.1).mono ?_
  rintro e w2 ⟨A1, c1, rfl, hb1, hc1, n2⟩
  have b2 : Blk w2 w.heap.size 33 #[.int .i64 10, .int .u32 x1, .int .i64 x2, .slice A x3.length c, .int .i64 x4, .int .i64 x5, .int .i64 x6, .int .i64 x7, .int .i64 x8, .int .i64 x9, .int .u32 x10, .int .i64 x11, .int .i64 x12, .int .i64 x13, .int .i64 x14, .int .i64 x15, .int .i64 x16] := B1.out.below n2 B1.out.lt
  have e4 : w2.cell? ⟨w.heap.size, 4, none⟩ = some (.int .i64 x4) := (b2.cell 4).trans rfl
  have e5 : w2.cell? ⟨w.heap.size, 5, none⟩ = some (.int .i64 x5) := (b2.cell 5).trans rfl
  have e6 : w2.cell? ⟨w.heap.size, 6, none⟩ = some (.int .i64 x6) := (b2.cell 6).trans rfl
  have e7 : w2.cell? ⟨w.heap.size, 7, none⟩ = some (.int .i64 x7) := (b2.cell 7).trans rfl
  have e8 : w2.cell? ⟨w.heap.size, 8, none⟩ = some (.int .i64 x8) := (b2.cell 8).trans rfl
  have e9 : w2.cell? ⟨w.heap.size, 9, none⟩ = some (.int .i64 x9) := (b2.cell 9).trans rfl
  have B2 := Lib.hid b2
  have HB1 := Lib.hid hb1
  have N2 := Lib.hid n2
  clear b2 hb1 n2 u1
  go_upto_region 3 with (fail)
  obtain ⟨w3, hw3⟩ : ∃ w3, w2.alloc (.cells #[.int .i64 x4, .int .i64 x5, .int .i64 x6, .int .i64 x7, .int .i64 x8, .int .i64 x9] 29) = w3 := ⟨_, rfl⟩
  have bE : Blk w3 w2.heap.size 29 #[.int .i64 x4, .int .i64 x5, .int .i64 x6, .int .i64 x7, .int .i64 x8, .int .i64 x9] := by rw [← hw3]; exact Blk.last w2 _ _ rfl
  have b3 : Blk w3 w.heap.size 33 #[.int .i64 10, .int .u32 x1, .int .i64 x2, .slice A x3.length c, .int .i64 x4, .int .i64 x5, .int .i64 x6, .int .i64 x7, .int .i64 x8, .int .i64 x9, .int .u32 x10, .int .i64 x11, .int .i64 x12, .int .i64 x13, .int .i64 x14, .int .i64 x15, .int .i64 x16] := by rw [← hw3]; exact B2.out.alloc _
  have n3 : Nw w2 w3 := by rw [← hw3]; exact (Nw.refl w2).alloc _
  rw [hw3]
  have u0 : w3.cell? ⟨w.heap.size, 0, none⟩ = some (.int .i64 10) := (b3.cell 0).trans rfl
  have u15 : w3.cell? ⟨w.heap.size, 15, none⟩ = some (.int .i64 x15) := (b3.cell 15).trans rfl
  have u16 : w3.cell? ⟨w.heap.size, 16, none⟩ = some (.int .i64 x16) := (b3.cell 16).trans rfl
  have N13 := Lib.hid (Nw.trans N1.out (Nw.trans N2.out n3))
  have HB3 := Lib.hid (show BytesAt w3 A1 (beW x1 4) from Rd.nw HB1.out n3)
  have HA3 := Lib.hid (show BytesAt w3 A x3 from Rd.nw HA.out (Nw.trans N1.out (Nw.trans N2.out n3)))
  clear hw3 bE b3 n3 e4 e5 e6 e7 e8 e9
  have HSS := Lib.hid (show ∀ W, NwI w3 W → (fun W => NwI w3 W ∧ W.cell? ⟨w.heap.size, 15, none⟩ = some (.int .i64 x15) ∧ W.cell? ⟨w.heap.size, 16, none⟩ = some (.int .i64 x16)) W from fun W h => ⟨h, h.h.cell u15, h.h.cell u16⟩)
  clear u15 u16
  go_upto_region 17 with (fail)
  go_region_held3 (fun W => NwI w3 W ∧ W.cell? ⟨w.heap.size, 15, none⟩ = some (.int .i64 x15) ∧ W.cell? ⟨w.heap.size, 16, none⟩ = some (.int .i64 x16)) ((refine HSS.out _ ?_; repeat (first | assumption | exact ⟨Nw.refl w3⟩ | refine NwI.drew ?_ | refine NwI.alloc ?_ _))) (first
    | (go_at_call 43; refine (long7_any _ x15).mono ?_; rintro e w10 ⟨A10, c10, rfl, b10, g10, m10⟩; have i10 : NwI w3 w10 := NwI.step (by repeat (first | assumption | exact ⟨Nw.refl w3⟩ | refine NwI.drew ?_)) m10)
    | (go_at_call 43; refine (long7_any _ x16).mono ?_; rintro e w11 ⟨A11, c11, rfl, b11, g11, m11⟩; have i11 : NwI w3 w11 := NwI.step (by repeat (first | assumption | exact ⟨Nw.refl w3⟩ | refine NwI.drew ?_)) m11)
    | (go_at_call 40; refine (join_three _ _ A1 A10 A11 4 8 8 _ c1 c10 c11 (beW x1 4) (beW x15 8) (beW x16 8) (rd_last_row _ _ _) (Rd.nw HB3.out (by repeat (first | assumption | exact Nw.refl _ | refine Nw.alloc ?_ _ | refine Nw.drew ?_ | refine Nw.trans ?_ (by assumption)))) (Rd.nw b10 (by repeat (first | assumption | exact Nw.refl _ | refine Nw.alloc ?_ _ | refine Nw.drew ?_ | refine Nw.trans ?_ (by assumption)))) (Rd.nw b11 (by repeat (first | assumption | exact Nw.refl _ | refine Nw.alloc ?_ _ | refine Nw.drew ?_ | refine Nw.trans ?_ (by assumption)))) (beW_length _ _) (beW_length _ _) (beW_length _ _) (by omega)).mono ?_; rintro e w5 ⟨A5, c5, rfl, h5, h6, n5⟩; have i5 : NwI w3 w5 := NwI.step (by repeat (first | assumption | refine NwI.alloc ?_ _)) n5))
  all_goals
    go_wp2_with fail
    go_ret
    exact ⟨A5, c5, by simp [beW_length], h5, h6, Nw.trans N13.out i5.h⟩
end Go.Proofs.Ytnbcjjgilndlaaa
