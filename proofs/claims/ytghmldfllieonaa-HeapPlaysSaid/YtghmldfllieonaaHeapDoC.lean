/- The law's do: Least, Most. Helper. -/
import Derived.Test.YtghmldfllieonaaHeapBox
import Derived.StillTailTactics
import Derived.BigQuiet
namespace Go.Proofs.Ytghmldfllieonaa
open Go.RowKit
set_option linter.unusedVariables false
set_option linter.unusedSimpArgs false
set_option maxRecDepth 100000
set_option maxHeartbeats 6400000
theorem do_4 (w W : World) (gB gR : Nat) (L : List It) (x : It) (n : Int) (h : BothH w W gB gR L) (hx : WOk x) (hl : L.length ≤ 1000) : Calls Try.prog 19 #[.pointer (some ⟨gB, 0, none⟩), .pointer (some ⟨gR, 0, none⟩), .agg #[.int .i64 4, .int .i64 x.k.T, .int .i64 x.k.O, .int .i64 x.k.S, .int .i64 x.p, .int .i64 x.q, .int .i64 x.d, .int .i64 x.n, .int .i64 n]] W fun r w' => r = .returned (.bool true) ∧ ∃ L', L'.length ≤ L.length + 1 ∧ BothH w w' gB gR L' := by
  have HL := Lib.hid hl
  have HWX := Lib.hid hx
  obtain ⟨gA, hgA⟩ : ∃ gA, W.heap.size = gA := ⟨_, rfl⟩
  obtain ⟨wA, hwA⟩ : ∃ wA, W.alloc (.cells #[.int .i64 4, .int .i64 x.k.T, .int .i64 x.k.O, .int .i64 x.k.S, .int .i64 x.p, .int .i64 x.q, .int .i64 x.d, .int .i64 x.n, .int .i64 n] 49) = wA := ⟨_, rfl⟩
  have hb := h.boxed 49 #[.int .i64 4, .int .i64 x.k.T, .int .i64 x.k.O, .int .i64 x.k.S, .int .i64 x.p, .int .i64 x.q, .int .i64 x.d, .int .i64 x.n, .int .i64 n]
  rw [hwA, hgA] at hb
  have HW := Lib.hid (And.intro hgA hwA)
  have HB := Lib.hid hb
  have hbk := hb.blk
  have a0 : wA.cell? ⟨gA, 0, none⟩ = some (.int .i64 4) := (hbk.cell 0).trans rfl
  have a1 : wA.cell? ⟨gA, 1, none⟩ = some (.int .i64 x.k.T) := (hbk.cell 1).trans rfl
  have a2 : wA.cell? ⟨gA, 2, none⟩ = some (.int .i64 x.k.O) := (hbk.cell 2).trans rfl
  have a3 : wA.cell? ⟨gA, 3, none⟩ = some (.int .i64 x.k.S) := (hbk.cell 3).trans rfl
  have a4 : wA.cell? ⟨gA, 4, none⟩ = some (.int .i64 x.p) := (hbk.cell 4).trans rfl
  have a5 : wA.cell? ⟨gA, 5, none⟩ = some (.int .i64 x.q) := (hbk.cell 5).trans rfl
  have a6 : wA.cell? ⟨gA, 6, none⟩ = some (.int .i64 x.d) := (hbk.cell 6).trans rfl
  have a7 : wA.cell? ⟨gA, 7, none⟩ = some (.int .i64 x.n) := (hbk.cell 7).trans rfl
  have a8 : wA.cell? ⟨gA, 8, none⟩ = some (.int .i64 n) := (hbk.cell 8).trans rfl
  clear h hl hx hb hbk hgA hwA
  go_enter Try.func19, Try.ntmps19
  go_upto_region 1 with (fail)
  rw [HW.out.2, HW.out.1]
  obtain ⟨y, hy⟩ : ∃ y, firstI L = y := ⟨_, rfl⟩
  obtain ⟨z, hz⟩ : ∃ z, lastI L = z := ⟨_, rfl⟩
  obtain ⟨is, his⟩ : ∃ is, isI L = is := ⟨_, rfl⟩
  have k0 := fun W2 (h : BothH w W2 gB gR L) => least_mineB w W2 gB gR L h (by have := HL.out; omega)
  have k1 := fun W2 (h : BothH w W2 gB gR L) => least_theirsB w W2 gB gR L h (by have := HL.out; omega)
  have k2 := fun W2 (h : BothH w W2 gB gR L) => most_mineB w W2 gB gR L h (by have := HL.out; omega)
  have k3 := fun W2 (h : BothH w W2 gB gR L) => most_theirsB w W2 gB gR L h (by have := HL.out; omega)
  simp only [hy, his] at k0 k1
  simp only [hz, his] at k2 k3
  have K0 := Lib.hid k0
  have K1 := Lib.hid k1
  have K2 := Lib.hid k2
  have K3 := Lib.hid k3
  clear k0 k1 k2 k3 hy hz his
  have N0 := Lib.hid HB.out.both
  clear HB a1 a2 a3 a4 a5 a6 a7 a8
  go_wp2_with fail
  refine (K0.out _ N0.out).mono ?_
  rintro r w2 ⟨rfl, h2, hw⟩
  have M0 := Lib.hid h2
  have HN0 := Lib.hid hw
  clear h2 hw
  rw [(by rfl : itv y is = .tuple #[.agg #[.int .i64 y.k.T, .int .i64 y.k.O, .int .i64 y.k.S, .int .i64 y.p, .int .i64 y.q, .int .i64 y.d, .int .i64 y.n], .bool is])]
  obtain ⟨g0, hg0⟩ : ∃ g0, w2.heap.size = g0 := ⟨_, rfl⟩
  obtain ⟨w3, hw3⟩ : ∃ w3, w2.alloc (.cells #[.int .i64 y.k.T, .int .i64 y.k.O, .int .i64 y.k.S, .int .i64 y.p, .int .i64 y.q, .int .i64 y.d, .int .i64 y.n] 36) = w3 := ⟨_, rfl⟩
  have HX0 := Lib.hid (And.intro hg0 hw3)
  have HB0 := Lib.hid (show Below w2.heap.size w2 w3 ∧ Blk w3 g0 36 y.c.toArray by
    rw [← hw3]
    exact ⟨(Below.refl _ w2).alloc (Nat.le_refl _) _, Blk.last w2 _ _ hg0⟩)
  clear hg0 hw3
  go_upto_region 14 with (fail)
  rw [HX0.out.2, HX0.out.1]
  have N1 := Lib.hid (M0.out.step HB0.out.1)
  have Q0x0 := Lib.hid HB0.out.2
  go_wp2_with fail
  refine (K1.out _ N1.out).mono ?_
  rintro r w4 ⟨rfl, h2, hw⟩
  have M1 := Lib.hid h2
  have HN1 := Lib.hid hw
  clear h2 hw
  rw [(by rfl : itv y is = .tuple #[.agg #[.int .i64 y.k.T, .int .i64 y.k.O, .int .i64 y.k.S, .int .i64 y.p, .int .i64 y.q, .int .i64 y.d, .int .i64 y.n], .bool is])]
  obtain ⟨g1, hg1⟩ : ∃ g1, w4.heap.size = g1 := ⟨_, rfl⟩
  obtain ⟨w5, hw5⟩ : ∃ w5, w4.alloc (.cells #[.int .i64 y.k.T, .int .i64 y.k.O, .int .i64 y.k.S, .int .i64 y.p, .int .i64 y.q, .int .i64 y.d, .int .i64 y.n] 36) = w5 := ⟨_, rfl⟩
  have HX1 := Lib.hid (And.intro hg1 hw5)
  have HB1 := Lib.hid (show Below w4.heap.size w4 w5 ∧ Blk w5 g1 36 y.c.toArray by
    rw [← hw5]
    exact ⟨(Below.refl _ w4).alloc (Nat.le_refl _) _, Blk.last w4 _ _ hg1⟩)
  clear hg1 hw5
  go_upto_region 15 with (fail)
  rw [HX1.out.2, HX1.out.1]
  have N2 := Lib.hid (M1.out.step HB1.out.1)
  have Q0x1 := Lib.hid ((Q0x0.out.below HN1.out Q0x0.out.lt).below HB1.out.1 (Q0x0.out.below HN1.out Q0x0.out.lt).lt)
  have Q1x1 := Lib.hid HB1.out.2
  go_wp2_with fail
  refine (K2.out _ N2.out).mono ?_
  rintro r w6 ⟨rfl, h2, hw⟩
  have M2 := Lib.hid h2
  have HN2 := Lib.hid hw
  clear h2 hw
  rw [(by rfl : itv z is = .tuple #[.agg #[.int .i64 z.k.T, .int .i64 z.k.O, .int .i64 z.k.S, .int .i64 z.p, .int .i64 z.q, .int .i64 z.d, .int .i64 z.n], .bool is])]
  obtain ⟨g2, hg2⟩ : ∃ g2, w6.heap.size = g2 := ⟨_, rfl⟩
  obtain ⟨w7, hw7⟩ : ∃ w7, w6.alloc (.cells #[.int .i64 z.k.T, .int .i64 z.k.O, .int .i64 z.k.S, .int .i64 z.p, .int .i64 z.q, .int .i64 z.d, .int .i64 z.n] 36) = w7 := ⟨_, rfl⟩
  have HX2 := Lib.hid (And.intro hg2 hw7)
  have HB2 := Lib.hid (show Below w6.heap.size w6 w7 ∧ Blk w7 g2 36 z.c.toArray by
    rw [← hw7]
    exact ⟨(Below.refl _ w6).alloc (Nat.le_refl _) _, Blk.last w6 _ _ hg2⟩)
  clear hg2 hw7
  go_upto_region 16 with (fail)
  rw [HX2.out.2, HX2.out.1]
  have N3 := Lib.hid (M2.out.step HB2.out.1)
  have Q0x2 := Lib.hid ((Q0x1.out.below HN2.out Q0x1.out.lt).below HB2.out.1 (Q0x1.out.below HN2.out Q0x1.out.lt).lt)
  have Q1x2 := Lib.hid ((Q1x1.out.below HN2.out Q1x1.out.lt).below HB2.out.1 (Q1x1.out.below HN2.out Q1x1.out.lt).lt)
  have Q2x2 := Lib.hid HB2.out.2
  go_wp2_with fail
  refine (K3.out _ N3.out).mono ?_
  rintro r w8 ⟨rfl, h2, hw⟩
  have M3 := Lib.hid h2
  have HN3 := Lib.hid hw
  clear h2 hw
  rw [(by rfl : itv z is = .tuple #[.agg #[.int .i64 z.k.T, .int .i64 z.k.O, .int .i64 z.k.S, .int .i64 z.p, .int .i64 z.q, .int .i64 z.d, .int .i64 z.n], .bool is])]
  obtain ⟨g3, hg3⟩ : ∃ g3, w8.heap.size = g3 := ⟨_, rfl⟩
  obtain ⟨w9, hw9⟩ : ∃ w9, w8.alloc (.cells #[.int .i64 z.k.T, .int .i64 z.k.O, .int .i64 z.k.S, .int .i64 z.p, .int .i64 z.q, .int .i64 z.d, .int .i64 z.n] 36) = w9 := ⟨_, rfl⟩
  have HX3 := Lib.hid (And.intro hg3 hw9)
  have HB3 := Lib.hid (show Below w8.heap.size w8 w9 ∧ Blk w9 g3 36 z.c.toArray by
    rw [← hw9]
    exact ⟨(Below.refl _ w8).alloc (Nat.le_refl _) _, Blk.last w8 _ _ hg3⟩)
  clear hg3 hw9
  go_upto_region 17 with (fail)
  rw [HX3.out.2, HX3.out.1]
  have N4 := Lib.hid (M3.out.step HB3.out.1)
  have Q0x3 := Lib.hid ((Q0x2.out.below HN3.out Q0x2.out.lt).below HB3.out.1 (Q0x2.out.below HN3.out Q0x2.out.lt).lt)
  have Q1x3 := Lib.hid ((Q1x2.out.below HN3.out Q1x2.out.lt).below HB3.out.1 (Q1x2.out.below HN3.out Q1x2.out.lt).lt)
  have Q2x3 := Lib.hid ((Q2x2.out.below HN3.out Q2x2.out.lt).below HB3.out.1 (Q2x2.out.below HN3.out Q2x2.out.lt).lt)
  have Q3x3 := Lib.hid HB3.out.2
  have qq0 := Q0x3.out
  have u0x0 : w9.cell? ⟨g0, 0, none⟩ = some (.int .i64 y.k.T) := (qq0.cell 0).trans rfl
  have u0x1 : w9.cell? ⟨g0, 1, none⟩ = some (.int .i64 y.k.O) := (qq0.cell 1).trans rfl
  have u0x2 : w9.cell? ⟨g0, 2, none⟩ = some (.int .i64 y.k.S) := (qq0.cell 2).trans rfl
  have u0x3 : w9.cell? ⟨g0, 3, none⟩ = some (.int .i64 y.p) := (qq0.cell 3).trans rfl
  have u0x4 : w9.cell? ⟨g0, 4, none⟩ = some (.int .i64 y.q) := (qq0.cell 4).trans rfl
  have u0x5 : w9.cell? ⟨g0, 5, none⟩ = some (.int .i64 y.d) := (qq0.cell 5).trans rfl
  have u0x6 : w9.cell? ⟨g0, 6, none⟩ = some (.int .i64 y.n) := (qq0.cell 6).trans rfl
  clear qq0
  have qq1 := Q1x3.out
  have u1x0 : w9.cell? ⟨g1, 0, none⟩ = some (.int .i64 y.k.T) := (qq1.cell 0).trans rfl
  have u1x1 : w9.cell? ⟨g1, 1, none⟩ = some (.int .i64 y.k.O) := (qq1.cell 1).trans rfl
  have u1x2 : w9.cell? ⟨g1, 2, none⟩ = some (.int .i64 y.k.S) := (qq1.cell 2).trans rfl
  have u1x3 : w9.cell? ⟨g1, 3, none⟩ = some (.int .i64 y.p) := (qq1.cell 3).trans rfl
  have u1x4 : w9.cell? ⟨g1, 4, none⟩ = some (.int .i64 y.q) := (qq1.cell 4).trans rfl
  have u1x5 : w9.cell? ⟨g1, 5, none⟩ = some (.int .i64 y.d) := (qq1.cell 5).trans rfl
  have u1x6 : w9.cell? ⟨g1, 6, none⟩ = some (.int .i64 y.n) := (qq1.cell 6).trans rfl
  clear qq1
  have qq2 := Q2x3.out
  have u2x0 : w9.cell? ⟨g2, 0, none⟩ = some (.int .i64 z.k.T) := (qq2.cell 0).trans rfl
  have u2x1 : w9.cell? ⟨g2, 1, none⟩ = some (.int .i64 z.k.O) := (qq2.cell 1).trans rfl
  have u2x2 : w9.cell? ⟨g2, 2, none⟩ = some (.int .i64 z.k.S) := (qq2.cell 2).trans rfl
  have u2x3 : w9.cell? ⟨g2, 3, none⟩ = some (.int .i64 z.p) := (qq2.cell 3).trans rfl
  have u2x4 : w9.cell? ⟨g2, 4, none⟩ = some (.int .i64 z.q) := (qq2.cell 4).trans rfl
  have u2x5 : w9.cell? ⟨g2, 5, none⟩ = some (.int .i64 z.d) := (qq2.cell 5).trans rfl
  have u2x6 : w9.cell? ⟨g2, 6, none⟩ = some (.int .i64 z.n) := (qq2.cell 6).trans rfl
  clear qq2
  have qq3 := Q3x3.out
  have u3x0 : w9.cell? ⟨g3, 0, none⟩ = some (.int .i64 z.k.T) := (qq3.cell 0).trans rfl
  have u3x1 : w9.cell? ⟨g3, 1, none⟩ = some (.int .i64 z.k.O) := (qq3.cell 1).trans rfl
  have u3x2 : w9.cell? ⟨g3, 2, none⟩ = some (.int .i64 z.k.S) := (qq3.cell 2).trans rfl
  have u3x3 : w9.cell? ⟨g3, 3, none⟩ = some (.int .i64 z.p) := (qq3.cell 3).trans rfl
  have u3x4 : w9.cell? ⟨g3, 4, none⟩ = some (.int .i64 z.q) := (qq3.cell 4).trans rfl
  have u3x5 : w9.cell? ⟨g3, 5, none⟩ = some (.int .i64 z.d) := (qq3.cell 5).trans rfl
  have u3x6 : w9.cell? ⟨g3, 6, none⟩ = some (.int .i64 z.n) := (qq3.cell 6).trans rfl
  clear qq3
  go_wp2_with fail
  go_ret
  exact ⟨rfl, L, by omega, N4.out⟩
end Go.Proofs.Ytghmldfllieonaa
