/- The law's do: Take and Drop. Helper. -/
import Derived.Test.YtghmldfllieonaaHeapBox
import Derived.StillTailTactics
import Derived.BigQuiet
namespace Go.Proofs.Ytghmldfllieonaa
open Go.RowKit
set_option linter.unusedVariables false
set_option linter.unusedSimpArgs false
set_option maxRecDepth 100000
set_option maxHeartbeats 6400000
theorem do_2 (w W : World) (gB gR : Nat) (L : List It) (x : It) (n : Int) (h : BothH w W gB gR L) (hx : WOk x) (hl : L.length ≤ 1000) : Calls Try.prog 19 #[.pointer (some ⟨gB, 0, none⟩), .pointer (some ⟨gR, 0, none⟩), .agg #[.int .i64 2, .int .i64 x.k.T, .int .i64 x.k.O, .int .i64 x.k.S, .int .i64 x.p, .int .i64 x.q, .int .i64 x.d, .int .i64 x.n, .int .i64 n]] W fun r w' => r = .returned (.bool true) ∧ ∃ L', L'.length ≤ L.length + 1 ∧ BothH w w' gB gR L' := by
  have HL := Lib.hid hl
  have HWX := Lib.hid hx
  obtain ⟨gA, hgA⟩ : ∃ gA, W.heap.size = gA := ⟨_, rfl⟩
  obtain ⟨wA, hwA⟩ : ∃ wA, W.alloc (.cells #[.int .i64 2, .int .i64 x.k.T, .int .i64 x.k.O, .int .i64 x.k.S, .int .i64 x.p, .int .i64 x.q, .int .i64 x.d, .int .i64 x.n, .int .i64 n] 49) = wA := ⟨_, rfl⟩
  have hb := h.boxed 49 #[.int .i64 2, .int .i64 x.k.T, .int .i64 x.k.O, .int .i64 x.k.S, .int .i64 x.p, .int .i64 x.q, .int .i64 x.d, .int .i64 x.n, .int .i64 n]
  rw [hwA, hgA] at hb
  have HW := Lib.hid (And.intro hgA hwA)
  have HB := Lib.hid hb
  have hbk := hb.blk
  have a0 : wA.cell? ⟨gA, 0, none⟩ = some (.int .i64 2) := (hbk.cell 0).trans rfl
  have a1 : wA.cell? ⟨gA, 1, none⟩ = some (.int .i64 x.k.T) := (hbk.cell 1).trans rfl
  have a2 : wA.cell? ⟨gA, 2, none⟩ = some (.int .i64 x.k.O) := (hbk.cell 2).trans rfl
  have a3 : wA.cell? ⟨gA, 3, none⟩ = some (.int .i64 x.k.S) := (hbk.cell 3).trans rfl
  have a4 : wA.cell? ⟨gA, 4, none⟩ = some (.int .i64 x.p) := (hbk.cell 4).trans rfl
  have a5 : wA.cell? ⟨gA, 5, none⟩ = some (.int .i64 x.q) := (hbk.cell 5).trans rfl
  have a6 : wA.cell? ⟨gA, 6, none⟩ = some (.int .i64 x.d) := (hbk.cell 6).trans rfl
  have a7 : wA.cell? ⟨gA, 7, none⟩ = some (.int .i64 x.n) := (hbk.cell 7).trans rfl
  have a8 : wA.cell? ⟨gA, 8, none⟩ = some (.int .i64 n) := (hbk.cell 8).trans rfl
  clear h hl hx hb hbk hgA hwA
  go_enter Try.func19, Try.ntmps19
  go_upto_region 1 with (fail)
  rw [HW.out.2, HW.out.1]
  go_wp2_with fail
  refine (take_mine w wA gB gR L HB.out.both (by have := HL.out; omega)).mono ?_
  rintro r w2 ⟨y, is, rfl, h2⟩
  have H2 := Lib.hid h2
  clear h2 a0 a1 a2 a3 a4 a5 a6 a7 a8
  rw [(by rfl : itv y is = .tuple #[.agg #[.int .i64 y.k.T, .int .i64 y.k.O, .int .i64 y.k.S, .int .i64 y.p, .int .i64 y.q, .int .i64 y.d, .int .i64 y.n], .bool is])]
  obtain ⟨gX, hgX⟩ : ∃ gX, w2.heap.size = gX := ⟨_, rfl⟩
  obtain ⟨w3, hw3⟩ : ∃ w3, w2.alloc (.cells #[.int .i64 y.k.T, .int .i64 y.k.O, .int .i64 y.k.S, .int .i64 y.p, .int .i64 y.q, .int .i64 y.d, .int .i64 y.n] 36) = w3 := ⟨_, rfl⟩
  have HX3 := Lib.hid (And.intro hgX hw3)
  have HB3 := Lib.hid (show Below w2.heap.size w2 w3 ∧ Blk w3 gX 36 y.c.toArray by
    rw [← hw3]
    exact ⟨(Below.refl _ w2).alloc (Nat.le_refl _) _, Blk.last w2 _ _ hgX⟩)
  clear hgX hw3
  go_upto_region 6 with (fail)
  rw [HX3.out.2, HX3.out.1]
  go_wp2_with fail
  refine (take_theirsC w w3 gB gR L y is (H2.out.step HB3.out.1) (by have := HL.out; omega)).mono ?_
  rintro r w4 ⟨rfl, h4, hc4⟩
  have H4 := Lib.hid h4
  have hne : gX ≠ gR := by have := H2.out.lt; have := HX3.out.1; omega
  have HX4 := Lib.hid (show Blk w4 gX 36 y.c.toArray from HB3.out.2.chg hc4 hne)
  clear h4 hc4 hne 
  rw [(by rfl : itv y is = .tuple #[.agg #[.int .i64 y.k.T, .int .i64 y.k.O, .int .i64 y.k.S, .int .i64 y.p, .int .i64 y.q, .int .i64 y.d, .int .i64 y.n], .bool is])]
  obtain ⟨gY, hgY⟩ : ∃ gY, w4.heap.size = gY := ⟨_, rfl⟩
  obtain ⟨w5, hw5⟩ : ∃ w5, w4.alloc (.cells #[.int .i64 y.k.T, .int .i64 y.k.O, .int .i64 y.k.S, .int .i64 y.p, .int .i64 y.q, .int .i64 y.d, .int .i64 y.n] 36) = w5 := ⟨_, rfl⟩
  have HX5 := Lib.hid (And.intro hgY hw5)
  have HB5 := Lib.hid (show Below w4.heap.size w4 w5 ∧ Blk w5 gY 36 y.c.toArray by
    rw [← hw5]
    exact ⟨(Below.refl _ w4).alloc (Nat.le_refl _) _, Blk.last w4 _ _ hgY⟩)
  clear hgY hw5
  go_upto_region 7 with (fail)
  rw [HX5.out.2, HX5.out.1]
  have hx5 := HX4.out.below HB5.out.1 HX4.out.lt
  have hy5 := HB5.out.2
  have u0 : w5.cell? ⟨gX, 0, none⟩ = some (.int .i64 y.k.T) := (hx5.cell 0).trans rfl
  have u1 : w5.cell? ⟨gX, 1, none⟩ = some (.int .i64 y.k.O) := (hx5.cell 1).trans rfl
  have u2 : w5.cell? ⟨gX, 2, none⟩ = some (.int .i64 y.k.S) := (hx5.cell 2).trans rfl
  have u3 : w5.cell? ⟨gX, 3, none⟩ = some (.int .i64 y.p) := (hx5.cell 3).trans rfl
  have u4 : w5.cell? ⟨gX, 4, none⟩ = some (.int .i64 y.q) := (hx5.cell 4).trans rfl
  have u5 : w5.cell? ⟨gX, 5, none⟩ = some (.int .i64 y.d) := (hx5.cell 5).trans rfl
  have u6 : w5.cell? ⟨gX, 6, none⟩ = some (.int .i64 y.n) := (hx5.cell 6).trans rfl
  have v0 : w5.cell? ⟨gY, 0, none⟩ = some (.int .i64 y.k.T) := (hy5.cell 0).trans rfl
  have v1 : w5.cell? ⟨gY, 1, none⟩ = some (.int .i64 y.k.O) := (hy5.cell 1).trans rfl
  have v2 : w5.cell? ⟨gY, 2, none⟩ = some (.int .i64 y.k.S) := (hy5.cell 2).trans rfl
  have v3 : w5.cell? ⟨gY, 3, none⟩ = some (.int .i64 y.p) := (hy5.cell 3).trans rfl
  have v4 : w5.cell? ⟨gY, 4, none⟩ = some (.int .i64 y.q) := (hy5.cell 4).trans rfl
  have v5 : w5.cell? ⟨gY, 5, none⟩ = some (.int .i64 y.d) := (hy5.cell 5).trans rfl
  have v6 : w5.cell? ⟨gY, 6, none⟩ = some (.int .i64 y.n) := (hy5.cell 6).trans rfl
  clear hx5 hy5
  go_wp2_with fail
  go_ret
  exact ⟨rfl, by obtain ⟨L', q1, q2⟩ := H4.out; exact ⟨L', q1, q2.step HB5.out.1⟩⟩
theorem do_3 (w W : World) (gB gR : Nat) (L : List It) (x : It) (n : Int) (h : BothH w W gB gR L) (hx : WOk x) (hl : L.length ≤ 1000) : Calls Try.prog 19 #[.pointer (some ⟨gB, 0, none⟩), .pointer (some ⟨gR, 0, none⟩), .agg #[.int .i64 3, .int .i64 x.k.T, .int .i64 x.k.O, .int .i64 x.k.S, .int .i64 x.p, .int .i64 x.q, .int .i64 x.d, .int .i64 x.n, .int .i64 n]] W fun r w' => r = .returned (.bool true) ∧ ∃ L', L'.length ≤ L.length + 1 ∧ BothH w w' gB gR L' := by
  have HL := Lib.hid hl
  have HWX := Lib.hid hx
  obtain ⟨gA, hgA⟩ : ∃ gA, W.heap.size = gA := ⟨_, rfl⟩
  obtain ⟨wA, hwA⟩ : ∃ wA, W.alloc (.cells #[.int .i64 3, .int .i64 x.k.T, .int .i64 x.k.O, .int .i64 x.k.S, .int .i64 x.p, .int .i64 x.q, .int .i64 x.d, .int .i64 x.n, .int .i64 n] 49) = wA := ⟨_, rfl⟩
  have hb := h.boxed 49 #[.int .i64 3, .int .i64 x.k.T, .int .i64 x.k.O, .int .i64 x.k.S, .int .i64 x.p, .int .i64 x.q, .int .i64 x.d, .int .i64 x.n, .int .i64 n]
  rw [hwA, hgA] at hb
  have HW := Lib.hid (And.intro hgA hwA)
  have HB := Lib.hid hb
  have hbk := hb.blk
  have a0 : wA.cell? ⟨gA, 0, none⟩ = some (.int .i64 3) := (hbk.cell 0).trans rfl
  have a1 : wA.cell? ⟨gA, 1, none⟩ = some (.int .i64 x.k.T) := (hbk.cell 1).trans rfl
  have a2 : wA.cell? ⟨gA, 2, none⟩ = some (.int .i64 x.k.O) := (hbk.cell 2).trans rfl
  have a3 : wA.cell? ⟨gA, 3, none⟩ = some (.int .i64 x.k.S) := (hbk.cell 3).trans rfl
  have a4 : wA.cell? ⟨gA, 4, none⟩ = some (.int .i64 x.p) := (hbk.cell 4).trans rfl
  have a5 : wA.cell? ⟨gA, 5, none⟩ = some (.int .i64 x.q) := (hbk.cell 5).trans rfl
  have a6 : wA.cell? ⟨gA, 6, none⟩ = some (.int .i64 x.d) := (hbk.cell 6).trans rfl
  have a7 : wA.cell? ⟨gA, 7, none⟩ = some (.int .i64 x.n) := (hbk.cell 7).trans rfl
  have a8 : wA.cell? ⟨gA, 8, none⟩ = some (.int .i64 n) := (hbk.cell 8).trans rfl
  clear h hl hx hb hbk hgA hwA
  go_enter Try.func19, Try.ntmps19
  go_upto_region 1 with (fail)
  rw [HW.out.2, HW.out.1]
  go_wp2_with fail
  refine (drop_mineB w wA gB gR L gA 49 #[.int .i64 3, .int .i64 x.k.T, .int .i64 x.k.O, .int .i64 x.k.S, .int .i64 x.p, .int .i64 x.q, .int .i64 x.d, .int .i64 x.n, .int .i64 n] x.k.O x.n HB.out HWX.out.1 HWX.out.2 (by have := HL.out; omega)).mono ?_
  rintro r w2 ⟨y, is, rfl, h2, hb2⟩
  have H2 := Lib.hid h2
  have HB2 := Lib.hid hb2
  clear h2 hb2 a0 a1 a2 a3 a4 a5 a6 a7 a8
  rw [(by rfl : itv y is = .tuple #[.agg #[.int .i64 y.k.T, .int .i64 y.k.O, .int .i64 y.k.S, .int .i64 y.p, .int .i64 y.q, .int .i64 y.d, .int .i64 y.n], .bool is])]
  obtain ⟨gX, hgX⟩ : ∃ gX, w2.heap.size = gX := ⟨_, rfl⟩
  obtain ⟨w3, hw3⟩ : ∃ w3, w2.alloc (.cells #[.int .i64 y.k.T, .int .i64 y.k.O, .int .i64 y.k.S, .int .i64 y.p, .int .i64 y.q, .int .i64 y.d, .int .i64 y.n] 36) = w3 := ⟨_, rfl⟩
  have HX3 := Lib.hid (And.intro hgX hw3)
  have HB3 := Lib.hid (show Below w2.heap.size w2 w3 ∧ Blk w3 gX 36 y.c.toArray by
    rw [← hw3]
    exact ⟨(Below.refl _ w2).alloc (Nat.le_refl _) _, Blk.last w2 _ _ hgX⟩)
  clear hgX hw3
  go_upto_region 10 with (fail)
  rw [HX3.out.2, HX3.out.1]
  have hb3 := HB2.out.below HB3.out.1 HB2.out.lt
  have a0 : w3.cell? ⟨gA, 0, none⟩ = some (.int .i64 3) := (hb3.cell 0).trans rfl
  have a1 : w3.cell? ⟨gA, 1, none⟩ = some (.int .i64 x.k.T) := (hb3.cell 1).trans rfl
  have a2 : w3.cell? ⟨gA, 2, none⟩ = some (.int .i64 x.k.O) := (hb3.cell 2).trans rfl
  have a3 : w3.cell? ⟨gA, 3, none⟩ = some (.int .i64 x.k.S) := (hb3.cell 3).trans rfl
  have a4 : w3.cell? ⟨gA, 4, none⟩ = some (.int .i64 x.p) := (hb3.cell 4).trans rfl
  have a5 : w3.cell? ⟨gA, 5, none⟩ = some (.int .i64 x.q) := (hb3.cell 5).trans rfl
  have a6 : w3.cell? ⟨gA, 6, none⟩ = some (.int .i64 x.d) := (hb3.cell 6).trans rfl
  have a7 : w3.cell? ⟨gA, 7, none⟩ = some (.int .i64 x.n) := (hb3.cell 7).trans rfl
  have a8 : w3.cell? ⟨gA, 8, none⟩ = some (.int .i64 n) := (hb3.cell 8).trans rfl
  clear hb3
  go_wp2_with fail
  refine (drop_theirsC w w3 gB gR L x.k.O x.n y is (H2.out.step HB3.out.1) (by have := HL.out; omega)).mono ?_
  rintro r w4 ⟨rfl, h4, hc4⟩
  have H4 := Lib.hid h4
  have hne : gX ≠ gR := by have := H2.out.lt; have := HX3.out.1; omega
  have HX4 := Lib.hid (show Blk w4 gX 36 y.c.toArray from HB3.out.2.chg hc4 hne)
  clear h4 hc4 hne a0 a1 a2 a3 a4 a5 a6 a7 a8
  rw [(by rfl : itv y is = .tuple #[.agg #[.int .i64 y.k.T, .int .i64 y.k.O, .int .i64 y.k.S, .int .i64 y.p, .int .i64 y.q, .int .i64 y.d, .int .i64 y.n], .bool is])]
  obtain ⟨gY, hgY⟩ : ∃ gY, w4.heap.size = gY := ⟨_, rfl⟩
  obtain ⟨w5, hw5⟩ : ∃ w5, w4.alloc (.cells #[.int .i64 y.k.T, .int .i64 y.k.O, .int .i64 y.k.S, .int .i64 y.p, .int .i64 y.q, .int .i64 y.d, .int .i64 y.n] 36) = w5 := ⟨_, rfl⟩
  have HX5 := Lib.hid (And.intro hgY hw5)
  have HB5 := Lib.hid (show Below w4.heap.size w4 w5 ∧ Blk w5 gY 36 y.c.toArray by
    rw [← hw5]
    exact ⟨(Below.refl _ w4).alloc (Nat.le_refl _) _, Blk.last w4 _ _ hgY⟩)
  clear hgY hw5
  go_upto_region 11 with (fail)
  rw [HX5.out.2, HX5.out.1]
  have hx5 := HX4.out.below HB5.out.1 HX4.out.lt
  have hy5 := HB5.out.2
  have u0 : w5.cell? ⟨gX, 0, none⟩ = some (.int .i64 y.k.T) := (hx5.cell 0).trans rfl
  have u1 : w5.cell? ⟨gX, 1, none⟩ = some (.int .i64 y.k.O) := (hx5.cell 1).trans rfl
  have u2 : w5.cell? ⟨gX, 2, none⟩ = some (.int .i64 y.k.S) := (hx5.cell 2).trans rfl
  have u3 : w5.cell? ⟨gX, 3, none⟩ = some (.int .i64 y.p) := (hx5.cell 3).trans rfl
  have u4 : w5.cell? ⟨gX, 4, none⟩ = some (.int .i64 y.q) := (hx5.cell 4).trans rfl
  have u5 : w5.cell? ⟨gX, 5, none⟩ = some (.int .i64 y.d) := (hx5.cell 5).trans rfl
  have u6 : w5.cell? ⟨gX, 6, none⟩ = some (.int .i64 y.n) := (hx5.cell 6).trans rfl
  have v0 : w5.cell? ⟨gY, 0, none⟩ = some (.int .i64 y.k.T) := (hy5.cell 0).trans rfl
  have v1 : w5.cell? ⟨gY, 1, none⟩ = some (.int .i64 y.k.O) := (hy5.cell 1).trans rfl
  have v2 : w5.cell? ⟨gY, 2, none⟩ = some (.int .i64 y.k.S) := (hy5.cell 2).trans rfl
  have v3 : w5.cell? ⟨gY, 3, none⟩ = some (.int .i64 y.p) := (hy5.cell 3).trans rfl
  have v4 : w5.cell? ⟨gY, 4, none⟩ = some (.int .i64 y.q) := (hy5.cell 4).trans rfl
  have v5 : w5.cell? ⟨gY, 5, none⟩ = some (.int .i64 y.d) := (hy5.cell 5).trans rfl
  have v6 : w5.cell? ⟨gY, 6, none⟩ = some (.int .i64 y.n) := (hy5.cell 6).trans rfl
  clear hx5 hy5
  go_wp2_with fail
  go_ret
  exact ⟨rfl, by obtain ⟨L', q1, q2⟩ := H4.out; exact ⟨L', q1, q2.step HB5.out.1⟩⟩
end Go.Proofs.Ytghmldfllieonaa
