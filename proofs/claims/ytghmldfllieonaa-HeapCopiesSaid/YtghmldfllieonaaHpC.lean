/- The law's do and same, joined; what is handed in, act by act. Helper. -/
import Derived.Test.YtghmldfllieonaaHeapBox
import Derived.StillTailTactics
import Derived.BigQuiet
import Derived.Test.YtghmldfllieonaaHeapTypes
namespace Go.Proofs.Ytghmldfllieonaa
open Go.RowKit
set_option linter.unusedVariables false
set_option linter.unusedSimpArgs false
set_option maxRecDepth 100000
set_option maxHeartbeats 6400000
theorem do_0 (w W : World) (gB gR : Nat) (L : List It) (x : It) (n : Int) (K : Int) (hK : ∀ j : Int, 1 ≤ j ∧ j ≤ 6 → ¬ K = j) (h : BothH w W gB gR L) (hx : WOk x) (hl : L.length ≤ 1000) : Calls Try.prog 19 #[.pointer (some ⟨gB, 0, none⟩), .pointer (some ⟨gR, 0, none⟩), .agg #[.int .i64 K, .int .i64 x.k.T, .int .i64 x.k.O, .int .i64 x.k.S, .int .i64 x.p, .int .i64 x.q, .int .i64 x.d, .int .i64 x.n, .int .i64 n]] W fun r w' => r = .returned (.bool true) ∧ ∃ L', L'.length ≤ L.length + 1 ∧ BothH w w' gB gR L' := by
  have HL := Lib.hid hl
  have HWX := Lib.hid hx
  obtain ⟨gA, hgA⟩ : ∃ gA, W.heap.size = gA := ⟨_, rfl⟩
  obtain ⟨wA, hwA⟩ : ∃ wA, W.alloc (.cells #[.int .i64 K, .int .i64 x.k.T, .int .i64 x.k.O, .int .i64 x.k.S, .int .i64 x.p, .int .i64 x.q, .int .i64 x.d, .int .i64 x.n, .int .i64 n] 49) = wA := ⟨_, rfl⟩
  have hb := h.boxed 49 #[.int .i64 K, .int .i64 x.k.T, .int .i64 x.k.O, .int .i64 x.k.S, .int .i64 x.p, .int .i64 x.q, .int .i64 x.d, .int .i64 x.n, .int .i64 n]
  rw [hwA, hgA] at hb
  have HW := Lib.hid (And.intro hgA hwA)
  have HB := Lib.hid hb
  have hbk := hb.blk
  have a0 : wA.cell? ⟨gA, 0, none⟩ = some (.int .i64 K) := (hbk.cell 0).trans rfl
  have a1 : wA.cell? ⟨gA, 1, none⟩ = some (.int .i64 x.k.T) := (hbk.cell 1).trans rfl
  have a2 : wA.cell? ⟨gA, 2, none⟩ = some (.int .i64 x.k.O) := (hbk.cell 2).trans rfl
  have a3 : wA.cell? ⟨gA, 3, none⟩ = some (.int .i64 x.k.S) := (hbk.cell 3).trans rfl
  have a4 : wA.cell? ⟨gA, 4, none⟩ = some (.int .i64 x.p) := (hbk.cell 4).trans rfl
  have a5 : wA.cell? ⟨gA, 5, none⟩ = some (.int .i64 x.q) := (hbk.cell 5).trans rfl
  have a6 : wA.cell? ⟨gA, 6, none⟩ = some (.int .i64 x.d) := (hbk.cell 6).trans rfl
  have a7 : wA.cell? ⟨gA, 7, none⟩ = some (.int .i64 x.n) := (hbk.cell 7).trans rfl
  have a8 : wA.cell? ⟨gA, 8, none⟩ = some (.int .i64 n) := (hbk.cell 8).trans rfl
  clear h hl hx hb hbk hgA hwA
  go_enter Try.func19, Try.ntmps19
  go_upto_region 1 with (fail)
  rw [HW.out.2, HW.out.1]
  have i1 : ¬ K = 1 := hK 1 (by omega)
  have i2 : ¬ K = 2 := hK 2 (by omega)
  have i3 : ¬ K = 3 := hK 3 (by omega)
  have i4 : ¬ K = 4 := hK 4 (by omega)
  have i5 : ¬ K = 5 := hK 5 (by omega)
  have i6 : ¬ K = 6 := hK 6 (by omega)
  clear hK
  go_wp2_with fail
  go_ret
  exact ⟨rfl, L, by omega, HB.out.both⟩
theorem do_1 (w W : World) (gB gR : Nat) (L : List It) (x : It) (n : Int) (h : BothH w W gB gR L) (hx : WOk x) (hl : L.length ≤ 1000) : Calls Try.prog 19 #[.pointer (some ⟨gB, 0, none⟩), .pointer (some ⟨gR, 0, none⟩), .agg #[.int .i64 1, .int .i64 x.k.T, .int .i64 x.k.O, .int .i64 x.k.S, .int .i64 x.p, .int .i64 x.q, .int .i64 x.d, .int .i64 x.n, .int .i64 n]] W fun r w' => r = .returned (.bool true) ∧ ∃ L', L'.length ≤ L.length + 1 ∧ BothH w w' gB gR L' := by
  have HL := Lib.hid hl
  have HWX := Lib.hid hx
  obtain ⟨gA, hgA⟩ : ∃ gA, W.heap.size = gA := ⟨_, rfl⟩
  obtain ⟨wA, hwA⟩ : ∃ wA, W.alloc (.cells #[.int .i64 1, .int .i64 x.k.T, .int .i64 x.k.O, .int .i64 x.k.S, .int .i64 x.p, .int .i64 x.q, .int .i64 x.d, .int .i64 x.n, .int .i64 n] 49) = wA := ⟨_, rfl⟩
  have hb := h.boxed 49 #[.int .i64 1, .int .i64 x.k.T, .int .i64 x.k.O, .int .i64 x.k.S, .int .i64 x.p, .int .i64 x.q, .int .i64 x.d, .int .i64 x.n, .int .i64 n]
  rw [hwA, hgA] at hb
  have HW := Lib.hid (And.intro hgA hwA)
  have HB := Lib.hid hb
  have hbk := hb.blk
  have a0 : wA.cell? ⟨gA, 0, none⟩ = some (.int .i64 1) := (hbk.cell 0).trans rfl
  have a1 : wA.cell? ⟨gA, 1, none⟩ = some (.int .i64 x.k.T) := (hbk.cell 1).trans rfl
  have a2 : wA.cell? ⟨gA, 2, none⟩ = some (.int .i64 x.k.O) := (hbk.cell 2).trans rfl
  have a3 : wA.cell? ⟨gA, 3, none⟩ = some (.int .i64 x.k.S) := (hbk.cell 3).trans rfl
  have a4 : wA.cell? ⟨gA, 4, none⟩ = some (.int .i64 x.p) := (hbk.cell 4).trans rfl
  have a5 : wA.cell? ⟨gA, 5, none⟩ = some (.int .i64 x.q) := (hbk.cell 5).trans rfl
  have a6 : wA.cell? ⟨gA, 6, none⟩ = some (.int .i64 x.d) := (hbk.cell 6).trans rfl
  have a7 : wA.cell? ⟨gA, 7, none⟩ = some (.int .i64 x.n) := (hbk.cell 7).trans rfl
  have a8 : wA.cell? ⟨gA, 8, none⟩ = some (.int .i64 n) := (hbk.cell 8).trans rfl
  clear h hl hx hb hbk hgA hwA
  go_enter Try.func19, Try.ntmps19
  go_upto_region 1 with (fail)
  rw [HW.out.2, HW.out.1]
  have KP1 := Lib.hid (fun W2 (h : BothB w W2 gB gR L gA 49 #[.int .i64 1, .int .i64 x.k.T, .int .i64 x.k.O, .int .i64 x.k.S, .int .i64 x.p, .int .i64 x.q, .int .i64 x.d, .int .i64 x.n, .int .i64 n]) => put_mineB w W2 gB gR L gA 49 #[.int .i64 1, .int .i64 x.k.T, .int .i64 x.k.O, .int .i64 x.k.S, .int .i64 x.p, .int .i64 x.q, .int .i64 x.d, .int .i64 x.n, .int .i64 n] x h HWX.out)
  have KP2 := Lib.hid (fun W2 y (h : PutMid w W2 gB gR L x y) => put_theirs w W2 gB gR L x y h (by have := HL.out; omega))
  go_wp2_with fail
  go_region_with (first
    | (go_at_call 9; refine (KP1.out _ (by repeat (first | exact HB.out | refine BothB.drew ?_))).mono ?_; rintro r w2 ⟨y, rfl, h2, hb2⟩; have H2 := Lib.hid h2; have a1 : w2.cell? ⟨gA, 1, none⟩ = some (.int .i64 x.k.T) := (hb2.cell 1).trans rfl; have a2 : w2.cell? ⟨gA, 2, none⟩ = some (.int .i64 x.k.O) := (hb2.cell 2).trans rfl; have a3 : w2.cell? ⟨gA, 3, none⟩ = some (.int .i64 x.k.S) := (hb2.cell 3).trans rfl; have a4 : w2.cell? ⟨gA, 4, none⟩ = some (.int .i64 x.p) := (hb2.cell 4).trans rfl; have a5 : w2.cell? ⟨gA, 5, none⟩ = some (.int .i64 x.q) := (hb2.cell 5).trans rfl; have a6 : w2.cell? ⟨gA, 6, none⟩ = some (.int .i64 x.d) := (hb2.cell 6).trans rfl; have a7 : w2.cell? ⟨gA, 7, none⟩ = some (.int .i64 x.n) := (hb2.cell 7).trans rfl; clear h2 hb2)
    | (go_at_call 10; refine (KP2.out _ y (by repeat (first | exact H2.out | refine PutMid.drew ?_))).mono ?_; rintro r w3 ⟨rfl, h3⟩; have H3 := Lib.hid h3; clear h3))
  all_goals
    go_wp2_with fail
    go_ret
    exact ⟨rfl, by obtain ⟨L', q1, q2⟩ := H3.out; exact ⟨L', q1, by repeat (first | exact q2 | refine BothH.drew ?_)⟩⟩
end Go.Proofs.Ytghmldfllieonaa
/- The law's do: Take and Drop. Helper. -/
namespace Go.Proofs.Ytghmldfllieonaa
open Go.RowKit
set_option linter.unusedVariables false
set_option linter.unusedSimpArgs false
set_option maxRecDepth 100000
set_option maxHeartbeats 6400000
theorem do_2 (w W : World) (gB gR : Nat) (L : List It) (x : It) (n : Int) (h : BothH w W gB gR L) (hx : WOk x) (hl : L.length ≤ 1000) : Calls Try.prog 19 #[.pointer (some ⟨gB, 0, none⟩), .pointer (some ⟨gR, 0, none⟩), .agg #[.int .i64 2, .int .i64 x.k.T, .int .i64 x.k.O, .int .i64 x.k.S, .int .i64 x.p, .int .i64 x.q, .int .i64 x.d, .int .i64 x.n, .int .i64 n]] W fun r w' => r = .returned (.bool true) ∧ ∃ L', L'.length ≤ L.length + 1 ∧ BothH w w' gB gR L' := by
  have HL := Lib.hid hl
  have HWX := Lib.hid hx
  obtain ⟨gA, hgA⟩ : ∃ gA, W.heap.size = gA := ⟨_, rfl⟩
  obtain ⟨wA, hwA⟩ : ∃ wA, W.alloc (.cells #[.int .i64 2, .int .i64 x.k.T, .int .i64 x.k.O, .int .i64 x.k.S, .int .i64 x.p, .int .i64 x.q, .int .i64 x.d, .int .i64 x.n, .int .i64 n] 49) = wA := ⟨_, rfl⟩
  have hb := h.boxed 49 #[.int .i64 2, .int .i64 x.k.T, .int .i64 x.k.O, .int .i64 x.k.S, .int .i64 x.p, .int .i64 x.q, .int .i64 x.d, .int .i64 x.n, .int .i64 n]
  rw [hwA, hgA] at hb
  have HW := Lib.hid (And.intro hgA hwA)
  have HB := Lib.hid hb
  have hbk := hb.blk
  have a0 : wA.cell? ⟨gA, 0, none⟩ = some (.int .i64 2) := (hbk.cell 0).trans rfl
  have a1 : wA.cell? ⟨gA, 1, none⟩ = some (.int .i64 x.k.T) := (hbk.cell 1).trans rfl
  have a2 : wA.cell? ⟨gA, 2, none⟩ = some (.int .i64 x.k.O) := (hbk.cell 2).trans rfl
  have a3 : wA.cell? ⟨gA, 3, none⟩ = some (.int .i64 x.k.S) := (hbk.cell 3).trans rfl
  have a4 : wA.cell? ⟨gA, 4, none⟩ = some (.int .i64 x.p) := (hbk.cell 4).trans rfl
  have a5 : wA.cell? ⟨gA, 5, none⟩ = some (.int .i64 x.q) := (hbk.cell 5).trans rfl
  have a6 : wA.cell? ⟨gA, 6, none⟩ = some (.int .i64 x.d) := (hbk.cell 6).trans rfl
  have a7 : wA.cell? ⟨gA, 7, none⟩ = some (.int .i64 x.n) := (hbk.cell 7).trans rfl
  have a8 : wA.cell? ⟨gA, 8, none⟩ = some (.int .i64 n) := (hbk.cell 8).trans rfl
  clear h hl hx hb hbk hgA hwA
  go_enter Try.func19, Try.ntmps19
  go_upto_region 1 with (fail)
  rw [HW.out.2, HW.out.1]
  go_wp2_with fail
  refine (take_mine w wA gB gR L HB.out.both (by have := HL.out; omega)).mono ?_
  rintro r w2 ⟨y, is, rfl, h2⟩
  have H2 := Lib.hid h2
  clear h2 a0 a1 a2 a3 a4 a5 a6 a7 a8
  rw [(by rfl : itv y is = .tuple #[.agg #[.int .i64 y.k.T, .int .i64 y.k.O, .int .i64 y.k.S, .int .i64 y.p, .int .i64 y.q, .int .i64 y.d, .int .i64 y.n], .bool is])]
  obtain ⟨gX, hgX⟩ : ∃ gX, w2.heap.size = gX := ⟨_, rfl⟩
  obtain ⟨w3, hw3⟩ : ∃ w3, w2.alloc (.cells #[.int .i64 y.k.T, .int .i64 y.k.O, .int .i64 y.k.S, .int .i64 y.p, .int .i64 y.q, .int .i64 y.d, .int .i64 y.n] 36) = w3 := ⟨_, rfl⟩
  have HX3 := Lib.hid (And.intro hgX hw3)
  have HB3 := Lib.hid (show Below w2.heap.size w2 w3 ∧ Blk w3 gX 36 y.c.toArray by
    rw [← hw3]
    exact ⟨(Below.refl _ w2).alloc (Nat.le_refl _) _, Blk.last w2 _ _ hgX⟩)
  clear hgX hw3
  go_upto_region 6 with (fail)
  rw [HX3.out.2, HX3.out.1]
  go_wp2_with fail
  refine (take_theirsC w w3 gB gR L y is (H2.out.step HB3.out.1) (by have := HL.out; omega)).mono ?_
  rintro r w4 ⟨rfl, h4, hc4⟩
  have H4 := Lib.hid h4
  have hne : gX ≠ gR := by have := H2.out.lt; have := HX3.out.1; omega
  have HX4 := Lib.hid (show Blk w4 gX 36 y.c.toArray from HB3.out.2.chg hc4 hne)
  clear h4 hc4 hne 
  rw [(by rfl : itv y is = .tuple #[.agg #[.int .i64 y.k.T, .int .i64 y.k.O, .int .i64 y.k.S, .int .i64 y.p, .int .i64 y.q, .int .i64 y.d, .int .i64 y.n], .bool is])]
  obtain ⟨gY, hgY⟩ : ∃ gY, w4.heap.size = gY := ⟨_, rfl⟩
  obtain ⟨w5, hw5⟩ : ∃ w5, w4.alloc (.cells #[.int .i64 y.k.T, .int .i64 y.k.O, .int .i64 y.k.S, .int .i64 y.p, .int .i64 y.q, .int .i64 y.d, .int .i64 y.n] 36) = w5 := ⟨_, rfl⟩
  have HX5 := Lib.hid (And.intro hgY hw5)
  have HB5 := Lib.hid (show Below w4.heap.size w4 w5 ∧ Blk w5 gY 36 y.c.toArray by
    rw [← hw5]
    exact ⟨(Below.refl _ w4).alloc (Nat.le_refl _) _, Blk.last w4 _ _ hgY⟩)
  clear hgY hw5
  go_upto_region 7 with (fail)
  rw [HX5.out.2, HX5.out.1]
  have hx5 := HX4.out.below HB5.out.1 HX4.out.lt
  have hy5 := HB5.out.2
  have u0 : w5.cell? ⟨gX, 0, none⟩ = some (.int .i64 y.k.T) := (hx5.cell 0).trans rfl
  have u1 : w5.cell? ⟨gX, 1, none⟩ = some (.int .i64 y.k.O) := (hx5.cell 1).trans rfl
  have u2 : w5.cell? ⟨gX, 2, none⟩ = some (.int .i64 y.k.S) := (hx5.cell 2).trans rfl
  have u3 : w5.cell? ⟨gX, 3, none⟩ = some (.int .i64 y.p) := (hx5.cell 3).trans rfl
  have u4 : w5.cell? ⟨gX, 4, none⟩ = some (.int .i64 y.q) := (hx5.cell 4).trans rfl
  have u5 : w5.cell? ⟨gX, 5, none⟩ = some (.int .i64 y.d) := (hx5.cell 5).trans rfl
  have u6 : w5.cell? ⟨gX, 6, none⟩ = some (.int .i64 y.n) := (hx5.cell 6).trans rfl
  have v0 : w5.cell? ⟨gY, 0, none⟩ = some (.int .i64 y.k.T) := (hy5.cell 0).trans rfl
  have v1 : w5.cell? ⟨gY, 1, none⟩ = some (.int .i64 y.k.O) := (hy5.cell 1).trans rfl
  have v2 : w5.cell? ⟨gY, 2, none⟩ = some (.int .i64 y.k.S) := (hy5.cell 2).trans rfl
  have v3 : w5.cell? ⟨gY, 3, none⟩ = some (.int .i64 y.p) := (hy5.cell 3).trans rfl
  have v4 : w5.cell? ⟨gY, 4, none⟩ = some (.int .i64 y.q) := (hy5.cell 4).trans rfl
  have v5 : w5.cell? ⟨gY, 5, none⟩ = some (.int .i64 y.d) := (hy5.cell 5).trans rfl
  have v6 : w5.cell? ⟨gY, 6, none⟩ = some (.int .i64 y.n) := (hy5.cell 6).trans rfl
  clear hx5 hy5
  go_wp2_with fail
  go_ret
  exact ⟨rfl, by obtain ⟨L', q1, q2⟩ := H4.out; exact ⟨L', q1, q2.step HB5.out.1⟩⟩
theorem do_3 (w W : World) (gB gR : Nat) (L : List It) (x : It) (n : Int) (h : BothH w W gB gR L) (hx : WOk x) (hl : L.length ≤ 1000) : Calls Try.prog 19 #[.pointer (some ⟨gB, 0, none⟩), .pointer (some ⟨gR, 0, none⟩), .agg #[.int .i64 3, .int .i64 x.k.T, .int .i64 x.k.O, .int .i64 x.k.S, .int .i64 x.p, .int .i64 x.q, .int .i64 x.d, .int .i64 x.n, .int .i64 n]] W fun r w' => r = .returned (.bool true) ∧ ∃ L', L'.length ≤ L.length + 1 ∧ BothH w w' gB gR L' := by
  have HL := Lib.hid hl
  have HWX := Lib.hid hx
  obtain ⟨gA, hgA⟩ : ∃ gA, W.heap.size = gA := ⟨_, rfl⟩
  obtain ⟨wA, hwA⟩ : ∃ wA, W.alloc (.cells #[.int .i64 3, .int .i64 x.k.T, .int .i64 x.k.O, .int .i64 x.k.S, .int .i64 x.p, .int .i64 x.q, .int .i64 x.d, .int .i64 x.n, .int .i64 n] 49) = wA := ⟨_, rfl⟩
  have hb := h.boxed 49 #[.int .i64 3, .int .i64 x.k.T, .int .i64 x.k.O, .int .i64 x.k.S, .int .i64 x.p, .int .i64 x.q, .int .i64 x.d, .int .i64 x.n, .int .i64 n]
  rw [hwA, hgA] at hb
  have HW := Lib.hid (And.intro hgA hwA)
  have HB := Lib.hid hb
  have hbk := hb.blk
  have a0 : wA.cell? ⟨gA, 0, none⟩ = some (.int .i64 3) := (hbk.cell 0).trans rfl
  have a1 : wA.cell? ⟨gA, 1, none⟩ = some (.int .i64 x.k.T) := (hbk.cell 1).trans rfl
  have a2 : wA.cell? ⟨gA, 2, none⟩ = some (.int .i64 x.k.O) := (hbk.cell 2).trans rfl
  have a3 : wA.cell? ⟨gA, 3, none⟩ = some (.int .i64 x.k.S) := (hbk.cell 3).trans rfl
  have a4 : wA.cell? ⟨gA, 4, none⟩ = some (.int .i64 x.p) := (hbk.cell 4).trans rfl
  have a5 : wA.cell? ⟨gA, 5, none⟩ = some (.int .i64 x.q) := (hbk.cell 5).trans rfl
  have a6 : wA.cell? ⟨gA, 6, none⟩ = some (.int .i64 x.d) := (hbk.cell 6).trans rfl
  have a7 : wA.cell? ⟨gA, 7, none⟩ = some (.int .i64 x.n) := (hbk.cell 7).trans rfl
  have a8 : wA.cell? ⟨gA, 8, none⟩ = some (.int .i64 n) := (hbk.cell 8).trans rfl
  clear h hl hx hb hbk hgA hwA
  go_enter Try.func19, Try.ntmps19
  go_upto_region 1 with (fail)
  rw [HW.out.2, HW.out.1]
  go_wp2_with fail
  refine (drop_mineB w wA gB gR L gA 49 #[.int .i64 3, .int .i64 x.k.T, .int .i64 x.k.O, .int .i64 x.k.S, .int .i64 x.p, .int .i64 x.q, .int .i64 x.d, .int .i64 x.n, .int .i64 n] x.k.O x.n HB.out HWX.out.1 HWX.out.2 (by have := HL.out; omega)).mono ?_
  rintro r w2 ⟨y, is, rfl, h2, hb2⟩
  have H2 := Lib.hid h2
  have HB2 := Lib.hid hb2
  clear h2 hb2 a0 a1 a2 a3 a4 a5 a6 a7 a8
  rw [(by rfl : itv y is = .tuple #[.agg #[.int .i64 y.k.T, .int .i64 y.k.O, .int .i64 y.k.S, .int .i64 y.p, .int .i64 y.q, .int .i64 y.d, .int .i64 y.n], .bool is])]
  obtain ⟨gX, hgX⟩ : ∃ gX, w2.heap.size = gX := ⟨_, rfl⟩
  obtain ⟨w3, hw3⟩ : ∃ w3, w2.alloc (.cells #[.int .i64 y.k.T, .int .i64 y.k.O, .int .i64 y.k.S, .int .i64 y.p, .int .i64 y.q, .int .i64 y.d, .int .i64 y.n] 36) = w3 := ⟨_, rfl⟩
  have HX3 := Lib.hid (And.intro hgX hw3)
  have HB3 := Lib.hid (show Below w2.heap.size w2 w3 ∧ Blk w3 gX 36 y.c.toArray by
    rw [← hw3]
    exact ⟨(Below.refl _ w2).alloc (Nat.le_refl _) _, Blk.last w2 _ _ hgX⟩)
  clear hgX hw3
  go_upto_region 10 with (fail)
  rw [HX3.out.2, HX3.out.1]
  have hb3 := HB2.out.below HB3.out.1 HB2.out.lt
  have a0 : w3.cell? ⟨gA, 0, none⟩ = some (.int .i64 3) := (hb3.cell 0).trans rfl
  have a1 : w3.cell? ⟨gA, 1, none⟩ = some (.int .i64 x.k.T) := (hb3.cell 1).trans rfl
  have a2 : w3.cell? ⟨gA, 2, none⟩ = some (.int .i64 x.k.O) := (hb3.cell 2).trans rfl
  have a3 : w3.cell? ⟨gA, 3, none⟩ = some (.int .i64 x.k.S) := (hb3.cell 3).trans rfl
  have a4 : w3.cell? ⟨gA, 4, none⟩ = some (.int .i64 x.p) := (hb3.cell 4).trans rfl
  have a5 : w3.cell? ⟨gA, 5, none⟩ = some (.int .i64 x.q) := (hb3.cell 5).trans rfl
  have a6 : w3.cell? ⟨gA, 6, none⟩ = some (.int .i64 x.d) := (hb3.cell 6).trans rfl
  have a7 : w3.cell? ⟨gA, 7, none⟩ = some (.int .i64 x.n) := (hb3.cell 7).trans rfl
  have a8 : w3.cell? ⟨gA, 8, none⟩ = some (.int .i64 n) := (hb3.cell 8).trans rfl
  clear hb3
  go_wp2_with fail
  refine (drop_theirsC w w3 gB gR L x.k.O x.n y is (H2.out.step HB3.out.1) (by have := HL.out; omega)).mono ?_
  rintro r w4 ⟨rfl, h4, hc4⟩
  have H4 := Lib.hid h4
  have hne : gX ≠ gR := by have := H2.out.lt; have := HX3.out.1; omega
  have HX4 := Lib.hid (show Blk w4 gX 36 y.c.toArray from HB3.out.2.chg hc4 hne)
  clear h4 hc4 hne a0 a1 a2 a3 a4 a5 a6 a7 a8
  rw [(by rfl : itv y is = .tuple #[.agg #[.int .i64 y.k.T, .int .i64 y.k.O, .int .i64 y.k.S, .int .i64 y.p, .int .i64 y.q, .int .i64 y.d, .int .i64 y.n], .bool is])]
  obtain ⟨gY, hgY⟩ : ∃ gY, w4.heap.size = gY := ⟨_, rfl⟩
  obtain ⟨w5, hw5⟩ : ∃ w5, w4.alloc (.cells #[.int .i64 y.k.T, .int .i64 y.k.O, .int .i64 y.k.S, .int .i64 y.p, .int .i64 y.q, .int .i64 y.d, .int .i64 y.n] 36) = w5 := ⟨_, rfl⟩
  have HX5 := Lib.hid (And.intro hgY hw5)
  have HB5 := Lib.hid (show Below w4.heap.size w4 w5 ∧ Blk w5 gY 36 y.c.toArray by
    rw [← hw5]
    exact ⟨(Below.refl _ w4).alloc (Nat.le_refl _) _, Blk.last w4 _ _ hgY⟩)
  clear hgY hw5
  go_upto_region 11 with (fail)
  rw [HX5.out.2, HX5.out.1]
  have hx5 := HX4.out.below HB5.out.1 HX4.out.lt
  have hy5 := HB5.out.2
  have u0 : w5.cell? ⟨gX, 0, none⟩ = some (.int .i64 y.k.T) := (hx5.cell 0).trans rfl
  have u1 : w5.cell? ⟨gX, 1, none⟩ = some (.int .i64 y.k.O) := (hx5.cell 1).trans rfl
  have u2 : w5.cell? ⟨gX, 2, none⟩ = some (.int .i64 y.k.S) := (hx5.cell 2).trans rfl
  have u3 : w5.cell? ⟨gX, 3, none⟩ = some (.int .i64 y.p) := (hx5.cell 3).trans rfl
  have u4 : w5.cell? ⟨gX, 4, none⟩ = some (.int .i64 y.q) := (hx5.cell 4).trans rfl
  have u5 : w5.cell? ⟨gX, 5, none⟩ = some (.int .i64 y.d) := (hx5.cell 5).trans rfl
  have u6 : w5.cell? ⟨gX, 6, none⟩ = some (.int .i64 y.n) := (hx5.cell 6).trans rfl
  have v0 : w5.cell? ⟨gY, 0, none⟩ = some (.int .i64 y.k.T) := (hy5.cell 0).trans rfl
  have v1 : w5.cell? ⟨gY, 1, none⟩ = some (.int .i64 y.k.O) := (hy5.cell 1).trans rfl
  have v2 : w5.cell? ⟨gY, 2, none⟩ = some (.int .i64 y.k.S) := (hy5.cell 2).trans rfl
  have v3 : w5.cell? ⟨gY, 3, none⟩ = some (.int .i64 y.p) := (hy5.cell 3).trans rfl
  have v4 : w5.cell? ⟨gY, 4, none⟩ = some (.int .i64 y.q) := (hy5.cell 4).trans rfl
  have v5 : w5.cell? ⟨gY, 5, none⟩ = some (.int .i64 y.d) := (hy5.cell 5).trans rfl
  have v6 : w5.cell? ⟨gY, 6, none⟩ = some (.int .i64 y.n) := (hy5.cell 6).trans rfl
  clear hx5 hy5
  go_wp2_with fail
  go_ret
  exact ⟨rfl, by obtain ⟨L', q1, q2⟩ := H4.out; exact ⟨L', q1, q2.step HB5.out.1⟩⟩
end Go.Proofs.Ytghmldfllieonaa
/- The law's do: Least, Most. Helper. -/
namespace Go.Proofs.Ytghmldfllieonaa
open Go.RowKit
set_option linter.unusedVariables false
set_option linter.unusedSimpArgs false
set_option maxRecDepth 100000
set_option maxHeartbeats 6400000
theorem do_4 (w W : World) (gB gR : Nat) (L : List It) (x : It) (n : Int) (h : BothH w W gB gR L) (hx : WOk x) (hl : L.length ≤ 1000) : Calls Try.prog 19 #[.pointer (some ⟨gB, 0, none⟩), .pointer (some ⟨gR, 0, none⟩), .agg #[.int .i64 4, .int .i64 x.k.T, .int .i64 x.k.O, .int .i64 x.k.S, .int .i64 x.p, .int .i64 x.q, .int .i64 x.d, .int .i64 x.n, .int .i64 n]] W fun r w' => r = .returned (.bool true) ∧ ∃ L', L'.length ≤ L.length + 1 ∧ BothH w w' gB gR L' := by
  have HL := Lib.hid hl
  have HWX := Lib.hid hx
  obtain ⟨gA, hgA⟩ : ∃ gA, W.heap.size = gA := ⟨_, rfl⟩
  obtain ⟨wA, hwA⟩ : ∃ wA, W.alloc (.cells #[.int .i64 4, .int .i64 x.k.T, .int .i64 x.k.O, .int .i64 x.k.S, .int .i64 x.p, .int .i64 x.q, .int .i64 x.d, .int .i64 x.n, .int .i64 n] 49) = wA := ⟨_, rfl⟩
  have hb := h.boxed 49 #[.int .i64 4, .int .i64 x.k.T, .int .i64 x.k.O, .int .i64 x.k.S, .int .i64 x.p, .int .i64 x.q, .int .i64 x.d, .int .i64 x.n, .int .i64 n]
  rw [hwA, hgA] at hb
  have HW := Lib.hid (And.intro hgA hwA)
  have HB := Lib.hid hb
  have hbk := hb.blk
  have a0 : wA.cell? ⟨gA, 0, none⟩ = some (.int .i64 4) := (hbk.cell 0).trans rfl
  have a1 : wA.cell? ⟨gA, 1, none⟩ = some (.int .i64 x.k.T) := (hbk.cell 1).trans rfl
  have a2 : wA.cell? ⟨gA, 2, none⟩ = some (.int .i64 x.k.O) := (hbk.cell 2).trans rfl
  have a3 : wA.cell? ⟨gA, 3, none⟩ = some (.int .i64 x.k.S) := (hbk.cell 3).trans rfl
  have a4 : wA.cell? ⟨gA, 4, none⟩ = some (.int .i64 x.p) := (hbk.cell 4).trans rfl
  have a5 : wA.cell? ⟨gA, 5, none⟩ = some (.int .i64 x.q) := (hbk.cell 5).trans rfl
  have a6 : wA.cell? ⟨gA, 6, none⟩ = some (.int .i64 x.d) := (hbk.cell 6).trans rfl
  have a7 : wA.cell? ⟨gA, 7, none⟩ = some (.int .i64 x.n) := (hbk.cell 7).trans rfl
  have a8 : wA.cell? ⟨gA, 8, none⟩ = some (.int .i64 n) := (hbk.cell 8).trans rfl
  clear h hl hx hb hbk hgA hwA
  go_enter Try.func19, Try.ntmps19
  go_upto_region 1 with (fail)
  rw [HW.out.2, HW.out.1]
  obtain ⟨y, hy⟩ : ∃ y, firstI L = y := ⟨_, rfl⟩
  obtain ⟨z, hz⟩ : ∃ z, lastI L = z := ⟨_, rfl⟩
  obtain ⟨is, his⟩ : ∃ is, isI L = is := ⟨_, rfl⟩
  have k0 := fun W2 (h : BothH w W2 gB gR L) => least_mineB w W2 gB gR L h (by have := HL.out; omega)
  have k1 := fun W2 (h : BothH w W2 gB gR L) => least_theirsB w W2 gB gR L h (by have := HL.out; omega)
  have k2 := fun W2 (h : BothH w W2 gB gR L) => most_mineB w W2 gB gR L h (by have := HL.out; omega)
  have k3 := fun W2 (h : BothH w W2 gB gR L) => most_theirsB w W2 gB gR L h (by have := HL.out; omega)
  simp only [hy, his] at k0 k1
  simp only [hz, his] at k2 k3
  have K0 := Lib.hid k0
  have K1 := Lib.hid k1
  have K2 := Lib.hid k2
  have K3 := Lib.hid k3
  clear k0 k1 k2 k3 hy hz his
  have N0 := Lib.hid HB.out.both
  clear HB a1 a2 a3 a4 a5 a6 a7 a8
  go_wp2_with fail
  refine (K0.out _ N0.out).mono ?_
  rintro r w2 ⟨rfl, h2, hw⟩
  have M0 := Lib.hid h2
  have HN0 := Lib.hid hw
  clear h2 hw
  rw [(by rfl : itv y is = .tuple #[.agg #[.int .i64 y.k.T, .int .i64 y.k.O, .int .i64 y.k.S, .int .i64 y.p, .int .i64 y.q, .int .i64 y.d, .int .i64 y.n], .bool is])]
  obtain ⟨g0, hg0⟩ : ∃ g0, w2.heap.size = g0 := ⟨_, rfl⟩
  obtain ⟨w3, hw3⟩ : ∃ w3, w2.alloc (.cells #[.int .i64 y.k.T, .int .i64 y.k.O, .int .i64 y.k.S, .int .i64 y.p, .int .i64 y.q, .int .i64 y.d, .int .i64 y.n] 36) = w3 := ⟨_, rfl⟩
  have HX0 := Lib.hid (And.intro hg0 hw3)
  have HB0 := Lib.hid (show Below w2.heap.size w2 w3 ∧ Blk w3 g0 36 y.c.toArray by
    rw [← hw3]
    exact ⟨(Below.refl _ w2).alloc (Nat.le_refl _) _, Blk.last w2 _ _ hg0⟩)
  clear hg0 hw3
  go_upto_region 14 with (fail)
  rw [HX0.out.2, HX0.out.1]
  have N1 := Lib.hid (M0.out.step HB0.out.1)
  have Q0x0 := Lib.hid HB0.out.2
  go_wp2_with fail
  refine (K1.out _ N1.out).mono ?_
  rintro r w4 ⟨rfl, h2, hw⟩
  have M1 := Lib.hid h2
  have HN1 := Lib.hid hw
  clear h2 hw
  rw [(by rfl : itv y is = .tuple #[.agg #[.int .i64 y.k.T, .int .i64 y.k.O, .int .i64 y.k.S, .int .i64 y.p, .int .i64 y.q, .int .i64 y.d, .int .i64 y.n], .bool is])]
  obtain ⟨g1, hg1⟩ : ∃ g1, w4.heap.size = g1 := ⟨_, rfl⟩
  obtain ⟨w5, hw5⟩ : ∃ w5, w4.alloc (.cells #[.int .i64 y.k.T, .int .i64 y.k.O, .int .i64 y.k.S, .int .i64 y.p, .int .i64 y.q, .int .i64 y.d, .int .i64 y.n] 36) = w5 := ⟨_, rfl⟩
  have HX1 := Lib.hid (And.intro hg1 hw5)
  have HB1 := Lib.hid (show Below w4.heap.size w4 w5 ∧ Blk w5 g1 36 y.c.toArray by
    rw [← hw5]
    exact ⟨(Below.refl _ w4).alloc (Nat.le_refl _) _, Blk.last w4 _ _ hg1⟩)
  clear hg1 hw5
  go_upto_region 15 with (fail)
  rw [HX1.out.2, HX1.out.1]
  have N2 := Lib.hid (M1.out.step HB1.out.1)
  have Q0x1 := Lib.hid ((Q0x0.out.below HN1.out Q0x0.out.lt).below HB1.out.1 (Q0x0.out.below HN1.out Q0x0.out.lt).lt)
  have Q1x1 := Lib.hid HB1.out.2
  go_wp2_with fail
  refine (K2.out _ N2.out).mono ?_
  rintro r w6 ⟨rfl, h2, hw⟩
  have M2 := Lib.hid h2
  have HN2 := Lib.hid hw
  clear h2 hw
  rw [(by rfl : itv z is = .tuple #[.agg #[.int .i64 z.k.T, .int .i64 z.k.O, .int .i64 z.k.S, .int .i64 z.p, .int .i64 z.q, .int .i64 z.d, .int .i64 z.n], .bool is])]
  obtain ⟨g2, hg2⟩ : ∃ g2, w6.heap.size = g2 := ⟨_, rfl⟩
  obtain ⟨w7, hw7⟩ : ∃ w7, w6.alloc (.cells #[.int .i64 z.k.T, .int .i64 z.k.O, .int .i64 z.k.S, .int .i64 z.p, .int .i64 z.q, .int .i64 z.d, .int .i64 z.n] 36) = w7 := ⟨_, rfl⟩
  have HX2 := Lib.hid (And.intro hg2 hw7)
  have HB2 := Lib.hid (show Below w6.heap.size w6 w7 ∧ Blk w7 g2 36 z.c.toArray by
    rw [← hw7]
    exact ⟨(Below.refl _ w6).alloc (Nat.le_refl _) _, Blk.last w6 _ _ hg2⟩)
  clear hg2 hw7
  go_upto_region 16 with (fail)
  rw [HX2.out.2, HX2.out.1]
  have N3 := Lib.hid (M2.out.step HB2.out.1)
  have Q0x2 := Lib.hid ((Q0x1.out.below HN2.out Q0x1.out.lt).below HB2.out.1 (Q0x1.out.below HN2.out Q0x1.out.lt).lt)
  have Q1x2 := Lib.hid ((Q1x1.out.below HN2.out Q1x1.out.lt).below HB2.out.1 (Q1x1.out.below HN2.out Q1x1.out.lt).lt)
  have Q2x2 := Lib.hid HB2.out.2
  go_wp2_with fail
  refine (K3.out _ N3.out).mono ?_
  rintro r w8 ⟨rfl, h2, hw⟩
  have M3 := Lib.hid h2
  have HN3 := Lib.hid hw
  clear h2 hw
  rw [(by rfl : itv z is = .tuple #[.agg #[.int .i64 z.k.T, .int .i64 z.k.O, .int .i64 z.k.S, .int .i64 z.p, .int .i64 z.q, .int .i64 z.d, .int .i64 z.n], .bool is])]
  obtain ⟨g3, hg3⟩ : ∃ g3, w8.heap.size = g3 := ⟨_, rfl⟩
  obtain ⟨w9, hw9⟩ : ∃ w9, w8.alloc (.cells #[.int .i64 z.k.T, .int .i64 z.k.O, .int .i64 z.k.S, .int .i64 z.p, .int .i64 z.q, .int .i64 z.d, .int .i64 z.n] 36) = w9 := ⟨_, rfl⟩
  have HX3 := Lib.hid (And.intro hg3 hw9)
  have HB3 := Lib.hid (show Below w8.heap.size w8 w9 ∧ Blk w9 g3 36 z.c.toArray by
    rw [← hw9]
    exact ⟨(Below.refl _ w8).alloc (Nat.le_refl _) _, Blk.last w8 _ _ hg3⟩)
  clear hg3 hw9
  go_upto_region 17 with (fail)
  rw [HX3.out.2, HX3.out.1]
  have N4 := Lib.hid (M3.out.step HB3.out.1)
  have Q0x3 := Lib.hid ((Q0x2.out.below HN3.out Q0x2.out.lt).below HB3.out.1 (Q0x2.out.below HN3.out Q0x2.out.lt).lt)
  have Q1x3 := Lib.hid ((Q1x2.out.below HN3.out Q1x2.out.lt).below HB3.out.1 (Q1x2.out.below HN3.out Q1x2.out.lt).lt)
  have Q2x3 := Lib.hid ((Q2x2.out.below HN3.out Q2x2.out.lt).below HB3.out.1 (Q2x2.out.below HN3.out Q2x2.out.lt).lt)
  have Q3x3 := Lib.hid HB3.out.2
  have qq0 := Q0x3.out
  have u0x0 : w9.cell? ⟨g0, 0, none⟩ = some (.int .i64 y.k.T) := (qq0.cell 0).trans rfl
  have u0x1 : w9.cell? ⟨g0, 1, none⟩ = some (.int .i64 y.k.O) := (qq0.cell 1).trans rfl
  have u0x2 : w9.cell? ⟨g0, 2, none⟩ = some (.int .i64 y.k.S) := (qq0.cell 2).trans rfl
  have u0x3 : w9.cell? ⟨g0, 3, none⟩ = some (.int .i64 y.p) := (qq0.cell 3).trans rfl
  have u0x4 : w9.cell? ⟨g0, 4, none⟩ = some (.int .i64 y.q) := (qq0.cell 4).trans rfl
  have u0x5 : w9.cell? ⟨g0, 5, none⟩ = some (.int .i64 y.d) := (qq0.cell 5).trans rfl
  have u0x6 : w9.cell? ⟨g0, 6, none⟩ = some (.int .i64 y.n) := (qq0.cell 6).trans rfl
  clear qq0
  have qq1 := Q1x3.out
  have u1x0 : w9.cell? ⟨g1, 0, none⟩ = some (.int .i64 y.k.T) := (qq1.cell 0).trans rfl
  have u1x1 : w9.cell? ⟨g1, 1, none⟩ = some (.int .i64 y.k.O) := (qq1.cell 1).trans rfl
  have u1x2 : w9.cell? ⟨g1, 2, none⟩ = some (.int .i64 y.k.S) := (qq1.cell 2).trans rfl
  have u1x3 : w9.cell? ⟨g1, 3, none⟩ = some (.int .i64 y.p) := (qq1.cell 3).trans rfl
  have u1x4 : w9.cell? ⟨g1, 4, none⟩ = some (.int .i64 y.q) := (qq1.cell 4).trans rfl
  have u1x5 : w9.cell? ⟨g1, 5, none⟩ = some (.int .i64 y.d) := (qq1.cell 5).trans rfl
  have u1x6 : w9.cell? ⟨g1, 6, none⟩ = some (.int .i64 y.n) := (qq1.cell 6).trans rfl
  clear qq1
  have qq2 := Q2x3.out
  have u2x0 : w9.cell? ⟨g2, 0, none⟩ = some (.int .i64 z.k.T) := (qq2.cell 0).trans rfl
  have u2x1 : w9.cell? ⟨g2, 1, none⟩ = some (.int .i64 z.k.O) := (qq2.cell 1).trans rfl
  have u2x2 : w9.cell? ⟨g2, 2, none⟩ = some (.int .i64 z.k.S) := (qq2.cell 2).trans rfl
  have u2x3 : w9.cell? ⟨g2, 3, none⟩ = some (.int .i64 z.p) := (qq2.cell 3).trans rfl
  have u2x4 : w9.cell? ⟨g2, 4, none⟩ = some (.int .i64 z.q) := (qq2.cell 4).trans rfl
  have u2x5 : w9.cell? ⟨g2, 5, none⟩ = some (.int .i64 z.d) := (qq2.cell 5).trans rfl
  have u2x6 : w9.cell? ⟨g2, 6, none⟩ = some (.int .i64 z.n) := (qq2.cell 6).trans rfl
  clear qq2
  have qq3 := Q3x3.out
  have u3x0 : w9.cell? ⟨g3, 0, none⟩ = some (.int .i64 z.k.T) := (qq3.cell 0).trans rfl
  have u3x1 : w9.cell? ⟨g3, 1, none⟩ = some (.int .i64 z.k.O) := (qq3.cell 1).trans rfl
  have u3x2 : w9.cell? ⟨g3, 2, none⟩ = some (.int .i64 z.k.S) := (qq3.cell 2).trans rfl
  have u3x3 : w9.cell? ⟨g3, 3, none⟩ = some (.int .i64 z.p) := (qq3.cell 3).trans rfl
  have u3x4 : w9.cell? ⟨g3, 4, none⟩ = some (.int .i64 z.q) := (qq3.cell 4).trans rfl
  have u3x5 : w9.cell? ⟨g3, 5, none⟩ = some (.int .i64 z.d) := (qq3.cell 5).trans rfl
  have u3x6 : w9.cell? ⟨g3, 6, none⟩ = some (.int .i64 z.n) := (qq3.cell 6).trans rfl
  clear qq3
  go_wp2_with fail
  go_ret
  exact ⟨rfl, L, by omega, N4.out⟩
end Go.Proofs.Ytghmldfllieonaa
/- The law's do: Has. Helper. -/
namespace Go.Proofs.Ytghmldfllieonaa
open Go.RowKit
set_option linter.unusedVariables false
set_option linter.unusedSimpArgs false
set_option maxRecDepth 100000
set_option maxHeartbeats 6400000
theorem do_5 (w W : World) (gB gR : Nat) (L : List It) (x : It) (n : Int) (h : BothH w W gB gR L) (hx : WOk x) (hl : L.length ≤ 1000) : Calls Try.prog 19 #[.pointer (some ⟨gB, 0, none⟩), .pointer (some ⟨gR, 0, none⟩), .agg #[.int .i64 5, .int .i64 x.k.T, .int .i64 x.k.O, .int .i64 x.k.S, .int .i64 x.p, .int .i64 x.q, .int .i64 x.d, .int .i64 x.n, .int .i64 n]] W fun r w' => r = .returned (.bool true) ∧ ∃ L', L'.length ≤ L.length + 1 ∧ BothH w w' gB gR L' := by
  have HL := Lib.hid hl
  have HWX := Lib.hid hx
  obtain ⟨gA, hgA⟩ : ∃ gA, W.heap.size = gA := ⟨_, rfl⟩
  obtain ⟨wA, hwA⟩ : ∃ wA, W.alloc (.cells #[.int .i64 5, .int .i64 x.k.T, .int .i64 x.k.O, .int .i64 x.k.S, .int .i64 x.p, .int .i64 x.q, .int .i64 x.d, .int .i64 x.n, .int .i64 n] 49) = wA := ⟨_, rfl⟩
  have hb := h.boxed 49 #[.int .i64 5, .int .i64 x.k.T, .int .i64 x.k.O, .int .i64 x.k.S, .int .i64 x.p, .int .i64 x.q, .int .i64 x.d, .int .i64 x.n, .int .i64 n]
  rw [hwA, hgA] at hb
  have HW := Lib.hid (And.intro hgA hwA)
  have HB := Lib.hid hb
  have hbk := hb.blk
  have a0 : wA.cell? ⟨gA, 0, none⟩ = some (.int .i64 5) := (hbk.cell 0).trans rfl
  have a1 : wA.cell? ⟨gA, 1, none⟩ = some (.int .i64 x.k.T) := (hbk.cell 1).trans rfl
  have a2 : wA.cell? ⟨gA, 2, none⟩ = some (.int .i64 x.k.O) := (hbk.cell 2).trans rfl
  have a3 : wA.cell? ⟨gA, 3, none⟩ = some (.int .i64 x.k.S) := (hbk.cell 3).trans rfl
  have a4 : wA.cell? ⟨gA, 4, none⟩ = some (.int .i64 x.p) := (hbk.cell 4).trans rfl
  have a5 : wA.cell? ⟨gA, 5, none⟩ = some (.int .i64 x.q) := (hbk.cell 5).trans rfl
  have a6 : wA.cell? ⟨gA, 6, none⟩ = some (.int .i64 x.d) := (hbk.cell 6).trans rfl
  have a7 : wA.cell? ⟨gA, 7, none⟩ = some (.int .i64 x.n) := (hbk.cell 7).trans rfl
  have a8 : wA.cell? ⟨gA, 8, none⟩ = some (.int .i64 n) := (hbk.cell 8).trans rfl
  clear h hl hx hb hbk hgA hwA
  go_enter Try.func19, Try.ntmps19
  go_upto_region 1 with (fail)
  rw [HW.out.2, HW.out.1]
  have KH := Lib.hid (fun W2 (h : BothB w W2 gB gR L gA 49 #[.int .i64 5, .int .i64 x.k.T, .int .i64 x.k.O, .int .i64 x.k.S, .int .i64 x.p, .int .i64 x.q, .int .i64 x.d, .int .i64 x.n, .int .i64 n]) => has_mine w W2 gB gR L x.k.O x.n h.both HWX.out.1 HWX.out.2)
  have KO := Lib.hid (fun W2 (h : BothB w W2 gB gR L gA 49 #[.int .i64 5, .int .i64 x.k.T, .int .i64 x.k.O, .int .i64 x.k.S, .int .i64 x.p, .int .i64 x.q, .int .i64 x.d, .int .i64 x.n, .int .i64 n]) => of_theirs w W2 gB gR L x.k.O x.n h.both (by have := HL.out; omega))
  go_wp2_with fail
  have hss : ∀ W2, BothB w W2 gB gR L gA 49 #[.int .i64 5, .int .i64 x.k.T, .int .i64 x.k.O, .int .i64 x.k.S, .int .i64 x.p, .int .i64 x.q, .int .i64 x.d, .int .i64 x.n, .int .i64 n] → BothB w W2 gB gR L gA 49 #[.int .i64 5, .int .i64 x.k.T, .int .i64 x.k.O, .int .i64 x.k.S, .int .i64 x.p, .int .i64 x.q, .int .i64 x.d, .int .i64 x.n, .int .i64 n] ∧ W2.cell? ⟨gA, 2, none⟩ = some (.int .i64 x.k.O) ∧ W2.cell? ⟨gA, 7, none⟩ = some (.int .i64 x.n) := fun W2 h => ⟨h, (h.blk.cell 2).trans rfl, (h.blk.cell 7).trans rfl⟩
  have HSS := Lib.hid hss
  clear a0 a1 a2 a3 a4 a5 a6 a7 a8 hss
  go_region_held3 (fun W2 => BothB w W2 gB gR L gA 49 #[.int .i64 5, .int .i64 x.k.T, .int .i64 x.k.O, .int .i64 x.k.S, .int .i64 x.p, .int .i64 x.q, .int .i64 x.d, .int .i64 x.n, .int .i64 n] ∧ W2.cell? ⟨gA, 2, none⟩ = some (.int .i64 x.k.O) ∧ W2.cell? ⟨gA, 7, none⟩ = some (.int .i64 x.n)) ((refine HSS.out _ ?_; repeat (first | assumption | exact HB.out | refine BothB.drew ?_))) (first
    | (go_at_call 25; refine (KH.out _ (by repeat (first | assumption | exact HB.out | refine BothB.drew ?_))).mono ?_; rintro r w2 ⟨b, rfl, hbi, rfl⟩; have HBI := Lib.hid hbi; clear hbi)
    | (go_at_call 28; refine (KO.out _ (by repeat (first | assumption | exact HB.out | refine BothB.drew ?_))).mono ?_; rintro r w3 ⟨y, rfl, hyi, rfl⟩; have HYI := Lib.hid hyi; clear hyi))
  case' _ => skip
  rename_i hH
  have H3 := Lib.hid hH.1
  clear hH
  go_wp2_with fail
  go_ret
  refine ⟨?_, L, by omega, H3.out.both⟩
  have hb := HBI.out
  have hy := HYI.out
  cases b <;> simp_all
end Go.Proofs.Ytghmldfllieonaa
/- The law's do: what is listed. Helper. -/
namespace Go.Proofs.Ytghmldfllieonaa
open Go.RowKit
set_option linter.unusedVariables false
set_option linter.unusedSimpArgs false
set_option maxRecDepth 100000
set_option maxHeartbeats 6400000
theorem rd_take {w : World} {A : Option Addr} {zs : List Value} (h : Rd w A zs) (k : Nat) : Rd w A (zs.take (k * 7)) := by
  rcases h with h | ⟨b, o, e, h⟩
  · exact .inl (by rw [h]; simp)
  · refine .inr ⟨b, o, e, fun j u hu => ?_⟩
    rw [List.getElem?_take] at hu
    split at hu
    · exact h j u hu
    · cases hu
theorem do_6 (w W : World) (gB gR : Nat) (L : List It) (x : It) (n : Int) (h : BothH w W gB gR L) (hx : WOk x) (hl : L.length ≤ 1000) : Calls Try.prog 19 #[.pointer (some ⟨gB, 0, none⟩), .pointer (some ⟨gR, 0, none⟩), .agg #[.int .i64 6, .int .i64 x.k.T, .int .i64 x.k.O, .int .i64 x.k.S, .int .i64 x.p, .int .i64 x.q, .int .i64 x.d, .int .i64 x.n, .int .i64 n]] W fun r w' => r = .returned (.bool true) ∧ ∃ L', L'.length ≤ L.length + 1 ∧ BothH w w' gB gR L' := by
  have HL := Lib.hid hl
  have HWX := Lib.hid hx
  obtain ⟨gA, hgA⟩ : ∃ gA, W.heap.size = gA := ⟨_, rfl⟩
  obtain ⟨wA, hwA⟩ : ∃ wA, W.alloc (.cells #[.int .i64 6, .int .i64 x.k.T, .int .i64 x.k.O, .int .i64 x.k.S, .int .i64 x.p, .int .i64 x.q, .int .i64 x.d, .int .i64 x.n, .int .i64 n] 49) = wA := ⟨_, rfl⟩
  have hb := h.boxed 49 #[.int .i64 6, .int .i64 x.k.T, .int .i64 x.k.O, .int .i64 x.k.S, .int .i64 x.p, .int .i64 x.q, .int .i64 x.d, .int .i64 x.n, .int .i64 n]
  rw [hwA, hgA] at hb
  have HW := Lib.hid (And.intro hgA hwA)
  have HB := Lib.hid hb
  have hbk := hb.blk
  have a0 : wA.cell? ⟨gA, 0, none⟩ = some (.int .i64 6) := (hbk.cell 0).trans rfl
  have a1 : wA.cell? ⟨gA, 1, none⟩ = some (.int .i64 x.k.T) := (hbk.cell 1).trans rfl
  have a2 : wA.cell? ⟨gA, 2, none⟩ = some (.int .i64 x.k.O) := (hbk.cell 2).trans rfl
  have a3 : wA.cell? ⟨gA, 3, none⟩ = some (.int .i64 x.k.S) := (hbk.cell 3).trans rfl
  have a4 : wA.cell? ⟨gA, 4, none⟩ = some (.int .i64 x.p) := (hbk.cell 4).trans rfl
  have a5 : wA.cell? ⟨gA, 5, none⟩ = some (.int .i64 x.q) := (hbk.cell 5).trans rfl
  have a6 : wA.cell? ⟨gA, 6, none⟩ = some (.int .i64 x.d) := (hbk.cell 6).trans rfl
  have a7 : wA.cell? ⟨gA, 7, none⟩ = some (.int .i64 x.n) := (hbk.cell 7).trans rfl
  have a8 : wA.cell? ⟨gA, 8, none⟩ = some (.int .i64 n) := (hbk.cell 8).trans rfl
  clear h hl hx hb hbk hgA hwA
  go_enter Try.func19, Try.ntmps19
  go_upto_region 1 with (fail)
  rw [HW.out.2, HW.out.1]
  obtain ⟨k, hk⟩ : ∃ k, kN n L.length = k := ⟨_, rfl⟩
  have hkl : k ≤ L.length := by rw [← hk]; unfold kN; split <;> omega
  have kl := list_mine w wA gB gR L n HB.out.both (by have := HL.out; omega)
  rw [hk] at kl
  have KL := Lib.hid kl
  obtain ⟨q, hq⟩ : ∃ q, L.length = q := ⟨_, rfl⟩
  have HQ := Lib.hid (And.intro hq hk)
  have HKL := Lib.hid hkl
  have HBK := Lib.hid HB.out.blk
  clear kl hk hkl
  go_wp2_with fail
  refine KL.out.mono ?_
  rintro r w2 ⟨A, c, rfl, hr, h2, hn⟩
  obtain ⟨A2, c2, hc2, hr2, hlc⟩ := refs_list w w2 gB gR L h2
  rw [hq] at hc2 hlc
  have HR := Lib.hid (And.intro hr hr2)
  have H2 := Lib.hid h2
  have hb2 := HBK.out.below hn HBK.out.lt
  clear hr hr2 h2 hn HB a0 a1 a2 a3 a4 a5 a6 a7 a8 hq
  have a8 : w2.cell? ⟨gA, 8, none⟩ = some (.int .i64 n) := (hb2.cell 8).trans rfl
  clear hb2
  by_cases hp : 0 < n ∧ n < (q : Int)
  · obtain ⟨m, rfl⟩ : ∃ m : Nat, n = (m : Int) := ⟨n.toNat, by omega⟩
    have hkm : k = m := by have := HQ.out; rw [← this.2, this.1]; unfold kN; rw [if_pos hp]; simp
    subst hkm
    have p1 := hp.1
    have p2 := hp.2
    have d1 : decide ((0 : Int) < (k : Int)) = true := decide_eq_true p1
    have d2 : decide ((k : Int) < (q : Int)) = true := decide_eq_true p2
    have kc : (k : Int) ≤ (c2 : Int) := by omega
    have ks := fun W2 (hW : Nw w2 W2) => refSame_any A A2 c c2 (L.take k) (L.take k) W2 (HR.out.1.nw hW) (by have := HR.out.2; rw [← rowsI_take]; exact (rd_take this k).nw hW) (by rw [List.length_take]; have := HL.out; omega) (by rw [List.length_take]; have := HL.out; omega)
    rw [show (L.take k).length = k by rw [List.length_take]; have := HQ.out.1; omega] at ks
    have KS := Lib.hid ks
    clear ks hp
    go_wp2_with fail
    refine (KS.out _ (by first | exact Nw.refl _ | exact (Nw.refl _).drew)).mono ?_
    rintro r w3 ⟨rfl, h3⟩
    have H3 := Lib.hid (H2.out.step h3)
    clear h3
    go_wp2_with fail
    go_ret
    exact ⟨by simp, L, by omega, H3.out⟩
  · have hkm : k = q := by have := HQ.out; rw [← this.2, this.1]; unfold kN; rw [if_neg hp]
    subst hkm
    have ks := fun W2 (hW : Nw w2 W2) => refSame_any A A2 c c2 L L W2 (by have := HR.out.1; rw [List.take_of_length_le (by have := HQ.out.1; omega)] at this; exact this.nw hW) (HR.out.2.nw hW) (by have := HL.out; omega) (by have := HL.out; omega)
    rw [HQ.out.1] at ks
    have KS := Lib.hid ks
    clear ks
    by_cases p1 : 0 < n
    · have p2 : ¬ n < (k : Int) := fun q => hp ⟨p1, q⟩
      have d1 : decide ((0 : Int) < n) = true := decide_eq_true p1
      have d2 : decide (n < (k : Int)) = false := decide_eq_false p2
      clear hp
      go_wp2_with fail
      refine (KS.out _ (by first | exact Nw.refl _ | exact (Nw.refl _).drew)).mono ?_
      rintro r w3 ⟨rfl, h3⟩
      have H3 := Lib.hid (H2.out.step h3)
      clear h3
      go_wp2_with fail
      go_ret
      exact ⟨by simp, L, by omega, H3.out⟩
    · have d1 : decide ((0 : Int) < n) = false := decide_eq_false p1
      clear hp
      go_wp2_with fail
      refine (KS.out _ (by first | exact Nw.refl _ | exact (Nw.refl _).drew)).mono ?_
      rintro r w3 ⟨rfl, h3⟩
      have H3 := Lib.hid (H2.out.step h3)
      clear h3
      go_wp2_with fail
      go_ret
      exact ⟨by simp, L, by omega, H3.out⟩
end Go.Proofs.Ytghmldfllieonaa
/- The law's do and same, joined; what is handed in, act by act. Helper. -/
namespace Go.Proofs.Ytghmldfllieonaa
open Go.RowKit
set_option linter.unusedVariables false
set_option linter.unusedSimpArgs false
set_option maxRecDepth 100000
set_option maxHeartbeats 6400000
theorem do_any (w W : World) (gB gR : Nat) (L : List It) (K : Int) (x : It) (n : Int) (h : BothH w W gB gR L) (hx : WOk x) (hl : L.length ≤ 1000) : Calls Try.prog 19 #[.pointer (some ⟨gB, 0, none⟩), .pointer (some ⟨gR, 0, none⟩), .agg #[.int .i64 K, .int .i64 x.k.T, .int .i64 x.k.O, .int .i64 x.k.S, .int .i64 x.p, .int .i64 x.q, .int .i64 x.d, .int .i64 x.n, .int .i64 n]] W fun r w' => r = .returned (.bool true) ∧ ∃ L', L'.length ≤ L.length + 1 ∧ BothH w w' gB gR L' := by
  by_cases h1 : K = 1
  · subst h1; exact do_1 w W gB gR L x n h hx hl
  by_cases h2 : K = 2
  · subst h2; exact do_2 w W gB gR L x n h hx hl
  by_cases h3 : K = 3
  · subst h3; exact do_3 w W gB gR L x n h hx hl
  by_cases h4 : K = 4
  · subst h4; exact do_4 w W gB gR L x n h hx hl
  by_cases h5 : K = 5
  · subst h5; exact do_5 w W gB gR L x n h hx hl
  by_cases h6 : K = 6
  · subst h6; exact do_6 w W gB gR L x n h hx hl
  · exact do_0 w W gB gR L x n K (fun j hj => by omega) h hx hl
theorem same_any (w W : World) (gB gR : Nat) (L : List It) (h : BothH w W gB gR L) (hl : L.length ≤ 1000) : Calls Try.prog 20 #[.pointer (some ⟨gB, 0, none⟩), .pointer (some ⟨gR, 0, none⟩)] W fun r w' => r = .returned (.bool true) ∧ BothH w w' gB gR L := by
  have kl := list_mine w W gB gR L 0 h (by omega)
  have e : kN 0 L.length = L.length := by unfold kN; simp
  rw [e, List.take_length] at kl
  obtain ⟨q, hq⟩ : ∃ q, L.length = q := ⟨_, rfl⟩
  rw [hq] at kl
  have KL := Lib.hid kl
  have HQ := Lib.hid (And.intro hq hl)
  clear kl hl e hq h
  go_enter Try.func20, Try.ntmps20
  go_wp2_with fail
  refine KL.out.mono ?_
  rintro r w2 ⟨A, c, rfl, hr, h2, hn⟩
  obtain ⟨A2, c2, hc2, hr2, hlc⟩ := refs_list w w2 gB gR L h2
  have ks := fun W2 (hW : Nw w2 W2) => refSame_any A A2 c c2 L L W2 (hr.nw hW) (hr2.nw hW) (by have := HQ.out; omega) (by have := HQ.out; omega)
  have kn := fun W2 (hW : Nw w2 W2) => len_mine w W2 gB gR L (h2.step hW)
  rw [HQ.out.1] at hc2 ks kn
  simp only [decide_true] at ks
  have KS := Lib.hid ks
  have KN := Lib.hid kn
  have H2 := Lib.hid h2
  have hss : ∀ W2, Nw w2 W2 → Nw w2 W2 ∧ W2.cell? ⟨gR, 0, none⟩ = some (.slice A2 q c2) := fun W2 h => ⟨h, h.cell hc2⟩
  have HSS := Lib.hid hss
  have hi0 := Nw.refl w2
  clear ks kn h2 hn hr hr2 hlc hss
  go_upto_region 2 with (fail)
  go_region_held3 (fun W2 => Nw w2 W2 ∧ W2.cell? ⟨gR, 0, none⟩ = some (.slice A2 q c2)) ((refine HSS.out _ ?_; repeat (first | assumption | exact Nw.refl w2 | refine Nw.drew ?_))) (first
    | (go_at_call 18; refine (KN.out _ (by repeat (first | assumption | exact Nw.refl w2 | refine Nw.drew ?_))).mono ?_; rintro r w4 ⟨rfl, rfl⟩)
    | (go_at_call 24; refine (KS.out _ (by repeat (first | assumption | exact Nw.refl w2 | refine Nw.drew ?_))).mono ?_; rintro r w5 ⟨rfl, b5⟩; have i5 : Nw w2 w5 := Nw.step (by repeat (first | assumption | exact Nw.refl w2 | refine Nw.drew ?_)) b5))
  case' _ => skip
  rename_i hH
  have H4 := Lib.hid (H2.out.step hH.1)
  clear hH
  go_wp2_with fail
  go_ret
  exact ⟨rfl, H4.out⟩
theorem aiAct : AllInt 49 := by
  have c3 : Try.prog.cellsOf 3 = 1 := by kernel_rfl
  have cI : Try.prog.cellsOf 36 = 7 := by kernel_rfl
  have cA : Try.prog.cellsOf 49 = 9 := by kernel_rfl
  refine @AllInt.struct _ _ Try.underlying49 ?_
  intro j hj
  rw [cA] at hj
  have : j = 0 ∨ (1 ≤ j ∧ j < 8) ∨ j = 8 := by omega
  rcases this with rfl | h | rfl
  · exact ⟨0, _, rfl, by decide, by show 0 < 0 + Try.prog.cellsOf 3; omega, aiInt⟩
  · exact ⟨1, _, rfl, h.1, by show j < 1 + Try.prog.cellsOf 36; omega, aiItem⟩
  · exact ⟨2, _, rfl, by decide, by show 8 < 8 + Try.prog.cellsOf 3; omega, aiInt⟩
/-- The act at k. -/
theorem act_at {w : World} {A : Option Addr} {zs : List (List Int)} (h : Rows w A 9 zs) (hw : ∀ r ∈ zs, ∀ z ∈ r, (Lit.int .i64 z).wf = true) {k : Nat} (hk : k < zs.length) : ∃ b off, A = some ⟨b, off, none⟩ ∧ ∃ (K : Int) (x : It) (n : Int), WOk x ∧ ∀ W, Nw w W → W.cell? ⟨b, off + k * 9, none⟩ = some (.int .i64 K) ∧ W.cell? ⟨b, off + k * 9 + 1, none⟩ = some (.int .i64 x.k.T) ∧ W.cell? ⟨b, off + k * 9 + 2, none⟩ = some (.int .i64 x.k.O) ∧ W.cell? ⟨b, off + k * 9 + 3, none⟩ = some (.int .i64 x.k.S) ∧ W.cell? ⟨b, off + k * 9 + 4, none⟩ = some (.int .i64 x.p) ∧ W.cell? ⟨b, off + k * 9 + 5, none⟩ = some (.int .i64 x.q) ∧ W.cell? ⟨b, off + k * 9 + 6, none⟩ = some (.int .i64 x.d) ∧ W.cell? ⟨b, off + k * 9 + 7, none⟩ = some (.int .i64 x.n) ∧ W.cell? ⟨b, off + k * 9 + 8, none⟩ = some (.int .i64 n) := by
  rcases h with rfl | ⟨b, o, rfl, h⟩
  · simp at hk
  · obtain ⟨h1, h2⟩ := h k hk
    have hr := hw _ (List.getElem_mem hk)
    refine ⟨b, o, rfl, zs[k].getD 0 0, ⟨⟨zs[k].getD 1 0, zs[k].getD 2 0, zs[k].getD 3 0⟩, zs[k].getD 4 0, zs[k].getD 5 0, zs[k].getD 6 0, zs[k].getD 7 0⟩, zs[k].getD 8 0, ⟨getD_wf hr 2, getD_wf hr 7⟩, fun W hW => ?_⟩
    have hc : ∀ j, j < 9 → W.cell? ⟨b, o + k * 9 + j, none⟩ = some (.int .i64 (zs[k].getD j 0)) := fun j hj => by
      have := h2 j (by omega)
      rw [List.getD_eq_getElem?_getD, List.getElem?_eq_getElem (by omega)]
      exact hW.cell this
    exact ⟨hc 0 (by omega), hc 1 (by omega), hc 2 (by omega), hc 3 (by omega), hc 4 (by omega), hc 5 (by omega), hc 6 (by omega), hc 7 (by omega), hc 8 (by omega)⟩
end Go.Proofs.Ytghmldfllieonaa
