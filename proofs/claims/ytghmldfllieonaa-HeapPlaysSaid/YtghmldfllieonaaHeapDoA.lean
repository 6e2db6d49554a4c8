/- The law's do: Put and what is no act. Helper. -/
import Derived.Test.YtghmldfllieonaaHeapBox
import Derived.StillTailTactics
import Derived.BigQuiet
namespace Go.Proofs.Ytghmldfllieonaa
open Go.RowKit
set_option linter.unusedVariables false
set_option linter.unusedSimpArgs false
set_option maxRecDepth 100000
set_option maxHeartbeats 6400000
theorem do_0 (w W : World) (gB gR : Nat) (L : List It) (x : It) (n : Int) (K : Int) (hK : ∀ j : Int, 1 ≤ j ∧ j ≤ 6 → ¬ K = j) (h : BothH w W gB gR L) (hx : WOk x) (hl : L.length ≤ 1000) : Calls Try.prog 19 #[.pointer (some ⟨gB, 0, none⟩), .pointer (some ⟨gR, 0, none⟩), .agg #[.int .i64 K, .int .i64 x.k.T, .int .i64 x.k.O, .int .i64 x.k.S, .int .i64 x.p, .int .i64 x.q, .int .i64 x.d, .int .i64 x.n, .int .i64 n]] W fun r w' => r = .returned (.bool true) ∧ ∃ L', L'.length ≤ L.length + 1 ∧ BothH w w' gB gR L' := by
  have HL := Lib.hid hl
  have HWX := Lib.hid hx
  obtain ⟨gA, hgA⟩ : ∃ gA, W.heap.size = gA := ⟨_, rfl⟩
  obtain ⟨wA, hwA⟩ : ∃ wA, W.alloc (.cells #[.int .i64 K, .int .i64 x.k.T, .int .i64 x.k.O, .int .i64 x.k.S, .int .i64 x.p, .int .i64 x.q, .int .i64 x.d, .int .i64 x.n, .int .i64 n] 49) = wA := ⟨_, rfl⟩
  have hb := h.boxed 49 #[.int .i64 K, .int .i64 x.k.T, .int .i64 x.k.O, .int .i64 x.k.S, .int .i64 x.p, .int .i64 x.q, .int .i64 x.d, .int .i64 x.n, .int .i64 n]
  rw [hwA, hgA] at hb
  have HW := Lib.hid (And.intro hgA hwA)
  have HB := Lib.hid hb
  have hbk := hb.blk
  have a0 : wA.cell? ⟨gA, 0, none⟩ = some (.int .i64 K) := (hbk.cell 0).trans rfl
  have a1 : wA.cell? ⟨gA, 1, none⟩ = some (.int .i64 x.k.T) := (hbk.cell 1).trans rfl
  have a2 : wA.cell? ⟨gA, 2, none⟩ = some (.int .i64 x.k.O) := (hbk.cell 2).trans rfl
  have a3 : wA.cell? ⟨gA, 3, none⟩ = some (.int .i64 x.k.S) := (hbk.cell 3).trans rfl
  have a4 : wA.cell? ⟨gA, 4, none⟩ = some (.int .i64 x.p) := (hbk.cell 4).trans rfl
  have a5 : wA.cell? ⟨gA, 5, none⟩ = some (.int .i64 x.q) := (hbk.cell 5).trans rfl
  have a6 : wA.cell? ⟨gA, 6, none⟩ = some (.int .i64 x.d) := (hbk.cell 6).trans rfl
  have a7 : wA.cell? ⟨gA, 7, none⟩ = some (.int .i64 x.n) := (hbk.cell 7).trans rfl
  have a8 : wA.cell? ⟨gA, 8, none⟩ = some (.int .i64 n) := (hbk.cell 8).trans rfl
  clear h hl hx hb hbk hgA hwA
  go_enter Try.func19, Try.ntmps19
  go_upto_region 1 with (fail)
  rw [HW.out.2, HW.out.1]
  have i1 : ¬ K = 1 := hK 1 (by omega)
  have i2 : ¬ K = 2 := hK 2 (by omega)
  have i3 : ¬ K = 3 := hK 3 (by omega)
  have i4 : ¬ K = 4 := hK 4 (by omega)
  have i5 : ¬ K = 5 := hK 5 (by omega)
  have i6 : ¬ K = 6 := hK 6 (by omega)
  clear hK
  go_wp2_with fail
  go_ret
  exact ⟨rfl, L, by omega, HB.out.both⟩
theorem do_1 (w W : World) (gB gR : Nat) (L : List It) (x : It) (n : Int) (h : BothH w W gB gR L) (hx : WOk x) (hl : L.length ≤ 1000) : Calls Try.prog 19 #[.pointer (some ⟨gB, 0, none⟩), .pointer (some ⟨gR, 0, none⟩), .agg #[.int .i64 1, .int .i64 x.k.T, .int .i64 x.k.O, .int .i64 x.k.S, .int .i64 x.p, .int .i64 x.q, .int .i64 x.d, .int .i64 x.n, .int .i64 n]] W fun r w' => r = .returned (.bool true) ∧ ∃ L', L'.length ≤ L.length + 1 ∧ BothH w w' gB gR L' := by
  have HL := Lib.hid hl
  have HWX := Lib.hid hx
  obtain ⟨gA, hgA⟩ : ∃ gA, W.heap.size = gA := ⟨_, rfl⟩
  obtain ⟨wA, hwA⟩ : ∃ wA, W.alloc (.cells #[.int .i64 1, .int .i64 x.k.T, .int .i64 x.k.O, .int .i64 x.k.S, .int .i64 x.p, .int .i64 x.q, .int .i64 x.d, .int .i64 x.n, .int .i64 n] 49) = wA := ⟨_, rfl⟩
  have hb := h.boxed 49 #[.int .i64 1, .int .i64 x.k.T, .int .i64 x.k.O, .int .i64 x.k.S, .int .i64 x.p, .int .i64 x.q, .int .i64 x.d, .int .i64 x.n, .int .i64 n]
  rw [hwA, hgA] at hb
  have HW := Lib.hid (And.intro hgA hwA)
  have HB := Lib.hid hb
  have hbk := hb.blk
  have a0 : wA.cell? ⟨gA, 0, none⟩ = some (.int .i64 1) := (hbk.cell 0).trans rfl
  have a1 : wA.cell? ⟨gA, 1, none⟩ = some (.int .i64 x.k.T) := (hbk.cell 1).trans rfl
  have a2 : wA.cell? ⟨gA, 2, none⟩ = some (.int .i64 x.k.O) := (hbk.cell 2).trans rfl
  have a3 : wA.cell? ⟨gA, 3, none⟩ = some (.int .i64 x.k.S) := (hbk.cell 3).trans rfl
  have a4 : wA.cell? ⟨gA, 4, none⟩ = some (.int .i64 x.p) := (hbk.cell 4).trans rfl
  have a5 : wA.cell? ⟨gA, 5, none⟩ = some (.int .i64 x.q) := (hbk.cell 5).trans rfl
  have a6 : wA.cell? ⟨gA, 6, none⟩ = some (.int .i64 x.d) := (hbk.cell 6).trans rfl
  have a7 : wA.cell? ⟨gA, 7, none⟩ = some (.int .i64 x.n) := (hbk.cell 7).trans rfl
  have a8 : wA.cell? ⟨gA, 8, none⟩ = some (.int .i64 n) := (hbk.cell 8).trans rfl
  clear h hl hx hb hbk hgA hwA
  go_enter Try.func19, Try.ntmps19
  go_upto_region 1 with (fail)
  rw [HW.out.2, HW.out.1]
  have KP1 := Lib.hid (fun W2 (h : BothB w W2 gB gR L gA 49 #[.int .i64 1, .int .i64 x.k.T, .int .i64 x.k.O, .int .i64 x.k.S, .int .i64 x.p, .int .i64 x.q, .int .i64 x.d, .int .i64 x.n, .int .i64 n]) => put_mineB w W2 gB gR L gA 49 #[.int .i64 1, .int .i64 x.k.T, .int .i64 x.k.O, .int .i64 x.k.S, .int .i64 x.p, .int .i64 x.q, .int .i64 x.d, .int .i64 x.n, .int .i64 n] x h HWX.out)
  have KP2 := Lib.hid (fun W2 y (h : PutMid w W2 gB gR L x y) => put_theirs w W2 gB gR L x y h (by have := HL.out; omega))
  go_wp2_with fail
  go_region_with (first
    | (go_at_call 9; refine (KP1.out _ (by repeat (first | exact HB.out | refine BothB.drew ?_))).mono ?_; rintro r w2 ⟨y, rfl, h2, hb2⟩; have H2 := Lib.hid h2; have a1 : w2.cell? ⟨gA, 1, none⟩ = some (.int .i64 x.k.T) := (hb2.cell 1).trans rfl; have a2 : w2.cell? ⟨gA, 2, none⟩ = some (.int .i64 x.k.O) := (hb2.cell 2).trans rfl; have a3 : w2.cell? ⟨gA, 3, none⟩ = some (.int .i64 x.k.S) := (hb2.cell 3).trans rfl; have a4 : w2.cell? ⟨gA, 4, none⟩ = some (.int .i64 x.p) := (hb2.cell 4).trans rfl; have a5 : w2.cell? ⟨gA, 5, none⟩ = some (.int .i64 x.q) := (hb2.cell 5).trans rfl; have a6 : w2.cell? ⟨gA, 6, none⟩ = some (.int .i64 x.d) := (hb2.cell 6).trans rfl; have a7 : w2.cell? ⟨gA, 7, none⟩ = some (.int .i64 x.n) := (hb2.cell 7).trans rfl; clear h2 hb2)
    | (go_at_call 10; refine (KP2.out _ y (by repeat (first | exact H2.out | refine PutMid.drew ?_))).mono ?_; rintro r w3 ⟨rfl, h3⟩; have H3 := Lib.hid h3; clear h3))
  all_goals
    go_wp2_with fail
    go_ret
    exact ⟨rfl, by obtain ⟨L', q1, q2⟩ := H3.out; exact ⟨L', q1, by repeat (first | exact q2 | refine BothH.drew ?_)⟩⟩
end Go.Proofs.Ytghmldfllieonaa
