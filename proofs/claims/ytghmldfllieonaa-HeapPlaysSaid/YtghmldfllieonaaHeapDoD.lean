/- The law's do: Has. Helper. -/
import Derived.Test.YtghmldfllieonaaHeapBox
import Derived.StillTailTactics
import Derived.BigQuiet
namespace Go.Proofs.Ytghmldfllieonaa
open Go.RowKit
set_option linter.unusedVariables false
set_option linter.unusedSimpArgs false
set_option maxRecDepth 100000
set_option maxHeartbeats 6400000
theorem do_5 (w W : World) (gB gR : Nat) (L : List It) (x : It) (n : Int) (h : BothH w W gB gR L) (hx : WOk x) (hl : L.length ≤ 1000) : Calls Try.prog 19 #[.pointer (some ⟨gB, 0, none⟩), .pointer (some ⟨gR, 0, none⟩), .agg #[.int .i64 5, .int .i64 x.k.T, .int .i64 x.k.O, .int .i64 x.k.S, .int .i64 x.p, .int .i64 x.q, .int .i64 x.d, .int .i64 x.n, .int .i64 n]] W fun r w' => r = .returned (.bool true) ∧ ∃ L', L'.length ≤ L.length + 1 ∧ BothH w w' gB gR L' := by
  have HL := Lib.hid hl
  have HWX := Lib.hid hx
  obtain ⟨gA, hgA⟩ : ∃ gA, W.heap.size = gA := ⟨_, rfl⟩
  obtain ⟨wA, hwA⟩ : ∃ wA, W.alloc (.cells #[.int .i64 5, .int .i64 x.k.T, .int .i64 x.k.O, .int .i64 x.k.S, .int .i64 x.p, .int .i64 x.q, .int .i64 x.d, .int .i64 x.n, .int .i64 n] 49) = wA := ⟨_, rfl⟩
  have hb := h.boxed 49 #[.int .i64 5, .int .i64 x.k.T, .int .i64 x.k.O, .int .i64 x.k.S, .int .i64 x.p, .int .i64 x.q, .int .i64 x.d, .int .i64 x.n, .int .i64 n]
  rw [hwA, hgA] at hb
  have HW := Lib.hid (And.intro hgA hwA)
  have HB := Lib.hid hb
  have hbk := hb.blk
  have a0 : wA.cell? ⟨gA, 0, none⟩ = some (.int .i64 5) := (hbk.cell 0).trans rfl
  have a1 : wA.cell? ⟨gA, 1, none⟩ = some (.int .i64 x.k.T) := (hbk.cell 1).trans rfl
  have a2 : wA.cell? ⟨gA, 2, none⟩ = some (.int .i64 x.k.O) := (hbk.cell 2).trans rfl
  have a3 : wA.cell? ⟨gA, 3, none⟩ = some (.int .i64 x.k.S) := (hbk.cell 3).trans rfl
  have a4 : wA.cell? ⟨gA, 4, none⟩ = some (.int .i64 x.p) := (hbk.cell 4).trans rfl
  have a5 : wA.cell? ⟨gA, 5, none⟩ = some (.int .i64 x.q) := (hbk.cell 5).trans rfl
  have a6 : wA.cell? ⟨gA, 6, none⟩ = some (.int .i64 x.d) := (hbk.cell 6).trans rfl
  have a7 : wA.cell? ⟨gA, 7, none⟩ = some (.int .i64 x.n) := (hbk.cell 7).trans rfl
  have a8 : wA.cell? ⟨gA, 8, none⟩ = some (.int .i64 n) := (hbk.cell 8).trans rfl
  clear h hl hx hb hbk hgA hwA
  go_enter Try.func19, Try.ntmps19
  go_upto_region 1 with (fail)
  rw [HW.out.2, HW.out.1]
  have KH := Lib.hid (fun W2 (h : BothB w W2 gB gR L gA 49 #[.int .i64 5, .int .i64 x.k.T, .int .i64 x.k.O, .int .i64 x.k.S, .int .i64 x.p, .int .i64 x.q, .int .i64 x.d, .int .i64 x.n, .int .i64 n]) => has_mine w W2 gB gR L x.k.O x.n h.both HWX.out.1 HWX.out.2)
  have KO := Lib.hid (fun W2 (h : BothB w W2 gB gR L gA 49 #[.int .i64 5, .int .i64 x.k.T, .int .i64 x.k.O, .int .i64 x.k.S, .int .i64 x.p, .int .i64 x.q, .int .i64 x.d, .int .i64 x.n, .int .i64 n]) => of_theirs w W2 gB gR L x.k.O x.n h.both (by have := HL.out; omega))
  go_wp2_with fail
  have hss : ∀ W2, BothB w W2 gB gR L gA 49 #[.int .i64 5, .int .i64 x.k.T, .int .i64 x.k.O, .int .i64 x.k.S, .int .i64 x.p, .int .i64 x.q, .int .i64 x.d, .int .i64 x.n, .int .i64 n] → BothB w W2 gB gR L gA 49 #[.int .i64 5, .int .i64 x.k.T, .int .i64 x.k.O, .int .i64 x.k.S, .int .i64 x.p, .int .i64 x.q, .int .i64 x.d, .int .i64 x.n, .int .i64 n] ∧ W2.cell? ⟨gA, 2, none⟩ = some (.int .i64 x.k.O) ∧ W2.cell? ⟨gA, 7, none⟩ = some (.int .i64 x.n) := fun W2 h => ⟨h, (h.blk.cell 2).trans rfl, (h.blk.cell 7).trans rfl⟩
  have HSS := Lib.hid hss
  clear a0 a1 a2 a3 a4 a5 a6 a7 a8 hss
  go_region_held3 (fun W2 => BothB w W2 gB gR L gA 49 #[.int .i64 5, .int .i64 x.k.T, .int .i64 x.k.O, .int .i64 x.k.S, .int .i64 x.p, .int .i64 x.q, .int .i64 x.d, .int .i64 x.n, .int .i64 n] ∧ W2.cell? ⟨gA, 2, none⟩ = some (.int .i64 x.k.O) ∧ W2.cell? ⟨gA, 7, none⟩ = some (.int .i64 x.n)) ((refine HSS.out _ ?_; repeat (first | assumption | exact HB.out | refine BothB.drew ?_))) (first
    | (go_at_call 25; refine (KH.out _ (by repeat (first | assumption | exact HB.out | refine BothB.drew ?_))).mono ?_; rintro r w2 ⟨b, rfl, hbi, rfl⟩; have HBI := Lib.hid hbi; clear hbi)
    | (go_at_call 28; refine (KO.out _ (by repeat (first | assumption | exact HB.out | refine BothB.drew ?_))).mono ?_; rintro r w3 ⟨y, rfl, hyi, rfl⟩; have HYI := Lib.hid hyi; clear hyi))
  case' _ => skip
  rename_i hH
  have H3 := Lib.hid hH.1
  clear hH
  go_wp2_with fail
  go_ret
  refine ⟨?_, L, by omega, H3.out.both⟩
  have hb := HBI.out
  have hy := HYI.out
  cases b <;> simp_all
end Go.Proofs.Ytghmldfllieonaa
