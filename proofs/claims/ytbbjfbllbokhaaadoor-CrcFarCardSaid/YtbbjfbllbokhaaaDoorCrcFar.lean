/- CrcFar: for every input the law returns true, and what was handed in reads as it did; the library's table reads as its text lays it (the card ties it). -/
import Derived.Test.YtbbjfbllbokhaaaDoorCards
import Derived.Test.YtbbjfbllbokhaaaDoorTie
import Derived.ProofKit
import Derived.OpenShut
import Derived.ShutString
import Derived.ChangeOld
import Derived.Deep.DeepHandedRow
import Derived.Lib.LaidTab
import Derived.Test.YtbbjfbllbokhaaaDoorCrcMat
namespace Go.Proofs.YtbbjfbllbokhaaaDoor
open Go.RowKit
/-- noughts, as the program answers -/
def nt (C : BitVec 32) (n : Nat) : BitVec 32 := ~~~ CrcP.shift (~~~ C) (8 * n)
theorem nt_nt (C : BitVec 32) (n m : Nat) : nt (nt C n) m = nt C (n + m) := by
  unfold nt; rw [BitVec.not_not, ← CrcP.shift_add, Nat.mul_add]
theorem nt_one (C : BitVec 32) : nt C 1 = CrcP.refByte C 0 := by
  unfold nt CrcP.refByte CrcP.byteIn; rw [BitVec.xor_zero]
attribute [irreducible] nt
theorem Nt_any (C : BitVec 32) (n : Int) (h0 : 0 ≤ n) (h2 : n ≤ 9223372036854775807) (w : World) (hT : TabAt w) :
    Calls Tryd.prog 6 #[.int .u32 C.toNat, .int .i64 n] w fun e w' => e = .returned (.int .u32 (nt C n.toNat).toNat) ∧ Below w.heap.size w w' := by
  have := Noughts_any C n (by omega) h2 w hT
  unfold nt; exact this
theorem far_known (c n m : Int) (w : World) (h : n < 0 ∨ (0 ≤ n ∧ m < 0) ∨ (0 ≤ n ∧ 0 ≤ m ∧ 2305843009213693952 < n) ∨ (0 ≤ n ∧ 0 ≤ m ∧ n ≤ 2305843009213693952 ∧ 2305843009213693952 < m)) :
    Calls Tryd.prog 3 #[.int .u32 c, .int .i64 n, .int .i64 m] w fun e w' => e = .returned (.bool true) ∧ Below w.heap.size w w' := by
  rcases h with h | ⟨h1, h⟩ | ⟨h1, h2, h⟩ | ⟨h1, h2, h3, h⟩
  all_goals
    go_enter Tryd.func3, Tryd.ntmps3
    go_wp2_with (go_at_call 5; refine (known_any _).mono ?_; rintro e w' ⟨rfl, hB⟩)
    go_ret
    exact ⟨rfl, hB⟩
set_option maxHeartbeats 400000 in
theorem far_main (C : BitVec 32) (n m : Int) (h1 : 0 ≤ n) (h2 : 0 ≤ m) (h3 : n ≤ 2305843009213693952) (h4 : m ≤ 2305843009213693952) (w : World) (hT : TabAt w) :
    Calls Tryd.prog 3 #[.int .u32 C.toNat, .int .i64 n, .int .i64 m] w fun e w' => e = .returned (.bool true) ∧ Below w.heap.size w w' := by
  have hsum : nt (nt C n.toNat) m.toNat = nt C (n + m).toNat := by rw [nt_nt]; congr 1; omega
  have HS := Lib.hid hsum
  clear hsum
  go_enter Tryd.func3, Tryd.ntmps3
  go_wp2_with fail
  refine (Nt_any _ _ h1 (by omega) _ hT).mono ?_
  rintro e w1 ⟨rfl, hB1⟩
  have hT1 := hT.below hB1 hT.pos
  go_wp2_with fail
  refine (Nt_any _ _ h2 (by omega) _ hT1).mono ?_
  rintro e w2 ⟨rfl, hB2⟩
  have hT2 := hT1.below hB2 hT1.pos
  rw [HS.out]
  go_wp2_with fail
  refine (Nt_any _ _ (by omega) (by omega) _ hT2).mono ?_
  rintro e w3 ⟨rfl, hB3⟩
  have hT3 := hT2.below hB3 hT2.pos
  go_wp2_with fail
  refine (Nt_any _ _ (by omega) (by omega) _ hT3).mono ?_
  rintro e w4 ⟨rfl, hB4⟩
  rw [show (1 : Int).toNat = 1 from rfl, nt_one]
  go_wp2_with fail
  refine (refByte_any C 0 _).mono ?_
  rintro e w5 ⟨rfl, rfl⟩
  go_wp2_with fail
  refine (known_any _).mono ?_
  rintro e w6 ⟨rfl, hB6⟩
  go_wp2_with fail
  go_ret
  have e1 := hB1.size
  have e2 := hB2.size
  have e3 := hB3.size
  have e4 := hB4.size
  exact ⟨rfl, hB1.trans ((hB2.mono e1).trans ((hB3.mono (by omega)).trans ((hB4.mono (by omega)).trans (hB6.mono (by omega)))))⟩
end Go.Proofs.YtbbjfbllbokhaaaDoor

namespace Go.Proofs.YtbbjfbllbokhaaaDoor.crcFar
open Go.ChangeShapes Go.WideShapes Go.ChangeAt Go.RowKit
theorem own : ownKnob Tryd.prog.godebug = none := by kernel_rfl
theorem laidOut : laidOutB Tryd.prog = true := by kernel_rfl
theorem gTab : Tryd.prog.globalNamed "math/bits.deBruijn32tab" = some 0 := by kernel_rfl
theorem gTabType : (Tryd.prog.globals[0]?).map (·.type) = some 42 := by kernel_rfl
theorem cellsTab : Tryd.prog.cellsOf 42 = 32 := by kernel_rfl
theorem cellsByte : Tryd.prog.cellsOf 5 = 1 := by kernel_rfl
theorem table {W : World} (h : laidMetH Tryd.prog Rows.crcFarRow.laid W) : Lib.TabIs Tryd.prog W "math/bits.deBruijn32tab" .u8 [0, 1, 28, 2, 29, 14, 24, 3, 30, 22, 20, 15, 25, 17, 4, 8, 31, 27, 13, 23, 21, 19, 16, 7, 26, 12, 18, 6, 11, 5, 10, 9] :=
  Lib.tabIs_of_head (rest := []) gTab gTabType Tryd.underlying42 Tryd.underlying5 cellsByte cellsTab h
theorem tab_at {W : World} (h : laidMetH Tryd.prog Rows.crcFarRow.laid W) : TabAt W := fun j hj => by
  rw [(table h).cell gTab j hj]
  have : ∀ j, j < 32 → ([0, 1, 28, 2, 29, 14, 24, 3, 30, 22, 20, 15, 25, 17, 4, 8, 31, 27, 13, 23, 21, 19, 16, 7, 26, 12, 18, 6, 11, 5, 10, 9] : List Int).getD j 0 = ((Lib.deBruijn32tab.getD j 0 : Nat) : Int) := by decide
  rw [this j hj]
theorem contract (H : Type) (enc : TypeId × Value → H) (W : World) (base : Nat) (args : Array Value) (ds gs : List (DataW H)) (before : List MemPlace)
    (hval : ∀ (j : Nat) t v, Tryd.f3.params[j]? = some t → args[j]? = some v → Value.okWide Tryd.prog W .any base t v)
    (hW : DataW.Whole enc Tryd.prog Tryd.f3.params.toList Rows.crcFarSpec.vars false W args.toList ds gs before) (hL : laidMetH Tryd.prog Rows.crcFarRow.laid W) :
    Calls Tryd.prog 3 args W fun e W' => ∃ v, e = .returned v ∧ Rows.crcFarSpec.post enc Tryd.prog Tryd.f3 false true false false W args v W' := by
  have hW' := hW
  obtain ⟨p, q, hA0, hV, rfl, hfz, hnd⟩ := hW
  have hA : DataW.TrodAll enc Tryd.prog W 0 (fun _ => true) true Tryd.f3.params.toList args.toList ds p := hA0
  rw [Tryd.params3] at hA hval
  obtain ⟨v0, vs0, d0, ds0, p0, q0, hargs, rfl, rfl, h0, r0⟩ := trodAll_cons hA
  obtain ⟨v1, vs1, d1, ds1, p1, q1, rfl, rfl, rfl, h1, r1⟩ := trodAll_cons r0
  obtain ⟨v2, vs2, d2, ds2, p2, q2, rfl, rfl, rfl, h2, r2⟩ := trodAll_cons r1
  obtain ⟨rfl, rfl, rfl⟩ := trodAll_nil r2
  obtain rfl : args = #[v0, v1, v2] := by cases args; simp_all
  obtain ⟨rfl, rfl⟩ := trodVars_none hV
  obtain ⟨a0, rfl, rfl, rfl, w0⟩ := open_int Tryd.underlying22 (hval 0 22 v0 rfl rfl) h0
  obtain ⟨n, rfl, rfl, rfl, w1⟩ := open_int Tryd.underlying2 (hval 1 2 v1 rfl rfl) h1
  obtain ⟨m, rfl, rfl, rfl, w2⟩ := open_int Tryd.underlying2 (hval 2 2 v2 rfl rfl) h2
  clear hA0
  have hT := tab_at hL
  have walk : Calls Tryd.prog 3 #[.int .u32 a0, .int .i64 n, .int .i64 m] W fun e w' => e = .returned (.bool true) ∧ Below W.heap.size W w' := by
    obtain ⟨C, rfl⟩ := wf_u32 w0
    by_cases h : 0 ≤ n ∧ 0 ≤ m ∧ n ≤ 2305843009213693952 ∧ m ≤ 2305843009213693952
    · exact far_main C n m h.1 h.2.1 h.2.2.1 h.2.2.2 W hT
    · exact far_known _ n m W (by omega)
  refine walk.mono fun e W' ⟨he, bel⟩ => ?_
  subst he
  exact ⟨_, rfl, _, _, _, [], _, [], hW', trodAll_mk1 (shut_bool Tryd.underlying4 _), (trodAll_cons_mk (shut_int Tryd.underlying22 w0) (trodAll_cons_mk (shut_int Tryd.underlying2 w1) (trodAll_cons_mk (shut_int Tryd.underlying2 w2) trodAll_mk0))), rfl, bel.frame _, fun h => by cases h⟩

/-- A world for the witness: the settled one, the table holding what its initialiser lays. -/
noncomputable def laidWorld (os : Os) : World :=
  { World.holding Tryd.prog os ⟨#[], #[], []⟩ with heap := (World.holding Tryd.prog os ⟨#[], #[], []⟩).heap.modify 0 fun
      | .cells _ t frozen => .cells #[.int .u8 0, .int .u8 1, .int .u8 28, .int .u8 2, .int .u8 29, .int .u8 14, .int .u8 24, .int .u8 3, .int .u8 30, .int .u8 22, .int .u8 20, .int .u8 15, .int .u8 25, .int .u8 17, .int .u8 4, .int .u8 8, .int .u8 31, .int .u8 27, .int .u8 13, .int .u8 23, .int .u8 21, .int .u8 19, .int .u8 16, .int .u8 7, .int .u8 26, .int .u8 12, .int .u8 18, .int .u8 6, .int .u8 11, .int .u8 5, .int .u8 10, .int .u8 9] t frozen
      | o => o }
theorem laid_met (os : Os) : laidMet Tryd.prog Rows.crcFarRow.laid ((laidWorld os).forCall (fun _ _ => 0) ⟨#[], #[.int .u32 0, .int .i64 0, .int .i64 0], []⟩).memory :=
  laidMet_of_run' 8 (by kernel_rfl) (by kernel_rfl)
theorem reads (os : Os) {H : Type} (enc : TypeId × Value → H) : ∃ places, DataW.whole enc Tryd.prog ((laidWorld os).forCall (fun _ _ => 0) ⟨#[], #[.int .u32 0, .int .i64 0, .int .i64 0], []⟩).memory Tryd.f3.params.toList Rows.crcFarSpec.vars false (#[.int .u32 0, .int .i64 0, .int .i64 0] : Array Value).toList 8 = some ([.lit (.int .u32 0), .lit (.int .i64 0), .lit (.int .i64 0)], [], places) :=
  ⟨[], by kernel_rfl⟩
set_option maxRecDepth 100000 in
theorem lifted (os : Os) (started : os.Started) (H : Type) (enc : TypeId × Value → H) (F : Stop.Interp) :
    ReturnsInHanded {} Tryd.checked os 3 .any ((OpenSpec.ofChange Rows.crcFarSpec).preRow enc Tryd.prog Tryd.f3 Rows.crcFarRow.domain false Rows.crcFarRow.laid) (((OpenSpec.ofChange Rows.crcFarSpec).at F).post enc Tryd.prog Tryd.f3 false true false false) := by
  obtain ⟨places, hx⟩ := reads os enc
  refine returnsInHanded_of_row (C := Tryd.checked) (s := OpenSpec.ofChange Rows.crcFarSpec) own started (by kernel_rfl) Tryd.func3
    (witness_row_at (enc := enc) (C := Tryd.checked) false (laidWorld os) #[.int .u32 0, .int .i64 0, .int .i64 0] rfl (by kernel_rfl) (by kernel_rfl) (by kernel_rfl)
      (OpenSpec.preRow_of_cond 8 hx (by kernel_rfl) (fun k hk => by cases hk) (by kernel_rfl) (laid_met os))) ?_
  intro W base args ds gs before hval hW _ _ _ hL _ _
  exact contract H enc W base args ds gs before hval hW hL
theorem said : Rows.CrcFarSaid :=
  OpenClaim.holds_of_cond 3 Tryd.f3 rfl rfl rfl rfl rfl rfl rfl ⟨rfl, rfl, rfl, rfl, rfl⟩ rfl rfl rfl rfl rfl (by kernel_rfl) Tryd.func3 (by kernel_rfl)
    (of_decide_eq_true (by kernel_rfl)) (by unfold Func.isWrapper; first | (rw [if_pos (by decide +kernel)]; kernel_rfl) | (rw [if_neg (by decide +kernel)]; exact ⟨rfl, rfl⟩))
    (fun os started H enc _ F => by rw [OpenClaim.pre_eq_preRow]; exact lifted os started H enc F)
theorem plain (f : FuncId) (fn : Func) (hf : Tryd.pinned.checked.prog.funcNamed "riffle/rifflelaw01.CrcFar" = some f) (hfn : Tryd.pinned.checked.prog.funcs[f]? = some fn) :
    false = Tryd.pinned.checked.prog.looks [] ∧ ∀ (j : Nat) t, fn.params[j]? = some t → Tryd.pinned.checked.prog.wantsStandIn t = false := by
  obtain rfl : f = 3 := Option.some.inj ((show Tryd.prog.funcNamed "riffle/rifflelaw01.CrcFar" = some 3 by kernel_rfl).symm.trans hf) |>.symm
  obtain rfl : fn = Tryd.f3 := (Option.some.inj (Tryd.func3.symm.trans hfn)).symm
  refine ⟨by kernel_rfl, fun j t ht => ?_⟩
  have all : ∀ t ∈ Tryd.f3.params.toList, Tryd.prog.wantsStandIn t = false := by
    rw [Tryd.params3]
    intro t ht
    simp at ht
    rcases ht with rfl | rfl | rfl <;> kernel_rfl
  exact all t (by simpa using Array.mem_of_getElem? ht)
theorem card : Rows.CrcFarCardSaid :=
  Claim7.holds_tied_plain_at .later [] _ _ _ _ said (fun _ h => by cases h) (by kernel_rfl) (fun _ h => by cases h) crcFar_row_tie rfl ⟨rfl, rfl⟩ (by kernel_rfl) rfl plain (by kernel_rfl)
#print axioms card
end Go.Proofs.YtbbjfbllbokhaaaDoor.crcFar
